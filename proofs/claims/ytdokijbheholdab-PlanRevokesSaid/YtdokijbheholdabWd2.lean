/- Headers' fields, kind by kind. Conditions: none. Printed by gen_wd2.py. -/
import Derived.Test.YtdokijbheholdabWd1
set_option linter.unusedVariables false
set_option linter.unusedSimpArgs false
set_option maxRecDepth 100000
namespace Go.AM
open Go.Proofs
-- LENS: Hdr.len
/-- A header. -/
structure Hdr where
  kind : Int
  age : Nat
  ep : Nat
  hash : Nat
  own : Nat
  rcd : Nat
  slot : Nat
  gen : Nat
theorem splice_def (cs : List SV) (o : Nat) (new : List SV) : splice cs o new = cs.take o ++ new ++ cs.drop (o + new.length) := nrfl rfl
theorem iaddr_ok {l o n s : Nat} {i : Int} (h1 : 0 ≤ i) (h2 : i < n) : (if 0 ≤ i ∧ i < (n : Int) then some (AV.v (.sc (.ptr l (o + i.toNat * s)))) else none) = some (AV.v (.sc (.ptr l (o + i.toNat * s)))) := if_pos ⟨h1, h2⟩
theorem part_two {o n : Nat} {cs : List SV} (h1 : o + n ≤ cs.length) : (if o + n ≤ cs.length then some (CV.ag ((cs.drop o).take n)) else none) = some (CV.ag ((cs.drop o).take n)) := if_pos h1
def Hdr.ok (x : Hdr) : Prop := x.age < 256 ∧ x.ep < 256 ∧ x.hash < 4294967296 ∧ x.own < 65536 ∧ x.rcd < 65536 ∧ x.slot < 65536 ∧ x.gen < 4294967296
def Hdr.cells (x : Hdr) : List SV := [.int .i64 x.kind, .int .u8 (x.age : Nat), .int .u8 (x.ep : Nat), .int .u32 (x.hash : Nat), .int .u16 (x.own : Nat), .int .u16 (x.rcd : Nat), .int .u16 (x.slot : Nat), .int .u32 (x.gen : Nat)]
theorem Hdr.len (x : Hdr) : x.cells.length = 8 := nrfl rfl
theorem Hdr.c0 (x : Hdr) : x.cells[0]? = some (.int .i64 x.kind) := nrfl rfl
theorem Hdr.c1 (x : Hdr) : x.cells[1]? = some (.int .u8 (x.age : Nat)) := nrfl rfl
theorem Hdr.c2 (x : Hdr) : x.cells[2]? = some (.int .u8 (x.ep : Nat)) := nrfl rfl
theorem Hdr.c3 (x : Hdr) : x.cells[3]? = some (.int .u32 (x.hash : Nat)) := nrfl rfl
theorem Hdr.c4 (x : Hdr) : x.cells[4]? = some (.int .u16 (x.own : Nat)) := nrfl rfl
theorem Hdr.c5 (x : Hdr) : x.cells[5]? = some (.int .u16 (x.rcd : Nat)) := nrfl rfl
theorem Hdr.c6 (x : Hdr) : x.cells[6]? = some (.int .u16 (x.slot : Nat)) := nrfl rfl
theorem Hdr.c7 (x : Hdr) : x.cells[7]? = some (.int .u32 (x.gen : Nat)) := nrfl rfl
theorem s62_1 {P : Program} {T : Tab} {K d : Nat} (S : Sd P T K) (hd : 2 ≤ d) (x : Hdr) (hx : x.ok) (hk : x.kind = 1) (lk : Nat) (h : List AO) (hlk : lk ≤ h.length) :
    ev P T K d 62 [.ag x.cells] lk h = some (.tup [.sc (.sl (h.length + 1) 0 3 2), .sc (.sl (h.length + 2) 0 3 1)], h ++ [.rw 30 x.cells] ++ [.rw 94 [.int .u8 0, .int .u8 3, .int .u8 8, .int .u8 16, .int .u8 24, .int .u8 16]] ++ [.rw 26 [.int .u64 (0 : Int), .int .u64 ((x.rcd : Nat) : Int), .int .u64 ((x.own : Nat) : Int)]]) := by
  obtain ⟨d, rfl⟩ : ∃ k, d = k + 1 := ⟨d - 1, by omega⟩
  obtain ⟨b1, b2, b3, b4, b5, b6, b7⟩ := hx
  rw [ev_run (at62 S.t)]
  unfold i62 Try.f62
  simp (disch := first | omega | (simp (disch := first | omega | (simp only [Hdr.len, List.length_append, List.length_cons, List.length_nil, List.length_set]; first | done | omega)) only [Hdr.len, amSide, Int.reduceToNat, Nat.reducePow, Nat.reduceMul]; first | done | omega)) only  [↓amPre, amPost, ↓s_lit', Nat.reduceAdd, Nat.reduceSub, List.replicate, retA, resultsA, resultA, toC, toCL, Nat.reduceEqDiff, (bu94 S.p), lit_fill (un106 S.p) (sz94 S.p) (ze94 S.p), lit_fill (un90 S.p) (sz26 S.p) (ze26 S.p), conv_int (un22 S.p) (un26 S.p), conv_int (un23 S.p) (un26 S.p), conv_int (un5 S.p) (un26 S.p), (fa30_0 S.p), (fa30_1 S.p), (fa30_2 S.p), (fa30_3 S.p), (fa30_4 S.p), (fa30_5 S.p), (fa30_6 S.p), (fa30_7 S.p), part_sc (ag22 S.p), part_sc (ag23 S.p), part_sc (ag3 S.p), part_sc (ag5 S.p), cells_self, cells_other, obj_self, obj_other, set_self, set_other, hk, Hdr.len, Hdr.c0, Hdr.c1, Hdr.c2, Hdr.c3, Hdr.c4, Hdr.c5, Hdr.c6, Hdr.c7, s65 S, s53 S, wrap_u64_nat, Int.reduceBEq, Int.cast_ofNat_Int, Nat.reduceMul, splice_def, Nat.add_zero, List.flatten_cons, List.flatten_nil, List.append_nil]

theorem s62_2 {P : Program} {T : Tab} {K d : Nat} (S : Sd P T K) (hd : 2 ≤ d) (x : Hdr) (hx : x.ok) (hk : x.kind = 2) (lk : Nat) (h : List AO) (hlk : lk ≤ h.length) :
    ev P T K d 62 [.ag x.cells] lk h = some (.tup [.sc (.sl (h.length + 1) 0 3 2), .sc (.sl (h.length + 2) 0 3 1)], h ++ [.rw 30 x.cells] ++ [.rw 94 [.int .u8 0, .int .u8 3, .int .u8 3, .int .u8 4, .int .u8 8, .int .u8 31]] ++ [.rw 26 [.int .u64 (1 : Int), .int .u64 ((x.age : Nat) : Int), .int .u64 ((x.hash : Nat) : Int)]]) := by
  obtain ⟨d, rfl⟩ : ∃ k, d = k + 1 := ⟨d - 1, by omega⟩
  obtain ⟨b1, b2, b3, b4, b5, b6, b7⟩ := hx
  rw [ev_run (at62 S.t)]
  unfold i62 Try.f62
  simp (disch := first | omega | (simp (disch := first | omega | (simp only [Hdr.len, List.length_append, List.length_cons, List.length_nil, List.length_set]; first | done | omega)) only [Hdr.len, amSide, Int.reduceToNat, Nat.reducePow, Nat.reduceMul]; first | done | omega)) only  [↓amPre, amPost, ↓s_lit', Nat.reduceAdd, Nat.reduceSub, List.replicate, retA, resultsA, resultA, toC, toCL, Nat.reduceEqDiff, (bu94 S.p), lit_fill (un106 S.p) (sz94 S.p) (ze94 S.p), lit_fill (un90 S.p) (sz26 S.p) (ze26 S.p), conv_int (un22 S.p) (un26 S.p), conv_int (un23 S.p) (un26 S.p), conv_int (un5 S.p) (un26 S.p), (fa30_0 S.p), (fa30_1 S.p), (fa30_2 S.p), (fa30_3 S.p), (fa30_4 S.p), (fa30_5 S.p), (fa30_6 S.p), (fa30_7 S.p), part_sc (ag22 S.p), part_sc (ag23 S.p), part_sc (ag3 S.p), part_sc (ag5 S.p), cells_self, cells_other, obj_self, obj_other, set_self, set_other, hk, Hdr.len, Hdr.c0, Hdr.c1, Hdr.c2, Hdr.c3, Hdr.c4, Hdr.c5, Hdr.c6, Hdr.c7, s65 S, s53 S, wrap_u64_nat, Int.reduceBEq, Int.cast_ofNat_Int, Nat.reduceMul, splice_def, Nat.add_zero, List.flatten_cons, List.flatten_nil, List.append_nil]

theorem s62_3 {P : Program} {T : Tab} {K d : Nat} (S : Sd P T K) (hd : 2 ≤ d) (x : Hdr) (hx : x.ok) (hk : x.kind = 3) (lk : Nat) (h : List AO) (hlk : lk ≤ h.length) :
    ev P T K d 62 [.ag x.cells] lk h = some (.tup [.sc (.sl (h.length + 1) 0 3 2), .sc (.sl (h.length + 2) 0 3 1)], h ++ [.rw 30 x.cells] ++ [.rw 94 [.int .u8 0, .int .u8 3, .int .u8 8, .int .u8 16, .int .u8 24, .int .u8 24]] ++ [.rw 26 [.int .u64 (2 : Int), .int .u64 ((x.slot : Nat) : Int), .int .u64 ((x.gen : Nat) : Int)]]) := by
  obtain ⟨d, rfl⟩ : ∃ k, d = k + 1 := ⟨d - 1, by omega⟩
  obtain ⟨b1, b2, b3, b4, b5, b6, b7⟩ := hx
  rw [ev_run (at62 S.t)]
  unfold i62 Try.f62
  simp (disch := first | omega | (simp (disch := first | omega | (simp only [Hdr.len, List.length_append, List.length_cons, List.length_nil, List.length_set]; first | done | omega)) only [Hdr.len, amSide, Int.reduceToNat, Nat.reducePow, Nat.reduceMul]; first | done | omega)) only  [↓amPre, amPost, ↓s_lit', Nat.reduceAdd, Nat.reduceSub, List.replicate, retA, resultsA, resultA, toC, toCL, Nat.reduceEqDiff, (bu94 S.p), lit_fill (un106 S.p) (sz94 S.p) (ze94 S.p), lit_fill (un90 S.p) (sz26 S.p) (ze26 S.p), conv_int (un22 S.p) (un26 S.p), conv_int (un23 S.p) (un26 S.p), conv_int (un5 S.p) (un26 S.p), (fa30_0 S.p), (fa30_1 S.p), (fa30_2 S.p), (fa30_3 S.p), (fa30_4 S.p), (fa30_5 S.p), (fa30_6 S.p), (fa30_7 S.p), part_sc (ag22 S.p), part_sc (ag23 S.p), part_sc (ag3 S.p), part_sc (ag5 S.p), cells_self, cells_other, obj_self, obj_other, set_self, set_other, hk, Hdr.len, Hdr.c0, Hdr.c1, Hdr.c2, Hdr.c3, Hdr.c4, Hdr.c5, Hdr.c6, Hdr.c7, s65 S, s53 S, wrap_u64_nat, Int.reduceBEq, Int.cast_ofNat_Int, Nat.reduceMul, splice_def, Nat.add_zero, List.flatten_cons, List.flatten_nil, List.append_nil]

theorem s62_4 {P : Program} {T : Tab} {K d : Nat} (S : Sd P T K) (hd : 2 ≤ d) (x : Hdr) (hx : x.ok) (hk : x.kind = 4) (lk : Nat) (h : List AO) (hlk : lk ≤ h.length) :
    ev P T K d 62 [.ag x.cells] lk h = some (.tup [.sc (.sl (h.length + 1) 0 4 2), .sc (.sl (h.length + 2) 0 4 1)], h ++ [.rw 30 x.cells] ++ [.rw 94 [.int .u8 0, .int .u8 3, .int .u8 3, .int .u8 4, .int .u8 8, .int .u8 8, .int .u8 24, .int .u8 16]] ++ [.rw 26 [.int .u64 (5 : Int), .int .u64 ((x.age : Nat) : Int), .int .u64 ((x.ep : Nat) : Int), .int .u64 ((x.own : Nat) : Int)]]) := by
  obtain ⟨d, rfl⟩ : ∃ k, d = k + 1 := ⟨d - 1, by omega⟩
  obtain ⟨b1, b2, b3, b4, b5, b6, b7⟩ := hx
  rw [ev_run (at62 S.t)]
  unfold i62 Try.f62
  simp (disch := first | omega | (simp (disch := first | omega | (simp only [Hdr.len, List.length_append, List.length_cons, List.length_nil, List.length_set]; first | done | omega)) only [Hdr.len, amSide, Int.reduceToNat, Nat.reducePow, Nat.reduceMul]; first | done | omega)) only  [↓amPre, amPost, ↓s_lit', Nat.reduceAdd, Nat.reduceSub, List.replicate, retA, resultsA, resultA, toC, toCL, Nat.reduceEqDiff, (bu94 S.p), lit_fill (un106 S.p) (sz94 S.p) (ze94 S.p), lit_fill (un90 S.p) (sz26 S.p) (ze26 S.p), conv_int (un22 S.p) (un26 S.p), conv_int (un23 S.p) (un26 S.p), conv_int (un5 S.p) (un26 S.p), (fa30_0 S.p), (fa30_1 S.p), (fa30_2 S.p), (fa30_3 S.p), (fa30_4 S.p), (fa30_5 S.p), (fa30_6 S.p), (fa30_7 S.p), part_sc (ag22 S.p), part_sc (ag23 S.p), part_sc (ag3 S.p), part_sc (ag5 S.p), cells_self, cells_other, obj_self, obj_other, set_self, set_other, hk, Hdr.len, Hdr.c0, Hdr.c1, Hdr.c2, Hdr.c3, Hdr.c4, Hdr.c5, Hdr.c6, Hdr.c7, s65 S, s53 S, wrap_u64_nat, Int.reduceBEq, Int.cast_ofNat_Int, Nat.reduceMul, splice_def, Nat.add_zero, List.flatten_cons, List.flatten_nil, List.append_nil]

theorem s62_5 {P : Program} {T : Tab} {K d : Nat} (S : Sd P T K) (hd : 2 ≤ d) (x : Hdr) (hx : x.ok) (hk : x.kind = 5) (lk : Nat) (h : List AO) (hlk : lk ≤ h.length) :
    ev P T K d 62 [.ag x.cells] lk h = some (.tup [.sc (.sl (h.length + 1) 0 1 2), .sc (.sl (h.length + 2) 0 1 1)], h ++ [.rw 30 x.cells] ++ [.rw 94 [.int .u8 0, .int .u8 3]] ++ [.rw 26 [.int .u64 (0 : Int)]]) := by
  obtain ⟨d, rfl⟩ : ∃ k, d = k + 1 := ⟨d - 1, by omega⟩
  obtain ⟨b1, b2, b3, b4, b5, b6, b7⟩ := hx
  rw [ev_run (at62 S.t)]
  unfold i62 Try.f62
  simp (disch := first | omega | (simp (disch := first | omega | (simp only [Hdr.len, List.length_append, List.length_cons, List.length_nil, List.length_set]; first | done | omega)) only [Hdr.len, amSide, Int.reduceToNat, Nat.reducePow, Nat.reduceMul]; first | done | omega)) only  [↓amPre, amPost, ↓s_lit', Nat.reduceAdd, Nat.reduceSub, List.replicate, retA, resultsA, resultA, toC, toCL, Nat.reduceEqDiff, (bu94 S.p), lit_fill (un106 S.p) (sz94 S.p) (ze94 S.p), lit_fill (un90 S.p) (sz26 S.p) (ze26 S.p), conv_int (un22 S.p) (un26 S.p), conv_int (un23 S.p) (un26 S.p), conv_int (un5 S.p) (un26 S.p), (fa30_0 S.p), (fa30_1 S.p), (fa30_2 S.p), (fa30_3 S.p), (fa30_4 S.p), (fa30_5 S.p), (fa30_6 S.p), (fa30_7 S.p), part_sc (ag22 S.p), part_sc (ag23 S.p), part_sc (ag3 S.p), part_sc (ag5 S.p), cells_self, cells_other, obj_self, obj_other, set_self, set_other, hk, Hdr.len, Hdr.c0, Hdr.c1, Hdr.c2, Hdr.c3, Hdr.c4, Hdr.c5, Hdr.c6, Hdr.c7, s65 S, s53 S, wrap_u64_nat, Int.reduceBEq, Int.cast_ofNat_Int, Nat.reduceMul, splice_def, Nat.add_zero, List.flatten_cons, List.flatten_nil, List.append_nil]

theorem s68_1 {P : Program} {T : Tab} {K d : Nat} (S : Sd P T K) (hd : 4 ≤ d) (l : Nat) (x : AO) (lk : Nat) (h : List AO) (hl : l = h.length) :
    ev P T K d 68 [.sc (.sl l 0 3 2)] lk (h ++ [.rw 94 [.int .u8 0, .int .u8 3, .int .u8 8, .int .u8 16, .int .u8 24, .int .u8 16]] ++ [x]) = some (.v (.sc (.bool true)), h ++ [.rw 94 [.int .u8 0, .int .u8 3, .int .u8 8, .int .u8 16, .int .u8 24, .int .u8 16]] ++ [x]) := by
  obtain ⟨d, rfl⟩ : ∃ k, d = k + 1 := ⟨d - 1, by omega⟩
  obtain ⟨K, rfl⟩ : ∃ k, K = k + 6 := ⟨K - 6, by have := S.k; omega⟩
  subst hl
  refine ev_pure (at68 S.t) rfl ?_
  unfold i68 Try.f68
  simp (disch := first | omega | (simp (disch := first | omega | (simp only [Hdr.len, List.length_append, List.length_cons, List.length_nil, List.length_set]; first | done | omega)) only [Hdr.len, amSide, Int.reduceToNat, Nat.reducePow, Nat.reduceMul]; first | done | omega)) only  [↓amPre, amPost, ↓s_lit', Nat.reduceAdd, Nat.reduceSub, List.replicate, retA, resultsA, resultA, toC, toCL, Nat.reduceEqDiff, (ze94 S.p), iaddr_sl (un106 S.p) (sz94 S.p), len_sl (un106 S.p), len_nils (un106 S.p), part_all (ag94 S.p) (sz94 S.p), part_at (ag94 S.p) (sz94 S.p), store_last (sz94 S.p), (sz94 S.p), cells_self, cells_other, obj_self, obj_other, set_self, set_other, s67i S, Int.reduceLT, Int.reduceLE, Nat.reduceLeDiff,  Int.reduceAdd, Int.reduceSub, Int.reduceBEq, Int.reduceBNe, Int.reduceToNat, Int.toNat_natCast, Nat.reducePow, Nat.reduceMul, Nat.reduceSub, Nat.reduceAdd, Nat.reduceDiv, Nat.reduceMod, Nat.reduceAnd, Nat.reduceOr, decide_true, decide_false, Int.cast_ofNat_Int, iter_more, and_i, or_i, wrap_i64, Nat.add_zero, Nat.zero_add, List.append_nil, bne_self_eq_false, beq_self_eq_true, iaddr_ok, part_two, Nat.sub_self, Nat.one_mul, Nat.zero_mul, Nat.mul_one]
  exact Ends.some rfl
theorem s63_1 {P : Program} {T : Tab} {K d : Nat} (S : Sd P T K) (hd : 5 ≤ d) (x : Hdr) (hx : x.ok)  (l m : Nat) (lk : Nat) (h : List AO) (hl : l = h.length) (hm : m = h.length + 1) :
    ev P T K d 63 [.sc (.sl l 0 3 2), .sc (.sl m 0 3 1)] lk (h ++ [.rw 94 [.int .u8 0, .int .u8 3, .int .u8 8, .int .u8 16, .int .u8 24, .int .u8 16]] ++ [.rw 26 [.int .u64 (0 : Int), .int .u64 ((x.rcd : Nat) : Int), .int .u64 ((x.own : Nat) : Int)]]) = some (.tup [.sc (.int .u64 ((0 + x.rcd * 256 + x.own * 16777216 : Nat) : Int)), .sc (.bool true)], h ++ [.rw 94 [.int .u8 0, .int .u8 3, .int .u8 8, .int .u8 16, .int .u8 24, .int .u8 16]] ++ [.rw 26 [.int .u64 (0 : Int), .int .u64 ((x.rcd : Nat) : Int), .int .u64 ((x.own : Nat) : Int)]]) := by
  obtain ⟨d, rfl⟩ : ∃ k, d = k + 1 := ⟨d - 1, by omega⟩
  obtain ⟨K, rfl⟩ : ∃ k, K = k + 6 := ⟨K - 6, by have := S.k; omega⟩
  obtain ⟨b1, b2, b3, b4, b5, b6, b7⟩ := hx
  subst hl hm
  refine ev_pure (at63 S.t) rfl ?_
  unfold i63 Try.f63
  simp (disch := first | omega | (simp (disch := first | omega | (simp only [Hdr.len, List.length_append, List.length_cons, List.length_nil, List.length_set]; first | done | omega)) only [Hdr.len, amSide, Int.reduceToNat, Nat.reducePow, Nat.reduceMul]; first | done | omega)) only  [↓amPre, amPost, ↓s_lit', Nat.reduceAdd, Nat.reduceSub, List.replicate, retA, resultsA, resultA, toC, toCL, Nat.reduceEqDiff, (ze94 S.p), iaddr_sl (un106 S.p) (sz94 S.p), iaddr_sl (un90 S.p) (sz26 S.p), len_sl (un106 S.p), len_nils (un106 S.p), len_sl (un90 S.p), len_nils (un90 S.p), part_sc (ag26 S.p), part_all (ag94 S.p) (sz94 S.p), part_at (ag94 S.p) (sz94 S.p), store_last (sz94 S.p), (sz94 S.p), cells_self, cells_other, obj_self, obj_other, set_self, set_other, s68_1 S, s69i S, s54j S, decide_eq_true, Int.reduceLT, Int.reduceLE, Nat.reduceLeDiff,  Int.reduceAdd, Int.reduceSub, Int.reduceBEq, Int.reduceBNe, Int.reduceToNat, Int.toNat_natCast, Nat.reducePow, Nat.reduceMul, Nat.reduceSub, Nat.reduceAdd, Nat.reduceDiv, Nat.reduceMod, Nat.reduceAnd, Nat.reduceOr, decide_true, decide_false, Int.cast_ofNat_Int, iter_more, and_i, or_i, wrap_i64, Nat.add_zero, Nat.zero_add, List.append_nil, bne_self_eq_false, beq_self_eq_true, iaddr_ok, part_two, Nat.sub_self, Nat.one_mul, Nat.zero_mul, Nat.mul_one]
  exact Ends.some rfl

theorem s68_2 {P : Program} {T : Tab} {K d : Nat} (S : Sd P T K) (hd : 4 ≤ d) (l : Nat) (x : AO) (lk : Nat) (h : List AO) (hl : l = h.length) :
    ev P T K d 68 [.sc (.sl l 0 3 2)] lk (h ++ [.rw 94 [.int .u8 0, .int .u8 3, .int .u8 3, .int .u8 4, .int .u8 8, .int .u8 31]] ++ [x]) = some (.v (.sc (.bool true)), h ++ [.rw 94 [.int .u8 0, .int .u8 3, .int .u8 3, .int .u8 4, .int .u8 8, .int .u8 31]] ++ [x]) := by
  obtain ⟨d, rfl⟩ : ∃ k, d = k + 1 := ⟨d - 1, by omega⟩
  obtain ⟨K, rfl⟩ : ∃ k, K = k + 6 := ⟨K - 6, by have := S.k; omega⟩
  subst hl
  refine ev_pure (at68 S.t) rfl ?_
  unfold i68 Try.f68
  simp (disch := first | omega | (simp (disch := first | omega | (simp only [Hdr.len, List.length_append, List.length_cons, List.length_nil, List.length_set]; first | done | omega)) only [Hdr.len, amSide, Int.reduceToNat, Nat.reducePow, Nat.reduceMul]; first | done | omega)) only  [↓amPre, amPost, ↓s_lit', Nat.reduceAdd, Nat.reduceSub, List.replicate, retA, resultsA, resultA, toC, toCL, Nat.reduceEqDiff, (ze94 S.p), iaddr_sl (un106 S.p) (sz94 S.p), len_sl (un106 S.p), len_nils (un106 S.p), part_all (ag94 S.p) (sz94 S.p), part_at (ag94 S.p) (sz94 S.p), store_last (sz94 S.p), (sz94 S.p), cells_self, cells_other, obj_self, obj_other, set_self, set_other, s67i S, Int.reduceLT, Int.reduceLE, Nat.reduceLeDiff,  Int.reduceAdd, Int.reduceSub, Int.reduceBEq, Int.reduceBNe, Int.reduceToNat, Int.toNat_natCast, Nat.reducePow, Nat.reduceMul, Nat.reduceSub, Nat.reduceAdd, Nat.reduceDiv, Nat.reduceMod, Nat.reduceAnd, Nat.reduceOr, decide_true, decide_false, Int.cast_ofNat_Int, iter_more, and_i, or_i, wrap_i64, Nat.add_zero, Nat.zero_add, List.append_nil, bne_self_eq_false, beq_self_eq_true, iaddr_ok, part_two, Nat.sub_self, Nat.one_mul, Nat.zero_mul, Nat.mul_one]
  exact Ends.some rfl
theorem s63_2 {P : Program} {T : Tab} {K d : Nat} (S : Sd P T K) (hd : 5 ≤ d) (x : Hdr) (hx : x.ok) (hf1 : x.age < 16) (hf2 : x.hash < 2147483648) (l m : Nat) (lk : Nat) (h : List AO) (hl : l = h.length) (hm : m = h.length + 1) :
    ev P T K d 63 [.sc (.sl l 0 3 2), .sc (.sl m 0 3 1)] lk (h ++ [.rw 94 [.int .u8 0, .int .u8 3, .int .u8 3, .int .u8 4, .int .u8 8, .int .u8 31]] ++ [.rw 26 [.int .u64 (1 : Int), .int .u64 ((x.age : Nat) : Int), .int .u64 ((x.hash : Nat) : Int)]]) = some (.tup [.sc (.int .u64 ((1 + x.age * 8 + x.hash * 256 : Nat) : Int)), .sc (.bool true)], h ++ [.rw 94 [.int .u8 0, .int .u8 3, .int .u8 3, .int .u8 4, .int .u8 8, .int .u8 31]] ++ [.rw 26 [.int .u64 (1 : Int), .int .u64 ((x.age : Nat) : Int), .int .u64 ((x.hash : Nat) : Int)]]) := by
  obtain ⟨d, rfl⟩ : ∃ k, d = k + 1 := ⟨d - 1, by omega⟩
  obtain ⟨K, rfl⟩ : ∃ k, K = k + 6 := ⟨K - 6, by have := S.k; omega⟩
  obtain ⟨b1, b2, b3, b4, b5, b6, b7⟩ := hx
  subst hl hm
  refine ev_pure (at63 S.t) rfl ?_
  unfold i63 Try.f63
  simp (disch := first | omega | (simp (disch := first | omega | (simp only [Hdr.len, List.length_append, List.length_cons, List.length_nil, List.length_set]; first | done | omega)) only [Hdr.len, amSide, Int.reduceToNat, Nat.reducePow, Nat.reduceMul]; first | done | omega)) only  [↓amPre, amPost, ↓s_lit', Nat.reduceAdd, Nat.reduceSub, List.replicate, retA, resultsA, resultA, toC, toCL, Nat.reduceEqDiff, (ze94 S.p), iaddr_sl (un106 S.p) (sz94 S.p), iaddr_sl (un90 S.p) (sz26 S.p), len_sl (un106 S.p), len_nils (un106 S.p), len_sl (un90 S.p), len_nils (un90 S.p), part_sc (ag26 S.p), part_all (ag94 S.p) (sz94 S.p), part_at (ag94 S.p) (sz94 S.p), store_last (sz94 S.p), (sz94 S.p), cells_self, cells_other, obj_self, obj_other, set_self, set_other, s68_2 S, s69i S, s54j S, decide_eq_true, Int.reduceLT, Int.reduceLE, Nat.reduceLeDiff,  Int.reduceAdd, Int.reduceSub, Int.reduceBEq, Int.reduceBNe, Int.reduceToNat, Int.toNat_natCast, Nat.reducePow, Nat.reduceMul, Nat.reduceSub, Nat.reduceAdd, Nat.reduceDiv, Nat.reduceMod, Nat.reduceAnd, Nat.reduceOr, decide_true, decide_false, Int.cast_ofNat_Int, iter_more, and_i, or_i, wrap_i64, Nat.add_zero, Nat.zero_add, List.append_nil, bne_self_eq_false, beq_self_eq_true, iaddr_ok, part_two, Nat.sub_self, Nat.one_mul, Nat.zero_mul, Nat.mul_one]
  exact Ends.some rfl

theorem s68_3 {P : Program} {T : Tab} {K d : Nat} (S : Sd P T K) (hd : 4 ≤ d) (l : Nat) (x : AO) (lk : Nat) (h : List AO) (hl : l = h.length) :
    ev P T K d 68 [.sc (.sl l 0 3 2)] lk (h ++ [.rw 94 [.int .u8 0, .int .u8 3, .int .u8 8, .int .u8 16, .int .u8 24, .int .u8 24]] ++ [x]) = some (.v (.sc (.bool true)), h ++ [.rw 94 [.int .u8 0, .int .u8 3, .int .u8 8, .int .u8 16, .int .u8 24, .int .u8 24]] ++ [x]) := by
  obtain ⟨d, rfl⟩ : ∃ k, d = k + 1 := ⟨d - 1, by omega⟩
  obtain ⟨K, rfl⟩ : ∃ k, K = k + 6 := ⟨K - 6, by have := S.k; omega⟩
  subst hl
  refine ev_pure (at68 S.t) rfl ?_
  unfold i68 Try.f68
  simp (disch := first | omega | (simp (disch := first | omega | (simp only [Hdr.len, List.length_append, List.length_cons, List.length_nil, List.length_set]; first | done | omega)) only [Hdr.len, amSide, Int.reduceToNat, Nat.reducePow, Nat.reduceMul]; first | done | omega)) only  [↓amPre, amPost, ↓s_lit', Nat.reduceAdd, Nat.reduceSub, List.replicate, retA, resultsA, resultA, toC, toCL, Nat.reduceEqDiff, (ze94 S.p), iaddr_sl (un106 S.p) (sz94 S.p), len_sl (un106 S.p), len_nils (un106 S.p), part_all (ag94 S.p) (sz94 S.p), part_at (ag94 S.p) (sz94 S.p), store_last (sz94 S.p), (sz94 S.p), cells_self, cells_other, obj_self, obj_other, set_self, set_other, s67i S, Int.reduceLT, Int.reduceLE, Nat.reduceLeDiff,  Int.reduceAdd, Int.reduceSub, Int.reduceBEq, Int.reduceBNe, Int.reduceToNat, Int.toNat_natCast, Nat.reducePow, Nat.reduceMul, Nat.reduceSub, Nat.reduceAdd, Nat.reduceDiv, Nat.reduceMod, Nat.reduceAnd, Nat.reduceOr, decide_true, decide_false, Int.cast_ofNat_Int, iter_more, and_i, or_i, wrap_i64, Nat.add_zero, Nat.zero_add, List.append_nil, bne_self_eq_false, beq_self_eq_true, iaddr_ok, part_two, Nat.sub_self, Nat.one_mul, Nat.zero_mul, Nat.mul_one]
  exact Ends.some rfl
theorem s63_3 {P : Program} {T : Tab} {K d : Nat} (S : Sd P T K) (hd : 5 ≤ d) (x : Hdr) (hx : x.ok) (hf2 : x.gen < 16777216) (l m : Nat) (lk : Nat) (h : List AO) (hl : l = h.length) (hm : m = h.length + 1) :
    ev P T K d 63 [.sc (.sl l 0 3 2), .sc (.sl m 0 3 1)] lk (h ++ [.rw 94 [.int .u8 0, .int .u8 3, .int .u8 8, .int .u8 16, .int .u8 24, .int .u8 24]] ++ [.rw 26 [.int .u64 (2 : Int), .int .u64 ((x.slot : Nat) : Int), .int .u64 ((x.gen : Nat) : Int)]]) = some (.tup [.sc (.int .u64 ((2 + x.slot * 256 + x.gen * 16777216 : Nat) : Int)), .sc (.bool true)], h ++ [.rw 94 [.int .u8 0, .int .u8 3, .int .u8 8, .int .u8 16, .int .u8 24, .int .u8 24]] ++ [.rw 26 [.int .u64 (2 : Int), .int .u64 ((x.slot : Nat) : Int), .int .u64 ((x.gen : Nat) : Int)]]) := by
  obtain ⟨d, rfl⟩ : ∃ k, d = k + 1 := ⟨d - 1, by omega⟩
  obtain ⟨K, rfl⟩ : ∃ k, K = k + 6 := ⟨K - 6, by have := S.k; omega⟩
  obtain ⟨b1, b2, b3, b4, b5, b6, b7⟩ := hx
  subst hl hm
  refine ev_pure (at63 S.t) rfl ?_
  unfold i63 Try.f63
  simp (disch := first | omega | (simp (disch := first | omega | (simp only [Hdr.len, List.length_append, List.length_cons, List.length_nil, List.length_set]; first | done | omega)) only [Hdr.len, amSide, Int.reduceToNat, Nat.reducePow, Nat.reduceMul]; first | done | omega)) only  [↓amPre, amPost, ↓s_lit', Nat.reduceAdd, Nat.reduceSub, List.replicate, retA, resultsA, resultA, toC, toCL, Nat.reduceEqDiff, (ze94 S.p), iaddr_sl (un106 S.p) (sz94 S.p), iaddr_sl (un90 S.p) (sz26 S.p), len_sl (un106 S.p), len_nils (un106 S.p), len_sl (un90 S.p), len_nils (un90 S.p), part_sc (ag26 S.p), part_all (ag94 S.p) (sz94 S.p), part_at (ag94 S.p) (sz94 S.p), store_last (sz94 S.p), (sz94 S.p), cells_self, cells_other, obj_self, obj_other, set_self, set_other, s68_3 S, s69i S, s54j S, decide_eq_true, Int.reduceLT, Int.reduceLE, Nat.reduceLeDiff,  Int.reduceAdd, Int.reduceSub, Int.reduceBEq, Int.reduceBNe, Int.reduceToNat, Int.toNat_natCast, Nat.reducePow, Nat.reduceMul, Nat.reduceSub, Nat.reduceAdd, Nat.reduceDiv, Nat.reduceMod, Nat.reduceAnd, Nat.reduceOr, decide_true, decide_false, Int.cast_ofNat_Int, iter_more, and_i, or_i, wrap_i64, Nat.add_zero, Nat.zero_add, List.append_nil, bne_self_eq_false, beq_self_eq_true, iaddr_ok, part_two, Nat.sub_self, Nat.one_mul, Nat.zero_mul, Nat.mul_one]
  exact Ends.some rfl

theorem s68_4 {P : Program} {T : Tab} {K d : Nat} (S : Sd P T K) (hd : 4 ≤ d) (l : Nat) (x : AO) (lk : Nat) (h : List AO) (hl : l = h.length) :
    ev P T K d 68 [.sc (.sl l 0 4 2)] lk (h ++ [.rw 94 [.int .u8 0, .int .u8 3, .int .u8 3, .int .u8 4, .int .u8 8, .int .u8 8, .int .u8 24, .int .u8 16]] ++ [x]) = some (.v (.sc (.bool true)), h ++ [.rw 94 [.int .u8 0, .int .u8 3, .int .u8 3, .int .u8 4, .int .u8 8, .int .u8 8, .int .u8 24, .int .u8 16]] ++ [x]) := by
  obtain ⟨d, rfl⟩ : ∃ k, d = k + 1 := ⟨d - 1, by omega⟩
  obtain ⟨K, rfl⟩ : ∃ k, K = k + 6 := ⟨K - 6, by have := S.k; omega⟩
  subst hl
  refine ev_pure (at68 S.t) rfl ?_
  unfold i68 Try.f68
  simp (disch := first | omega | (simp (disch := first | omega | (simp only [Hdr.len, List.length_append, List.length_cons, List.length_nil, List.length_set]; first | done | omega)) only [Hdr.len, amSide, Int.reduceToNat, Nat.reducePow, Nat.reduceMul]; first | done | omega)) only  [↓amPre, amPost, ↓s_lit', Nat.reduceAdd, Nat.reduceSub, List.replicate, retA, resultsA, resultA, toC, toCL, Nat.reduceEqDiff, (ze94 S.p), iaddr_sl (un106 S.p) (sz94 S.p), len_sl (un106 S.p), len_nils (un106 S.p), part_all (ag94 S.p) (sz94 S.p), part_at (ag94 S.p) (sz94 S.p), store_last (sz94 S.p), (sz94 S.p), cells_self, cells_other, obj_self, obj_other, set_self, set_other, s67i S, Int.reduceLT, Int.reduceLE, Nat.reduceLeDiff,  Int.reduceAdd, Int.reduceSub, Int.reduceBEq, Int.reduceBNe, Int.reduceToNat, Int.toNat_natCast, Nat.reducePow, Nat.reduceMul, Nat.reduceSub, Nat.reduceAdd, Nat.reduceDiv, Nat.reduceMod, Nat.reduceAnd, Nat.reduceOr, decide_true, decide_false, Int.cast_ofNat_Int, iter_more, and_i, or_i, wrap_i64, Nat.add_zero, Nat.zero_add, List.append_nil, bne_self_eq_false, beq_self_eq_true, iaddr_ok, part_two, Nat.sub_self, Nat.one_mul, Nat.zero_mul, Nat.mul_one]
  exact Ends.some rfl
theorem s63_4 {P : Program} {T : Tab} {K d : Nat} (S : Sd P T K) (hd : 5 ≤ d) (x : Hdr) (hx : x.ok) (hf1 : x.age < 16) (l m : Nat) (lk : Nat) (h : List AO) (hl : l = h.length) (hm : m = h.length + 1) :
    ev P T K d 63 [.sc (.sl l 0 4 2), .sc (.sl m 0 4 1)] lk (h ++ [.rw 94 [.int .u8 0, .int .u8 3, .int .u8 3, .int .u8 4, .int .u8 8, .int .u8 8, .int .u8 24, .int .u8 16]] ++ [.rw 26 [.int .u64 (5 : Int), .int .u64 ((x.age : Nat) : Int), .int .u64 ((x.ep : Nat) : Int), .int .u64 ((x.own : Nat) : Int)]]) = some (.tup [.sc (.int .u64 ((5 + x.age * 8 + x.ep * 256 + x.own * 16777216 : Nat) : Int)), .sc (.bool true)], h ++ [.rw 94 [.int .u8 0, .int .u8 3, .int .u8 3, .int .u8 4, .int .u8 8, .int .u8 8, .int .u8 24, .int .u8 16]] ++ [.rw 26 [.int .u64 (5 : Int), .int .u64 ((x.age : Nat) : Int), .int .u64 ((x.ep : Nat) : Int), .int .u64 ((x.own : Nat) : Int)]]) := by
  obtain ⟨d, rfl⟩ : ∃ k, d = k + 1 := ⟨d - 1, by omega⟩
  obtain ⟨K, rfl⟩ : ∃ k, K = k + 6 := ⟨K - 6, by have := S.k; omega⟩
  obtain ⟨b1, b2, b3, b4, b5, b6, b7⟩ := hx
  subst hl hm
  refine ev_pure (at63 S.t) rfl ?_
  unfold i63 Try.f63
  simp (disch := first | omega | (simp (disch := first | omega | (simp only [Hdr.len, List.length_append, List.length_cons, List.length_nil, List.length_set]; first | done | omega)) only [Hdr.len, amSide, Int.reduceToNat, Nat.reducePow, Nat.reduceMul]; first | done | omega)) only  [↓amPre, amPost, ↓s_lit', Nat.reduceAdd, Nat.reduceSub, List.replicate, retA, resultsA, resultA, toC, toCL, Nat.reduceEqDiff, (ze94 S.p), iaddr_sl (un106 S.p) (sz94 S.p), iaddr_sl (un90 S.p) (sz26 S.p), len_sl (un106 S.p), len_nils (un106 S.p), len_sl (un90 S.p), len_nils (un90 S.p), part_sc (ag26 S.p), part_all (ag94 S.p) (sz94 S.p), part_at (ag94 S.p) (sz94 S.p), store_last (sz94 S.p), (sz94 S.p), cells_self, cells_other, obj_self, obj_other, set_self, set_other, s68_4 S, s69i S, s54j S, decide_eq_true, Int.reduceLT, Int.reduceLE, Nat.reduceLeDiff,  Int.reduceAdd, Int.reduceSub, Int.reduceBEq, Int.reduceBNe, Int.reduceToNat, Int.toNat_natCast, Nat.reducePow, Nat.reduceMul, Nat.reduceSub, Nat.reduceAdd, Nat.reduceDiv, Nat.reduceMod, Nat.reduceAnd, Nat.reduceOr, decide_true, decide_false, Int.cast_ofNat_Int, iter_more, and_i, or_i, wrap_i64, Nat.add_zero, Nat.zero_add, List.append_nil, bne_self_eq_false, beq_self_eq_true, iaddr_ok, part_two, Nat.sub_self, Nat.one_mul, Nat.zero_mul, Nat.mul_one]
  exact Ends.some rfl

theorem s68_5 {P : Program} {T : Tab} {K d : Nat} (S : Sd P T K) (hd : 4 ≤ d) (l : Nat) (x : AO) (lk : Nat) (h : List AO) (hl : l = h.length) :
    ev P T K d 68 [.sc (.sl l 0 1 2)] lk (h ++ [.rw 94 [.int .u8 0, .int .u8 3]] ++ [x]) = some (.v (.sc (.bool true)), h ++ [.rw 94 [.int .u8 0, .int .u8 3]] ++ [x]) := by
  obtain ⟨d, rfl⟩ : ∃ k, d = k + 1 := ⟨d - 1, by omega⟩
  obtain ⟨K, rfl⟩ : ∃ k, K = k + 6 := ⟨K - 6, by have := S.k; omega⟩
  subst hl
  refine ev_pure (at68 S.t) rfl ?_
  unfold i68 Try.f68
  simp (disch := first | omega | (simp (disch := first | omega | (simp only [Hdr.len, List.length_append, List.length_cons, List.length_nil, List.length_set]; first | done | omega)) only [Hdr.len, amSide, Int.reduceToNat, Nat.reducePow, Nat.reduceMul]; first | done | omega)) only  [↓amPre, amPost, ↓s_lit', Nat.reduceAdd, Nat.reduceSub, List.replicate, retA, resultsA, resultA, toC, toCL, Nat.reduceEqDiff, (ze94 S.p), iaddr_sl (un106 S.p) (sz94 S.p), len_sl (un106 S.p), len_nils (un106 S.p), part_all (ag94 S.p) (sz94 S.p), part_at (ag94 S.p) (sz94 S.p), store_last (sz94 S.p), (sz94 S.p), cells_self, cells_other, obj_self, obj_other, set_self, set_other, s67i S, Int.reduceLT, Int.reduceLE, Nat.reduceLeDiff,  Int.reduceAdd, Int.reduceSub, Int.reduceBEq, Int.reduceBNe, Int.reduceToNat, Int.toNat_natCast, Nat.reducePow, Nat.reduceMul, Nat.reduceSub, Nat.reduceAdd, Nat.reduceDiv, Nat.reduceMod, Nat.reduceAnd, Nat.reduceOr, decide_true, decide_false, Int.cast_ofNat_Int, iter_more, and_i, or_i, wrap_i64, Nat.add_zero, Nat.zero_add, List.append_nil, bne_self_eq_false, beq_self_eq_true, iaddr_ok, part_two, Nat.sub_self, Nat.one_mul, Nat.zero_mul, Nat.mul_one]
  exact Ends.some rfl
theorem s63_5 {P : Program} {T : Tab} {K d : Nat} (S : Sd P T K) (hd : 5 ≤ d) (x : Hdr) (hx : x.ok)  (l m : Nat) (lk : Nat) (h : List AO) (hl : l = h.length) (hm : m = h.length + 1) :
    ev P T K d 63 [.sc (.sl l 0 1 2), .sc (.sl m 0 1 1)] lk (h ++ [.rw 94 [.int .u8 0, .int .u8 3]] ++ [.rw 26 [.int .u64 (0 : Int)]]) = some (.tup [.sc (.int .u64 ((0 : Nat) : Int)), .sc (.bool true)], h ++ [.rw 94 [.int .u8 0, .int .u8 3]] ++ [.rw 26 [.int .u64 (0 : Int)]]) := by
  obtain ⟨d, rfl⟩ : ∃ k, d = k + 1 := ⟨d - 1, by omega⟩
  obtain ⟨K, rfl⟩ : ∃ k, K = k + 6 := ⟨K - 6, by have := S.k; omega⟩
  obtain ⟨b1, b2, b3, b4, b5, b6, b7⟩ := hx
  subst hl hm
  refine ev_pure (at63 S.t) rfl ?_
  unfold i63 Try.f63
  simp (disch := first | omega | (simp (disch := first | omega | (simp only [Hdr.len, List.length_append, List.length_cons, List.length_nil, List.length_set]; first | done | omega)) only [Hdr.len, amSide, Int.reduceToNat, Nat.reducePow, Nat.reduceMul]; first | done | omega)) only  [↓amPre, amPost, ↓s_lit', Nat.reduceAdd, Nat.reduceSub, List.replicate, retA, resultsA, resultA, toC, toCL, Nat.reduceEqDiff, (ze94 S.p), iaddr_sl (un106 S.p) (sz94 S.p), iaddr_sl (un90 S.p) (sz26 S.p), len_sl (un106 S.p), len_nils (un106 S.p), len_sl (un90 S.p), len_nils (un90 S.p), part_sc (ag26 S.p), part_all (ag94 S.p) (sz94 S.p), part_at (ag94 S.p) (sz94 S.p), store_last (sz94 S.p), (sz94 S.p), cells_self, cells_other, obj_self, obj_other, set_self, set_other, s68_5 S, s69i S, s54j S, decide_eq_true, Int.reduceLT, Int.reduceLE, Nat.reduceLeDiff,  Int.reduceAdd, Int.reduceSub, Int.reduceBEq, Int.reduceBNe, Int.reduceToNat, Int.toNat_natCast, Nat.reducePow, Nat.reduceMul, Nat.reduceSub, Nat.reduceAdd, Nat.reduceDiv, Nat.reduceMod, Nat.reduceAnd, Nat.reduceOr, decide_true, decide_false, Int.cast_ofNat_Int, iter_more, and_i, or_i, wrap_i64, Nat.add_zero, Nat.zero_add, List.append_nil, bne_self_eq_false, beq_self_eq_true, iaddr_ok, part_two, Nat.sub_self, Nat.one_mul, Nat.zero_mul, Nat.mul_one]
  exact Ends.some rfl

theorem s64_1 {P : Program} {T : Tab} {K d : Nat} (S : Sd P T K) (hd : 4 ≤ d) (w : Nat) (hw : w < 18446744073709551616) (l : Nat) (x : AO) (lk : Nat) (h : List AO) (hl : l = h.length) (hlk : lk ≤ h.length) :
    ev P T K d 64 [.sc (.sl l 0 3 2), .sc (.int .u64 (w : Nat))] lk (h ++ [.rw 94 [.int .u8 0, .int .u8 3, .int .u8 8, .int .u8 16, .int .u8 24, .int .u8 16]] ++ [x]) = some (.v (.sc (.sl (l + 10) 0 3 1)), h ++ [.rw 94 [.int .u8 0, .int .u8 3, .int .u8 8, .int .u8 16, .int .u8 24, .int .u8 16]] ++ [x] ++ [.rw 94 [.int .u8 0, .int .u8 3]] ++ [.rw 26 [.int .u64 ((w % 8 : Nat) : Int)]] ++ [.dead] ++ [.rw 94 [.int .u8 8, .int .u8 16]] ++ [.rw 26 [.int .u64 ((w / 256 % 65536 : Nat) : Int)]] ++ [.dead] ++ [.rw 94 [.int .u8 24, .int .u8 16]] ++ [.rw 26 [.int .u64 ((w / 16777216 % 65536 : Nat) : Int)]] ++ [.rw 26 [.int .u64 ((w % 8 : Nat) : Int), .int .u64 ((w / 256 % 65536 : Nat) : Int), .int .u64 ((w / 16777216 % 65536 : Nat) : Int)]]) := by
  obtain ⟨d, rfl⟩ : ∃ k, d = k + 1 := ⟨d - 1, by omega⟩
  obtain ⟨K, rfl⟩ : ∃ k, K = k + 6 := ⟨K - 6, by have := S.k; omega⟩
  subst hl
  rw [ev_run (at64 S.t)]
  unfold i64 Try.f64
  simp (disch := first | omega | (simp (disch := first | omega | (simp only [Hdr.len, List.length_append, List.length_cons, List.length_nil, List.length_set]; first | done | omega)) only [Hdr.len, amSide, Int.reduceToNat, Nat.reducePow, Nat.reduceMul]; first | done | omega)) only  [↓amPre, amPost, ↓s_lit', Nat.reduceAdd, Nat.reduceSub, List.replicate, retA, resultsA, resultA, toC, toCL, Nat.reduceEqDiff, (ze94 S.p), append_at (un90 S.p) (sz26 S.p) (by26 S.p) (ze26 S.p) (by decide) (by decide) rfl, sl_cells (sz26 S.p), lit_fill (un90 S.p) (sz26 S.p) (ze26 S.p), iaddr_sl (un106 S.p) (sz94 S.p), len_sl (un106 S.p), len_nils (un106 S.p), part_all (ag94 S.p) (sz94 S.p), part_at (ag94 S.p) (sz94 S.p), store_last (sz94 S.p), (sz94 S.p), cells_self, cells_other, obj_self, obj_other, set_self, set_other, s66i S, Int.reduceLT, Int.reduceLE, Nat.reduceLeDiff,  Int.reduceAdd, Int.reduceSub, Int.reduceBEq, Int.reduceBNe, Int.reduceToNat, Int.toNat_natCast, Nat.reducePow, Nat.reduceMul, Nat.reduceSub, Nat.reduceAdd, Nat.reduceDiv, Nat.reduceMod, Nat.reduceAnd, Nat.reduceOr, decide_true, decide_false, Int.cast_ofNat_Int, iter_more, and_i, or_i, wrap_i64, Nat.add_zero, Nat.zero_add, List.append_nil, bne_self_eq_false, beq_self_eq_true, iaddr_ok, part_two, Nat.sub_self, Nat.one_mul, Nat.zero_mul, Nat.mul_one, Nat.div_one, List.flatten_cons, List.flatten_nil]

theorem s64_2 {P : Program} {T : Tab} {K d : Nat} (S : Sd P T K) (hd : 4 ≤ d) (w : Nat) (hw : w < 18446744073709551616) (l : Nat) (x : AO) (lk : Nat) (h : List AO) (hl : l = h.length) (hlk : lk ≤ h.length) :
    ev P T K d 64 [.sc (.sl l 0 3 2), .sc (.int .u64 (w : Nat))] lk (h ++ [.rw 94 [.int .u8 0, .int .u8 3, .int .u8 3, .int .u8 4, .int .u8 8, .int .u8 31]] ++ [x]) = some (.v (.sc (.sl (l + 10) 0 3 1)), h ++ [.rw 94 [.int .u8 0, .int .u8 3, .int .u8 3, .int .u8 4, .int .u8 8, .int .u8 31]] ++ [x] ++ [.rw 94 [.int .u8 0, .int .u8 3]] ++ [.rw 26 [.int .u64 ((w % 8 : Nat) : Int)]] ++ [.dead] ++ [.rw 94 [.int .u8 3, .int .u8 4]] ++ [.rw 26 [.int .u64 ((w / 8 % 16 : Nat) : Int)]] ++ [.dead] ++ [.rw 94 [.int .u8 8, .int .u8 31]] ++ [.rw 26 [.int .u64 ((w / 256 % 2147483648 : Nat) : Int)]] ++ [.rw 26 [.int .u64 ((w % 8 : Nat) : Int), .int .u64 ((w / 8 % 16 : Nat) : Int), .int .u64 ((w / 256 % 2147483648 : Nat) : Int)]]) := by
  obtain ⟨d, rfl⟩ : ∃ k, d = k + 1 := ⟨d - 1, by omega⟩
  obtain ⟨K, rfl⟩ : ∃ k, K = k + 6 := ⟨K - 6, by have := S.k; omega⟩
  subst hl
  rw [ev_run (at64 S.t)]
  unfold i64 Try.f64
  simp (disch := first | omega | (simp (disch := first | omega | (simp only [Hdr.len, List.length_append, List.length_cons, List.length_nil, List.length_set]; first | done | omega)) only [Hdr.len, amSide, Int.reduceToNat, Nat.reducePow, Nat.reduceMul]; first | done | omega)) only  [↓amPre, amPost, ↓s_lit', Nat.reduceAdd, Nat.reduceSub, List.replicate, retA, resultsA, resultA, toC, toCL, Nat.reduceEqDiff, (ze94 S.p), append_at (un90 S.p) (sz26 S.p) (by26 S.p) (ze26 S.p) (by decide) (by decide) rfl, sl_cells (sz26 S.p), lit_fill (un90 S.p) (sz26 S.p) (ze26 S.p), iaddr_sl (un106 S.p) (sz94 S.p), len_sl (un106 S.p), len_nils (un106 S.p), part_all (ag94 S.p) (sz94 S.p), part_at (ag94 S.p) (sz94 S.p), store_last (sz94 S.p), (sz94 S.p), cells_self, cells_other, obj_self, obj_other, set_self, set_other, s66i S, Int.reduceLT, Int.reduceLE, Nat.reduceLeDiff,  Int.reduceAdd, Int.reduceSub, Int.reduceBEq, Int.reduceBNe, Int.reduceToNat, Int.toNat_natCast, Nat.reducePow, Nat.reduceMul, Nat.reduceSub, Nat.reduceAdd, Nat.reduceDiv, Nat.reduceMod, Nat.reduceAnd, Nat.reduceOr, decide_true, decide_false, Int.cast_ofNat_Int, iter_more, and_i, or_i, wrap_i64, Nat.add_zero, Nat.zero_add, List.append_nil, bne_self_eq_false, beq_self_eq_true, iaddr_ok, part_two, Nat.sub_self, Nat.one_mul, Nat.zero_mul, Nat.mul_one, Nat.div_one, List.flatten_cons, List.flatten_nil]

theorem s64_3 {P : Program} {T : Tab} {K d : Nat} (S : Sd P T K) (hd : 4 ≤ d) (w : Nat) (hw : w < 18446744073709551616) (l : Nat) (x : AO) (lk : Nat) (h : List AO) (hl : l = h.length) (hlk : lk ≤ h.length) :
    ev P T K d 64 [.sc (.sl l 0 3 2), .sc (.int .u64 (w : Nat))] lk (h ++ [.rw 94 [.int .u8 0, .int .u8 3, .int .u8 8, .int .u8 16, .int .u8 24, .int .u8 24]] ++ [x]) = some (.v (.sc (.sl (l + 10) 0 3 1)), h ++ [.rw 94 [.int .u8 0, .int .u8 3, .int .u8 8, .int .u8 16, .int .u8 24, .int .u8 24]] ++ [x] ++ [.rw 94 [.int .u8 0, .int .u8 3]] ++ [.rw 26 [.int .u64 ((w % 8 : Nat) : Int)]] ++ [.dead] ++ [.rw 94 [.int .u8 8, .int .u8 16]] ++ [.rw 26 [.int .u64 ((w / 256 % 65536 : Nat) : Int)]] ++ [.dead] ++ [.rw 94 [.int .u8 24, .int .u8 24]] ++ [.rw 26 [.int .u64 ((w / 16777216 % 16777216 : Nat) : Int)]] ++ [.rw 26 [.int .u64 ((w % 8 : Nat) : Int), .int .u64 ((w / 256 % 65536 : Nat) : Int), .int .u64 ((w / 16777216 % 16777216 : Nat) : Int)]]) := by
  obtain ⟨d, rfl⟩ : ∃ k, d = k + 1 := ⟨d - 1, by omega⟩
  obtain ⟨K, rfl⟩ : ∃ k, K = k + 6 := ⟨K - 6, by have := S.k; omega⟩
  subst hl
  rw [ev_run (at64 S.t)]
  unfold i64 Try.f64
  simp (disch := first | omega | (simp (disch := first | omega | (simp only [Hdr.len, List.length_append, List.length_cons, List.length_nil, List.length_set]; first | done | omega)) only [Hdr.len, amSide, Int.reduceToNat, Nat.reducePow, Nat.reduceMul]; first | done | omega)) only  [↓amPre, amPost, ↓s_lit', Nat.reduceAdd, Nat.reduceSub, List.replicate, retA, resultsA, resultA, toC, toCL, Nat.reduceEqDiff, (ze94 S.p), append_at (un90 S.p) (sz26 S.p) (by26 S.p) (ze26 S.p) (by decide) (by decide) rfl, sl_cells (sz26 S.p), lit_fill (un90 S.p) (sz26 S.p) (ze26 S.p), iaddr_sl (un106 S.p) (sz94 S.p), len_sl (un106 S.p), len_nils (un106 S.p), part_all (ag94 S.p) (sz94 S.p), part_at (ag94 S.p) (sz94 S.p), store_last (sz94 S.p), (sz94 S.p), cells_self, cells_other, obj_self, obj_other, set_self, set_other, s66i S, Int.reduceLT, Int.reduceLE, Nat.reduceLeDiff,  Int.reduceAdd, Int.reduceSub, Int.reduceBEq, Int.reduceBNe, Int.reduceToNat, Int.toNat_natCast, Nat.reducePow, Nat.reduceMul, Nat.reduceSub, Nat.reduceAdd, Nat.reduceDiv, Nat.reduceMod, Nat.reduceAnd, Nat.reduceOr, decide_true, decide_false, Int.cast_ofNat_Int, iter_more, and_i, or_i, wrap_i64, Nat.add_zero, Nat.zero_add, List.append_nil, bne_self_eq_false, beq_self_eq_true, iaddr_ok, part_two, Nat.sub_self, Nat.one_mul, Nat.zero_mul, Nat.mul_one, Nat.div_one, List.flatten_cons, List.flatten_nil]

theorem s64_4 {P : Program} {T : Tab} {K d : Nat} (S : Sd P T K) (hd : 4 ≤ d) (w : Nat) (hw : w < 18446744073709551616) (l : Nat) (x : AO) (lk : Nat) (h : List AO) (hl : l = h.length) (hlk : lk ≤ h.length) :
    ev P T K d 64 [.sc (.sl l 0 4 2), .sc (.int .u64 (w : Nat))] lk (h ++ [.rw 94 [.int .u8 0, .int .u8 3, .int .u8 3, .int .u8 4, .int .u8 8, .int .u8 8, .int .u8 24, .int .u8 16]] ++ [x]) = some (.v (.sc (.sl (l + 13) 0 4 1)), h ++ [.rw 94 [.int .u8 0, .int .u8 3, .int .u8 3, .int .u8 4, .int .u8 8, .int .u8 8, .int .u8 24, .int .u8 16]] ++ [x] ++ [.rw 94 [.int .u8 0, .int .u8 3]] ++ [.rw 26 [.int .u64 ((w % 8 : Nat) : Int)]] ++ [.dead] ++ [.rw 94 [.int .u8 3, .int .u8 4]] ++ [.rw 26 [.int .u64 ((w / 8 % 16 : Nat) : Int)]] ++ [.dead] ++ [.rw 94 [.int .u8 8, .int .u8 8]] ++ [.rw 26 [.int .u64 ((w / 256 % 256 : Nat) : Int)]] ++ [.dead] ++ [.rw 94 [.int .u8 24, .int .u8 16]] ++ [.rw 26 [.int .u64 ((w / 16777216 % 65536 : Nat) : Int)]] ++ [.rw 26 [.int .u64 ((w % 8 : Nat) : Int), .int .u64 ((w / 8 % 16 : Nat) : Int), .int .u64 ((w / 256 % 256 : Nat) : Int), .int .u64 ((w / 16777216 % 65536 : Nat) : Int)]]) := by
  obtain ⟨d, rfl⟩ : ∃ k, d = k + 1 := ⟨d - 1, by omega⟩
  obtain ⟨K, rfl⟩ : ∃ k, K = k + 6 := ⟨K - 6, by have := S.k; omega⟩
  subst hl
  rw [ev_run (at64 S.t)]
  unfold i64 Try.f64
  simp (disch := first | omega | (simp (disch := first | omega | (simp only [Hdr.len, List.length_append, List.length_cons, List.length_nil, List.length_set]; first | done | omega)) only [Hdr.len, amSide, Int.reduceToNat, Nat.reducePow, Nat.reduceMul]; first | done | omega)) only  [↓amPre, amPost, ↓s_lit', Nat.reduceAdd, Nat.reduceSub, List.replicate, retA, resultsA, resultA, toC, toCL, Nat.reduceEqDiff, (ze94 S.p), append_at (un90 S.p) (sz26 S.p) (by26 S.p) (ze26 S.p) (by decide) (by decide) rfl, sl_cells (sz26 S.p), lit_fill (un90 S.p) (sz26 S.p) (ze26 S.p), iaddr_sl (un106 S.p) (sz94 S.p), len_sl (un106 S.p), len_nils (un106 S.p), part_all (ag94 S.p) (sz94 S.p), part_at (ag94 S.p) (sz94 S.p), store_last (sz94 S.p), (sz94 S.p), cells_self, cells_other, obj_self, obj_other, set_self, set_other, s66i S, Int.reduceLT, Int.reduceLE, Nat.reduceLeDiff,  Int.reduceAdd, Int.reduceSub, Int.reduceBEq, Int.reduceBNe, Int.reduceToNat, Int.toNat_natCast, Nat.reducePow, Nat.reduceMul, Nat.reduceSub, Nat.reduceAdd, Nat.reduceDiv, Nat.reduceMod, Nat.reduceAnd, Nat.reduceOr, decide_true, decide_false, Int.cast_ofNat_Int, iter_more, and_i, or_i, wrap_i64, Nat.add_zero, Nat.zero_add, List.append_nil, bne_self_eq_false, beq_self_eq_true, iaddr_ok, part_two, Nat.sub_self, Nat.one_mul, Nat.zero_mul, Nat.mul_one, Nat.div_one, List.flatten_cons, List.flatten_nil]

theorem s64_5 {P : Program} {T : Tab} {K d : Nat} (S : Sd P T K) (hd : 4 ≤ d) (w : Nat) (hw : w < 18446744073709551616) (l : Nat) (x : AO) (lk : Nat) (h : List AO) (hl : l = h.length) (hlk : lk ≤ h.length) :
    ev P T K d 64 [.sc (.sl l 0 1 2), .sc (.int .u64 (w : Nat))] lk (h ++ [.rw 94 [.int .u8 0, .int .u8 3]] ++ [x]) = some (.v (.sc (.sl (l + 4) 0 1 1)), h ++ [.rw 94 [.int .u8 0, .int .u8 3]] ++ [x] ++ [.rw 94 [.int .u8 0, .int .u8 3]] ++ [.rw 26 [.int .u64 ((w % 8 : Nat) : Int)]] ++ [.rw 26 [.int .u64 ((w % 8 : Nat) : Int)]]) := by
  obtain ⟨d, rfl⟩ : ∃ k, d = k + 1 := ⟨d - 1, by omega⟩
  obtain ⟨K, rfl⟩ : ∃ k, K = k + 6 := ⟨K - 6, by have := S.k; omega⟩
  subst hl
  rw [ev_run (at64 S.t)]
  unfold i64 Try.f64
  simp (disch := first | omega | (simp (disch := first | omega | (simp only [Hdr.len, List.length_append, List.length_cons, List.length_nil, List.length_set]; first | done | omega)) only [Hdr.len, amSide, Int.reduceToNat, Nat.reducePow, Nat.reduceMul]; first | done | omega)) only  [↓amPre, amPost, ↓s_lit', Nat.reduceAdd, Nat.reduceSub, List.replicate, retA, resultsA, resultA, toC, toCL, Nat.reduceEqDiff, (ze94 S.p), append_at (un90 S.p) (sz26 S.p) (by26 S.p) (ze26 S.p) (by decide) (by decide) rfl, sl_cells (sz26 S.p), lit_fill (un90 S.p) (sz26 S.p) (ze26 S.p), iaddr_sl (un106 S.p) (sz94 S.p), len_sl (un106 S.p), len_nils (un106 S.p), part_all (ag94 S.p) (sz94 S.p), part_at (ag94 S.p) (sz94 S.p), store_last (sz94 S.p), (sz94 S.p), cells_self, cells_other, obj_self, obj_other, set_self, set_other, s66i S, Int.reduceLT, Int.reduceLE, Nat.reduceLeDiff,  Int.reduceAdd, Int.reduceSub, Int.reduceBEq, Int.reduceBNe, Int.reduceToNat, Int.toNat_natCast, Nat.reducePow, Nat.reduceMul, Nat.reduceSub, Nat.reduceAdd, Nat.reduceDiv, Nat.reduceMod, Nat.reduceAnd, Nat.reduceOr, decide_true, decide_false, Int.cast_ofNat_Int, iter_more, and_i, or_i, wrap_i64, Nat.add_zero, Nat.zero_add, List.append_nil, bne_self_eq_false, beq_self_eq_true, iaddr_ok, part_two, Nat.sub_self, Nat.one_mul, Nat.zero_mul, Nat.mul_one, Nat.div_one, List.flatten_cons, List.flatten_nil]

end Go.AM
