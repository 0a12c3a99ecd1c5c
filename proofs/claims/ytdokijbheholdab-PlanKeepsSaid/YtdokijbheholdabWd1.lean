/- Fields of words: what is read, and put. Conditions: none. -/
import Derived.Test.YtdokijbheholdabAmTab
import Derived.Test.YtdokijbheholdabWd0
set_option linter.unusedVariables false
set_option linter.unusedSimpArgs false
set_option maxRecDepth 100000
namespace Go.AM
-- LENS: fld_len
open Go.Proofs
/-- A field. -/
def fld (a n : Nat) : List SV := [.int .u8 (a : Nat), .int .u8 (n : Nat)]
theorem fld_len (a n : Nat) : (fld a n).length = 2 := nrfl rfl
theorem fld_0 (a n : Nat) : (fld a n)[0]? = some (.int .u8 (a : Nat)) := nrfl rfl
theorem fld_1 (a n : Nat) : (fld a n)[1]? = some (.int .u8 (n : Nat)) := nrfl rfl
theorem sub_nat8 {n : Nat} (h : n ≤ 64) : IntKind.u8.wrap (64 - (n : Int)) = ((64 - n : Nat) : Int) := by
  rw [wrap_u8 (by omega) (by omega)]; omega
theorem s71 {P : Program} {T : Tab} {K d : Nat} (S : Sd P T K) (hd : 1 ≤ d) (a n : Nat) (h1 : 1 ≤ n) (h2 : a + n ≤ 64) (lk : Nat) (h : List AO) : ev P T K d 71 [.ag (fld a n)] lk h = some (.v (.sc (.bool true)), h) := by
  obtain ⟨d, rfl⟩ : ∃ k, d = k + 1 := ⟨d - 1, by omega⟩
  refine ev_pure (at71 S.t) rfl ?_
  unfold i71 Try.f71
  have e1 : decide ((n : Int) ≥ 1) = true := decide_eq_true (by omega)
  have e2 : decide ((a : Int) < 64) = true := decide_eq_true (by omega)
  have e3 : decide ((n : Int) ≤ ((64 - a : Nat) : Int)) = true := decide_eq_true (by omega)
  simp (maxSteps := 1000000) (disch := first | omega | (simp (disch := first | omega | (simp only [fld_len, List.length_append, List.length_cons, List.length_nil, List.length_set]; first | done | omega)) only [fld_len, amSide, Int.reduceToNat, Nat.reducePow, Nat.reduceMul]; first | done | omega)) only  [↓amPre, amPost, ↓s_lit', Nat.reduceAdd, Nat.reduceSub, List.replicate, retA, resultsA, resultA, toC, toCL, Nat.reduceEqDiff, (fa94_0 S.p), (fa94_1 S.p), part_sc (ag5 S.p), cells_ag, cells_self, cells_other, fld_0, fld_1, e1, e2, e3, sub_nat8]
  exact Ends.some rfl
theorem s70 {P : Program} {T : Tab} {K d : Nat} (S : Sd P T K) (hd : 2 ≤ d) (a n : Nat) (h1 : 1 ≤ n) (h2 : a + n ≤ 64) (lk : Nat) (h : List AO) : ev P T K d 70 [.ag (fld a n)] lk h = some (.v (.sc (.int .u64 ((2 ^ n - 1 : Nat) : Int))), h) := by
  obtain ⟨d, rfl⟩ : ∃ k, d = k + 1 := ⟨d - 1, by omega⟩
  refine ev_pure (at70 S.t) rfl ?_
  unfold i70 Try.f70
  have e1 : shiftA .shr .u64 18446744073709551615 ((64 - n : Nat) : Int) = some (.int .u64 ((2 ^ n - 1 : Nat) : Int)) := by
    have := shr_nat 18446744073709551615 (64 - n) (by omega)
    rw [most_eq n (by omega)] at this; exact this
  simp (maxSteps := 1000000) (disch := first | omega | (simp (disch := first | omega | (simp only [fld_len, List.length_append, List.length_cons, List.length_nil, List.length_set]; first | done | omega)) only [fld_len, amSide, Int.reduceToNat, Nat.reducePow, Nat.reduceMul]; first | done | omega)) only  [↓amPre, amPost, ↓s_lit', Nat.reduceAdd, Nat.reduceSub, List.replicate, retA, resultsA, resultA, toC, toCL, Nat.reduceEqDiff, (fa94_1 S.p), part_sc (ag5 S.p), part_all (ag94 S.p) (sz94 S.p), part_at (ag94 S.p) (sz94 S.p), cells_ag, cells_self, cells_other, fld_0, fld_1, fld_len, s71 S, sub_nat8, e1]
  exact Ends.some rfl
theorem s67 {P : Program} {T : Tab} {K d : Nat} (S : Sd P T K) (hd : 3 ≤ d) (a n : Nat) (h1 : 1 ≤ n) (h2 : a + n ≤ 64) (lk : Nat) (h : List AO) : ev P T K d 67 [.ag (fld a n)] lk h = some (.v (.sc (.int .u64 (((2 ^ n - 1) * 2 ^ a : Nat) : Int))), h) := by
  obtain ⟨d, rfl⟩ : ∃ k, d = k + 1 := ⟨d - 1, by omega⟩
  refine ev_pure (at67 S.t) rfl ?_
  unfold i67 Try.f67
  have e1 : (2 ^ n - 1) * 2 ^ a % 18446744073709551616 = (2 ^ n - 1) * 2 ^ a := Nat.mod_eq_of_lt (pow_lt64 h2)
  simp (maxSteps := 1000000) (disch := first | omega | (simp (disch := first | omega | (simp only [fld_len, List.length_append, List.length_cons, List.length_nil, List.length_set]; first | done | omega)) only [fld_len, amSide, Int.reduceToNat, Nat.reducePow, Nat.reduceMul]; first | done | omega)) only  [↓amPre, amPost, ↓s_lit', Nat.reduceAdd, Nat.reduceSub, List.replicate, retA, resultsA, resultA, toC, toCL, Nat.reduceEqDiff, (fa94_0 S.p), part_sc (ag5 S.p), part_all (ag94 S.p) (sz94 S.p), part_at (ag94 S.p) (sz94 S.p), cells_ag, cells_self, cells_other, fld_0, fld_1, fld_len, s70 S, shl_nat, e1]
  exact Ends.some rfl
theorem s66 {P : Program} {T : Tab} {K d : Nat} (S : Sd P T K) (hd : 3 ≤ d) (a n w : Nat) (h1 : 1 ≤ n) (h2 : a + n ≤ 64) (hw : w < 18446744073709551616) (lk : Nat) (h : List AO) : ev P T K d 66 [.ag (fld a n), .sc (.int .u64 (w : Nat))] lk h = some (.v (.sc (.int .u64 ((w / 2 ^ a % 2 ^ n : Nat) : Int))), h) := by
  obtain ⟨d, rfl⟩ : ∃ k, d = k + 1 := ⟨d - 1, by omega⟩
  refine ev_pure (at66 S.t) rfl ?_
  unfold i66 Try.f66
  have e1 := and_nat (w / 2 ^ a) (2 ^ n - 1) (Nat.lt_of_le_of_lt (Nat.div_le_self _ _) hw) (most_lt (by omega))
  rw [get_eq] at e1
  simp (maxSteps := 1000000) (disch := first | omega | (simp (disch := first | omega | (simp only [fld_len, List.length_append, List.length_cons, List.length_nil, List.length_set]; first | done | omega)) only [fld_len, amSide, Int.reduceToNat, Nat.reducePow, Nat.reduceMul]; first | done | omega)) only  [↓amPre, amPost, ↓s_lit', Nat.reduceAdd, Nat.reduceSub, List.replicate, retA, resultsA, resultA, toC, toCL, Nat.reduceEqDiff, (fa94_0 S.p), part_sc (ag5 S.p), part_all (ag94 S.p) (sz94 S.p), part_at (ag94 S.p) (sz94 S.p), cells_ag, cells_self, cells_other, fld_0, fld_1, fld_len, s70 S, shr_nat, e1]
  exact Ends.some rfl
theorem s54 {P : Program} {T : Tab} {K d : Nat} (S : Sd P T K) (hd : 4 ≤ d) (a n w v : Nat) (h1 : 1 ≤ n) (h2 : a + n ≤ 64) (hw : w < 18446744073709551616) (lk : Nat) (h : List AO) : ev P T K d 54 [.ag (fld a n), .sc (.int .u64 (w : Nat)), .sc (.int .u64 (v : Nat))] lk h = some (.v (.sc (.int .u64 ((putN a n w v : Nat) : Int))), h) := by
  obtain ⟨d, rfl⟩ : ∃ k, d = k + 1 := ⟨d - 1, by omega⟩
  refine ev_pure (at54 S.t) rfl ?_
  unfold i54 Try.f54
  have hm := pow_lt64 h2
  have e1 := andNot_nat w _ hw hm
  have e2 := and_nat (v * 2 ^ a % 18446744073709551616) _ (Nat.mod_lt _ (by decide)) hm
  have e3 := or_nat _ _ (Nat.lt_of_le_of_lt (Nat.and_le_left (n := w) (m := 18446744073709551615 - (2 ^ n - 1) * 2 ^ a)) hw) (Nat.lt_of_le_of_lt (Nat.and_le_right (n := v * 2 ^ a % 18446744073709551616)) hm)
  rw [put_eq w v h2 hw] at e3
  simp (maxSteps := 1000000) (disch := first | omega | (simp (disch := first | omega | (simp only [fld_len, List.length_append, List.length_cons, List.length_nil, List.length_set]; first | done | omega)) only [fld_len, amSide, Int.reduceToNat, Nat.reducePow, Nat.reduceMul]; first | done | omega)) only  [↓amPre, amPost, ↓s_lit', Nat.reduceAdd, Nat.reduceSub, List.replicate, retA, resultsA, resultA, toC, toCL, Nat.reduceEqDiff, (fa94_0 S.p), part_sc (ag5 S.p), part_all (ag94 S.p) (sz94 S.p), part_at (ag94 S.p) (sz94 S.p), cells_ag, cells_self, cells_other, fld_0, fld_1, fld_len, s67 S, shl_nat, e1, e2, e3]
  exact Ends.some rfl
theorem s69 {P : Program} {T : Tab} {K d : Nat} (S : Sd P T K) (hd : 3 ≤ d) (a n v : Nat) (h1 : 1 ≤ n) (h2 : a + n ≤ 64) (lk : Nat) (h : List AO) : ev P T K d 69 [.ag (fld a n), .sc (.int .u64 (v : Nat))] lk h = some (.v (.sc (.bool (decide (v < 2 ^ n)))), h) := by
  obtain ⟨d, rfl⟩ : ∃ k, d = k + 1 := ⟨d - 1, by omega⟩
  refine ev_pure (at69 S.t) rfl ?_
  unfold i69 Try.f69
  have e1 : decide ((v : Int) ≤ ((2 ^ n - 1 : Nat) : Int)) = decide (v < 2 ^ n) := by
    have := Nat.two_pow_pos n
    by_cases hv : v < 2 ^ n
    · rw [decide_eq_true hv, decide_eq_true (by omega)]
    · rw [decide_eq_false hv, decide_eq_false (by omega)]
  simp (maxSteps := 1000000) (disch := first | omega | (simp (disch := first | omega | (simp only [fld_len, List.length_append, List.length_cons, List.length_nil, List.length_set]; first | done | omega)) only [fld_len, amSide, Int.reduceToNat, Nat.reducePow, Nat.reduceMul]; first | done | omega)) only  [↓amPre, amPost, ↓s_lit', Nat.reduceAdd, Nat.reduceSub, List.replicate, retA, resultsA, resultA, toC, toCL, Nat.reduceEqDiff, part_all (ag94 S.p) (sz94 S.p), part_at (ag94 S.p) (sz94 S.p), cells_ag, cells_self, cells_other, fld_0, fld_1, fld_len, s70 S, s71 S, e1]
  exact Ends.some rfl
theorem fld_i {A N : Int} (hA : 0 ≤ A) (hN : 0 ≤ N) : [SV.int .u8 A, SV.int .u8 N] = fld A.toNat N.toNat := by
  simp [fld, Int.toNat_of_nonneg hA, Int.toNat_of_nonneg hN]
theorem s67i {P : Program} {T : Tab} {K d : Nat} (S : Sd P T K) (hd : 3 ≤ d) (A N : Int) (h0 : 0 ≤ A) (h1 : 1 ≤ N) (h2 : A + N ≤ 64) (lk : Nat) (h : List AO) :
    ev P T K d 67 [.ag [.int .u8 A, .int .u8 N]] lk h = some (.v (.sc (.int .u64 (((2 ^ N.toNat - 1) * 2 ^ A.toNat : Nat) : Int))), h) := by
  rw [fld_i h0 (by omega)]; exact s67 S hd _ _ (by omega) (by omega) lk h
theorem s66i {P : Program} {T : Tab} {K d : Nat} (S : Sd P T K) (hd : 3 ≤ d) (A N : Int) (w : Nat) (h0 : 0 ≤ A) (h1 : 1 ≤ N) (h2 : A + N ≤ 64) (hw : w < 18446744073709551616) (lk : Nat) (h : List AO) :
    ev P T K d 66 [.ag [.int .u8 A, .int .u8 N], .sc (.int .u64 (w : Nat))] lk h = some (.v (.sc (.int .u64 ((w / 2 ^ A.toNat % 2 ^ N.toNat : Nat) : Int))), h) := by
  rw [fld_i h0 (by omega)]; exact s66 S hd _ _ _ (by omega) (by omega) hw lk h
theorem s69i {P : Program} {T : Tab} {K d : Nat} (S : Sd P T K) (hd : 3 ≤ d) (A N V : Int) (h0 : 0 ≤ A) (h1 : 1 ≤ N) (h2 : A + N ≤ 64) (hv : 0 ≤ V) (lk : Nat) (h : List AO) :
    ev P T K d 69 [.ag [.int .u8 A, .int .u8 N], .sc (.int .u64 V)] lk h = some (.v (.sc (.bool (decide (V.toNat < 2 ^ N.toNat)))), h) := by
  obtain ⟨v, rfl⟩ := Int.eq_ofNat_of_zero_le hv
  rw [fld_i h0 (by omega)]; exact s69 S hd _ _ _ (by omega) (by omega) lk h
theorem s54i {P : Program} {T : Tab} {K d : Nat} (S : Sd P T K) (hd : 4 ≤ d) (A N W V : Int) (h0 : 0 ≤ A) (h1 : 1 ≤ N) (h2 : A + N ≤ 64) (hw : 0 ≤ W) (hw2 : W < 18446744073709551616) (hv : 0 ≤ V) (lk : Nat) (h : List AO) :
    ev P T K d 54 [.ag [.int .u8 A, .int .u8 N], .sc (.int .u64 W), .sc (.int .u64 V)] lk h = some (.v (.sc (.int .u64 ((putN A.toNat N.toNat W.toNat V.toNat : Nat) : Int))), h) := by
  obtain ⟨v, rfl⟩ := Int.eq_ofNat_of_zero_le hv
  obtain ⟨w, rfl⟩ := Int.eq_ofNat_of_zero_le hw
  rw [fld_i h0 (by omega)]; exact s54 S hd _ _ _ _ (by omega) (by omega) (by omega) lk h
theorem put_up {a n w v : Nat} (h : w < 2 ^ a) (hv : v < 2 ^ n) : putN a n w v = w + v * 2 ^ a := by
  have h1 : w < 2 ^ (a + n) := Nat.lt_of_lt_of_le h (Nat.pow_le_pow_right (by omega) (by omega))
  simp [putN, Nat.mod_eq_of_lt h, Nat.mod_eq_of_lt hv, Nat.div_eq_of_lt h1]
/-- Put above all that is there. -/
theorem s54j {P : Program} {T : Tab} {K d : Nat} (S : Sd P T K) (hd : 4 ≤ d) (A N W V : Int) (h0 : 0 ≤ A) (h1 : 1 ≤ N) (h2 : A + N ≤ 64) (hw : 0 ≤ W) (hv : 0 ≤ V) (hw2 : W.toNat < 2 ^ A.toNat) (hv2 : V.toNat < 2 ^ N.toNat) (lk : Nat) (h : List AO) :
    ev P T K d 54 [.ag [.int .u8 A, .int .u8 N], .sc (.int .u64 W), .sc (.int .u64 V)] lk h = some (.v (.sc (.int .u64 ((W.toNat + V.toNat * 2 ^ A.toNat : Nat) : Int))), h) := by
  have := Nat.pow_le_pow_right (n := 2) (by omega) (show A.toNat ≤ 64 by omega)
  rw [s54i S hd A N W V h0 h1 h2 hw (by have : (2:Nat) ^ 64 = 18446744073709551616 := by decide
                                        omega) hv, put_up hw2 hv2]
theorem and_i (x y : Int) (hx : 0 ≤ x) (hx2 : x < 18446744073709551616) (hy : 0 ≤ y) (hy2 : y < 18446744073709551616) : bitsA .and .u64 x y = ((x.toNat &&& y.toNat : Nat) : Int) := by
  obtain ⟨x, rfl⟩ := Int.eq_ofNat_of_zero_le hx
  obtain ⟨y, rfl⟩ := Int.eq_ofNat_of_zero_le hy
  exact and_nat x y (by omega) (by omega)
theorem or_i (x y : Int) (hx : 0 ≤ x) (hx2 : x < 18446744073709551616) (hy : 0 ≤ y) (hy2 : y < 18446744073709551616) : bitsA .or .u64 x y = ((x.toNat ||| y.toNat : Nat) : Int) := by
  obtain ⟨x, rfl⟩ := Int.eq_ofNat_of_zero_le hx
  obtain ⟨y, rfl⟩ := Int.eq_ofNat_of_zero_le hy
  exact or_nat x y (by omega) (by omega)
theorem s65 {P : Program} {T : Tab} {K d : Nat} (S : Sd P T K) (hd : 1 ≤ d) (lk : Nat) (h : List AO) : ev P T K d 65 [] lk h = some (.v (.ag [.int .u8 0, .int .u8 3]), h) := by
  obtain ⟨d, rfl⟩ : ∃ k, d = k + 1 := ⟨d - 1, by omega⟩
  refine ev_pure (at65 S.t) rfl ?_
  unfold i65 Try.f65
  simp (maxSteps := 1000000) (disch := first | omega | (simp (disch := first | omega | (simp only [fld_len, List.length_append, List.length_cons, List.length_nil, List.length_set]; first | done | omega)) only [fld_len, amSide, Int.reduceToNat, Nat.reducePow, Nat.reduceMul]; first | done | omega)) only  [↓amPre, amPost, ↓s_lit', Nat.reduceAdd, Nat.reduceSub, List.replicate, retA, resultsA, resultA, toC, toCL, Nat.reduceEqDiff, (ze94 S.p), (bu94 S.p), part_all (ag94 S.p) (sz94 S.p), part_at (ag94 S.p) (sz94 S.p), store_last (sz94 S.p), (sz94 S.p), cells_ag, cells_sc, cells_self, cells_other, splice_one, splice_all, store_at, obj_self, set_self]
  exact Ends.some rfl
theorem s53 {P : Program} {T : Tab} {K d : Nat} (S : Sd P T K) (hd : 1 ≤ d) (lk : Nat) (h : List AO) : ev P T K d 53 [] lk h = some (.v (.ag [.int .u8 3, .int .u8 4]), h) := by
  obtain ⟨d, rfl⟩ : ∃ k, d = k + 1 := ⟨d - 1, by omega⟩
  refine ev_pure (at53 S.t) rfl ?_
  unfold i53 Try.f53
  simp (maxSteps := 1000000) (disch := first | omega | (simp (disch := first | omega | (simp only [fld_len, List.length_append, List.length_cons, List.length_nil, List.length_set]; first | done | omega)) only [fld_len, amSide, Int.reduceToNat, Nat.reducePow, Nat.reduceMul]; first | done | omega)) only  [↓amPre, amPost, ↓s_lit', Nat.reduceAdd, Nat.reduceSub, List.replicate, retA, resultsA, resultA, toC, toCL, Nat.reduceEqDiff, (ze94 S.p), (bu94 S.p), part_all (ag94 S.p) (sz94 S.p), part_at (ag94 S.p) (sz94 S.p), store_last (sz94 S.p), (sz94 S.p), cells_ag, cells_sc, cells_self, cells_other, splice_one, splice_all, store_at, obj_self, set_self]
  exact Ends.some rfl
end Go.AM
