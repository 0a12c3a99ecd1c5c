/- Counts: how many bits a number has. Conditions: none. -/
import Derived.Test.YtdokijbheholdaaAmTab
import Derived.Test.YtdokijbheholdaaAmRecs
import Derived.Test.YtdokijbheholdaaWd0
set_option linter.unusedVariables false
set_option linter.unusedSimpArgs false
set_option maxRecDepth 100000
namespace Go.AM
open Go.Proofs
/-- How many bits a number has. -/
def lenN (x : Nat) : Nat := if x = 0 then 0 else Nat.log2 x + 1
theorem lenN_div {x k : Nat} (h : 2 ^ k ≤ x) : lenN x = lenN (x / 2 ^ k) + k := by
  have h1 : 0 < 2 ^ k := Nat.two_pow_pos k
  have h2 : x / 2 ^ k ≠ 0 := by have := Nat.div_pos h h1; omega
  have h3 : x ≠ 0 := by omega
  unfold lenN
  rw [if_neg h2, if_neg h3]
  have hd := (Nat.log2_eq_iff h2).1 (rfl : Nat.log2 (x / 2 ^ k) = _)
  have : Nat.log2 x = Nat.log2 (x / 2 ^ k) + k := by
    refine (Nat.log2_eq_iff h3).2 ⟨?_, ?_⟩
    · rw [Nat.pow_add]
      exact Nat.le_trans (Nat.mul_le_mul_right _ hd.1) (Nat.div_mul_le_self _ _)
    · rw [show Nat.log2 (x / 2 ^ k) + k + 1 = Nat.log2 (x / 2 ^ k) + 1 + k by omega, Nat.pow_add]
      exact (Nat.div_lt_iff_lt_mul h1).1 hd.2
  omega
theorem lenN_le {x : Nat} (h : x < 256) : lenN x ≤ 8 := by
  unfold lenN
  split
  · omega
  · have := (Nat.log2_lt (n := x) (k := 8) (by omega)).2 h
    omega
def tabB (b : ByteArray) : Bool := (List.range 256).all fun z => match b[z]? with | some c => c.toNat == lenN z | none => false
theorem tab_at {P : Program} {t : TypeId} (hu : P.underlying t = some .string) {b : ByteArray} (hb : tabB b = true) {z : Nat} (hz : z < 256) : indexA P t (.v (.sc (.str b))) (.v (.sc (.int .u8 (IntKind.u8.wrap (z : Nat))))) = some (.v (.sc (.int .u8 ((lenN z : Nat) : Int)))) := by
  have h1 := List.all_eq_true.1 hb z (List.mem_range.2 hz)
  have hw : IntKind.u8.wrap (z : Int) = (z : Int) := by
    have e1 : IntKind.u8.bits = 8 := rfl
    have e2 : IntKind.u8.signed = false := rfl
    unfold IntKind.wrap
    simp only [e1, e2]
    rw [Int.emod_eq_of_lt (by omega) (by omega)]
    simp
  rw [hw]
  split at h1
  · rename_i c hc
    simp only [indexA, hu]
    rw [if_pos (by omega), Int.toNat_natCast, hc]
    simp only [beq_iff_eq] at h1
    simp [h1]
  · cases h1
set_option maxHeartbeats 1000000 in
theorem s59 {P : Program} {T : Tab} {K d : Nat} (S : Sd P T K) (hd : 1 ≤ d) (x : Nat) (hx : x < 18446744073709551616) (lk : Nat) (h : List AO) :
    ev P T K d 59 [.sc (.int .u64 (x : Nat))] lk h = some (.v (.sc (.int .i64 ((lenN x : Nat) : Int))), h) := by
  obtain ⟨d, rfl⟩ : ∃ k, d = k + 1 := ⟨d - 1, by omega⟩
  refine ev_pure (at59 S.t) rfl ?_
  unfold i59 Try.f59
  have s32 : ∀ x : Nat, shiftA .shr .u64 (x : Int) 32 = some (.int .u64 ((x / 4294967296 : Nat) : Int)) := fun x => shr_nat x 32 (by omega)
  have s16 : ∀ x : Nat, shiftA .shr .u64 (x : Int) 16 = some (.int .u64 ((x / 65536 : Nat) : Int)) := fun x => shr_nat x 16 (by omega)
  have s8 : ∀ x : Nat, shiftA .shr .u64 (x : Int) 8 = some (.int .u64 ((x / 256 : Nat) : Int)) := fun x => shr_nat x 8 (by omega)
  have key : ∀ z : Nat, z < 256 → ∀ r, r = lenN z → lenN z ≤ 8 ∧ r = lenN z := fun z hz r hr => ⟨lenN_le hz, hr⟩
  by_cases c1 : 4294967296 ≤ x
  · have e1 : lenN x = lenN (x / 4294967296) + 32 := lenN_div (k := 32) c1
    have hy : x / 4294967296 < 4294967296 := by omega
    by_cases c2 : 65536 ≤ (x / 4294967296)
    · have e2 : lenN (x / 4294967296) = lenN ((x / 4294967296) / 65536) + 16 := lenN_div (k := 16) c2
      have hy2 : (x / 4294967296) / 65536 < 65536 := by omega
      by_cases c3 : 256 ≤ (x / 4294967296) / 65536
      · have e3 : lenN ((x / 4294967296) / 65536) = lenN ((x / 4294967296) / 65536 / 256) + 8 := lenN_div (k := 8) c3
        have hz : (x / 4294967296) / 65536 / 256 < 256 := by omega
        have hl := lenN_le hz
        simp (maxSteps := 1000000) (disch := first | omega | (simp (disch := first | omega | (simp only [List.length_append, List.length_cons, List.length_nil, List.length_set]; first | done | omega)) only [amSide, Int.reduceToNat, Nat.reducePow, Nat.reduceMul]; first | done | omega)) only  [↓amPre, amPost, ↓s_lit', Nat.reduceAdd, Nat.reduceSub, List.replicate, retA, resultsA, resultA, toC, toCL, Nat.reduceEqDiff, conv_int (un36 S.p) (un5 S.p), conv_int (un5 S.p) (un3 S.p), dec_t, dec_f, s32, s16, s8, wrap_i64]
        refine ends_pure (tab_at (un9 S.p) (by kernel_rfl) hz) ?_
        simp (maxSteps := 1000000) (disch := first | omega | (simp (disch := first | omega | (simp only [List.length_append, List.length_cons, List.length_nil, List.length_set]; first | done | omega)) only [amSide, Int.reduceToNat, Nat.reducePow, Nat.reduceMul]; first | done | omega)) only  [↓amPre, amPost, ↓s_lit', Nat.reduceAdd, Nat.reduceSub, List.replicate, retA, resultsA, resultA, toC, toCL, Nat.reduceEqDiff, conv_int (un36 S.p) (un5 S.p), conv_int (un5 S.p) (un3 S.p), wrap_i64]
        refine Ends.some ?_
        try simp (disch := omega) only [wrap_i64]
        congr 3
        omega
      · have e3 := e2
        have hz : (x / 4294967296) / 65536 < 256 := by omega
        have hl := lenN_le hz
        simp (maxSteps := 1000000) (disch := first | omega | (simp (disch := first | omega | (simp only [List.length_append, List.length_cons, List.length_nil, List.length_set]; first | done | omega)) only [amSide, Int.reduceToNat, Nat.reducePow, Nat.reduceMul]; first | done | omega)) only  [↓amPre, amPost, ↓s_lit', Nat.reduceAdd, Nat.reduceSub, List.replicate, retA, resultsA, resultA, toC, toCL, Nat.reduceEqDiff, conv_int (un36 S.p) (un5 S.p), conv_int (un5 S.p) (un3 S.p), dec_t, dec_f, s32, s16, s8, wrap_i64]
        refine ends_pure (tab_at (un9 S.p) (by kernel_rfl) hz) ?_
        simp (maxSteps := 1000000) (disch := first | omega | (simp (disch := first | omega | (simp only [List.length_append, List.length_cons, List.length_nil, List.length_set]; first | done | omega)) only [amSide, Int.reduceToNat, Nat.reducePow, Nat.reduceMul]; first | done | omega)) only  [↓amPre, amPost, ↓s_lit', Nat.reduceAdd, Nat.reduceSub, List.replicate, retA, resultsA, resultA, toC, toCL, Nat.reduceEqDiff, conv_int (un36 S.p) (un5 S.p), conv_int (un5 S.p) (un3 S.p), wrap_i64]
        refine Ends.some ?_
        try simp (disch := omega) only [wrap_i64]
        congr 3
        omega
    · by_cases c3 : 256 ≤ (x / 4294967296)
      · have e3 : lenN (x / 4294967296) = lenN ((x / 4294967296) / 256) + 8 := lenN_div (k := 8) c3
        have hz : (x / 4294967296) / 256 < 256 := by omega
        have hl := lenN_le hz
        simp (maxSteps := 1000000) (disch := first | omega | (simp (disch := first | omega | (simp only [List.length_append, List.length_cons, List.length_nil, List.length_set]; first | done | omega)) only [amSide, Int.reduceToNat, Nat.reducePow, Nat.reduceMul]; first | done | omega)) only  [↓amPre, amPost, ↓s_lit', Nat.reduceAdd, Nat.reduceSub, List.replicate, retA, resultsA, resultA, toC, toCL, Nat.reduceEqDiff, conv_int (un36 S.p) (un5 S.p), conv_int (un5 S.p) (un3 S.p), dec_t, dec_f, s32, s16, s8, wrap_i64]
        refine ends_pure (tab_at (un9 S.p) (by kernel_rfl) hz) ?_
        simp (maxSteps := 1000000) (disch := first | omega | (simp (disch := first | omega | (simp only [List.length_append, List.length_cons, List.length_nil, List.length_set]; first | done | omega)) only [amSide, Int.reduceToNat, Nat.reducePow, Nat.reduceMul]; first | done | omega)) only  [↓amPre, amPost, ↓s_lit', Nat.reduceAdd, Nat.reduceSub, List.replicate, retA, resultsA, resultA, toC, toCL, Nat.reduceEqDiff, conv_int (un36 S.p) (un5 S.p), conv_int (un5 S.p) (un3 S.p), wrap_i64]
        refine Ends.some ?_
        try simp (disch := omega) only [wrap_i64]
        congr 3
        omega
      · have e3 := e1
        have hz : (x / 4294967296) < 256 := by omega
        have hl := lenN_le hz
        simp (maxSteps := 1000000) (disch := first | omega | (simp (disch := first | omega | (simp only [List.length_append, List.length_cons, List.length_nil, List.length_set]; first | done | omega)) only [amSide, Int.reduceToNat, Nat.reducePow, Nat.reduceMul]; first | done | omega)) only  [↓amPre, amPost, ↓s_lit', Nat.reduceAdd, Nat.reduceSub, List.replicate, retA, resultsA, resultA, toC, toCL, Nat.reduceEqDiff, conv_int (un36 S.p) (un5 S.p), conv_int (un5 S.p) (un3 S.p), dec_t, dec_f, s32, s16, s8, wrap_i64]
        refine ends_pure (tab_at (un9 S.p) (by kernel_rfl) hz) ?_
        simp (maxSteps := 1000000) (disch := first | omega | (simp (disch := first | omega | (simp only [List.length_append, List.length_cons, List.length_nil, List.length_set]; first | done | omega)) only [amSide, Int.reduceToNat, Nat.reducePow, Nat.reduceMul]; first | done | omega)) only  [↓amPre, amPost, ↓s_lit', Nat.reduceAdd, Nat.reduceSub, List.replicate, retA, resultsA, resultA, toC, toCL, Nat.reduceEqDiff, conv_int (un36 S.p) (un5 S.p), conv_int (un5 S.p) (un3 S.p), wrap_i64]
        refine Ends.some ?_
        try simp (disch := omega) only [wrap_i64]
        congr 3
        omega
  · have e1 : lenN x = lenN x + 0 := rfl
    have hy : x < 4294967296 := by omega
    by_cases c2 : 65536 ≤ x
    · have e2 : lenN x = lenN (x / 65536) + 16 := lenN_div (k := 16) c2
      have hy2 : x / 65536 < 65536 := by omega
      by_cases c3 : 256 ≤ x / 65536
      · have e3 : lenN (x / 65536) = lenN (x / 65536 / 256) + 8 := lenN_div (k := 8) c3
        have hz : x / 65536 / 256 < 256 := by omega
        have hl := lenN_le hz
        simp (maxSteps := 1000000) (disch := first | omega | (simp (disch := first | omega | (simp only [List.length_append, List.length_cons, List.length_nil, List.length_set]; first | done | omega)) only [amSide, Int.reduceToNat, Nat.reducePow, Nat.reduceMul]; first | done | omega)) only  [↓amPre, amPost, ↓s_lit', Nat.reduceAdd, Nat.reduceSub, List.replicate, retA, resultsA, resultA, toC, toCL, Nat.reduceEqDiff, conv_int (un36 S.p) (un5 S.p), conv_int (un5 S.p) (un3 S.p), dec_t, dec_f, s32, s16, s8, wrap_i64]
        refine ends_pure (tab_at (un9 S.p) (by kernel_rfl) hz) ?_
        simp (maxSteps := 1000000) (disch := first | omega | (simp (disch := first | omega | (simp only [List.length_append, List.length_cons, List.length_nil, List.length_set]; first | done | omega)) only [amSide, Int.reduceToNat, Nat.reducePow, Nat.reduceMul]; first | done | omega)) only  [↓amPre, amPost, ↓s_lit', Nat.reduceAdd, Nat.reduceSub, List.replicate, retA, resultsA, resultA, toC, toCL, Nat.reduceEqDiff, conv_int (un36 S.p) (un5 S.p), conv_int (un5 S.p) (un3 S.p), wrap_i64]
        refine Ends.some ?_
        try simp (disch := omega) only [wrap_i64]
        congr 3
        omega
      · have e3 := e2
        have hz : x / 65536 < 256 := by omega
        have hl := lenN_le hz
        simp (maxSteps := 1000000) (disch := first | omega | (simp (disch := first | omega | (simp only [List.length_append, List.length_cons, List.length_nil, List.length_set]; first | done | omega)) only [amSide, Int.reduceToNat, Nat.reducePow, Nat.reduceMul]; first | done | omega)) only  [↓amPre, amPost, ↓s_lit', Nat.reduceAdd, Nat.reduceSub, List.replicate, retA, resultsA, resultA, toC, toCL, Nat.reduceEqDiff, conv_int (un36 S.p) (un5 S.p), conv_int (un5 S.p) (un3 S.p), dec_t, dec_f, s32, s16, s8, wrap_i64]
        refine ends_pure (tab_at (un9 S.p) (by kernel_rfl) hz) ?_
        simp (maxSteps := 1000000) (disch := first | omega | (simp (disch := first | omega | (simp only [List.length_append, List.length_cons, List.length_nil, List.length_set]; first | done | omega)) only [amSide, Int.reduceToNat, Nat.reducePow, Nat.reduceMul]; first | done | omega)) only  [↓amPre, amPost, ↓s_lit', Nat.reduceAdd, Nat.reduceSub, List.replicate, retA, resultsA, resultA, toC, toCL, Nat.reduceEqDiff, conv_int (un36 S.p) (un5 S.p), conv_int (un5 S.p) (un3 S.p), wrap_i64]
        refine Ends.some ?_
        try simp (disch := omega) only [wrap_i64]
        congr 3
        omega
    · by_cases c3 : 256 ≤ x
      · have e3 : lenN x = lenN (x / 256) + 8 := lenN_div (k := 8) c3
        have hz : x / 256 < 256 := by omega
        have hl := lenN_le hz
        simp (maxSteps := 1000000) (disch := first | omega | (simp (disch := first | omega | (simp only [List.length_append, List.length_cons, List.length_nil, List.length_set]; first | done | omega)) only [amSide, Int.reduceToNat, Nat.reducePow, Nat.reduceMul]; first | done | omega)) only  [↓amPre, amPost, ↓s_lit', Nat.reduceAdd, Nat.reduceSub, List.replicate, retA, resultsA, resultA, toC, toCL, Nat.reduceEqDiff, conv_int (un36 S.p) (un5 S.p), conv_int (un5 S.p) (un3 S.p), dec_t, dec_f, s32, s16, s8, wrap_i64]
        refine ends_pure (tab_at (un9 S.p) (by kernel_rfl) hz) ?_
        simp (maxSteps := 1000000) (disch := first | omega | (simp (disch := first | omega | (simp only [List.length_append, List.length_cons, List.length_nil, List.length_set]; first | done | omega)) only [amSide, Int.reduceToNat, Nat.reducePow, Nat.reduceMul]; first | done | omega)) only  [↓amPre, amPost, ↓s_lit', Nat.reduceAdd, Nat.reduceSub, List.replicate, retA, resultsA, resultA, toC, toCL, Nat.reduceEqDiff, conv_int (un36 S.p) (un5 S.p), conv_int (un5 S.p) (un3 S.p), wrap_i64]
        refine Ends.some ?_
        try simp (disch := omega) only [wrap_i64]
        congr 3
        omega
      · have e3 := e1
        have hz : x < 256 := by omega
        have hl := lenN_le hz
        simp (maxSteps := 1000000) (disch := first | omega | (simp (disch := first | omega | (simp only [List.length_append, List.length_cons, List.length_nil, List.length_set]; first | done | omega)) only [amSide, Int.reduceToNat, Nat.reducePow, Nat.reduceMul]; first | done | omega)) only  [↓amPre, amPost, ↓s_lit', Nat.reduceAdd, Nat.reduceSub, List.replicate, retA, resultsA, resultA, toC, toCL, Nat.reduceEqDiff, conv_int (un36 S.p) (un5 S.p), conv_int (un5 S.p) (un3 S.p), dec_t, dec_f, s32, s16, s8, wrap_i64]
        refine ends_pure (tab_at (un9 S.p) (by kernel_rfl) hz) ?_
        simp (maxSteps := 1000000) (disch := first | omega | (simp (disch := first | omega | (simp only [List.length_append, List.length_cons, List.length_nil, List.length_set]; first | done | omega)) only [amSide, Int.reduceToNat, Nat.reducePow, Nat.reduceMul]; first | done | omega)) only  [↓amPre, amPost, ↓s_lit', Nat.reduceAdd, Nat.reduceSub, List.replicate, retA, resultsA, resultA, toC, toCL, Nat.reduceEqDiff, conv_int (un36 S.p) (un5 S.p), conv_int (un5 S.p) (un3 S.p), wrap_i64]
        refine Ends.some ?_
        try simp (disch := omega) only [wrap_i64]
        congr 3
        omega
end Go.AM
