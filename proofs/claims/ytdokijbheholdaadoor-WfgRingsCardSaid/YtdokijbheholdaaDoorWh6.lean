/- Waiting graphs: the number of edges. Conditions: none. -/
import Derived.Test.YtdokijbheholdaaDoorWh5
import Derived.Test.YtdokijbheholdaaDoorWg3
set_option linter.unusedVariables false
set_option linter.unusedSimpArgs false
set_option maxRecDepth 100000
namespace Go.AM
open Go.Proofs Go.Lib
-- LENS: gC_len, Edg.len, ixC_len
theorem and_c {x c : Nat} (hx : x < 18446744073709551616) (hc : c < 18446744073709551616) : bitsA .and .u64 (x : Int) (c : Int) = ((x &&& c : Nat) : Int) := and_nat x c hx hc
theorem add_c {x y : Nat} (h : x + y < 18446744073709551616) : IntKind.u64.wrap ((x : Int) + (y : Int)) = ((x + y : Nat) : Int) := by
  rw [wrap_u64 (by omega) (by omega)]; omega
theorem and127 {x : Nat} (hx : x < 9223372036854775808) : bitsA .and .i64 (x : Int) 127 = ((x % 128 : Nat) : Int) := by
  show IntKind.i64.wrap (((BitVec.ofInt 64 (x : Int) &&& BitVec.ofInt 64 (127 : Int)).toNat : Nat) : Int) = _
  have e : (BitVec.ofInt 64 (127 : Int)).toNat = 127 := rfl
  simp only [BitVec.toNat_and, e, BitVec.ofInt_natCast, BitVec.toNat_ofNat]
  rw [Nat.mod_eq_of_lt (by simpa using Nat.lt_trans hx (by decide)), show (127 : Nat) = 2 ^ 7 - 1 by decide, Nat.and_two_pow_sub_one_eq_mod]
  exact wrap_i64 (by omega) (by have := Nat.mod_lt x (show 2 ^ 7 > 0 by decide); omega)
theorem and_m (x m : Nat) : x &&& m ≤ m := Nat.and_le_right
set_option maxHeartbeats 4000000 in
theorem s34 {P : Program} {T : Tab} {K d : Nat} (S : Sd P T K) (hd : 1 ≤ d) {x : Nat} (hx : x < 18446744073709551616) (lk : Nat) (h : List AO) : ev P T K d 34 [.sc (.int .u64 (x : Nat))] lk h = some (.v (.sc (.int .i64 ((bl x).length : Nat))), h) := by
  obtain ⟨d, rfl⟩ : ∃ k, d = k + 1 := ⟨d - 1, by omega⟩
  refine ev_pure (at34 S.t) rfl ?_
  unfold i34 Tryd.f34
  obtain ⟨y, q1, q2, q3, j1, j2, j3, j4, l1, l2, l3, l4, j5⟩ := swar hx
  have m1 : msk 0x55 8 = 6148914691236517205 := rfl
  have m2 : msk 0x33 8 = 3689348814741910323 := rfl
  have m3 : msk 0x0f 8 = 1085102592571150095 := rfl
  have u1 := and_m (x / 2) 6148914691236517205
  have u2 := and_m x 6148914691236517205
  have hx2 : x / 2 < 18446744073709551616 := by omega
  have s1 : shiftA .shr .u64 (x : Int) 1 = some (.int .u64 ((x / 2 : Nat) : Int)) := shr_nat x 1 (by omega)
  have a1 : bitsA .and .u64 ((x / 2 : Nat) : Int) 6148914691236517205 = _ := and_c hx2 (show 6148914691236517205 < 18446744073709551616 by decide)
  have a2 : bitsA .and .u64 (x : Int) 6148914691236517205 = _ := and_c hx (show 6148914691236517205 < 18446744073709551616 by decide)
  have b1 := add_c (x := x / 2 &&& 6148914691236517205) (y := x &&& 6148914691236517205) (by omega)
  have F1 : (x / 2 &&& 6148914691236517205) + (x &&& 6148914691236517205) = f1 8 x := by unfold f1; rw [m1]
  rw [F1] at b1
  have hz : f1 8 x < 18446744073709551616 := by rw [← F1]; omega
  generalize f1 8 x = z at *
  have v1 := and_m (z / 4) 3689348814741910323
  have v2 := and_m z 3689348814741910323
  have s2 : shiftA .shr .u64 (z : Int) 2 = some (.int .u64 ((z / 4 : Nat) : Int)) := shr_nat z 2 (by omega)
  have a3 : bitsA .and .u64 ((z / 4 : Nat) : Int) 3689348814741910323 = _ := and_c (show z / 4 < 18446744073709551616 by omega) (show 3689348814741910323 < 18446744073709551616 by decide)
  have a4 : bitsA .and .u64 (z : Int) 3689348814741910323 = _ := and_c hz (show 3689348814741910323 < 18446744073709551616 by decide)
  have b2 := add_c (x := z / 4 &&& 3689348814741910323) (y := z &&& 3689348814741910323) (by omega)
  have F2 : (z / 4 &&& 3689348814741910323) + (z &&& 3689348814741910323) = f2 8 z := by unfold f2; rw [m2]
  rw [F2] at b2
  have ht : f2 8 z ≤ 7378697629483820646 := by rw [← F2]; omega
  generalize f2 8 z = t at *
  have s3 : shiftA .shr .u64 (t : Int) 4 = some (.int .u64 ((t / 16 : Nat) : Int)) := shr_nat t 4 (by omega)
  have b3 := add_c (x := t / 16) (y := t) (by omega)
  have a5 : bitsA .and .u64 ((t / 16 + t : Nat) : Int) 1085102592571150095 = _ := and_c (show t / 16 + t < 18446744073709551616 by omega) (show 1085102592571150095 < 18446744073709551616 by decide)
  have F3 : t / 16 + t &&& 1085102592571150095 = y := by rw [← j1]; unfold f3; rw [m3]
  rw [F3] at a5
  have s4 : shiftA .shr .u64 (y : Int) 8 = some (.int .u64 ((q1 : Nat) : Int)) := by rw [← j2]; exact shr_nat y 8 (by omega)
  have b4 := add_c (x := y) (y := q1) (by omega)
  have s5 : shiftA .shr .u64 ((y + q1 : Nat) : Int) 16 = some (.int .u64 ((q2 : Nat) : Int)) := by rw [← j3]; exact shr_nat (y + q1) 16 (by omega)
  have b5 := add_c (x := y + q1) (y := q2) (by omega)
  have s6 : shiftA .shr .u64 ((y + q1 + q2 : Nat) : Int) 32 = some (.int .u64 ((q3 : Nat) : Int)) := by rw [← j4]; exact shr_nat (y + q1 + q2) 32 (by omega)
  have b6 := add_c (x := y + q1 + q2) (y := q3) (by omega)
  have a6 := and127 (x := y + q1 + q2 + q3) (by omega)
  rw [j5] at a6
  have c6 : IntKind.i64.wrap ((y + q1 + q2 + q3 : Nat) : Int) = ((y + q1 + q2 + q3 : Nat) : Int) := wrap_i64 (by omega) (by omega)
  clear j1 j2 j3 j4 j5 F1 F2 F3 m1 m2 m3
  simp (maxSteps := 1000000) (disch := first | omega | (simp (disch := first | omega | (simp only [gC_len, Edg.len, ixC_len, List.length_append, List.length_cons, List.length_nil, List.length_set]; first | done | omega)) only [gC_len, Edg.len, ixC_len, amSide, Int.reduceToNat, Nat.reducePow, Nat.reduceMul]; first | done | omega)) only  [↓amPre, amPost, ↓s_lit', Nat.reduceAdd, Nat.reduceSub, List.replicate, retA, resultsA, resultA, toC, toCL, Nat.reduceEqDiff, conv_int (un30 S.p) (un3 S.p), s1, a1, a2, b1, s2, a3, a4, b2, s3, b3, a5, s4, b4, s5, b5, s6, b6, a6, c6]
  exact Ends.some rfl
end Go.AM
