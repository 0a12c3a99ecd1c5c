/- Numbers: bits of words. Conditions: none. -/
import Derived.Test.YtdokijbheholdaaDoorAmEv
set_option linter.unusedVariables false
set_option linter.unusedSimpArgs false
namespace Go.AM
theorem wrap_u64_nat {n : Nat} (h : n < 18446744073709551616) : IntKind.u64.wrap (n : Int) = (n : Int) := wrap_u64 (by omega) (by omega)
theorem and_nat (x y : Nat) (hx : x < 18446744073709551616) (hy : y < 18446744073709551616) : bitsA .and .u64 (x : Int) (y : Int) = ((x &&& y : Nat) : Int) := by
  show IntKind.u64.wrap (((BitVec.ofInt 64 (x : Int) &&& BitVec.ofInt 64 (y : Int)).toNat : Nat) : Int) = _
  simp only [BitVec.toNat_and, BitVec.ofInt_natCast, BitVec.toNat_ofNat]
  rw [Nat.mod_eq_of_lt (by simpa using hx), Nat.mod_eq_of_lt (by simpa using hy)]
  exact wrap_u64_nat (Nat.lt_of_le_of_lt Nat.and_le_left hx)
theorem or_nat (x y : Nat) (hx : x < 18446744073709551616) (hy : y < 18446744073709551616) : bitsA .or .u64 (x : Int) (y : Int) = ((x ||| y : Nat) : Int) := by
  show IntKind.u64.wrap (((BitVec.ofInt 64 (x : Int) ||| BitVec.ofInt 64 (y : Int)).toNat : Nat) : Int) = _
  simp only [BitVec.toNat_or, BitVec.ofInt_natCast, BitVec.toNat_ofNat]
  rw [Nat.mod_eq_of_lt (by simpa using hx), Nat.mod_eq_of_lt (by simpa using hy)]
  exact wrap_u64_nat (Nat.or_lt_two_pow (n := 64) hx hy)
theorem andNot_nat (x y : Nat) (hx : x < 18446744073709551616) (hy : y < 18446744073709551616) : bitsA .andNot .u64 (x : Int) (y : Int) = ((x &&& (18446744073709551615 - y) : Nat) : Int) := by
  show IntKind.u64.wrap (((BitVec.ofInt 64 (x : Int) &&& ~~~ BitVec.ofInt 64 (y : Int)).toNat : Nat) : Int) = _
  simp only [BitVec.toNat_and, BitVec.toNat_not, BitVec.ofInt_natCast, BitVec.toNat_ofNat]
  rw [Nat.mod_eq_of_lt (by simpa using hx), Nat.mod_eq_of_lt (by simpa using hy)]
  exact wrap_u64_nat (Nat.lt_of_le_of_lt Nat.and_le_left hx)
theorem shr_nat (x y : Nat) (hy : y ≤ 64) : shiftA .shr .u64 (x : Int) (y : Int) = some (.int .u64 ((x / 2 ^ y : Nat) : Int)) := by
  have h : min y 64 = y := by omega
  simp only [shiftA, IntKind.bits, Int.toNat_natCast, h]
  rw [if_neg (by omega)]
  congr 2
  rw [Int.fdiv_eq_ediv_of_nonneg _ (by have := Nat.two_pow_pos y; exact_mod_cast Nat.zero_le _)]
  norm_cast
theorem shl_nat (x y : Nat) (hy : y ≤ 64) : shiftA .shl .u64 (x : Int) (y : Int) = some (.int .u64 ((x * 2 ^ y % 18446744073709551616 : Nat) : Int)) := by
  have h : min y 64 = y := by omega
  simp only [shiftA, IntKind.bits, Int.toNat_natCast, h]
  rw [if_neg (by omega)]
  congr 2
theorem most_eq : ∀ n < 65, (18446744073709551615 / 2 ^ (64 - n) : Nat) = 2 ^ n - 1 := by decide
theorem pow_lt64 {a n : Nat} (h : a + n ≤ 64) : (2 ^ n - 1) * 2 ^ a < 18446744073709551616 := by
  have h1 : (2 ^ n - 1) * 2 ^ a < 2 ^ n * 2 ^ a := Nat.mul_lt_mul_of_pos_right (by have := Nat.two_pow_pos n; omega) (Nat.two_pow_pos a)
  rw [← Nat.pow_add] at h1
  exact Nat.lt_of_lt_of_le h1 (Nat.pow_le_pow_right (n := 2) (by omega) (show n + a ≤ 64 by omega))
theorem most_lt {n : Nat} (h : n ≤ 64) : 2 ^ n - 1 < 18446744073709551616 := by
  have := pow_lt64 (a := 0) (n := n) (by omega)
  simpa using this
theorem get_eq (w a n : Nat) : w / 2 ^ a &&& (2 ^ n - 1) = w / 2 ^ a % 2 ^ n := Nat.and_two_pow_sub_one_eq_mod _ _
/-- A field put into a word. -/
def putN (a n w v : Nat) : Nat := w % 2 ^ a + v % 2 ^ n * 2 ^ a + w / 2 ^ (a + n) * 2 ^ (a + n)
theorem put_bit (a n w v i : Nat) : (putN a n w v).testBit i = if i < a then w.testBit i else if i < a + n then v.testBit (i - a) else w.testBit i := by
  have e : putN a n w v = 2 ^ (a + n) * (w / 2 ^ (a + n)) + (2 ^ a * (v % 2 ^ n) + w % 2 ^ a) := by
    unfold putN; rw [Nat.mul_comm (w / _), Nat.mul_comm (v % _)]; omega
  have l1 : w % 2 ^ a < 2 ^ a := Nat.mod_lt _ (Nat.two_pow_pos a)
  have l2 : 2 ^ a * (v % 2 ^ n) + w % 2 ^ a < 2 ^ (a + n) := by
    have h1 : v % 2 ^ n + 1 ≤ 2 ^ n := Nat.mod_lt _ (Nat.two_pow_pos n)
    have h2 : 2 ^ a * (v % 2 ^ n + 1) ≤ 2 ^ a * 2 ^ n := Nat.mul_le_mul_left _ h1
    rw [Nat.pow_add]; rw [Nat.mul_add] at h2; omega
  rw [e, Nat.two_pow_add_eq_or_of_lt l2, Nat.two_pow_add_eq_or_of_lt l1]
  simp only [Nat.testBit_or, Nat.testBit_two_pow_mul, Nat.testBit_div_two_pow, Nat.testBit_mod_two_pow]
  by_cases h1 : i < a
  · simp [h1, show ¬ a + n ≤ i by omega, show ¬ a ≤ i by omega]
  · by_cases h2 : i < a + n
    · simp [h1, h2, show ¬ a + n ≤ i by omega, show a ≤ i by omega, show i - a < n by omega]
    · simp [h1, h2, show a + n ≤ i by omega, show ¬ i - a < n by omega]
theorem put_eq {a n : Nat} (w v : Nat) (h : a + n ≤ 64) (hw : w < 18446744073709551616) : (w &&& (18446744073709551615 - (2 ^ n - 1) * 2 ^ a)) ||| (v * 2 ^ a % 18446744073709551616 &&& (2 ^ n - 1) * 2 ^ a) = putN a n w v := by
  apply Nat.eq_of_testBit_eq
  intro i
  have hm := pow_lt64 h
  rw [put_bit, show 18446744073709551615 - (2 ^ n - 1) * 2 ^ a = 2 ^ 64 - ((2 ^ n - 1) * 2 ^ a + 1) by omega]
  simp only [Nat.testBit_or, Nat.testBit_and]
  rw [Nat.testBit_two_pow_sub_succ (by simpa using hm), Nat.testBit_mul_two_pow, Nat.testBit_two_pow_sub_one, show (18446744073709551616 : Nat) = 2 ^ 64 by decide, Nat.testBit_mod_two_pow, Nat.testBit_mul_two_pow]
  by_cases h1 : i < a
  · simp [h1, show ¬ a ≤ i by omega, show i < 64 by omega]
  · by_cases h2 : i < a + n
    · simp [h1, h2, show a ≤ i by omega, show i < 64 by omega, show i - a < n by omega]
    · by_cases h3 : i < 64
      · simp [h1, h2, h3, show a ≤ i by omega, show ¬ i - a < n by omega]
      · have : w.testBit i = false := Nat.testBit_lt_two_pow (Nat.lt_of_lt_of_le hw (by simpa using Nat.pow_le_pow_right (n := 2) (by omega) (show 64 ≤ i by omega)))
        simp [h1, h2, h3, this]
theorem put_lt {a n w v : Nat} (h : a + n ≤ 64) (hw : w < 18446744073709551616) : putN a n w v < 18446744073709551616 := by
  rw [← put_eq w v h hw]
  exact Nat.or_lt_two_pow (n := 64) (Nat.lt_of_le_of_lt Nat.and_le_left hw) (Nat.lt_of_le_of_lt Nat.and_le_right (pow_lt64 h))
theorem iter_more {α : Type} (F : (α → Res) → α → Res) (k n : Nat) (x : α) : iterA F (k + (n + 1)) x = F (iterA F (k + n)) x := nrfl rfl
end Go.AM
