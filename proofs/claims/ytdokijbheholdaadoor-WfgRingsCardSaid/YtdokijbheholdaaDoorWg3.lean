/- Waiting graphs: how many bits a word has, by bytes. Conditions: none. -/
import Derived.Test.YtdokijbheholdaaDoorWg1
import Derived.KernelRfl
set_option linter.unusedVariables false
set_option linter.unusedSimpArgs false
set_option maxRecDepth 100000
namespace Go.AM
def pcN (x n : Nat) : Nat := (blN x n).length
theorem pc_bl (x : Nat) : (bl x).length = pcN x 64 := rfl
theorem test_low {b a j : Nat} (hb : b < 256) : (b + 256 * a).testBit j = if j < 8 then b.testBit j else a.testBit (j - 8) := by
  have := Nat.testBit_two_pow_mul_add a (i := 8) (b := b) (by simpa using hb) j
  rw [show (2 : Nat) ^ 8 * a + b = b + 256 * a by omega] at this
  exact this
theorem pcN_split {b : Nat} (hb : b < 256) (a n : Nat) : pcN (b + 256 * a) (8 + n) = pcN b 8 + pcN a n := by
  unfold pcN blN
  rw [List.range_add, List.filter_append, List.length_append]
  congr 1
  · refine congrArg List.length (List.filter_congr fun j hj => ?_)
    rw [test_low hb, if_pos (List.mem_range.1 hj)]
  · rw [List.filter_map, List.length_map]
    refine congrArg List.length (List.filter_congr fun j hj => ?_)
    show (b + 256 * a).testBit (8 + j) = a.testBit j
    rw [test_low hb, if_neg (by omega), show 8 + j - 8 = j by omega]
theorem and_split {u v x y : Nat} (hu : u < 256) (hv : v < 256) : (u + 256 * x) &&& (v + 256 * y) = (u &&& v) + 256 * (x &&& y) := by
  have huv : u &&& v < 256 := Nat.lt_of_le_of_lt Nat.and_le_left hu
  apply Nat.eq_of_testBit_eq
  intro j
  rw [Nat.testBit_and, test_low hu, test_low hv, test_low huv]
  split
  · rw [Nat.testBit_and]
  · rw [Nat.testBit_and]
def msk (c : Nat) : Nat → Nat
  | 0 => 0
  | k + 1 => c + 256 * msk c k
def f1 (k x : Nat) : Nat := ((x / 2) &&& msk 0x55 k) + (x &&& msk 0x55 k)
def f2 (k x : Nat) : Nat := ((x / 4) &&& msk 0x33 k) + (x &&& msk 0x33 k)
def f3 (k x : Nat) : Nat := (x / 16 + x) &&& msk 0x0f k
def g1 (b : Nat) : Nat := ((b / 2) &&& 0x55) + (b &&& 0x55)
def g2 (b : Nat) : Nat := ((b / 4) &&& 0x33) + (b &&& 0x33)
def g3 (b : Nat) : Nat := (b / 16 + b) &&& 0x0f
theorem d1 : ((List.range 256).all fun b => (List.range 2).all fun e => (b / 2 + 128 * e) &&& 0x55 == (b / 2) &&& 0x55) = true := by kernel_rfl
theorem d2 : ((List.range 256).all fun b => (List.range 4).all fun e => (b / 4 + 64 * e) &&& 0x33 == (b / 4) &&& 0x33) = true := by kernel_rfl
theorem d3 : ((List.range 256).all fun b => (List.range 5).all fun e => (b / 16 + b + 16 * e) &&& 0x0f == (b / 16 + b) &&& 0x0f) = true := by kernel_rfl
theorem d4 : ((List.range 256).all fun b => decide (g1 b < 256) && decide (g2 (g1 b) ≤ 68) && decide (g2 (g1 b) % 16 ≤ 4) && g3 (g2 (g1 b)) == pcN b 8 && decide (pcN b 8 ≤ 8)) = true := by kernel_rfl
theorem all2 {n m : Nat} {p : Nat → Nat → Bool} (h : ((List.range n).all fun b => (List.range m).all fun e => p b e) = true) {b e : Nat} (hb : b < n) (he : e < m) : p b e = true := by
  rw [List.all_eq_true] at h
  have := h b (List.mem_range.2 hb)
  rw [List.all_eq_true] at this
  exact this e (List.mem_range.2 he)
theorem byte_facts {b : Nat} (hb : b < 256) : g1 b < 256 ∧ g2 (g1 b) ≤ 68 ∧ g2 (g1 b) % 16 ≤ 4 ∧ g3 (g2 (g1 b)) = pcN b 8 ∧ pcN b 8 ≤ 8 := by
  have h := d4
  rw [List.all_eq_true] at h
  have := h b (List.mem_range.2 hb)
  simp only [Bool.and_eq_true, decide_eq_true_eq, beq_iff_eq] at this
  exact ⟨this.1.1.1.1, this.1.1.1.2, this.1.1.2, this.1.2, this.2⟩
theorem msk_succ (c k : Nat) : msk c (k + 1) = c + 256 * msk c k := rfl
theorem f1_split {b : Nat} (hb : b < 256) (a k : Nat) : f1 (k + 1) (b + 256 * a) = g1 b + 256 * f1 k a := by
  unfold f1 g1
  rw [msk_succ]
  have e : (b + 256 * a) / 2 = (b / 2 + 128 * (a % 2)) + 256 * (a / 2) := by omega
  rw [e, and_split (by omega) (by omega), and_split hb (by omega)]
  have := all2 d1 hb (Nat.mod_lt a (show 2 > 0 by omega))
  simp only [beq_iff_eq] at this
  rw [this]; omega
theorem f2_split {b : Nat} (hb : b < 256) (a k : Nat) : f2 (k + 1) (b + 256 * a) = g2 b + 256 * f2 k a := by
  unfold f2 g2
  rw [msk_succ]
  have e : (b + 256 * a) / 4 = (b / 4 + 64 * (a % 4)) + 256 * (a / 4) := by omega
  rw [e, and_split (by omega) (by omega), and_split hb (by omega)]
  have := all2 d2 hb (Nat.mod_lt a (show 4 > 0 by omega))
  simp only [beq_iff_eq] at this
  rw [this]; omega
theorem f3_split {b : Nat} (hb : b ≤ 68) (a k : Nat) (ha : a % 16 ≤ 4) : f3 (k + 1) (b + 256 * a) = g3 b + 256 * f3 k a := by
  unfold f3 g3
  rw [msk_succ]
  have e : (b + 256 * a) / 16 + (b + 256 * a) = (b / 16 + b + 16 * (a % 16)) + 256 * (a / 16 + a) := by omega
  rw [e, and_split (by omega) (by omega)]
  have := all2 d3 (show b < 256 by omega) (show a % 16 < 5 by omega)
  simp only [beq_iff_eq] at this
  rw [this]
/-- So many bytes. -/
def bys : List Nat → Nat
  | [] => 0
  | b :: l => b + 256 * bys l
theorem f_bys : ∀ (l : List Nat), (∀ b ∈ l, b < 256) → f1 l.length (bys l) = bys (l.map g1) ∧ f2 l.length (bys (l.map g1)) = bys (l.map fun b => g2 (g1 b)) ∧ bys (l.map fun b => g2 (g1 b)) % 16 ≤ 4 ∧ f3 l.length (bys (l.map fun b => g2 (g1 b))) = bys (l.map fun b => pcN b 8) ∧ pcN (bys l) (8 * l.length) = (l.map fun b => pcN b 8).sum
  | [], _ => ⟨rfl, rfl, by simp [bys], rfl, rfl⟩
  | b :: l, H => by
    obtain ⟨i1, i2, i3, i4, i5⟩ := f_bys l fun c hc => H c (List.mem_cons_of_mem _ hc)
    have hb := H b List.mem_cons_self
    obtain ⟨k1, k2, k3, k4, k5⟩ := byte_facts hb
    simp only [List.map_cons, List.length_cons, bys]
    refine ⟨by rw [f1_split hb, i1], by rw [f2_split k1, i2], by omega, by rw [f3_split k2 _ _ i3, i4, k4], ?_⟩
    rw [show 8 * (l.length + 1) = 8 + 8 * l.length by omega, pcN_split hb, i5, List.sum_cons]
theorem bytes8 {x : Nat} (hx : x < 18446744073709551616) : ∃ b0 b1 b2 b3 b4 b5 b6 b7 : Nat, (∀ b ∈ [b0, b1, b2, b3, b4, b5, b6, b7], b < 256) ∧ x = bys [b0, b1, b2, b3, b4, b5, b6, b7] := by
  refine ⟨x % 256, x / 256 % 256, x / 65536 % 256, x / 16777216 % 256, x / 4294967296 % 256, x / 1099511627776 % 256, x / 281474976710656 % 256, x / 72057594037927936, ?_, ?_⟩
  · intro b hb
    simp only [List.mem_cons, List.not_mem_nil, or_false] at hb
    omega
  · simp only [bys]; omega
theorem dv (m x c : Nat) (hm : 0 < m) (h : x < m) : (x + m * c) / m = c := by
  rw [Nat.add_mul_div_left _ _ hm, Nat.div_eq_of_lt h, Nat.zero_add]
/-- The bytes' sum. -/
theorem sum8 {p0 p1 p2 p3 p4 p5 p6 p7 q1 q2 q3 q4 q5 q6 q7 y : Nat} (c0 : p0 ≤ 8) (c1 : p1 ≤ 8) (c2 : p2 ≤ 8) (c3 : p3 ≤ 8) (c4 : p4 ≤ 8) (c5 : p5 ≤ 8) (c6 : p6 ≤ 8) (c7 : p7 ≤ 8)
    (h7 : q7 = p7) (h6 : q6 = p6 + 256 * q7) (h5 : q5 = p5 + 256 * q6) (h4 : q4 = p4 + 256 * q5) (h3 : q3 = p3 + 256 * q4) (h2 : q2 = p2 + 256 * q3) (h1 : q1 = p1 + 256 * q2) (h0 : y = p0 + 256 * q1) :
    y / 256 = q1 ∧ (y + q1) / 65536 = q2 + q3 ∧ (y + q1 + (q2 + q3)) / 4294967296 = q4 + q5 + q6 + q7 ∧ y < 1152921504606846976 ∧ q1 < 1152921504606846976 ∧ q2 + q3 < 1152921504606846976 ∧ q4 + q5 + q6 + q7 < 1152921504606846976 ∧
    (y + q1 + (q2 + q3) + (q4 + q5 + q6 + q7)) % 128 = p0 + p1 + p2 + p3 + p4 + p5 + p6 + p7 := by
  have l7 : q7 ≤ 8 := by omega
  have l6 : q6 ≤ 2056 := by omega
  have l5 : q5 ≤ 526344 := by omega
  have l4 : q4 ≤ 134744072 := by omega
  have l3 : q3 ≤ 34494482440 := by omega
  have l2 : q2 ≤ 8830587504648 := by omega
  have l1 : q1 ≤ 2260630401189896 := by omega
  have l0 : y ≤ 578721382704613384 := by omega
  refine ⟨by rw [h0]; exact dv 256 p0 q1 (by omega) (by omega), ?_, ?_, by omega, by omega, by omega, by omega, ?_⟩
  · have e : y + q1 = (p0 + p1 + 256 * (p1 + p2)) + 65536 * (q2 + q3) := by omega
    rw [e]; exact dv 65536 _ _ (by omega) (by omega)
  · have e : y + q1 + (q2 + q3) = (p0 + p1 + p2 + p3 + 256 * (p1 + p2 + p3 + p4) + 65536 * (p2 + p3 + p4 + p5) + 16777216 * (p3 + p4 + p5 + p6)) + 4294967296 * (q4 + q5 + q6 + q7) := by omega
    rw [e]; exact dv 4294967296 _ _ (by omega) (by omega)
  · have e : y + q1 + (q2 + q3) + (q4 + q5 + q6 + q7) = (p0 + p1 + p2 + p3 + p4 + p5 + p6 + p7) + 128 * (2 * (q1 + q2 + q3 + q4 + q5 + q6 + q7)) := by omega
    rw [e, Nat.add_mul_mod_self_left, Nat.mod_eq_of_lt (by omega)]
/-- What the code computes is the number of bits. -/
theorem swar {x : Nat} (hx : x < 18446744073709551616) : ∃ y q1 q2 q3 : Nat, f3 8 (f2 8 (f1 8 x)) = y ∧ y / 256 = q1 ∧ (y + q1) / 65536 = q2 ∧ (y + q1 + q2) / 4294967296 = q3 ∧ y < 1152921504606846976 ∧ q1 < 1152921504606846976 ∧ q2 < 1152921504606846976 ∧ q3 < 1152921504606846976 ∧ (y + q1 + q2 + q3) % 128 = (bl x).length := by
  obtain ⟨b0, b1, b2, b3, b4, b5, b6, b7, hb, hxe⟩ := bytes8 hx
  obtain ⟨i1, i2, i3, i4, i5⟩ := f_bys _ hb
  have hle : ∀ b ∈ [b0, b1, b2, b3, b4, b5, b6, b7], pcN b 8 ≤ 8 := fun b h => (byte_facts (hb b h)).2.2.2.2
  rw [← hxe] at i1 i5
  have j1 : f3 8 (f2 8 (f1 8 x)) = bys ([b0, b1, b2, b3, b4, b5, b6, b7].map fun b => pcN b 8) := by
    have a1 : f1 8 x = _ := i1
    have a2 : f2 8 _ = _ := i2
    have a4 : f3 8 _ = _ := i4
    rw [a1, a2, a4]
  have j5 : (bl x).length = ([b0, b1, b2, b3, b4, b5, b6, b7].map fun b => pcN b 8).sum := i5
  have k0 := hle b0 (by simp)
  have k1 := hle b1 (by simp)
  have k2 := hle b2 (by simp)
  have k3 := hle b3 (by simp)
  have k4 := hle b4 (by simp)
  have k5 := hle b5 (by simp)
  have k6 := hle b6 (by simp)
  have k7 := hle b7 (by simp)
  have j6 : ([b0, b1, b2, b3, b4, b5, b6, b7].map fun b => pcN b 8).sum = pcN b0 8 + pcN b1 8 + pcN b2 8 + pcN b3 8 + pcN b4 8 + pcN b5 8 + pcN b6 8 + pcN b7 8 := by
    simp only [List.map_cons, List.map_nil, List.sum_cons, List.sum_nil]; omega
  clear hle i1 i2 i3 i4 i5 hb
  obtain ⟨r1, r2, r3, r4, r5, r6, r7, r8⟩ := sum8 k0 k1 k2 k3 k4 k5 k6 k7 rfl rfl rfl rfl rfl rfl rfl (y := bys ([b0, b1, b2, b3, b4, b5, b6, b7].map fun b => pcN b 8)) (by simp only [List.map_cons, List.map_nil, bys, Nat.mul_zero, Nat.add_zero])
  exact ⟨_, _, _, _, j1, r1, r2, r3, r4, r5, r6, r7, by rw [r8, j5, j6]⟩
end Go.AM
