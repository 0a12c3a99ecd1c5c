/- Numbers of orders: binomials, and their products. Conditions: none. -/
set_option linter.unusedSimpArgs false
set_option linter.unusedVariables false
namespace Go.AM
/-- In how many ways so many of so many are chosen. -/
def ch : Nat → Nat → Nat
  | _, 0 => 1
  | 0, _ + 1 => 0
  | n + 1, k + 1 => ch n k + ch n (k + 1)
theorem ch_zero (n : Nat) : ch n 0 = 1 := by cases n <;> rfl
theorem ch_over : ∀ (n k : Nat), n < k → ch n k = 0
  | 0, k + 1, _ => rfl
  | n + 1, k + 1, h => by simp only [ch]; rw [ch_over n k (by omega), ch_over n (k + 1) (by omega)]
  | _, 0, h => by omega
theorem ch_self : ∀ n, ch n n = 1
  | 0 => rfl
  | n + 1 => by simp only [ch]; rw [ch_self n, ch_over n (n + 1) (by omega)]
/-- Times. -/
theorem ch_step : ∀ (n k : Nat), ch (n + 1) (k + 1) * (k + 1) = ch n k * (n + 1)
  | 0, 0 => rfl
  | 0, k + 1 => by simp [ch]
  | n + 1, 0 => by
    have := ch_step n 0
    simp only [ch, ch_zero] at this ⊢
    omega
  | n + 1, k + 1 => by
    have h1 := ch_step n k
    have h2 := ch_step n (k + 1)
    have e1 : ch (n + 2) (k + 2) = ch (n + 1) (k + 1) + ch (n + 1) (k + 2) := rfl
    have e2 : ch (n + 1) (k + 1) = ch n k + ch n (k + 1) := rfl
    rw [e1, Nat.add_mul, h2]
    have e3 : ch (n + 1) (k + 1) * (k + 1 + 1) = ch (n + 1) (k + 1) * (k + 1) + ch (n + 1) (k + 1) := by rw [Nat.mul_add, Nat.mul_one]
    rw [e3, h1, e2, Nat.mul_add (ch n k + ch n (k + 1)), Nat.add_mul, Nat.mul_one]
    omega
def fac : Nat → Nat
  | 0 => 1
  | n + 1 => fac n * (n + 1)
theorem fac_pos : ∀ n, 0 < fac n
  | 0 => by simp [fac]
  | n + 1 => Nat.mul_pos (fac_pos n) (by omega)
theorem fac_mono {n m : Nat} (h : n ≤ m) : fac n ≤ fac m := by
  induction m with
  | zero => obtain rfl : n = 0 := by omega
            exact Nat.le_refl _
  | succ m ih =>
    rcases Nat.lt_or_ge n (m + 1) with h1 | h1
    · exact Nat.le_trans (ih (by omega)) (Nat.le_mul_of_pos_right _ (by omega))
    · obtain rfl : n = m + 1 := by omega
      exact Nat.le_refl _
theorem ch_fac : ∀ (k a : Nat), ch (a + k) k * (fac a * fac k) = fac (a + k)
  | 0, a => by simp [ch_zero, fac]
  | k + 1, a => by
    have h := ch_step (a + k) k
    have ih := ch_fac k a
    have e : fac (a + (k + 1)) = fac (a + k) * (a + k + 1) := rfl
    rw [e, ← ih, show a + (k + 1) = a + k + 1 by omega]
    have e2 : fac (k + 1) = fac k * (k + 1) := rfl
    rw [e2]
    calc ch (a + k + 1) (k + 1) * (fac a * (fac k * (k + 1))) = ch (a + k + 1) (k + 1) * (k + 1) * (fac a * fac k) := by ac_rfl
      _ = ch (a + k) k * (a + k + 1) * (fac a * fac k) := by rw [h]
      _ = ch (a + k) k * (fac a * fac k) * (a + k + 1) := by ac_rfl
/-- Orders of counts, behind so many steps. -/
def multi : Nat → List Nat → Nat
  | _, [] => 1
  | a, c :: l => ch (a + c) c * multi (a + c) l
def sumN : List Nat → Nat
  | [] => 0
  | c :: l => c + sumN l
theorem multi_fac : ∀ (l : List Nat) (a : Nat), multi a l * fac a ≤ fac (a + sumN l)
  | [], a => by simp [multi, sumN]
  | c :: l, a => by
    have ih := multi_fac l (a + c)
    have h1 := ch_fac c a
    have h2 : ch (a + c) c * fac a ≤ fac (a + c) := by
      rw [← h1]
      exact Nat.mul_le_mul_left _ (Nat.le_mul_of_pos_right _ (fac_pos c))
    simp only [multi, sumN]
    calc ch (a + c) c * multi (a + c) l * fac a = multi (a + c) l * (ch (a + c) c * fac a) := by ac_rfl
      _ ≤ multi (a + c) l * fac (a + c) := Nat.mul_le_mul_left _ h2
      _ ≤ fac (a + c + sumN l) := ih
      _ = fac (a + (c + sumN l)) := by rw [Nat.add_assoc]
/-- Of all threads that step first: what is left then. -/
def firsts : Nat → List Nat → Nat
  | _, [] => 0
  | a, c :: l => (if c = 0 then 0 else multi a ((c - 1) :: l)) + ch (a + c) c * firsts (a + c) l
theorem multi_firsts : ∀ (l : List Nat) (a : Nat), 0 < a → multi a l = multi (a - 1) l + firsts a l
  | [], a, h => by simp [multi, firsts]
  | c :: l, a, h => by
    have ih := multi_firsts l (a + c) (by omega)
    simp only [multi, firsts]
    cases c with
    | zero =>
      simp only [Nat.add_zero, ch_zero, Nat.one_mul, if_true, Nat.zero_add] at ih ⊢
      exact ih
    | succ c =>
      rw [ih, if_neg (by omega)]
      obtain ⟨b, rfl⟩ : ∃ b, a = b + 1 := ⟨a - 1, by omega⟩
      have e1 : b + 1 - 1 + (c + 1) = b + c + 1 := by omega
      have e2 : b + 1 + (c + 1) - 1 = b + c + 1 := by omega
      have e3 : b + 1 + (c + 1) = (b + c + 1) + 1 := by omega
      have e4 : c + 1 - 1 = c := by omega
      have e5 : b + 1 + c = b + c + 1 := by omega
      simp only [multi, e4]
      rw [e1, e2, e3, e5]
      have p : ch (b + c + 1 + 1) (c + 1) = ch (b + c + 1) c + ch (b + c + 1) (c + 1) := rfl
      rw [Nat.mul_add]
      conv => lhs; lhs; rw [p, Nat.add_mul]
      omega
theorem multi_zero : ∀ (l : List Nat), 0 < sumN l → multi 0 l = firsts 0 l
  | [], h => by simp [sumN] at h
  | c :: l, h => by
    simp only [multi, firsts, Nat.zero_add]
    cases c with
    | zero =>
      simp only [ch_zero, Nat.one_mul, if_true, Nat.zero_add]
      exact multi_zero l (by simpa [sumN] using h)
    | succ c =>
      have ih := multi_firsts l (c + 1) (by omega)
      rw [if_neg (by omega), ch_self, Nat.one_mul, Nat.one_mul, Nat.add_sub_cancel, ch_self, Nat.one_mul, ih, Nat.add_sub_cancel]
def term (a : Nat) (l : List Nat) (u : Nat) : Nat := if l.getD u 0 = 0 then 0 else multi a (l.set u (l.getD u 0 - 1))
def sumT (a : Nat) (l : List Nat) : Nat → Nat
  | 0 => 0
  | n + 1 => sumT a l n + term a l n
theorem term_succ (a c : Nat) (l : List Nat) (u : Nat) : term a (c :: l) (u + 1) = ch (a + c) c * term (a + c) l u := by
  unfold term
  simp only [List.getD_cons_succ, List.set_cons_succ]
  split
  · simp
  · simp only [multi]
theorem sumT_succ (a c : Nat) (l : List Nat) : ∀ n, sumT a (c :: l) (n + 1) = term a (c :: l) 0 + ch (a + c) c * sumT (a + c) l n
  | 0 => by simp [sumT]
  | n + 1 => by
    have ih := sumT_succ a c l n
    show sumT a (c :: l) (n + 1) + term a (c :: l) (n + 1) = _
    rw [ih, term_succ]
    show _ = _ + ch (a + c) c * (sumT (a + c) l n + term (a + c) l n)
    rw [Nat.mul_add]; omega
theorem sumT_firsts : ∀ (l : List Nat) (a : Nat), sumT a l l.length = firsts a l
  | [], a => rfl
  | c :: l, a => by
    rw [List.length_cons, sumT_succ, sumT_firsts l (a + c)]
    simp only [firsts]
    rfl
theorem sumN_set : ∀ (l : List Nat) (u x : Nat), u < l.length → sumN (l.set u x) + l.getD u 0 = sumN l + x
  | [], u, x, h => by simp at h
  | c :: l, 0, x, h => by simp [sumN]; omega
  | c :: l, u + 1, x, h => by
    have := sumN_set l u x (by simpa using h)
    simp only [List.set_cons_succ, sumN, List.getD_cons_succ]; omega
theorem sumN_ge : ∀ (l : List Nat) (u : Nat), l.getD u 0 ≤ sumN l
  | [], u => by simp [sumN]
  | c :: l, 0 => by simp [sumN]
  | c :: l, u + 1 => by
    have := sumN_ge l u
    simp only [sumN, List.getD_cons_succ]; omega
/-- There are as many orders as of all threads that step first. -/
theorem total_law (l : List Nat) (h : 0 < sumN l) : multi 0 l = sumT 0 l l.length := by rw [sumT_firsts, multi_zero l h]
theorem multi_none : ∀ (l : List Nat) (a : Nat), sumN l = 0 → multi a l = 1
  | [], a, _ => rfl
  | c :: l, a, h => by
    simp only [sumN] at h
    obtain rfl : c = 0 := by omega
    simp only [multi, ch_zero, Nat.one_mul]
    exact multi_none l _ (by omega)
theorem multi_lt (l : List Nat) (h : sumN l ≤ 20) : multi 0 l ≤ 2432902008176640000 := by
  have h1 := multi_fac l 0
  have h2 : fac (0 + sumN l) ≤ fac 20 := fac_mono (by omega)
  have h3 : fac 20 = 2432902008176640000 := by decide
  simp only [fac, Nat.mul_one] at h1
  omega
theorem multi_snoc : ∀ (l : List Nat) (a c : Nat), multi a (l ++ [c]) = multi a l * ch (a + sumN l + c) c
  | [], a, c => by simp [multi, sumN]
  | x :: l, a, c => by
    simp only [List.cons_append, multi, sumN]
    rw [multi_snoc l (a + x) c, Nat.mul_assoc, show a + x + sumN l + c = a + (x + sumN l) + c by omega]
theorem sumN_snoc : ∀ (l : List Nat) (c : Nat), sumN (l ++ [c]) = sumN l + c
  | [], c => by simp [sumN]
  | x :: l, c => by simp only [List.cons_append, sumN]; rw [sumN_snoc l c]; omega
theorem take_snoc (l : List Nat) (i : Nat) (h : i < l.length) : l.take (i + 1) = l.take i ++ [l.getD i 0] := by
  rw [List.take_add_one, List.getElem?_eq_getElem h]
  simp [List.getElem?_eq_getElem h]
theorem sumN_take : ∀ (l : List Nat) (i : Nat), sumN (l.take i) ≤ sumN l
  | [], i => by simp
  | c :: l, 0 => by simp [sumN]
  | c :: l, i + 1 => by
    have := sumN_take l i
    simp only [List.take_succ_cons, sumN]; omega
theorem step_le {M A j : Nat} (hM : M ≤ fac A) (h : A + j + 1 ≤ 20) : M * ch (A + j) j * (A + (j + 1)) ≤ 2432902008176640000 := by
  have h1 := ch_fac j A
  have h2 : fac A * ch (A + j) j ≤ fac (A + j) := by
    rw [← h1, Nat.mul_comm]
    exact Nat.mul_le_mul_left _ (Nat.le_mul_of_pos_right _ (fac_pos j))
  have h3 : M * ch (A + j) j ≤ fac (A + j) := Nat.le_trans (Nat.mul_le_mul_right _ hM) h2
  have h4 : M * ch (A + j) j * (A + (j + 1)) ≤ fac (A + j + 1) := Nat.mul_le_mul h3 (Nat.le_refl _)
  have h5 := fac_mono h
  have h6 : fac 20 = 2432902008176640000 := by decide
  omega
theorem step_div (M A j : Nat) : M * ch (A + j) j * (A + (j + 1)) / (j + 1) = M * ch (A + (j + 1)) (j + 1) := by
  have := ch_step (A + j) j
  rw [Nat.mul_assoc, show A + (j + 1) = A + j + 1 by omega, ← this, ← Nat.mul_assoc, Nat.mul_div_cancel _ (by omega)]
theorem multi_le_fac (l : List Nat) : multi 0 l ≤ fac (sumN l) := by
  have := multi_fac l 0
  simp only [fac, Nat.mul_one, Nat.zero_add] at this
  exact this
end Go.AM
