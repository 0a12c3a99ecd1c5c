/- Waiting graphs: edges, and who is reached. Conditions: none. -/
import Derived.Test.YtdokijbheholdaaDoorWg1
set_option linter.unusedVariables false
set_option linter.unusedSimpArgs false
namespace Go.AM
open Go.Lib
/-- An edge. -/
structure Edg where
  f : Int
  t : Int
  deriving DecidableEq
/-- Edges of each node, and the document's list of them. -/
structure GR (E : List Nat) (L : List Edg) : Prop where
  len : E.length = 64
  lt : ∀ i, E.getD i 0 < 18446744073709551616
  bit : ∀ i j : Nat, i < 64 → j < 64 → ((E.getD i 0).testBit j = true ↔ (⟨i, j⟩ : Edg) ∈ L)
  val : ∀ e ∈ L, 0 ≤ e.f ∧ e.f < 64 ∧ 0 ≤ e.t ∧ e.t < 64
  cnt : (E.map fun x => (bl x).length).sum = L.length
theorem test_or (x t j : Nat) : (x ||| 2 ^ t).testBit j = (x.testBit j || decide (t = j)) := by
  rw [Nat.testBit_or, Nat.testBit_two_pow]
theorem or_lt {x t : Nat} (hx : x < 18446744073709551616) (ht : t < 64) : x ||| 2 ^ t < 18446744073709551616 :=
  Nat.or_lt_two_pow (n := 64) hx (Nat.pow_lt_pow_right (by decide) ht)
theorem bl_or_old {x t : Nat} (h : x.testBit t = true) : bl (x ||| 2 ^ t) = bl x := by
  unfold bl blN
  refine List.filter_congr fun j _ => ?_
  rw [test_or]
  by_cases e : t = j
  · subst e; simp [h]
  · simp [e]
theorem bl_or_new {x t : Nat} (ht : t < 64) (h : x.testBit t = false) : (bl (x ||| 2 ^ t)).length = (bl x).length + 1 := by
  have key : ∀ n, t < n → ((List.range n).filter fun j => (x ||| 2 ^ t).testBit j).length = ((List.range n).filter fun j => x.testBit j).length + 1 := by
    intro n
    induction n with
    | zero => intro h; omega
    | succ n ih =>
      intro hn
      rw [List.range_succ, List.filter_append, List.filter_append, List.length_append, List.length_append]
      by_cases e : t = n
      · subst e
        have e1 : ((List.range t).filter fun j => (x ||| 2 ^ t).testBit j) = (List.range t).filter fun j => x.testBit j := by
          refine List.filter_congr fun j hj => ?_
          rw [test_or]
          have := List.mem_range.1 hj
          simp [show t ≠ j by omega]
        rw [e1]
        simp [h, test_or]
      · have := ih (by omega)
        rw [this]
        have e2 : (x ||| 2 ^ t).testBit n = x.testBit n := by rw [test_or]; simp [e]
        simp only [List.filter_cons, e2, List.filter_nil]
        omega
  exact key 64 ht
theorem sum_set : ∀ (E : List Nat) (i : Nat) (y : Nat) (f : Nat → Nat), i < E.length → ((E.set i y).map f).sum + f (E.getD i 0) = (E.map f).sum + f y
  | [], i, y, f, h => by simp at h
  | a :: E, 0, y, f, h => by simp; omega
  | a :: E, i + 1, y, f, h => by
    have := sum_set E i y f (by simpa using h)
    simp only [List.set_cons_succ, List.map_cons, List.sum_cons, List.getD_cons_succ] at this ⊢
    omega
theorem getD_set (E : List Nat) (i j y : Nat) (hi : i < E.length) : (E.set i y).getD j 0 = if i = j then y else E.getD j 0 := by
  simp only [List.getD_eq_getElem?_getD, List.getElem?_set]
  by_cases h : i = j
  · subst h; simp [hi]
  · simp [h]
theorem GR.nil : GR (List.replicate 64 0) [] := by
  have hz : ∀ i, (List.replicate 64 0).getD i 0 = 0 := fun i => by
    simp only [List.getD_eq_getElem?_getD, List.getElem?_replicate]; split <;> rfl
  refine ⟨by simp, fun i => by rw [hz]; omega, fun i j _ _ => by rw [hz]; simp, fun e h => (by cases h), ?_⟩
  simp [bl_zero]
/-- One edge more. -/
theorem GR.add {E : List Nat} {L : List Edg} (H : GR E L) {a b : Nat} (ha : a < 64) (hb : b < 64) : GR (E.set a (E.getD a 0 ||| 2 ^ b)) (if (⟨a, b⟩ : Edg) ∈ L then L else L ++ [⟨a, b⟩]) := by
  have hla : a < E.length := by rw [H.len]; exact ha
  have hs := sum_set E a (E.getD a 0 ||| 2 ^ b) (fun x => (bl x).length) hla
  have hbit := H.bit a b ha hb
  have hmem : ∀ e : Edg, e ∈ (if (⟨a, b⟩ : Edg) ∈ L then L else L ++ [⟨a, b⟩]) ↔ e ∈ L ∨ e = ⟨a, b⟩ := fun e => by
    by_cases h : (⟨a, b⟩ : Edg) ∈ L
    · rw [if_pos h]; exact ⟨.inl, fun q => by rcases q with q | rfl; (· exact q); (· exact h)⟩
    · rw [if_neg h, List.mem_append, List.mem_singleton]
  refine ⟨by simp [H.len], fun i => ?_, fun i j hi hj => ?_, fun e he => ?_, ?_⟩
  · rw [getD_set _ _ _ _ hla]
    split
    · exact or_lt (H.lt a) hb
    · exact H.lt i
  · rw [getD_set _ _ _ _ hla, hmem]
    by_cases h : a = i
    · subst h
      rw [if_pos rfl, test_or, Bool.or_eq_true, H.bit a j ha hj, decide_eq_true_eq]
      constructor
      · rintro (q | rfl)
        · exact .inl q
        · exact .inr rfl
      · rintro (q | q)
        · exact .inl q
        · simp only [Edg.mk.injEq] at q; exact .inr (by omega)
    · rw [if_neg h, H.bit i j hi hj]
      constructor
      · exact .inl
      · rintro (q | q)
        · exact q
        · simp only [Edg.mk.injEq] at q; omega
  · rcases (hmem e).1 he with h | rfl
    · exact H.val e h
    · exact ⟨by simp only; omega, by simp only; omega, by simp only; omega, by simp only; omega⟩
  · by_cases h : (⟨a, b⟩ : Edg) ∈ L
    · rw [if_pos h]
      rw [bl_or_old (hbit.2 h)] at hs
      have := H.cnt; omega
    · rw [if_neg h]
      have hf : (E.getD a 0).testBit b = false := by
        cases q : (E.getD a 0).testBit b
        · rfl
        · exact absurd (hbit.1 q) h
      rw [bl_or_new hb hf] at hs
      rw [List.length_append, List.length_singleton]
      have := H.cnt; omega
/-- Who is reached. -/
inductive Rch (L : List Edg) (s : Nat) : Nat → Prop where
  | one (k : Nat) (h : (⟨s, k⟩ : Edg) ∈ L) : Rch L s k
  | more (j k : Nat) (hj : Rch L s j) (h : (⟨j, k⟩ : Edg) ∈ L) : Rch L s k
theorem GR.node {E : List Nat} {L : List Edg} (H : GR E L) {a b : Nat} (h : (⟨a, b⟩ : Edg) ∈ L) : a < 64 ∧ b < 64 := by
  obtain ⟨_, h2, _, h4⟩ := H.val _ h
  simp only at h2 h4
  omega
theorem Rch.lt {E : List Nat} {L : List Edg} (H : GR E L) {s k : Nat} (h : Rch L s k) : k < 64 := by
  cases h with
  | one _ h => exact (H.node h).2
  | more _ _ _ h => exact (H.node h).2
/-- What the code's search keeps. -/
structure Srch (L : List Edg) (s met todo : Nat) : Prop where
  mlt : met < 18446744073709551616
  tlt : todo < 18446744073709551616
  sm : ∀ k, met.testBit k = true → Rch L s k
  st : ∀ k, todo.testBit k = true → Rch L s k
  ap : ∀ k, met.testBit k = true → todo.testBit k = false
  c1 : ∀ k : Nat, (⟨s, k⟩ : Edg) ∈ L → met.testBit k = true ∨ todo.testBit k = true
  c2 : ∀ j k : Nat, met.testBit j = true → (⟨j, k⟩ : Edg) ∈ L → met.testBit k = true ∨ todo.testBit k = true
theorem Srch.done {L : List Edg} {s met : Nat} (H : Srch L s met 0) (k : Nat) : met.testBit k = true ↔ Rch L s k := by
  refine ⟨H.sm k, fun h => ?_⟩
  induction h with
  | one k h => rcases H.c1 k h with q | q; (· exact q); (· simp at q)
  | more j k hj h ih => rcases H.c2 j k ih h with q | q; (· exact q); (· simp at q)
theorem testBit_lt {x : Nat} (h : x < 18446744073709551616) {k : Nat} (hk : x.testBit k = true) : k < 64 := by
  apply Classical.byContradiction
  intro q
  have : x < 2 ^ k := Nat.lt_of_lt_of_le h (Nat.pow_le_pow_right (n := 2) (i := 64) (by decide) (by omega))
  rw [Nat.testBit_lt_two_pow this] at hk
  cases hk
/-- The start. -/
theorem Srch.start {E : List Nat} {L : List Edg} (H : GR E L) {s : Nat} (hs : s < 64) : Srch L s 0 (E.getD s 0) where
  mlt := by omega
  tlt := H.lt s
  sm := fun k h => by simp at h
  st := fun k h => .one k ((H.bit s k hs (testBit_lt (H.lt s) h)).1 h)
  ap := fun k h => by simp at h
  c1 := fun k h => .inr ((H.bit s k hs (H.node h).2).2 h)
  c2 := fun j k h => by simp at h
/-- One step: more is what the nodes to do have edges to. -/
theorem Srch.step {E : List Nat} {L : List Edg} (G : GR E L) {s met todo more : Nat} (H : Srch L s met todo) (hm : more < 18446744073709551616)
    (hmore : ∀ k, more.testBit k = true ↔ ∃ n ∈ bl todo, (E.getD n 0).testBit k = true) (t' : Nat) (ht : t' < 18446744073709551616) (ht' : ∀ k, t'.testBit k = (more.testBit k && !(met ||| todo).testBit k)) : Srch L s (met ||| todo) t' where
  mlt := Nat.or_lt_two_pow (n := 64) H.mlt H.tlt
  tlt := ht
  sm := fun k h => by
    rw [Nat.testBit_or, Bool.or_eq_true] at h
    rcases h with h | h
    · exact H.sm k h
    · exact H.st k h
  st := fun k h => by
    rw [ht', Bool.and_eq_true] at h
    obtain ⟨n, hn, hb⟩ := (hmore k).1 h.1
    obtain ⟨h1, h2⟩ := (bl_mem todo n).1 hn
    exact .more n k (H.st n h2) ((G.bit n k h1 (testBit_lt (G.lt n) hb)).1 hb)
  ap := fun k h => by rw [ht', h]; simp
  c1 := fun k h => by
    left
    rw [Nat.testBit_or, Bool.or_eq_true]
    exact H.c1 k h
  c2 := fun j k hj h => by
    rw [Nat.testBit_or, Bool.or_eq_true] at hj
    rcases hj with hj | hj
    · left
      rw [Nat.testBit_or, Bool.or_eq_true]
      exact H.c2 j k hj h
    · have hbt := (G.bit j k (G.node h).1 (G.node h).2).2 h
      have hmk : more.testBit k = true := (hmore k).2 ⟨j, (bl_mem todo j).2 ⟨(G.node h).1, hj⟩, hbt⟩
      cases q : (met ||| todo).testBit k with
      | true => exact .inl rfl
      | false => right; rw [ht', hmk, q]; rfl
theorem Srch.less {L : List Edg} {s met todo : Nat} (H : Srch L s met todo) (h0 : todo ≠ 0) : (bl met).length < (bl (met ||| todo)).length := by
  obtain ⟨c, hc⟩ : ∃ c, todo.testBit c = true := by
    obtain ⟨h1, h2, _⟩ := low_facts h0 H.tlt
    exact ⟨_, h2⟩
  have hc64 := testBit_lt H.tlt hc
  have key : ∀ n, (((List.range n).filter fun j => met.testBit j).length + if c < n then 1 else 0) ≤ ((List.range n).filter fun j => (met ||| todo).testBit j).length := by
    intro n
    induction n with
    | zero => simp
    | succ n ih =>
      rw [List.range_succ, List.filter_append, List.filter_append, List.length_append, List.length_append]
      have e1 : (met ||| todo).testBit n = (met.testBit n || todo.testBit n) := Nat.testBit_or ..
      simp only [List.filter_cons, e1, List.filter_nil]
      by_cases hcn : c = n
      · subst hcn
        have hmf : met.testBit c = false := by
          cases q : met.testBit c
          · rfl
          · have := H.ap c q; rw [hc] at this; cases this
        simp only [hmf, hc, Bool.false_or, if_true, List.length_singleton, Bool.false_eq_true, if_false, List.length_nil]
        rw [if_neg (Nat.lt_irrefl c)] at ih
        rw [if_pos (Nat.lt_succ_self c)]
        omega
      · have : (if c < n + 1 then 1 else 0) = if c < n then 1 else 0 := by
          by_cases q : c < n
          · rw [if_pos q, if_pos (by omega)]
          · rw [if_neg q, if_neg (by omega)]
        rw [this]
        cases hm : met.testBit n <;> cases ht : todo.testBit n <;> simp only [Bool.or_self, Bool.or_true, Bool.true_or, Bool.or_false, Bool.false_or, if_true, if_false, Bool.false_eq_true, List.length_nil, List.length_singleton] <;> omega
  have := key 64
  rw [if_pos hc64] at this
  exact this
end Go.AM
