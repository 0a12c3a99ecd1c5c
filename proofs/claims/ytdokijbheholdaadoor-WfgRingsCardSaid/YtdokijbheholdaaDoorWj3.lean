/- Waiting graphs: who is reached, by the document: mathematics. Conditions: none. -/
import Derived.Test.YtdokijbheholdaaDoorWjs
set_option linter.unusedVariables false
set_option linter.unusedSimpArgs false
set_option maxRecDepth 100000
namespace Go.AM
open Go.Proofs Go.Lib
def bC (m : Nat → Bool) : List SV := (List.range 64).map fun k => SV.bool (m k)
theorem bC_len (m : Nat → Bool) : (bC m).length = 64 := by simp [bC]
theorem bC_at (m : Nat → Bool) {k : Nat} (h : k < 64) : (bC m)[k]? = some (.bool (m k)) := by
  unfold bC
  rw [List.getElem?_map, List.getElem?_range h]; rfl
def updB (m : Nat → Bool) (n : Nat) : Nat → Bool := fun j => if j = n then true else m j
theorem bC_set (m : Nat → Bool) (n : Nat) : (bC m).set n (.bool true) = bC (updB m n) := by
  apply List.ext_getElem?
  intro j
  rw [List.getElem?_set, bC_len]
  by_cases hj : j < 64
  · rw [bC_at _ hj, bC_at _ hj]
    by_cases h : n = j
    · subst h; rw [if_pos rfl, if_pos hj]; simp [updB]
    · rw [if_neg h]; simp [updB, Ne.symm h]
  · rw [List.getElem?_eq_none (by rw [bC_len]; omega), List.getElem?_eq_none (by rw [bC_len]; omega)]
    split
    · rename_i e; rw [if_neg (by omega)]
    · rfl
def stM (s : Int) (m : Nat → Bool) (e : Edg) : Nat → Bool := if (e.f == s || m e.f.toNat) = true then updB m e.t.toNat else m
def mR (L : List Edg) (s : Int) : Nat → Nat → Bool
  | 0 => fun _ => false
  | r + 1 => L.foldl (stM s) (mR L s r)
theorem mR_succ (L : List Edg) (s : Int) (r : Nat) : mR L s (r + 1) = L.foldl (stM s) (mR L s r) := rfl
theorem stM_le (s : Int) (m : Nat → Bool) (e : Edg) (k : Nat) (h : m k = true) : stM s m e k = true := by
  unfold stM
  split
  · unfold updB; split
    · rfl
    · exact h
  · exact h
theorem fold_le (s : Int) : ∀ (L : List Edg) (m : Nat → Bool) (k : Nat), m k = true → L.foldl (stM s) m k = true
  | [], m, k, h => h
  | e :: L, m, k, h => fold_le s L _ k (stM_le s m e k h)
theorem fold_new (s : Int) : ∀ (L : List Edg) (m : Nat → Bool) (e : Edg), e ∈ L → (e.f = s ∨ m e.f.toNat = true) → L.foldl (stM s) m e.t.toNat = true
  | [], m, e, h, _ => by cases h
  | a :: L, m, e, h, hc => by
    rcases List.mem_cons.1 h with rfl | h
    · refine fold_le s L _ _ ?_
      unfold stM
      rw [if_pos (by rcases hc with hc | hc <;> simp [hc])]
      simp [updB]
    · refine fold_new s L _ e h ?_
      rcases hc with hc | hc
      · exact .inl hc
      · exact .inr (stM_le s m a _ hc)
def Clo (L : List Edg) (s : Int) (m : Nat → Bool) : Prop := ∀ e ∈ L, (e.f = s ∨ m e.f.toNat = true) → m e.t.toNat = true
theorem fold_clo {s : Int} : ∀ {L : List Edg} {m : Nat → Bool}, Clo L s m → L.foldl (stM s) m = m
  | [], m, _ => rfl
  | a :: L, m, h => by
    have h1 : stM s m a = m := by
      unfold stM
      split
      · rename_i hc
        have := h a List.mem_cons_self (by simpa using hc)
        funext j
        unfold updB
        split
        · rename_i e; rw [e, this]
        · rfl
      · rfl
    rw [List.foldl_cons, h1]
    exact fold_clo fun e he => h e (List.mem_cons_of_mem _ he)
def cnB (m : Nat → Bool) (n : Nat) : Nat := ((List.range n).filter m).length
theorem cnB_lt {m m' : Nat → Bool} (hle : ∀ k, m k = true → m' k = true) {c : Nat} (h0 : m c = false) (h1 : m' c = true) : ∀ n, cnB m n + (if c < n then 1 else 0) ≤ cnB m' n
  | 0 => by simp [cnB]
  | n + 1 => by
    have ih := cnB_lt hle h0 h1 n
    have e1 : cnB m (n + 1) = cnB m n + (if m n = true then 1 else 0) := by
      unfold cnB; rw [List.range_succ, List.filter_append, List.length_append]
      cases q : m n <;> simp [List.filter_cons, q]
    have e2 : cnB m' (n + 1) = cnB m' n + (if m' n = true then 1 else 0) := by
      unfold cnB; rw [List.range_succ, List.filter_append, List.length_append]
      cases q : m' n <;> simp [List.filter_cons, q]
    rw [e1, e2]
    by_cases hc : c = n
    · subst hc
      rw [if_neg (Nat.lt_irrefl c)] at ih
      rw [if_pos (Nat.lt_succ_self c), h0, h1]
      simp; omega
    · have : (if c < n + 1 then 1 else 0) = if c < n then 1 else 0 := by
        by_cases q : c < n
        · rw [if_pos q, if_pos (by omega)]
        · rw [if_neg q, if_neg (by omega)]
      rw [this]
      by_cases q : m n = true
      · rw [if_pos q, if_pos (hle n q)]; omega
      · rw [if_neg q]; omega
theorem mR_or (L : List Edg) (s : Int) (hv : ∀ e ∈ L, 0 ≤ e.f ∧ e.f < 64 ∧ 0 ≤ e.t ∧ e.t < 64) : ∀ r, Clo L s (mR L s r) ∨ r ≤ cnB (mR L s r) 64
  | 0 => .inr (Nat.zero_le _)
  | r + 1 => by
    by_cases hc : Clo L s (mR L s r)
    · left
      rw [mR_succ, fold_clo hc]; exact hc
    · right
      have ih : r ≤ cnB (mR L s r) 64 := by
        rcases mR_or L s hv r with h | h
        · exact absurd h hc
        · exact h
      obtain ⟨e, he, h1, h2⟩ : ∃ e ∈ L, (e.f = s ∨ mR L s r e.f.toNat = true) ∧ ¬ mR L s r e.t.toNat = true := by
        apply Classical.byContradiction
        intro q
        refine hc fun e he h1 => ?_
        apply Classical.byContradiction
        intro h2
        exact q ⟨e, he, h1, h2⟩
      have hv' := hv e he
      have := cnB_lt (m := mR L s r) (m' := mR L s (r + 1)) (fun k h => fold_le s L _ k h) (c := e.t.toNat) (by simpa using h2) (fold_new s L _ e he h1) 64
      rw [if_pos (by omega)] at this
      omega
theorem mR_clo (L : List Edg) (s : Int) (hv : ∀ e ∈ L, 0 ≤ e.f ∧ e.f < 64 ∧ 0 ≤ e.t ∧ e.t < 64) : Clo L s (mR L s 64) := by
  rcases mR_or L s hv 64 with h | h
  · exact h
  · intro e he _
    have hv' := hv e he
    unfold cnB at h
    have hle := List.length_filter_le (mR L s 64) (List.range 64)
    have h64 : (List.range 64).length = 64 := List.length_range
    have heq : ((List.range 64).filter (mR L s 64)).length = (List.range 64).length := by omega
    have hall := List.length_filter_eq_length_iff.1 heq
    exact hall _ (List.mem_range.2 (by omega))
theorem mR_sound (L : List Edg) (s : Int) (hv : ∀ e ∈ L, 0 ≤ e.f ∧ e.f < 64 ∧ 0 ≤ e.t ∧ e.t < 64) : ∀ r k, mR L s r k = true → isN s = true ∧ Rch L s.toNat k
  | 0, k, h => by cases h
  | r + 1, k, h => by
    rw [mR_succ] at h
    have key : ∀ (M : List Edg) (m : Nat → Bool), (∀ e ∈ M, e ∈ L) → (∀ k, m k = true → isN s = true ∧ Rch L s.toNat k) → ∀ k, M.foldl (stM s) m k = true → isN s = true ∧ Rch L s.toNat k := by
      intro M
      induction M with
      | nil => intro m _ hm k hk; exact hm k hk
      | cons e M ih =>
        intro m hM hm k hk
        refine ih (stM s m e) (fun x hx => hM x (List.mem_cons_of_mem _ hx)) (fun j hj => ?_) k hk
        unfold stM at hj
        split at hj
        · rename_i hc
          unfold updB at hj
          split at hj
          · rename_i hjt
            have he := hM e List.mem_cons_self
            obtain ⟨v1, v2, v3, v4⟩ := hv e he
            have ecast : (⟨(e.f.toNat : Int), (e.t.toNat : Int)⟩ : Edg) = e := by
              obtain ⟨f, t⟩ := e
              simp only at v1 v3 ⊢
              rw [Int.toNat_of_nonneg v1, Int.toNat_of_nonneg v3]
            subst hjt
            simp only [Bool.or_eq_true, beq_iff_eq] at hc
            rcases hc with hc | hc
            · subst hc
              refine ⟨by unfold isN; simp; omega, .one _ ?_⟩
              rw [ecast]; exact he
            · obtain ⟨q1, q2⟩ := hm _ hc
              exact ⟨q1, .more _ _ q2 (by rw [ecast]; exact he)⟩
          · exact hm j hj
        · exact hm j hj
    exact key L _ (fun e he => he) (mR_sound L s hv r) k h
theorem mR_rch (L : List Edg) (s : Int) (hv : ∀ e ∈ L, 0 ≤ e.f ∧ e.f < 64 ∧ 0 ≤ e.t ∧ e.t < 64) : (List.range 64).filter (mR L s 64) = rchL L s := by
  unfold rchL
  by_cases hs : isN s = true
  · rw [if_pos hs]
    refine List.filter_congr fun k _ => ?_
    obtain ⟨n, hn, hn64⟩ := isN_t hs
    subst hn
    have hc := mR_clo L n hv
    have hcomp : ∀ k, Rch L (n : Int).toNat k → mR L n 64 k = true := by
      intro k h
      rw [Int.toNat_natCast] at h
      induction h with
      | one k h => exact hc _ h (.inl rfl)
      | more j k hj h ih => exact hc _ h (.inr ih)
    by_cases q : Rch L (n : Int).toNat k
    · rw [hcomp k q, @decide_eq_true _ (Classical.propDecidable _) q]
    · rw [@decide_eq_false _ (Classical.propDecidable _) q]
      cases z : mR L n 64 k
      · rfl
      · exact absurd (mR_sound L n hv 64 k z).2 q
  · rw [if_neg hs]
    rw [List.filter_eq_nil_iff]
    intro k _ h
    exact hs (mR_sound L s hv 64 k h).1
end Go.AM
