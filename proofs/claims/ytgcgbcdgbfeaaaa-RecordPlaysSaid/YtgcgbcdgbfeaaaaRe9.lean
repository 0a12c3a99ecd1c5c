/- Stacks of records: objects, sorted, each once. Conditions: none. -/
import Derived.Test.YtgcgbcdgbfeaaaaAmSort
set_option linter.unusedVariables false
set_option linter.unusedSimpArgs false
namespace Go.AM
open Go.Lib
def cntO (o : Int) (L : List Int) : Nat := (L.filter fun x => decide (x = o)).length
def sumO (D L : List Int) : Nat := (D.map fun o => cntO o L).sum
theorem cntO_cons (o x : Int) (L : List Int) : cntO o (x :: L) = (if x = o then 1 else 0) + cntO o L := by
  unfold cntO
  rw [List.filter_cons]
  by_cases h : x = o
  · simp [h]; omega
  · simp [h]
theorem cntO_snoc (o : Int) (L : List Int) (x : Int) : cntO o (L ++ [x]) = cntO o L + if x = o then 1 else 0 := by
  unfold cntO
  rw [List.filter_append, List.length_append]
  by_cases h : x = o <;> simp [h]
theorem cntO_le (o : Int) (L : List Int) : cntO o L ≤ L.length := List.length_filter_le _ _
theorem one_nodup (x : Int) : ∀ D : List Int, D.Nodup → x ∈ D → (D.map fun o => if x = o then 1 else 0).sum = 1
  | [], _, h => by cases h
  | a :: D, hn, h => by
    rw [List.nodup_cons] at hn
    simp only [List.map_cons, List.sum_cons]
    by_cases e : x = a
    · subst e
      rw [if_pos rfl]
      have : (D.map fun o => if x = o then 1 else 0).sum = 0 := by
        have hz : ∀ D' : List Int, x ∉ D' → (D'.map fun o => if x = o then 1 else 0).sum = 0 := by
          intro D'
          induction D' with
          | nil => intro _; rfl
          | cons b D' ih =>
            intro hb
            simp only [List.mem_cons, not_or] at hb
            simp only [List.map_cons, List.sum_cons, ih hb.2]
            simp [hb.1]
        exact hz D hn.1
      omega
    · rw [if_neg e, one_nodup x D hn.2 (by rcases List.mem_cons.1 h with h | h; (· exact absurd h e); (· exact h))]
theorem sum_add : ∀ (D : List Int) (f g : Int → Nat), (D.map fun o => f o + g o).sum = (D.map f).sum + (D.map g).sum
  | [], _, _ => rfl
  | a :: D, f, g => by simp only [List.map_cons, List.sum_cons, sum_add D f g]; omega
theorem sumO_len : ∀ (L D : List Int), D.Nodup → (∀ x ∈ L, x ∈ D) → sumO D L = L.length
  | [], D, _, _ => by
    unfold sumO
    induction D with
    | nil => rfl
    | cons a D ih => simp only [List.map_cons, List.sum_cons] at ih ⊢; rw [ih]; · rfl
                     · rename_i h _; exact (List.nodup_cons.1 h).2
                     · intro x hx; cases hx
  | x :: L, D, hn, h => by
    have ih := sumO_len L D hn fun y hy => h y (List.mem_cons_of_mem _ hy)
    unfold sumO at ih ⊢
    have e : (D.map fun o => cntO o (x :: L)) = D.map fun o => (if x = o then 1 else 0) + cntO o L := List.map_congr_left fun o _ => cntO_cons o x L
    rw [e, sum_add, one_nodup x D hn (h x List.mem_cons_self), ih, List.length_cons]
    omega
theorem sumO_take {D : List Int} {i : Nat} {o : Int} (h : D[i]? = some o) (L : List Int) : sumO (D.take (i + 1)) L = sumO (D.take i) L + cntO o L := by
  unfold sumO
  rw [List.take_add_one, h]
  simp [List.map_append, List.sum_append]
theorem sumO_le (D L : List Int) (i : Nat) : sumO (D.take i) L ≤ sumO D L := by
  have h : sumO D L = sumO (D.take i) L + sumO (D.drop i) L := by
    unfold sumO
    rw [← List.sum_append, ← List.map_append, List.take_append_drop]
  omega
/-- What is left of a list in order, each once. -/
theorem compact_facts (zs : List Int) (hs : zs.Pairwise (· ≤ ·)) : ∀ m, m ≤ zs.length → (compactUpTo zs.toArray m).Pairwise (· < ·) ∧ (∀ x, x ∈ compactUpTo zs.toArray m ↔ x ∈ zs.take m) ∧ ∀ x ∈ compactUpTo zs.toArray m, ∃ y, zs[m - 1]? = some y ∧ x ≤ y
  | 0, _ => by
    refine ⟨by simp [compactUpTo], fun x => by simp [compactUpTo], fun x hx => by simp [compactUpTo] at hx⟩
  | m + 1, hm => by
    obtain ⟨h1, h2, h3⟩ := compact_facts zs hs m (by omega)
    obtain ⟨z, hz⟩ : ∃ z, zs[m]? = some z := ⟨_, List.getElem?_eq_getElem (by omega)⟩
    have hz0 := (List.getElem?_eq_some_iff.1 hz).2
    have hg : zs.toArray[m]! = z := by simp [hz]
    have hle : ∀ x ∈ compactUpTo zs.toArray m, x ≤ z := fun x hx => by
      obtain ⟨y, hy, hxy⟩ := h3 x hx
      have hm0 : 0 < m := by
        rcases Nat.eq_zero_or_pos m with e | e
        · subst e; simp [compactUpTo] at hx
        · exact e
      obtain ⟨hy1, hy2⟩ := List.getElem?_eq_some_iff.1 hy
      have := List.pairwise_iff_getElem.1 hs (m - 1) m hy1 (by omega) (by omega)
      rw [hy2, hz0] at this
      omega
    rw [compactUpTo_succ, hg]
    have htk : zs.take (m + 1) = zs.take m ++ [z] := by rw [List.take_add_one, hz]; rfl
    by_cases hk : keeps zs.toArray m = true
    · rw [if_pos hk]
      refine ⟨List.pairwise_append.2 ⟨h1, by simp, fun x hx y hy => ?_⟩, fun x => ?_, fun x hx => ⟨z, by simpa using hz, ?_⟩⟩
      · rw [List.mem_singleton.1 hy]
        have hl := hle x hx
        obtain ⟨w, hw, hxw⟩ := h3 x hx
        have hm0 : 0 < m := by
          rcases Nat.eq_zero_or_pos m with e | e
          · subst e; simp [compactUpTo] at hx
          · exact e
        simp only [keeps, decide_eq_true_eq] at hk
        rcases hk with hk | hk
        · omega
        · have : zs.toArray[m - 1]! = w := by simp [hw]
          rw [hg, this] at hk
          obtain ⟨hy1, hy2⟩ := List.getElem?_eq_some_iff.1 hw
          have := List.pairwise_iff_getElem.1 hs (m - 1) m hy1 (by omega) (by omega)
          rw [hy2, hz0] at this
          omega
      · rw [htk, List.mem_append, List.mem_append, h2 x]
      · rcases List.mem_append.1 hx with hx | hx
        · exact hle x hx
        · rw [List.mem_singleton.1 hx]; exact Int.le_refl _
    · rw [if_neg hk, List.append_nil]
      refine ⟨h1, fun x => ?_, fun x hx => ⟨z, by simpa using hz, hle x hx⟩⟩
      rw [htk, List.mem_append, h2 x]
      refine ⟨.inl, fun q => ?_⟩
      rcases q with q | q
      · exact q
      · rw [List.mem_singleton.1 q]
        simp only [keeps, decide_eq_true_eq, not_or] at hk
        have hk2 : zs.toArray[m]! = zs.toArray[m - 1]! := Classical.not_not.1 hk.2
        rw [hg] at hk2
        have hm1 : m - 1 < zs.length := by omega
        have : zs.toArray[m - 1]! = zs[m - 1] := by simp [hm1]
        rw [hk2, this]
        exact List.mem_take_iff_getElem.2 ⟨m - 1, by omega, rfl⟩
/-- The objects of records, in order, each once. -/
def objsL (L : List Int) : List Int := compact (sortL L)
theorem objsL_facts (L : List Int) : (objsL L).Pairwise (· < ·) ∧ ∀ x, x ∈ objsL L ↔ x ∈ L := by
  have hs : (sortL L).Pairwise (· ≤ ·) := by
    have := List.pairwise_mergeSort (le := fun x y : Int => decide (x ≤ y)) (by intro a b c; simp; omega) (by intro a b; simp; omega) L
    exact this.imp fun h => by simpa using h
  obtain ⟨h1, h2, _⟩ := compact_facts (sortL L) hs _ (Nat.le_refl _)
  refine ⟨h1, fun x => ?_⟩
  show x ∈ compactUpTo (sortL L).toArray (sortL L).length ↔ _
  rw [h2 x, List.take_length]
  exact List.mem_mergeSort
theorem objsL_nodup (L : List Int) : (objsL L).Nodup := (objsL_facts L).1.imp fun h => by omega
theorem objsL_len (L : List Int) : (objsL L).length ≤ L.length := by
  have := compact_le (sortL L)
  have h2 : (sortL L).length = L.length := List.length_mergeSort L
  unfold objsL; omega
theorem sumO_objs (L : List Int) : sumO (objsL L) L = L.length := sumO_len L _ (objsL_nodup L) fun x hx => ((objsL_facts L).2 x).2 hx
end Go.AM
