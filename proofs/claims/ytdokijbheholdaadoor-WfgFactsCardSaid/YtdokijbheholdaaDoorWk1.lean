/- Waiting graphs: rings and who reaches himself: mathematics. Conditions: none. -/
import Derived.Test.YtdokijbheholdaaDoorWi7
set_option linter.unusedVariables false
set_option linter.unusedSimpArgs false
set_option maxRecDepth 100000
namespace Go.AM
open Go.Proofs Go.Lib
theorem Rch.cons {L : List Edg} {a k s : Nat} (h : (⟨a, k⟩ : Edg) ∈ L) (hr : Rch L k s) : Rch L a s := by
  induction hr with
  | one s h2 => exact .more k s (.one k h) h2
  | more j s _ h2 ih => exact .more j s ih h2
theorem Rch.trans {L : List Edg} {a b c : Nat} (h1 : Rch L a b) (h2 : Rch L b c) : Rch L a c := by
  induction h2 with
  | one c h => exact .more b c h1 h
  | more j c _ h ih => exact .more j c ih h
theorem edge_of {E : List Nat} {L : List Edg} (G : GR E L) {n k s : Nat} (hn : n < 64) (h : k ∈ blF (E.getD n 0) s) : (⟨n, k⟩ : Edg) ∈ L ∧ s ≤ k ∧ k < 64 := by
  obtain ⟨h1, h2⟩ := List.mem_filter.1 h
  obtain ⟨h3, h4⟩ := (bl_mem _ _).1 h1
  exact ⟨(G.bit n k hn h3).1 h4, by simpa using h2, h3⟩
theorem mem_blF {E : List Nat} {L : List Edg} (G : GR E L) {n k s : Nat} (h : (⟨n, k⟩ : Edg) ∈ L) (hs : s ≤ k) : k ∈ blF (E.getD n 0) s := by
  obtain ⟨h1, h2⟩ := G.node h
  exact List.mem_filter.2 ⟨(bl_mem _ _).2 ⟨h2, (G.bit n k h1 h2).2 h⟩, by simpa using hs⟩
/-- When a way was found. -/
theorem Dst_when {E : List Nat} {s n : Nat} : ∀ {m r : Nat}, Dst E s m n = r → r ≠ 65 → s ≤ n ∧ ∃ q, r = q + 1 ∧ q + 1 ≤ m ∧ (blF (E.getD n 0) s).any (hitK s (q + 1) (Dst E s q)) = true ∧ Dst E s q n = 65
  | 0, r, h, hr => absurd h.symm hr
  | m + 1, r, h, hr => by
    rw [Dst_succ] at h
    split at h
    · rename_i hc
      exact ⟨hc.1, m, h.symm, Nat.le_refl _, hc.2.2, hc.2.1⟩
    · obtain ⟨h1, q, h2, h3, h4⟩ := Dst_when h hr
      exact ⟨h1, q, h2, by omega, h4⟩
theorem Dst_up {E : List Nat} {s n m m' r : Nat} (hm : m ≤ m') (h : Dst E s m n = r) (hr : r ≠ 65) : Dst E s m' n = r := by
  have := Dst_stay h hr (m' - m)
  rwa [Nat.add_sub_cancel' hm] at this
/-- A way leads back. -/
theorem Dst_rch {E : List Nat} {L : List Edg} (G : GR E L) {s : Nat} : ∀ (m n : Nat), m ≤ 64 → n < 64 → Dst E s m n ≠ 65 → Rch L n s
  | 0, n, _, _, h => absurd rfl h
  | m + 1, n, hm, hn, h => by
    obtain ⟨h1, q, h2, h3, h4, _⟩ := Dst_when rfl h
    rw [List.any_eq_true] at h4
    obtain ⟨k, hk, hh⟩ := h4
    obtain ⟨e1, e2, e3⟩ := edge_of G hn hk
    unfold hitK at hh
    simp only [Bool.or_eq_true, Bool.and_eq_true, beq_iff_eq, bne_iff_ne, ne_eq] at hh
    rcases hh with ⟨hh, _⟩ | ⟨hh, hd⟩
    · subst hh; exact .one _ e1
    · have hd' : Dst E s q k = q := by simpa using hd
      have hup := Dst_up (m' := m) (by omega) hd' (by omega)
      exact Rch.cons e1 (Dst_rch G m k (by omega) e3 (by rw [hup]; omega))
/-- No more is met: whoever has an edge to one that is met is met. -/
def ClD (E : List Nat) (s m : Nat) : Prop := ∀ k, s ≤ k → k < 64 → (∃ j ∈ blF (E.getD k 0) s, j = s ∨ Dst E s m j ≠ 65) → Dst E s m k ≠ 65
def metB (E : List Nat) (s m : Nat) (k : Nat) : Bool := Dst E s m k != 65
theorem cnt_lt {m m' : Nat → Bool} (hle : ∀ k, m k = true → m' k = true) {c : Nat} (h0 : m c = false) (h1 : m' c = true) : ∀ n, ((List.range n).filter m).length + (if c < n then 1 else 0) ≤ ((List.range n).filter m').length
  | 0 => by simp
  | n + 1 => by
    have ih := cnt_lt hle h0 h1 n
    have e1 : ((List.range (n + 1)).filter m).length = ((List.range n).filter m).length + (if m n = true then 1 else 0) := by
      rw [List.range_succ, List.filter_append, List.length_append]
      cases q : m n <;> simp [List.filter_cons, q]
    have e2 : ((List.range (n + 1)).filter m').length = ((List.range n).filter m').length + (if m' n = true then 1 else 0) := by
      rw [List.range_succ, List.filter_append, List.length_append]
      cases q : m' n <;> simp [List.filter_cons, q]
    rw [e1, e2]
    by_cases hc : c = n
    · subst hc
      rw [if_neg (Nat.lt_irrefl c)] at ih
      rw [if_pos (Nat.lt_succ_self c), h0, h1]
      simp; omega
    · have : (if c < n + 1 then 1 else 0) = if c < n then 1 else 0 := by
        by_cases q : c < n
        · rw [if_pos q, if_pos (by omega)]
        · rw [if_neg q, if_neg (by omega)]
      rw [this]
      by_cases q : m n = true
      · rw [if_pos q, if_pos (hle n q)]; omega
      · rw [if_neg q]; omega
theorem Dst_grow {E : List Nat} {s m k : Nat} (h : Dst E s m k ≠ 65) : Dst E s (m + 1) k ≠ 65 := by
  rw [Dst_up (Nat.le_succ m) rfl h]; exact h
theorem Dst_at {E : List Nat} {s j m : Nat} (h : Dst E s m j ≠ 65) : Dst E s (Dst E s m j) j = Dst E s m j := by
  obtain ⟨h1, q, h2, h3, h4, h5⟩ := Dst_when rfl h
  have : Dst E s (q + 1) j = q + 1 := by rw [Dst_succ, if_pos ⟨h1, h5, h4⟩]
  rw [h2]; exact this
theorem ClD_step {E : List Nat} {s m : Nat} (h : ClD E s m) (hm : m ≤ 64) {k : Nat} (hk : k < 64) : Dst E s (m + 1) k = Dst E s m k := by
  rw [Dst_succ]
  split
  · rename_i hc
    obtain ⟨h1, h2, h3⟩ := hc
    rw [List.any_eq_true] at h3
    obtain ⟨j, hj, hh⟩ := h3
    exfalso
    refine h k h1 hk ⟨j, hj, ?_⟩ h2
    unfold hitK at hh
    simp only [Bool.or_eq_true, Bool.and_eq_true, beq_iff_eq, bne_iff_ne, ne_eq] at hh
    rcases hh with ⟨hh, _⟩ | ⟨hh, hd⟩
    · exact .inl hh
    · right
      intro z
      omega
  · rfl
theorem ClD_or {E : List Nat} {s : Nat} : ∀ m, m ≤ 64 → ClD E s m ∨ m ≤ ((List.range 64).filter (metB E s m)).length
  | 0, _ => .inr (Nat.zero_le _)
  | m + 1, hm => by
    by_cases hc : ClD E s m
    · left
      intro k h1 h2 ⟨j, hj, hh⟩
      have hj64 : j < 64 := ((bl_mem _ _).1 (List.mem_filter.1 hj).1).1
      rw [ClD_step hc (by omega) h2]
      refine hc k h1 h2 ⟨j, hj, ?_⟩
      rcases hh with hh | hh
      · exact .inl hh
      · right; rwa [ClD_step hc (by omega) hj64] at hh
    · right
      have ih : m ≤ ((List.range 64).filter (metB E s m)).length := by
        rcases ClD_or (E := E) (s := s) m (by omega) with h | h
        · exact absurd h hc
        · exact h
      obtain ⟨k, h1, h2, j, hj, hh, h65⟩ : ∃ k, s ≤ k ∧ k < 64 ∧ ∃ j ∈ blF (E.getD k 0) s, (j = s ∨ Dst E s m j ≠ 65) ∧ Dst E s m k = 65 := by
        apply Classical.byContradiction
        intro q
        refine hc fun k a1 a2 ⟨j, b1, b2⟩ b3 => q ⟨k, a1, a2, j, b1, b2, b3⟩
      have hjs : s ≤ j := by simpa using (List.mem_filter.1 hj).2
      have key : ∀ r, r ≤ m → hitK s (r + 1) (Dst E s r) j = true → Dst E s (m + 1) k ≠ 65 := by
        intro r hr hit
        have hany : (blF (E.getD k 0) s).any (hitK s (r + 1) (Dst E s r)) = true := List.any_eq_true.2 ⟨j, hj, hit⟩
        have hne : Dst E s (r + 1) k ≠ 65 := by
          rw [Dst_succ]
          split
          · omega
          · rename_i hcn
            intro z
            exact hcn ⟨h1, z, hany⟩
        rw [Dst_up (show r + 1 ≤ m + 1 by omega) rfl hne]; exact hne
      have hnew : Dst E s (m + 1) k ≠ 65 := by
        by_cases hjs' : j = s
        · exact key 0 (Nat.zero_le _) (by unfold hitK; simp [hjs'])
        · have hd : Dst E s m j ≠ 65 := by
            rcases hh with hh | hh
            · exact absurd hh hjs'
            · exact hh
          have hle := Dst_le E s j m
          have ha := Dst_at hd
          refine key (Dst E s m j) (by omega) ?_
          unfold hitK
          have : (j != s) = true := by simp [hjs']
          rw [this, ha]
          simp
      have := cnt_lt (m := metB E s m) (m' := metB E s (m + 1)) (fun x hx => by
        unfold metB at hx ⊢
        simp only [bne_iff_ne, ne_eq] at hx ⊢
        exact Dst_grow hx) (c := k) (by unfold metB; simp [h65]) (by unfold metB; simp [hnew]) 64
      rw [if_pos h2] at this
      omega
theorem ClD_64 (E : List Nat) (s : Nat) : ClD E s 64 := by
  rcases ClD_or (E := E) (s := s) 64 (Nat.le_refl _) with h | h
  · exact h
  · intro k _ hk _
    have hle := List.length_filter_le (metB E s 64) (List.range 64)
    have h64 : (List.range 64).length = 64 := List.length_range
    have hall := List.length_filter_eq_length_iff.1 (show ((List.range 64).filter (metB E s 64)).length = (List.range 64).length by omega)
    have := hall k (List.mem_range.2 hk)
    unfold metB at this
    simpa using this
theorem ex_min {p : Nat → Prop} : ∀ n, p n → ∃ m, p m ∧ ∀ k, p k → m ≤ k := by
  intro n
  induction n using Nat.strongRecOn with
  | ind n ih =>
    intro hn
    by_cases h : ∃ k, k < n ∧ p k
    · obtain ⟨k, hk, hp⟩ := h
      exact ih k hk hp
    · exact ⟨n, hn, fun k hk => by
        apply Classical.byContradiction
        intro q
        exact h ⟨k, by omega, hk⟩⟩
/-- Who reaches himself lies on a ring that the code counts. -/
theorem rch_dst {E : List Nat} {L : List Edg} (G : GR E L) {n : Nat} (h : Rch L n n) : ∃ s, s < 64 ∧ Dst E s 64 s ≠ 65 := by
  obtain ⟨s, ⟨h1, h2⟩, hmin⟩ := ex_min (p := fun k => Rch L n k ∧ Rch L k n) n ⟨h, h⟩
  have hs : s < 64 := h1.lt G
  refine ⟨s, hs, ?_⟩
  have hss : Rch L s s := h2.trans h1
  have cl := ClD_64 E s
  have hC : ∀ i, Rch L s i → Rch L i s → s ≤ i := fun i a b => hmin i ⟨h1.trans a, b.trans h2⟩
  have key : ∀ j, Rch L s j → (j = s ∨ (Rch L j s ∧ Dst E s 64 j ≠ 65)) → Dst E s 64 s ≠ 65 := by
    intro j hj
    induction hj with
    | one j he =>
      intro hd
      have hsj : s ≤ j := by
        rcases hd with hd | hd
        · omega
        · exact hC j (.one j he) hd.1
      exact cl s (Nat.le_refl _) hs ⟨j, mem_blF G he hsj, by
        rcases hd with hd | hd
        · exact .inl hd
        · exact .inr hd.2⟩
    | more i j hi he ih =>
      intro hd
      have hjs : Rch L i s := by
        rcases hd with hd | hd
        · subst hd; exact .one _ he
        · exact Rch.cons he hd.1
      have hsj : s ≤ j := by
        rcases hd with hd | hd
        · omega
        · exact hC j (.more i j hi he) hd.1
      have hsi := hC i hi hjs
      have hi64 : i < 64 := hi.lt G
      have hdi : Dst E s 64 i ≠ 65 := cl i hsi hi64 ⟨j, mem_blF G he hsj, by
        rcases hd with hd | hd
        · exact .inl hd
        · exact .inr hd.2⟩
      exact ih (.inr ⟨hjs, hdi⟩)
  exact key s hss (.inl rfl)
/-- The least way, of all. -/
theorem bst_min (E : List Nat) : ∀ n s, s < n → (bst E n).1 ≤ Dst E s 64 s
  | 0, s, h => by omega
  | n + 1, s, h => by
    rw [bst_succ]
    split
    · rename_i hc
      by_cases hs : s = n
      · subst hs; exact Nat.le_refl _
      · have := bst_min E n s (by omega)
        simp only; omega
    · rename_i hc
      by_cases hs : s = n
      · subst hs; omega
      · exact bst_min E n s (by omega)
theorem bst_eq (E : List Nat) : ∀ n, (bst E n).1 ≠ 65 → Dst E (bst E n).2 64 (bst E n).2 = (bst E n).1
  | 0, h => absurd rfl h
  | n + 1, h => by
    rw [bst_succ] at h ⊢
    split
    · rfl
    · rename_i hc
      rw [if_neg hc] at h
      exact bst_eq E n h
/-- A ring, just if some node reaches itself. -/
theorem ring_iff {E : List Nat} {L : List Edg} (G : GR E L) : (bst E 64).1 ≠ 65 ↔ ∃ n, n < 64 ∧ Rch L n n := by
  constructor
  · intro h
    have h1 := bst_eq E 64 h
    have h2 : (bst E 64).2 < 64 := by
      obtain ⟨_, _, _, h4⟩ := bst_le E 64
      omega
    exact ⟨_, h2, Dst_rch G 64 _ (Nat.le_refl _) h2 (by rw [h1]; exact h)⟩
  · rintro ⟨n, hn, hr⟩
    obtain ⟨s, hs, hd⟩ := rch_dst G hr
    have := bst_min E 64 s hs
    have hle := Dst_le E s s 64
    omega
end Go.AM
