/- Waiting graphs: rings and who reaches himself: mathematics. Conditions: none. -/
import Derived.Test.YtdokijbheholdaaDoorWi7
import Derived.Test.YtdokijbheholdaaDoorWj5
import Derived.Test.YtdokijbheholdaaDoorDict
set_option linter.unusedVariables false
set_option linter.unusedSimpArgs false
set_option maxRecDepth 100000
namespace Go.AM
open Go.Proofs Go.Lib
theorem Rch.cons {L : List Edg} {a k s : Nat} (h : (⟨a, k⟩ : Edg) ∈ L) (hr : Rch L k s) : Rch L a s := by
  induction hr with
  | one s h2 => exact .more k s (.one k h) h2
  | more j s _ h2 ih => exact .more j s ih h2
theorem Rch.trans {L : List Edg} {a b c : Nat} (h1 : Rch L a b) (h2 : Rch L b c) : Rch L a c := by
  induction h2 with
  | one c h => exact .more b c h1 h
  | more j c _ h ih => exact .more j c ih h
theorem edge_of {E : List Nat} {L : List Edg} (G : GR E L) {n k s : Nat} (hn : n < 64) (h : k ∈ blF (E.getD n 0) s) : (⟨n, k⟩ : Edg) ∈ L ∧ s ≤ k ∧ k < 64 := by
  obtain ⟨h1, h2⟩ := List.mem_filter.1 h
  obtain ⟨h3, h4⟩ := (bl_mem _ _).1 h1
  exact ⟨(G.bit n k hn h3).1 h4, by simpa using h2, h3⟩
theorem mem_blF {E : List Nat} {L : List Edg} (G : GR E L) {n k s : Nat} (h : (⟨n, k⟩ : Edg) ∈ L) (hs : s ≤ k) : k ∈ blF (E.getD n 0) s := by
  obtain ⟨h1, h2⟩ := G.node h
  exact List.mem_filter.2 ⟨(bl_mem _ _).2 ⟨h2, (G.bit n k h1 h2).2 h⟩, by simpa using hs⟩
/-- When a way was found. -/
theorem Dst_when {E : List Nat} {s n : Nat} : ∀ {m r : Nat}, Dst E s m n = r → r ≠ 65 → s ≤ n ∧ ∃ q, r = q + 1 ∧ q + 1 ≤ m ∧ (blF (E.getD n 0) s).any (hitK s (q + 1) (Dst E s q)) = true ∧ Dst E s q n = 65
  | 0, r, h, hr => absurd h.symm hr
  | m + 1, r, h, hr => by
    rw [Dst_succ] at h
    split at h
    · rename_i hc
      exact ⟨hc.1, m, h.symm, Nat.le_refl _, hc.2.2, hc.2.1⟩
    · obtain ⟨h1, q, h2, h3, h4⟩ := Dst_when h hr
      exact ⟨h1, q, h2, by omega, h4⟩
theorem Dst_up {E : List Nat} {s n m m' r : Nat} (hm : m ≤ m') (h : Dst E s m n = r) (hr : r ≠ 65) : Dst E s m' n = r := by
  have := Dst_stay h hr (m' - m)
  rwa [Nat.add_sub_cancel' hm] at this
/-- A way leads back. -/
theorem Dst_rch {E : List Nat} {L : List Edg} (G : GR E L) {s : Nat} : ∀ (m n : Nat), m ≤ 64 → n < 64 → Dst E s m n ≠ 65 → Rch L n s
  | 0, n, _, _, h => absurd rfl h
  | m + 1, n, hm, hn, h => by
    obtain ⟨h1, q, h2, h3, h4, _⟩ := Dst_when rfl h
    rw [List.any_eq_true] at h4
    obtain ⟨k, hk, hh⟩ := h4
    obtain ⟨e1, e2, e3⟩ := edge_of G hn hk
    unfold hitK at hh
    simp only [Bool.or_eq_true, Bool.and_eq_true, beq_iff_eq, bne_iff_ne, ne_eq] at hh
    rcases hh with ⟨hh, _⟩ | ⟨hh, hd⟩
    · subst hh; exact .one _ e1
    · have hd' : Dst E s q k = q := by simpa using hd
      have hup := Dst_up (m' := m) (by omega) hd' (by omega)
      exact Rch.cons e1 (Dst_rch G m k (by omega) e3 (by rw [hup]; omega))
/-- No more is met: whoever has an edge to one that is met is met. -/
def ClD (E : List Nat) (s m : Nat) : Prop := ∀ k, s ≤ k → k < 64 → (∃ j ∈ blF (E.getD k 0) s, j = s ∨ Dst E s m j ≠ 65) → Dst E s m k ≠ 65
def metB (E : List Nat) (s m : Nat) (k : Nat) : Bool := Dst E s m k != 65
theorem cnt_lt {m m' : Nat → Bool} (hle : ∀ k, m k = true → m' k = true) {c : Nat} (h0 : m c = false) (h1 : m' c = true) : ∀ n, ((List.range n).filter m).length + (if c < n then 1 else 0) ≤ ((List.range n).filter m').length
  | 0 => by simp
  | n + 1 => by
    have ih := cnt_lt hle h0 h1 n
    have e1 : ((List.range (n + 1)).filter m).length = ((List.range n).filter m).length + (if m n = true then 1 else 0) := by
      rw [List.range_succ, List.filter_append, List.length_append]
      cases q : m n <;> simp [List.filter_cons, q]
    have e2 : ((List.range (n + 1)).filter m').length = ((List.range n).filter m').length + (if m' n = true then 1 else 0) := by
      rw [List.range_succ, List.filter_append, List.length_append]
      cases q : m' n <;> simp [List.filter_cons, q]
    rw [e1, e2]
    by_cases hc : c = n
    · subst hc
      rw [if_neg (Nat.lt_irrefl c)] at ih
      rw [if_pos (Nat.lt_succ_self c), h0, h1]
      simp; omega
    · have : (if c < n + 1 then 1 else 0) = if c < n then 1 else 0 := by
        by_cases q : c < n
        · rw [if_pos q, if_pos (by omega)]
        · rw [if_neg q, if_neg (by omega)]
      rw [this]
      by_cases q : m n = true
      · rw [if_pos q, if_pos (hle n q)]; omega
      · rw [if_neg q]; omega
theorem Dst_grow {E : List Nat} {s m k : Nat} (h : Dst E s m k ≠ 65) : Dst E s (m + 1) k ≠ 65 := by
  rw [Dst_up (Nat.le_succ m) rfl h]; exact h
theorem Dst_at {E : List Nat} {s j m : Nat} (h : Dst E s m j ≠ 65) : Dst E s (Dst E s m j) j = Dst E s m j := by
  obtain ⟨h1, q, h2, h3, h4, h5⟩ := Dst_when rfl h
  have : Dst E s (q + 1) j = q + 1 := by rw [Dst_succ, if_pos ⟨h1, h5, h4⟩]
  rw [h2]; exact this
theorem ClD_step {E : List Nat} {s m : Nat} (h : ClD E s m) (hm : m ≤ 64) {k : Nat} (hk : k < 64) : Dst E s (m + 1) k = Dst E s m k := by
  rw [Dst_succ]
  split
  · rename_i hc
    obtain ⟨h1, h2, h3⟩ := hc
    rw [List.any_eq_true] at h3
    obtain ⟨j, hj, hh⟩ := h3
    exfalso
    refine h k h1 hk ⟨j, hj, ?_⟩ h2
    unfold hitK at hh
    simp only [Bool.or_eq_true, Bool.and_eq_true, beq_iff_eq, bne_iff_ne, ne_eq] at hh
    rcases hh with ⟨hh, _⟩ | ⟨hh, hd⟩
    · exact .inl hh
    · right
      intro z
      omega
  · rfl
theorem ClD_or {E : List Nat} {s : Nat} : ∀ m, m ≤ 64 → ClD E s m ∨ m ≤ ((List.range 64).filter (metB E s m)).length
  | 0, _ => .inr (Nat.zero_le _)
  | m + 1, hm => by
    by_cases hc : ClD E s m
    · left
      intro k h1 h2 ⟨j, hj, hh⟩
      have hj64 : j < 64 := ((bl_mem _ _).1 (List.mem_filter.1 hj).1).1
      rw [ClD_step hc (by omega) h2]
      refine hc k h1 h2 ⟨j, hj, ?_⟩
      rcases hh with hh | hh
      · exact .inl hh
      · right; rwa [ClD_step hc (by omega) hj64] at hh
    · right
      have ih : m ≤ ((List.range 64).filter (metB E s m)).length := by
        rcases ClD_or (E := E) (s := s) m (by omega) with h | h
        · exact absurd h hc
        · exact h
      obtain ⟨k, h1, h2, j, hj, hh, h65⟩ : ∃ k, s ≤ k ∧ k < 64 ∧ ∃ j ∈ blF (E.getD k 0) s, (j = s ∨ Dst E s m j ≠ 65) ∧ Dst E s m k = 65 := by
        apply Classical.byContradiction
        intro q
        refine hc fun k a1 a2 ⟨j, b1, b2⟩ b3 => q ⟨k, a1, a2, j, b1, b2, b3⟩
      have hjs : s ≤ j := by simpa using (List.mem_filter.1 hj).2
      have key : ∀ r, r ≤ m → hitK s (r + 1) (Dst E s r) j = true → Dst E s (m + 1) k ≠ 65 := by
        intro r hr hit
        have hany : (blF (E.getD k 0) s).any (hitK s (r + 1) (Dst E s r)) = true := List.any_eq_true.2 ⟨j, hj, hit⟩
        have hne : Dst E s (r + 1) k ≠ 65 := by
          rw [Dst_succ]
          split
          · omega
          · rename_i hcn
            intro z
            exact hcn ⟨h1, z, hany⟩
        rw [Dst_up (show r + 1 ≤ m + 1 by omega) rfl hne]; exact hne
      have hnew : Dst E s (m + 1) k ≠ 65 := by
        by_cases hjs' : j = s
        · exact key 0 (Nat.zero_le _) (by unfold hitK; simp [hjs'])
        · have hd : Dst E s m j ≠ 65 := by
            rcases hh with hh | hh
            · exact absurd hh hjs'
            · exact hh
          have hle := Dst_le E s j m
          have ha := Dst_at hd
          refine key (Dst E s m j) (by omega) ?_
          unfold hitK
          have : (j != s) = true := by simp [hjs']
          rw [this, ha]
          simp
      have := cnt_lt (m := metB E s m) (m' := metB E s (m + 1)) (fun x hx => by
        unfold metB at hx ⊢
        simp only [bne_iff_ne, ne_eq] at hx ⊢
        exact Dst_grow hx) (c := k) (by unfold metB; simp [h65]) (by unfold metB; simp [hnew]) 64
      rw [if_pos h2] at this
      omega
theorem ClD_64 (E : List Nat) (s : Nat) : ClD E s 64 := by
  rcases ClD_or (E := E) (s := s) 64 (Nat.le_refl _) with h | h
  · exact h
  · intro k _ hk _
    have hle := List.length_filter_le (metB E s 64) (List.range 64)
    have h64 : (List.range 64).length = 64 := List.length_range
    have hall := List.length_filter_eq_length_iff.1 (show ((List.range 64).filter (metB E s 64)).length = (List.range 64).length by omega)
    have := hall k (List.mem_range.2 hk)
    unfold metB at this
    simpa using this
theorem ex_min {p : Nat → Prop} : ∀ n, p n → ∃ m, p m ∧ ∀ k, p k → m ≤ k := by
  intro n
  induction n using Nat.strongRecOn with
  | ind n ih =>
    intro hn
    by_cases h : ∃ k, k < n ∧ p k
    · obtain ⟨k, hk, hp⟩ := h
      exact ih k hk hp
    · exact ⟨n, hn, fun k hk => by
        apply Classical.byContradiction
        intro q
        exact h ⟨k, by omega, hk⟩⟩
/-- Who reaches himself lies on a ring that the code counts. -/
theorem rch_dst {E : List Nat} {L : List Edg} (G : GR E L) {n : Nat} (h : Rch L n n) : ∃ s, s < 64 ∧ Dst E s 64 s ≠ 65 := by
  obtain ⟨s, ⟨h1, h2⟩, hmin⟩ := ex_min (p := fun k => Rch L n k ∧ Rch L k n) n ⟨h, h⟩
  have hs : s < 64 := h1.lt G
  refine ⟨s, hs, ?_⟩
  have hss : Rch L s s := h2.trans h1
  have cl := ClD_64 E s
  have hC : ∀ i, Rch L s i → Rch L i s → s ≤ i := fun i a b => hmin i ⟨h1.trans a, b.trans h2⟩
  have key : ∀ j, Rch L s j → (j = s ∨ (Rch L j s ∧ Dst E s 64 j ≠ 65)) → Dst E s 64 s ≠ 65 := by
    intro j hj
    induction hj with
    | one j he =>
      intro hd
      have hsj : s ≤ j := by
        rcases hd with hd | hd
        · omega
        · exact hC j (.one j he) hd.1
      exact cl s (Nat.le_refl _) hs ⟨j, mem_blF G he hsj, by
        rcases hd with hd | hd
        · exact .inl hd
        · exact .inr hd.2⟩
    | more i j hi he ih =>
      intro hd
      have hjs : Rch L i s := by
        rcases hd with hd | hd
        · subst hd; exact .one _ he
        · exact Rch.cons he hd.1
      have hsj : s ≤ j := by
        rcases hd with hd | hd
        · omega
        · exact hC j (.more i j hi he) hd.1
      have hsi := hC i hi hjs
      have hi64 : i < 64 := hi.lt G
      have hdi : Dst E s 64 i ≠ 65 := cl i hsi hi64 ⟨j, mem_blF G he hsj, by
        rcases hd with hd | hd
        · exact .inl hd
        · exact .inr hd.2⟩
      exact ih (.inr ⟨hjs, hdi⟩)
  exact key s hss (.inl rfl)
/-- The least way, of all. -/
theorem bst_min (E : List Nat) : ∀ n s, s < n → (bst E n).1 ≤ Dst E s 64 s
  | 0, s, h => by omega
  | n + 1, s, h => by
    rw [bst_succ]
    split
    · rename_i hc
      by_cases hs : s = n
      · subst hs; exact Nat.le_refl _
      · have := bst_min E n s (by omega)
        simp only; omega
    · rename_i hc
      by_cases hs : s = n
      · subst hs; omega
      · exact bst_min E n s (by omega)
theorem bst_eq (E : List Nat) : ∀ n, (bst E n).1 ≠ 65 → Dst E (bst E n).2 64 (bst E n).2 = (bst E n).1
  | 0, h => absurd rfl h
  | n + 1, h => by
    rw [bst_succ] at h ⊢
    split
    · rfl
    · rename_i hc
      rw [if_neg hc] at h
      exact bst_eq E n h
/-- A ring, just if some node reaches itself. -/
theorem ring_iff {E : List Nat} {L : List Edg} (G : GR E L) : (bst E 64).1 ≠ 65 ↔ ∃ n, n < 64 ∧ Rch L n n := by
  constructor
  · intro h
    have h1 := bst_eq E 64 h
    have h2 : (bst E 64).2 < 64 := by
      obtain ⟨_, _, _, h4⟩ := bst_le E 64
      omega
    exact ⟨_, h2, Dst_rch G 64 _ (Nat.le_refl _) h2 (by rw [h1]; exact h)⟩
  · rintro ⟨n, hn, hr⟩
    obtain ⟨s, hs, hd⟩ := rch_dst G hr
    have := bst_min E 64 s hs
    have hle := Dst_le E s s 64
    omega
end Go.AM
/- Waiting graphs: the ring's edges; orders: mathematics. Conditions: none. -/
set_option linter.unusedVariables false
set_option linter.unusedSimpArgs false
set_option maxRecDepth 100000
namespace Go.AM
open Go.Proofs Go.Lib
theorem Dst_next {E : List Nat} {L : List Edg} (G : GR E L) {s n m : Nat} (hn : n < 64) (h : Dst E s 64 n = m + 2) (hm : m + 2 ≠ 65) : ∃ k ∈ blF (E.getD n 0) s, stepP E s (m + 1) k = true := by
  obtain ⟨h1, q, h2, h3, h4, _⟩ := Dst_when h hm
  rw [List.any_eq_true] at h4
  obtain ⟨k, hk, hh⟩ := h4
  obtain rfl : q = m + 1 := by omega
  unfold hitK at hh
  simp only [Bool.or_eq_true, Bool.and_eq_true, beq_iff_eq, bne_iff_ne, ne_eq] at hh
  rcases hh with ⟨_, hh⟩ | ⟨hh, hd⟩
  · omega
  · have hd' : Dst E s (m + 1) k = m + 1 := by simpa using hd
    have hup := Dst_up (m' := 64) (by omega) hd' (by omega)
    exact ⟨k, hk, by unfold stepP; simp [hh, hup]⟩
theorem Dst_last {E : List Nat} {L : List Edg} (G : GR E L) {s n : Nat} (hn : n < 64) (h : Dst E s 64 n = 1) : (⟨n, s⟩ : Edg) ∈ L := by
  obtain ⟨h1, q, h2, h3, h4, _⟩ := Dst_when h (by omega)
  rw [List.any_eq_true] at h4
  obtain ⟨k, hk, hh⟩ := h4
  obtain rfl : q = 0 := by omega
  unfold hitK at hh
  simp only [Bool.or_eq_true, Bool.and_eq_true, beq_iff_eq, bne_iff_ne, ne_eq] at hh
  rcases hh with ⟨hh, _⟩ | ⟨hh, hd⟩
  · subst hh; exact (edge_of G hn hk).1
  · have : Dst E s 0 k = 65 := rfl
    rw [this] at hd
    omega
theorem gw_facts {E : List Nat} {L : List Edg} (G : GR E L) {s : Nat} : ∀ (m n : Nat), n < 64 → s ≤ n → Dst E s 64 n = m + 1 → m + 1 ≠ 65 →
    (n :: gwalk E s m n).length = m + 1 ∧ (∀ (i a b : Nat), (n :: gwalk E s m n)[i]? = some a → (n :: gwalk E s m n)[i + 1]? = some b → (⟨a, b⟩ : Edg) ∈ L) ∧ (∀ a : Nat, (n :: gwalk E s m n)[m]? = some a → (⟨a, s⟩ : Edg) ∈ L) ∧ ∀ x ∈ n :: gwalk E s m n, s ≤ x ∧ x < 64
  | 0, n, hn, hs, h, _ => by
    have hl := Dst_last G hn h
    refine ⟨rfl, fun i a b h1 h2 => ?_, fun a ha => ?_, fun x hx => ?_⟩
    · simp [gwalk] at h2
    · obtain rfl : n = a := Option.some.inj ha
      exact hl
    · obtain rfl : x = n := by simpa [gwalk] using hx
      exact ⟨hs, hn⟩
  | m + 1, n, hn, hs, h, hm => by
    obtain ⟨k0, hk0, hp0⟩ := Dst_next G hn h hm
    have hf : ((blF (E.getD n 0) s).find? (stepP E s (m + 1))).isSome = true := by
      rw [List.find?_isSome]; exact ⟨k0, hk0, hp0⟩
    obtain ⟨k, hk⟩ := Option.isSome_iff_exists.1 hf
    have hkm := List.mem_of_find?_eq_some hk
    have hkp := List.find?_some hk
    have hg : gwalk E s (m + 1) n = k :: gwalk E s m k := by
      show (match (blF (E.getD n 0) s).find? (stepP E s (m + 1)) with | some k => k :: gwalk E s m k | none => []) = _
      rw [hk]
    obtain ⟨e1, e2, e3⟩ := edge_of G hn hkm
    unfold stepP at hkp
    simp only [Bool.and_eq_true, bne_iff_ne, ne_eq, beq_iff_eq] at hkp
    have hdn := Dst_le E s n 64
    obtain ⟨i1, i2, i3, i4⟩ := gw_facts G m k e3 e2 hkp.2 (by omega)
    rw [hg]
    refine ⟨by rw [List.length_cons, i1], fun i a b h1 h2 => ?_, fun a ha => i3 a (by simpa using ha), fun x hx => ?_⟩
    · cases i with
      | zero =>
        obtain rfl : n = a := Option.some.inj h1
        obtain rfl : k = b := by simpa using h2
        exact e1
      | succ i => exact i2 i a b (by simpa using h1) (by simpa using h2)
    · rcases List.mem_cons.1 hx with rfl | hx
      · exact ⟨hs, hn⟩
      · exact i4 x hx
/-- A ring's edges; its first node is the least. -/
theorem ring_facts {E : List Nat} {L : List Edg} (G : GR E L) (h : (bst E 64).1 ≠ 65) : ∃ f r, ringV E = f :: r ∧ (∀ (i a b : Nat), (f :: r)[i]? = some a → (f :: r)[(i + 1) % (f :: r).length]? = some b → (⟨a, b⟩ : Edg) ∈ L) ∧ ∀ x ∈ f :: r, f ≤ x ∧ x < 64 := by
  have h1 := bst_eq E 64 h
  obtain ⟨b1, b2, b3, b4⟩ := bst_le E 64
  have hf : (bst E 64).2 < 64 := by omega
  have hR : ringV E = (bst E 64).2 :: gwalk E (bst E 64).2 ((bst E 64).1 - 1) (bst E 64).2 := by unfold ringV; rw [if_neg h]
  generalize bst E 64 = p at *
  obtain ⟨b, f⟩ := p
  simp only at h h1 b1 b2 b3 hf hR
  obtain ⟨m, rfl⟩ : ∃ m, b = m + 1 := ⟨b - 1, by omega⟩
  obtain ⟨i1, i2, i3, i4⟩ := gw_facts G m f hf (Nat.le_refl _) h1 h
  rw [Nat.add_sub_cancel] at hR
  refine ⟨f, _, hR, fun i a b ha hb => ?_, i4⟩
  have hi : i < m + 1 := by rw [← i1]; exact (List.getElem?_eq_some_iff.1 ha).1
  rw [i1] at hb
  by_cases hlast : i = m
  · subst hlast
    rw [Nat.mod_self] at hb
    obtain rfl : f = b := Option.some.inj hb
    exact i3 a ha
  · rw [Nat.mod_eq_of_lt (by omega)] at hb
    exact i2 i a b ha hb
theorem allE_bit (E : List Nat) (k : Nat) : ∀ n, (allE E n).testBit k = true ↔ ∃ i, i < n ∧ E.getD i 0 ≠ 0 ∧ ((E.getD i 0).testBit k = true ∨ i = k)
  | 0 => by simp [allE]
  | n + 1 => by
    have ih := allE_bit E k n
    unfold allE
    split
    · rename_i h0
      rw [ih]
      constructor
      · rintro ⟨i, h1, h2⟩; exact ⟨i, by omega, h2⟩
      · rintro ⟨i, h1, h2, h3⟩
        by_cases hi : i = n
        · subst hi; exact absurd h0 h2
        · exact ⟨i, by omega, h2, h3⟩
    · rename_i h0
      rw [Nat.testBit_or, Nat.testBit_or, Bool.or_eq_true, Bool.or_eq_true, ih, Nat.testBit_two_pow, decide_eq_true_eq]
      constructor
      · rintro ((⟨i, h1, h2⟩ | h) | h)
        · exact ⟨i, by omega, h2⟩
        · exact ⟨n, by omega, h0, .inl h⟩
        · exact ⟨n, by omega, h0, .inr h⟩
      · rintro ⟨i, h1, h2, h3⟩
        by_cases hi : i = n
        · subst hi
          rcases h3 with h3 | h3
          · exact .inl (.inr h3)
          · exact .inr h3
        · exact .inl (.inl ⟨i, by omega, h2, h3⟩)
theorem all_mem {E : List Nat} {L : List Edg} (G : GR E L) {a b : Nat} (h : (⟨a, b⟩ : Edg) ∈ L) : a ∈ bl (allE E 64) ∧ b ∈ bl (allE E 64) := by
  obtain ⟨h1, h2⟩ := G.node h
  have hb := (G.bit a b h1 h2).2 h
  have hne : E.getD a 0 ≠ 0 := fun z => by rw [z] at hb; simp at hb
  exact ⟨(bl_mem _ _).2 ⟨h1, (allE_bit E a 64).2 ⟨a, h1, hne, .inr rfl⟩⟩, (bl_mem _ _).2 ⟨h2, (allE_bit E b 64).2 ⟨a, h1, hne, .inl hb⟩⟩⟩
/-- What holds while the order is laid. -/
structure OInv (L : List Edg) (out left : List Nat) (done : Nat) : Prop where
  dlt : done < 18446744073709551616
  bit : ∀ k, done.testBit k = true ↔ k ∈ out
  nd : (out ++ left).Nodup
  lt : ∀ k ∈ left, k < 64
  ord : ∀ (i n : Nat), out[i]? = some n → ∀ k : Nat, (⟨n, k⟩ : Edg) ∈ L → k ∈ out.take i
theorem okP_iff {E : List Nat} {L : List Edg} (G : GR E L) {out left : List Nat} {done : Nat} (H : OInv L out left done) {n : Nat} (hn : n < 64) : okP E done n = true ↔ ∀ k : Nat, (⟨n, k⟩ : Edg) ∈ L → k ∈ out := by
  unfold okP
  rw [decide_eq_true_eq]
  have hb := less_bit (G.lt n) H.dlt
  constructor
  · intro h k hk
    have h1 := hb k
    rw [h, Nat.zero_testBit, (G.bit n k hn (G.node hk).2).2 hk] at h1
    cases hd : done.testBit k
    · rw [hd] at h1; cases h1
    · exact (H.bit k).1 hd
  · intro h
    apply Nat.eq_of_testBit_eq
    intro k
    rw [hb, Nat.zero_testBit]
    cases hq : (E.getD n 0).testBit k
    · rfl
    · have hk := (G.bit n k hn (testBit_lt (G.lt n) hq)).1 hq
      rw [(H.bit k).2 (h k hk)]; rfl
theorem cons_erase {l : List Nat} {i : Nat} (hi : i < l.length) : (l[i] :: l.eraseIdx i).Perm l := by
  rw [List.eraseIdx_eq_take_drop_succ]
  have h : l = l.take i ++ l[i] :: l.drop (i + 1) := by rw [← List.drop_eq_getElem_cons hi, List.take_append_drop]
  exact (List.perm_middle.symm).trans (List.Perm.of_eq h.symm)
theorem OInv.step {E : List Nat} {L : List Edg} (G : GR E L) {out left : List Nat} {done i n : Nat} (H : OInv L out left done) (hi : left[i]? = some n) (hok : okP E done n = true) : OInv L (out ++ [n]) (left.eraseIdx i) (done ||| 2 ^ n) := by
  have hn := H.lt n (List.mem_of_getElem? hi)
  have hil := (List.getElem?_eq_some_iff.1 hi).1
  have hall := (okP_iff G H hn).1 hok
  refine ⟨Nat.or_lt_two_pow (n := 64) H.dlt (two_lt hn), fun k => ?_, ?_, fun k hk => H.lt k (List.mem_of_mem_eraseIdx hk), fun j m hj k hk => ?_⟩
  · rw [Nat.testBit_or, Bool.or_eq_true, H.bit, Nat.testBit_two_pow, decide_eq_true_eq, List.mem_append, List.mem_singleton]
    exact or_congr_right eq_comm
  · have hp : (out ++ left).Perm ((out ++ [n]) ++ left.eraseIdx i) := by
      rw [List.append_assoc]
      refine List.Perm.append_left out ?_
      have : n = left[i] := by
        have := List.getElem?_eq_getElem hil
        rw [hi] at this
        exact Option.some.inj this
      rw [this]
      exact (cons_erase hil).symm
    exact hp.nodup_iff.1 H.nd
  · rcases Nat.lt_or_ge j out.length with h | h
    · rw [List.getElem?_append_left h] at hj
      rw [List.take_append_of_le_length (by omega)]
      exact H.ord j m hj k hk
    · rw [List.getElem?_append_right h] at hj
      have hj0 : j - out.length = 0 := by
        rcases Nat.eq_zero_or_pos (j - out.length) with z | z
        · exact z
        · rw [List.getElem?_eq_none (by simp; omega)] at hj; cases hj
      rw [hj0] at hj
      obtain rfl : n = m := by simpa using hj
      have hjl : j = out.length := by omega
      rw [hjl, List.take_append_of_le_length (Nat.le_refl _), List.take_length]
      exact hall k hk
theorem ord_facts {E : List Nat} {L : List Edg} (G : GR E L) : ∀ (m : Nat) (left out : List Nat) (done : Nat), left.length = m → OInv L out left done →
    (∀ res, ordV E m left done out = some res → (∃ d', OInv L res [] d') ∧ ∀ x, (x ∈ out ∨ x ∈ left) → x ∈ res) ∧
    (ordV E m left done out = none → ∃ out' left' d', OInv L out' left' d' ∧ left' ≠ [] ∧ (∀ k ∈ left', okP E d' k = false) ∧ ∀ x, (x ∈ out ∨ x ∈ left) → (x ∈ out' ∨ x ∈ left'))
  | 0, left, out, done, hl, H => by
    obtain rfl := List.eq_nil_of_length_eq_zero hl
    refine ⟨fun res hr => ?_, fun hr => by cases hr⟩
    obtain rfl : out = res := Option.some.inj hr
    exact ⟨⟨done, H⟩, fun x hx => by simpa using hx⟩
  | m + 1, left, out, done, hl, H => by
    cases hf : left.findIdx? (okP E done) with
    | none =>
      have hn : ordV E (m + 1) left done out = none := by
        show (match left.findIdx? (okP E done) with | some i => _ | none => none) = none
        rw [hf]
      rw [hn]
      refine ⟨fun res hr => (by cases hr), fun _ => ⟨out, left, done, H, fun z => by rw [z] at hl; simp at hl, fun k hk => ?_, fun x hx => hx⟩⟩
      have := List.findIdx?_eq_none_iff.1 hf k hk
      simpa using this
    | some i =>
      obtain ⟨hi, hok, _⟩ := List.findIdx?_eq_some_iff_getElem.1 hf
      have hgi : left[i]? = some left[i] := List.getElem?_eq_getElem hi
      have hgd : left.getD i 0 = left[i] := by rw [List.getD_eq_getElem?_getD, hgi]; rfl
      have hs : ordV E (m + 1) left done out = ordV E m (left.eraseIdx i) (done ||| 2 ^ left[i]) (out ++ [left[i]]) := by
        show (match left.findIdx? (okP E done) with | some i => ordV E m (left.eraseIdx i) (done ||| 2 ^ (left.getD i 0)) (out ++ [left.getD i 0]) | none => none) = _
        rw [hf]
        simp only [hgd]
      have H' := H.step G hgi hok
      obtain ⟨r1, r2⟩ := ord_facts G m (left.eraseIdx i) (out ++ [left[i]]) (done ||| 2 ^ left[i]) (by rw [List.length_eraseIdx_of_lt hi]; omega) H'
      have hmem : ∀ x, (x ∈ out ∨ x ∈ left) → (x ∈ out ++ [left[i]] ∨ x ∈ left.eraseIdx i) := by
        intro x hx
        rcases hx with hx | hx
        · exact .inl (List.mem_append_left _ hx)
        · have := (cons_erase hi).mem_iff.2 hx
          rcases List.mem_cons.1 this with q | q
          · exact .inl (by rw [q]; simp)
          · exact .inr q
      rw [hs]
      refine ⟨fun res hr => ?_, fun hr => ?_⟩
      · obtain ⟨a, b⟩ := r1 res hr
        exact ⟨a, fun x hx => b x (hmem x hx)⟩
      · obtain ⟨o', l', d', a, b, c, e⟩ := r2 hr
        exact ⟨o', l', d', a, b, c, fun x hx => e x (hmem x hx)⟩
/-- Where each has a next one, someone reaches himself. -/
theorem loop_ex {L : List Edg} : ∀ (m : Nat) (A : List Nat), A.length ≤ m → A ≠ [] → (∀ k ∈ A, ∃ j ∈ A, (⟨k, j⟩ : Edg) ∈ L) → ∃ n, Rch L n n
  | 0, A, hl, hne, _ => absurd (List.eq_nil_of_length_eq_zero (by omega)) hne
  | m + 1, A, hl, hne, H => by
    obtain ⟨k, hk⟩ : ∃ k, k ∈ A := List.exists_mem_of_ne_nil A hne
    by_cases hkk : Rch L k k
    · exact ⟨k, hkk⟩
    · obtain ⟨j, hj, hkj⟩ := H k hk
      obtain ⟨B, hB⟩ : ∃ B, B = A.filter fun x => @decide (Rch L k x) (Classical.propDecidable _) := ⟨_, rfl⟩
      have hmem : ∀ x, x ∈ B ↔ x ∈ A ∧ Rch L k x := fun x => by
        rw [hB, List.mem_filter]
        simp
      have hlt : B.length < A.length := by
        have hle := List.length_filter_le (fun x => @decide (Rch L k x) (Classical.propDecidable _)) A
        rw [← hB] at hle
        rcases Nat.lt_or_eq_of_le hle with h | h
        · exact h
        · exfalso
          rw [hB] at h
          have := List.length_filter_eq_length_iff.1 h k hk
          exact hkk (by simpa using this)
      refine loop_ex m B (by omega) (fun z => ?_) fun x hx => ?_
      · have : j ∈ B := (hmem j).2 ⟨hj, .one j hkj⟩
        rw [z] at this; cases this
      · obtain ⟨h1, h2⟩ := (hmem x).1 hx
        obtain ⟨y, hy, hxy⟩ := H x h1
        exact ⟨y, (hmem y).2 ⟨hy, .more x y h2 hxy⟩, hxy⟩
theorem ord_start {E : List Nat} {L : List Edg} (G : GR E L) : OInv L [] (bl (allE E 64)) 0 :=
  ⟨by omega, fun k => by simp, by
    rw [List.nil_append]
    unfold bl blN
    exact List.Pairwise.filter _ List.nodup_range, fun k hk => ((bl_mem _ _).1 hk).1, fun i n h => by simp at h⟩
def orderV (E : List Nat) : Option (List Nat) := ordV E (bl (allE E 64)).length (bl (allE E 64)) 0 []
/-- There is an order just if nobody reaches himself; in it each stands behind all to whom it has edges. -/
theorem order_some {E : List Nat} {L : List Edg} (G : GR E L) {res : List Nat} (h : orderV E = some res) : (∀ n, ¬ Rch L n n) ∧ res.Nodup ∧ ∀ (i n : Nat), res[i]? = some n → ∀ k : Nat, (⟨n, k⟩ : Edg) ∈ L → k ∈ res.take i := by
  obtain ⟨⟨d', H⟩, hm⟩ := (ord_facts G _ _ [] 0 rfl (ord_start G)).1 res h
  have hnd : res.Nodup := by have := H.nd; rwa [List.append_nil] at this
  refine ⟨fun n hr => ?_, hnd, H.ord⟩
  have hn : n ∈ res := by
    obtain ⟨b, hb⟩ : ∃ b : Nat, (⟨b, n⟩ : Edg) ∈ L := by
      cases hr with
      | one _ h => exact ⟨_, h⟩
      | more j _ _ h => exact ⟨j, h⟩
    exact hm n (.inr (all_mem G hb).2)
  obtain ⟨i, hi⟩ := List.getElem?_of_mem hn
  have key : ∀ k, Rch L n k → k ∈ res.take i := by
    intro k hk
    induction hk with
    | one k h => exact H.ord i n hi k h
    | more j k _ h ih =>
      obtain ⟨i', hi'⟩ := List.getElem?_of_mem ih
      have hlt : i' < (res.take i).length := (List.getElem?_eq_some_iff.1 hi').1
      rw [List.length_take] at hlt
      rw [List.getElem?_take_of_lt (by omega)] at hi'
      have := H.ord i' j hi' k h
      exact List.take_subset_take_left res (by omega) this
  have hself := key n hr
  obtain ⟨i', hi'⟩ := List.getElem?_of_mem hself
  have hlt : i' < (res.take i).length := (List.getElem?_eq_some_iff.1 hi').1
  rw [List.length_take] at hlt
  rw [List.getElem?_take_of_lt (by omega)] at hi'
  obtain ⟨a1, a2⟩ := List.getElem?_eq_some_iff.1 hi
  obtain ⟨b1, b2⟩ := List.getElem?_eq_some_iff.1 hi'
  have := (List.getElem?_inj (j := i') a1 hnd).1 (by rw [hi, hi'])
  omega
theorem order_none {E : List Nat} {L : List Edg} (G : GR E L) (h : orderV E = none) : ∃ n, Rch L n n := by
  obtain ⟨out', left', d', H, hne, hno, hm⟩ := (ord_facts G _ _ [] 0 rfl (ord_start G)).2 h
  refine loop_ex left'.length left' (Nat.le_refl _) hne fun k hk => ?_
  have hk64 := H.lt k hk
  have h1 := hno k hk
  obtain ⟨j, hj, hjo⟩ : ∃ j : Nat, (⟨k, j⟩ : Edg) ∈ L ∧ j ∉ out' := by
    apply Classical.byContradiction
    intro q
    have : okP E d' k = true := (okP_iff G H hk64).2 fun j hj => by
      apply Classical.byContradiction
      intro z
      exact q ⟨j, hj, z⟩
    rw [h1] at this; cases this
  rcases hm j (.inr (all_mem G hj).2) with z | z
  · exact absurd z hjo
  · exact ⟨j, z, hj⟩
end Go.AM
/- Waiting graphs: a ring's nodes reach themselves, there is one just if some node does, and an order just if there is none. Conditions: none. -/
set_option linter.unusedVariables false
set_option linter.unusedSimpArgs false
set_option maxRecDepth 100000
namespace Go.AM
open Go.Proofs Go.Lib
-- LENS: gC_len, Edg.len, ixC_len, wC_len, bC_len
/-- Has someone of so many reached himself? -/
noncomputable def rbB (L : List Edg) : Nat → Bool
  | 0 => false
  | n + 1 => rbB L n || (rchL L (n : Int)).any (fun k => k == n)
theorem rchL_mem {E : List Nat} {L : List Edg} (G : GR E L) {n k : Nat} (hn : n < 64) : k ∈ rchL L (n : Int) ↔ Rch L n k := by
  unfold rchL
  rw [if_pos (by unfold isN; simp; omega), List.mem_filter, List.mem_range, Int.toNat_natCast]
  constructor
  · rintro ⟨_, h⟩; simpa using h
  · intro h; exact ⟨h.lt G, by simpa using h⟩
theorem rbB_iff {E : List Nat} {L : List Edg} (G : GR E L) : ∀ m, m ≤ 64 → (rbB L m = true ↔ ∃ n, n < m ∧ Rch L n n)
  | 0, _ => by simp [rbB]
  | m + 1, hm => by
    unfold rbB
    rw [Bool.or_eq_true, rbB_iff G m (by omega), List.any_eq_true]
    constructor
    · rintro (⟨n, h1, h2⟩ | ⟨k, h1, h2⟩)
      · exact ⟨n, by omega, h2⟩
      · obtain rfl : k = m := by simpa using h2
        exact ⟨k, by omega, (rchL_mem G (by omega)).1 h1⟩
    · rintro ⟨n, h1, h2⟩
      by_cases hn : n = m
      · subst hn; exact .inr ⟨n, (rchL_mem G (by omega)).2 h2, by simp⟩
      · exact .inl ⟨n, by omega, h2⟩
theorem rchL_le (L : List Edg) (n : Int) : (rchL L n).length ≤ 64 := by
  unfold rchL
  split
  · have := List.length_filter_le (fun k => @decide (Rch L n.toNat k) (Classical.propDecidable _)) (List.range 64)
    rw [List.length_range] at this
    exact this
  · simp
structure ThF where
  i : Nat
  b : Bool
  h : List AO
theorem any_take_succ {α : Type} {l : List α} {i : Nat} {x : α} (h : l[i]? = some x) (f : α → Bool) : (l.take (i + 1)).any f = ((l.take i).any f || f x) := by
  rw [List.take_add_one, h]; simp
theorem tmodN (a b : Nat) : ((a : Int)).tmod (b : Int) = ((a % b : Nat) : Int) := by
  rw [Int.tmod_eq_emod_of_nonneg (by omega)]; omega
structure ThP where
  i : Nat
  M : List (Int × Int)
  h : List AO
/-- The ring's facts, be there one or not. -/
theorem ring_all {E : List Nat} {L : List Edg} (G : GR E L) : (∀ (i a b : Nat), (ringV E)[i]? = some a → (ringV E)[(i + 1) % (ringV E).length]? = some b → (⟨a, b⟩ : Edg) ∈ L) ∧ (∀ (i a f : Nat), (ringV E)[i]? = some a → (ringV E)[0]? = some f → f ≤ a) ∧ (ringV E).length ≤ 64 ∧ (0 < (ringV E).length ↔ (bst E 64).1 ≠ 65) := by
  by_cases h : (bst E 64).1 = 65
  · have : ringV E = [] := by unfold ringV; rw [if_pos h]
    rw [this]
    exact ⟨fun i a b z => by simp at z, fun i a f z => by simp at z, by simp, by simp [h]⟩
  · obtain ⟨f, r, h1, h2, h3⟩ := ring_facts G h
    have h1' := bst_eq E 64 h
    obtain ⟨b1, b2, b3, b4⟩ := bst_le E 64
    have hl : (ringV E).length ≤ 64 := by
      have hR : ringV E = (bst E 64).2 :: gwalk E (bst E 64).2 ((bst E 64).1 - 1) (bst E 64).2 := by unfold ringV; rw [if_neg h]
      have hg : ∀ (m n : Nat), (gwalk E (bst E 64).2 m n).length ≤ m := by
        intro m
        induction m with
        | zero => intro n; simp [gwalk]
        | succ m ih =>
          intro n
          unfold gwalk
          split
          · rename_i k _
            have := ih k
            simp; omega
          · simp
      have := hg ((bst E 64).1 - 1) (bst E 64).2
      rw [hR, List.length_cons]; omega
    rw [h1] at hl ⊢
    refine ⟨h2, fun i a f' z1 z2 => ?_, hl, by simp [h]⟩
    obtain rfl : f = f' := Option.some.inj z2
    exact (h3 a (List.mem_of_getElem? z1)).1
theorem ord_len {E : List Nat} : ∀ (m : Nat) (left out res : List Nat) (done : Nat), left.length = m → ordV E m left done out = some res → res.length = out.length + m
  | 0, left, out, res, done, hl, h => by
    obtain rfl : out = res := Option.some.inj h
    rfl
  | m + 1, left, out, res, done, hl, h => by
    cases hf : left.findIdx? (okP E done) with
    | none =>
      have hn : ordV E (m + 1) left done out = none := by
        show (match left.findIdx? (okP E done) with | some i => _ | none => none) = none
        rw [hf]
      rw [hn] at h; cases h
    | some i =>
      obtain ⟨hi, _, _⟩ := List.findIdx?_eq_some_iff_getElem.1 hf
      have hs : ordV E (m + 1) left done out = ordV E m (left.eraseIdx i) (done ||| 2 ^ (left.getD i 0)) (out ++ [left.getD i 0]) := by
        show (match left.findIdx? (okP E done) with | some i => ordV E m (left.eraseIdx i) (done ||| 2 ^ (left.getD i 0)) (out ++ [left.getD i 0]) | none => none) = _
        rw [hf]
      rw [hs] at h
      have := ord_len m _ _ res _ (by rw [List.length_eraseIdx_of_lt hi]; omega) h
      rw [this, List.length_append, List.length_singleton]; omega
set_option maxHeartbeats 16000000 in
theorem s5a {P : Program} {T : Tab} {K d : Nat} (S : Sd P T K) (hd : 6 ≤ d) (q : SV) (l : List Edg) (lk : Nat) (h : List AO) (hT : tabB 0 h = true) (hq : Rs Edg.cells 2 h q l) :
    ev P T K d 5 [.sc q] lk h = some (.v (.sc (.bool true)), h) := by
  obtain ⟨d, rfl⟩ : ∃ k, d = k + 1 := ⟨d - 1, by omega⟩
  refine ev_pure (at5 S.t) rfl ?_
  unfold i5 Tryd.f5
  have hlen := hq.len (un22 S.p)
  by_cases hc : 200 < l.length
  · have f7 := fun lk => s7 S (show 5 ≤ d by omega) lk h hT
    simp (maxSteps := 1000000) (disch := first | omega | (simp (disch := first | omega | (simp only [gC_len, Edg.len, ixC_len, wC_len, bC_len, List.length_append, List.length_cons, List.length_nil, List.length_set]; first | done | omega)) only [gC_len, Edg.len, ixC_len, wC_len, bC_len, amSide, Int.reduceToNat, Nat.reducePow, Nat.reduceMul]; first | done | omega)) only  [↓amPre, amPost, ↓s_lit', Nat.reduceAdd, Nat.reduceSub, List.replicate, retA, resultsA, resultA, toC, toCL, Nat.reduceEqDiff, (ze33 S.p), eql_bool (un4 S.p), neq_bool (un4 S.p), iaddr_sl (un35 S.p) (sz3 S.p), len_sl (un22 S.p), len_nils (un22 S.p), len_sl (un35 S.p), len_nils (un35 S.p), part_sc (ag3 S.p), part_all (ag33 S.p) (sz33 S.p), part_at (ag33 S.p) (sz33 S.p), store_last (sz33 S.p), (sz33 S.p), hlen, f7, dec_t]
    exact Ends.some rfl
  · have hl : l.length ≤ 200 := by omega
    have e9 := fun lk => s9 S (show 3 ≤ d by omega) q l (by omega) lk h hq
    have G := gr_of l l.length (Nat.le_refl _)
    have Go := G.ok
    generalize gE l l.length = E at *
    generalize gL l l.length = L at *
    have hgl := Go.len
    have hgc := gC_len E
    have hx0 : Ext1 h (h ++ [.rw 33 (gC E)]) := (Ext1.refl h).push _
    have hT0 := tabB_ext hT hx0
    have c0 : cellsAt (h ++ [.rw 33 (gC E)]) h.length = some (gC E) := by unfold cellsAt; simp
    have pE := part_self (ag33 S.p) (sz33 S.p) (gC E) (by rw [gC_len]; exact hgl)
    obtain ⟨v1, h1, e13, hx1, q4, rfl, r4⟩ := s13 S (show 4 ≤ d by omega) Go h.length _ (by simp) hT0
    have hle1 := hx1.len
    simp only [List.length_append, List.length_singleton] at hle1
    have hT1 := tabB_ext hT0 hx1
    have c1 : cellsAt h1 h.length = some (gC E) := by rw [hx1.cells (by simp)]; exact c0
    simp (maxSteps := 1000000) (disch := first | omega | (simp (disch := first | omega | (simp only [gC_len, Edg.len, ixC_len, wC_len, bC_len, List.length_append, List.length_cons, List.length_nil, List.length_set]; first | done | omega)) only [gC_len, Edg.len, ixC_len, wC_len, bC_len, amSide, Int.reduceToNat, Nat.reducePow, Nat.reduceMul]; first | done | omega)) only  [↓amPre, amPost, ↓s_lit', Nat.reduceAdd, Nat.reduceSub, List.replicate, retA, resultsA, resultA, toC, toCL, Nat.reduceEqDiff, (ze33 S.p), eql_bool (un4 S.p), neq_bool (un4 S.p), iaddr_sl (un35 S.p) (sz3 S.p), len_sl (un22 S.p), len_nils (un22 S.p), len_sl (un35 S.p), len_nils (un35 S.p), part_sc (ag3 S.p), part_all (ag33 S.p) (sz33 S.p), part_at (ag33 S.p) (sz33 S.p), store_last (sz33 S.p), (sz33 S.p), hlen, e9, e13, pE, cells_self, cells_other, dec_f]
    refine ends_loop (X := ThF) ⟨0, false, h1⟩ [6, 8, 27, 28, 29, 30, 31, 32, 33, 34, 35, 36, 37, 38, 39, 40, 41, 42, 43, 44] (fun x => x.i ≤ 64 ∧ Ext1 h1 x.h ∧ x.b = rbB L x.i) (fun x => 64 - x.i)
      (fun x e => (e.set 5 (.v (.sc (.bool x.b)))).set 26 (.v (.sc (.int .i64 x.i)))) (fun x => x.h)
      (by have := S.k; show _ < K; simp only; omega) ⟨by simp only; omega, Ext1.refl _, rfl⟩ rfl rfl ?_
    rintro ⟨n, b, hj⟩ ⟨hn, hx, hb⟩ again hag e he
    simp only at hn hx hb hag he
    simp only [↓amPre, amPost, ↓s_lit', Nat.reduceAdd, Nat.reduceSub, List.replicate, retA, resultsA, resultA, toC, toCL, Nat.reduceEqDiff] at he
    simp only [↓amPre, amPost, ↓s_lit', Nat.reduceAdd, Nat.reduceSub, List.replicate, retA, resultsA, resultA, toC, toCL, Nat.reduceEqDiff, he]
    have hle := hx.len
    have hTj := tabB_ext hT1 hx
    have cj : cellsAt hj h.length = some (gC E) := by rw [hx.cells (by omega)]; exact c1
    refine ends_cond (fun hc1 => ?_) (fun hc1 => ?_)
    · simp only [decide_eq_true_eq] at hc1
      have hn64 : n < 64 := by omega
      obtain ⟨v2, h2, e20, hx2, q2, rfl, r2⟩ := s20 S (show 4 ≤ d by omega) G (n : Int) h.length hj (by omega) hTj
      have hlen2 := r2.len (un35 S.p)
      have hll := rchL_le L (n : Int)
      generalize hR : rchL L (n : Int) = R at *
      simp (maxSteps := 1000000) (disch := first | omega | (simp (disch := first | omega | (simp only [gC_len, Edg.len, ixC_len, wC_len, bC_len, List.length_append, List.length_cons, List.length_nil, List.length_set]; first | done | omega)) only [gC_len, Edg.len, ixC_len, wC_len, bC_len, amSide, Int.reduceToNat, Nat.reducePow, Nat.reduceMul]; first | done | omega)) only  [↓amPre, amPost, ↓s_lit', Nat.reduceAdd, Nat.reduceSub, List.replicate, retA, resultsA, resultA, toC, toCL, Nat.reduceEqDiff, he, (ze33 S.p), eql_bool (un4 S.p), neq_bool (un4 S.p), iaddr_sl (un35 S.p) (sz3 S.p), len_sl (un22 S.p), len_nils (un22 S.p), len_sl (un35 S.p), len_nils (un35 S.p), part_sc (ag3 S.p), part_all (ag33 S.p) (sz33 S.p), part_at (ag33 S.p) (sz33 S.p), store_last (sz33 S.p), (sz33 S.p), cj, pE, e20, hlen2]
      refine ends_loop (X := ThF) ⟨0, b, h2⟩ [8, 34, 35, 36, 37, 38, 39, 40, 41, 42, 43] (fun x => x.i ≤ R.length ∧ x.h = h2 ∧ x.b = (b || (R.take x.i).any fun k => k == n)) (fun x => R.length - x.i)
        (fun x e => (e.set 5 (.v (.sc (.bool x.b)))).set 33 (.v (.sc (.int .i64 x.i)))) (fun x => x.h)
        (by have := S.k; show _ < K; simp only; omega) ⟨by simp only; omega, rfl, by simp⟩ rfl rfl ?_
      clear he
      rintro ⟨i, b2, hh⟩ ⟨hi, hhe, hb2⟩ again2 hag2 e2 he2
      simp only at hi hhe hb2 hag2 he2
      subst hhe
      simp only [↓amPre, amPost, ↓s_lit', Nat.reduceAdd, Nat.reduceSub, List.replicate, retA, resultsA, resultA, toC, toCL, Nat.reduceEqDiff] at he2
      simp only [↓amPre, amPost, ↓s_lit', Nat.reduceAdd, Nat.reduceSub, List.replicate, retA, resultsA, resultA, toC, toCL, Nat.reduceEqDiff, he2]
      refine ends_cond (fun hc2 => ?_) (fun hc2 => ?_)
      · simp only [decide_eq_true_eq] at hc2
        obtain ⟨bb, rfl, hbb, hcc⟩ := r2.at (by omega)
        obtain ⟨k, hki⟩ : ∃ k, R[i]? = some k := ⟨_, List.getElem?_eq_getElem (by omega)⟩
        have gk := recs_get0 ixC_len hki (by omega)
        rw [Nat.mul_one, show (ixC k)[0]? = some (.int .i64 (k : Nat)) from rfl] at gk
        have hsn := any_take_succ hki fun k => k == n
        cases b2 with
        | true =>
          have hgo := hag2 ⟨i + 1, true, hh⟩ ⟨by simp only; omega, rfl, by simp only [hsn, ← Bool.or_assoc, ← hb2, Bool.true_or]⟩ (by simp only; omega)
          simp (maxSteps := 1000000) (disch := first | omega | (simp (disch := first | omega | (simp only [gC_len, Edg.len, ixC_len, wC_len, bC_len, List.length_append, List.length_cons, List.length_nil, List.length_set]; first | done | omega)) only [gC_len, Edg.len, ixC_len, wC_len, bC_len, amSide, Int.reduceToNat, Nat.reducePow, Nat.reduceMul]; first | done | omega)) only  [↓amPre, amPost, ↓s_lit', Nat.reduceAdd, Nat.reduceSub, List.replicate, retA, resultsA, resultA, toC, toCL, Nat.reduceEqDiff, he2, (ze33 S.p), eql_bool (un4 S.p), neq_bool (un4 S.p), iaddr_sl (un35 S.p) (sz3 S.p), len_sl (un22 S.p), len_nils (un22 S.p), len_sl (un35 S.p), len_nils (un35 S.p), part_sc (ag3 S.p), part_all (ag33 S.p) (sz33 S.p), part_at (ag33 S.p) (sz33 S.p), store_last (sz33 S.p), (sz33 S.p), idx_ok, hcc, gk, Nat.mul_one, Int.toNat_natCast, Nat.zero_add, wrap_i64]
          refine hgo _ ?_
          simp (maxSteps := 1000000) (disch := first | omega | (simp (disch := first | omega | (simp only [gC_len, Edg.len, ixC_len, wC_len, bC_len, List.length_append, List.length_cons, List.length_nil, List.length_set]; first | done | omega)) only [gC_len, Edg.len, ixC_len, wC_len, bC_len, amSide, Int.reduceToNat, Nat.reducePow, Nat.reduceMul]; first | done | omega)) only [↓amPre, amPost, ↓s_lit', Nat.reduceAdd, Nat.reduceSub, List.replicate, retA, resultsA, resultA, toC, toCL, Nat.reduceEqDiff, Int.natCast_add, Int.cast_ofNat_Int, dec_t, dec_f]
        | false =>
          by_cases hkn : k = n
          · have hgo := hag2 ⟨i + 1, true, hh⟩ ⟨by simp only; omega, rfl, by simp only [hsn, ← Bool.or_assoc, ← hb2]; simp [hkn]⟩ (by simp only; omega)
            simp (maxSteps := 1000000) (disch := first | omega | (simp (disch := first | omega | (simp only [gC_len, Edg.len, ixC_len, wC_len, bC_len, List.length_append, List.length_cons, List.length_nil, List.length_set]; first | done | omega)) only [gC_len, Edg.len, ixC_len, wC_len, bC_len, amSide, Int.reduceToNat, Nat.reducePow, Nat.reduceMul]; first | done | omega)) only  [↓amPre, amPost, ↓s_lit', Nat.reduceAdd, Nat.reduceSub, List.replicate, retA, resultsA, resultA, toC, toCL, Nat.reduceEqDiff, he2, (ze33 S.p), eql_bool (un4 S.p), neq_bool (un4 S.p), iaddr_sl (un35 S.p) (sz3 S.p), len_sl (un22 S.p), len_nils (un22 S.p), len_sl (un35 S.p), len_nils (un35 S.p), part_sc (ag3 S.p), part_all (ag33 S.p) (sz33 S.p), part_at (ag33 S.p) (sz33 S.p), store_last (sz33 S.p), (sz33 S.p), idx_ok, hcc, gk, beqI_t, Nat.mul_one, Int.toNat_natCast, Nat.zero_add, wrap_i64]
            refine hgo _ ?_
            simp (maxSteps := 1000000) (disch := first | omega | (simp (disch := first | omega | (simp only [gC_len, Edg.len, ixC_len, wC_len, bC_len, List.length_append, List.length_cons, List.length_nil, List.length_set]; first | done | omega)) only [gC_len, Edg.len, ixC_len, wC_len, bC_len, amSide, Int.reduceToNat, Nat.reducePow, Nat.reduceMul]; first | done | omega)) only [↓amPre, amPost, ↓s_lit', Nat.reduceAdd, Nat.reduceSub, List.replicate, retA, resultsA, resultA, toC, toCL, Nat.reduceEqDiff, Int.natCast_add, Int.cast_ofNat_Int, dec_t, dec_f]
          · have hgo := hag2 ⟨i + 1, false, hh⟩ ⟨by simp only; omega, rfl, by simp only [hsn, ← Bool.or_assoc, ← hb2]; simp [hkn]⟩ (by simp only; omega)
            simp (maxSteps := 1000000) (disch := first | omega | (simp (disch := first | omega | (simp only [gC_len, Edg.len, ixC_len, wC_len, bC_len, List.length_append, List.length_cons, List.length_nil, List.length_set]; first | done | omega)) only [gC_len, Edg.len, ixC_len, wC_len, bC_len, amSide, Int.reduceToNat, Nat.reducePow, Nat.reduceMul]; first | done | omega)) only  [↓amPre, amPost, ↓s_lit', Nat.reduceAdd, Nat.reduceSub, List.replicate, retA, resultsA, resultA, toC, toCL, Nat.reduceEqDiff, he2, (ze33 S.p), eql_bool (un4 S.p), neq_bool (un4 S.p), iaddr_sl (un35 S.p) (sz3 S.p), len_sl (un22 S.p), len_nils (un22 S.p), len_sl (un35 S.p), len_nils (un35 S.p), part_sc (ag3 S.p), part_all (ag33 S.p) (sz33 S.p), part_at (ag33 S.p) (sz33 S.p), store_last (sz33 S.p), (sz33 S.p), idx_ok, hcc, gk, beqI_f, Nat.mul_one, Int.toNat_natCast, Nat.zero_add, wrap_i64]
            refine hgo _ ?_
            simp (maxSteps := 1000000) (disch := first | omega | (simp (disch := first | omega | (simp only [gC_len, Edg.len, ixC_len, wC_len, bC_len, List.length_append, List.length_cons, List.length_nil, List.length_set]; first | done | omega)) only [gC_len, Edg.len, ixC_len, wC_len, bC_len, amSide, Int.reduceToNat, Nat.reducePow, Nat.reduceMul]; first | done | omega)) only [↓amPre, amPost, ↓s_lit', Nat.reduceAdd, Nat.reduceSub, List.replicate, retA, resultsA, resultA, toC, toCL, Nat.reduceEqDiff, Int.natCast_add, Int.cast_ofNat_Int, dec_t, dec_f]
      · simp only [decide_eq_false_iff_not] at hc2
        obtain rfl : i = R.length := by omega
        clear hag2
        simp (maxSteps := 1000000) (disch := first | omega | (simp (disch := first | omega | (simp only [gC_len, Edg.len, ixC_len, wC_len, bC_len, List.length_append, List.length_cons, List.length_nil, List.length_set]; first | done | omega)) only [gC_len, Edg.len, ixC_len, wC_len, bC_len, amSide, Int.reduceToNat, Nat.reducePow, Nat.reduceMul]; first | done | omega)) only  [↓amPre, amPost, ↓s_lit', Nat.reduceAdd, Nat.reduceSub, List.replicate, retA, resultsA, resultA, toC, toCL, Nat.reduceEqDiff, he2, (ze33 S.p), eql_bool (un4 S.p), neq_bool (un4 S.p), iaddr_sl (un35 S.p) (sz3 S.p), len_sl (un22 S.p), len_nils (un22 S.p), len_sl (un35 S.p), len_nils (un35 S.p), part_sc (ag3 S.p), part_all (ag33 S.p) (sz33 S.p), part_at (ag33 S.p) (sz33 S.p), store_last (sz33 S.p), (sz33 S.p), wrap_i64]
        refine hag ⟨n + 1, b2, hh⟩ ⟨by simp only; omega, hx.trans hx2, ?_⟩ (by simp only; omega) _ ?_
        · simp only
          rw [hb2, List.take_length, hb]
          show _ = (rbB L n || (rchL L (n : Int)).any (fun k => k == n))
          rw [hR]
        · simp (maxSteps := 1000000) (disch := first | omega | (simp (disch := first | omega | (simp only [gC_len, Edg.len, ixC_len, wC_len, bC_len, List.length_append, List.length_cons, List.length_nil, List.length_set]; first | done | omega)) only [gC_len, Edg.len, ixC_len, wC_len, bC_len, amSide, Int.reduceToNat, Nat.reducePow, Nat.reduceMul]; first | done | omega)) only [↓amPre, amPost, ↓s_lit', Nat.reduceAdd, Nat.reduceSub, List.replicate, retA, resultsA, resultA, toC, toCL, Nat.reduceEqDiff, Int.natCast_add, Int.cast_ofNat_Int, dec_t, dec_f]
    · simp only [decide_eq_false_iff_not] at hc1
      obtain rfl : n = 64 := by omega
      clear hag
      have hrb := rbB_iff G 64 (Nat.le_refl _)
      rw [← hb] at hrb
      have hri := ring_iff G
      obtain ⟨hF, hf, hR64, hpos⟩ := ring_all G
      have r4' := r4.ext hx
      have hlen4 := r4'.len (un35 S.p)
      clear r4 hb
      have e16 := fun (a b : Nat) lk h => s16 S (show 2 ≤ d by omega) Go a b lk h
      simp only [has_eq G] at e16
      have hpos' : (0 < (ringV E).length) ↔ b = true := by rw [hpos, hri, hrb]
      generalize ringV E = R at *
      clear hpos hri
      simp (maxSteps := 1000000) (disch := first | omega | (simp (disch := first | omega | (simp only [gC_len, Edg.len, ixC_len, wC_len, bC_len, List.length_append, List.length_cons, List.length_nil, List.length_set]; first | done | omega)) only [gC_len, Edg.len, ixC_len, wC_len, bC_len, amSide, Int.reduceToNat, Nat.reducePow, Nat.reduceMul]; first | done | omega)) only  [↓amPre, amPost, ↓s_lit', Nat.reduceAdd, Nat.reduceSub, List.replicate, retA, resultsA, resultA, toC, toCL, Nat.reduceEqDiff, he, (ze33 S.p), eql_bool (un4 S.p), neq_bool (un4 S.p), iaddr_sl (un35 S.p) (sz3 S.p), len_sl (un22 S.p), len_nils (un22 S.p), len_sl (un35 S.p), len_nils (un35 S.p), part_sc (ag3 S.p), part_all (ag33 S.p) (sz33 S.p), part_at (ag33 S.p) (sz33 S.p), store_last (sz33 S.p), (sz33 S.p), hlen4]
      refine ends_loop (X := ThN) ⟨0⟩ [2, 9, 10, 48, 49, 50, 51, 52, 53, 54, 55, 56, 57, 58, 59, 60, 61, 62, 63, 64, 65, 66, 67, 68, 69, 70, 71] (fun x => x.i ≤ R.length) (fun x => R.length - x.i)
        (fun x e => e.set 47 (.v (.sc (.int .i64 x.i)))) (fun x => hj)
        (by have := S.k; show _ < K; simp only; omega) (by simp only; omega) rfl rfl ?_
      clear he
      rintro ⟨i⟩ hi again hag e he
      simp only at hi hag he
      simp only [↓amPre, amPost, ↓s_lit', Nat.reduceAdd, Nat.reduceSub, List.replicate, retA, resultsA, resultA, toC, toCL, Nat.reduceEqDiff] at he
      simp only [↓amPre, amPost, ↓s_lit', Nat.reduceAdd, Nat.reduceSub, List.replicate, retA, resultsA, resultA, toC, toCL, Nat.reduceEqDiff, he]
      refine ends_cond (fun hc2 => ?_) (fun hc2 => ?_)
      · simp only [decide_eq_true_eq] at hc2
        obtain ⟨bb, rfl, hbb, hcc⟩ := r4'.at (by omega)
        have hm : (i + 1) % R.length < R.length := Nat.mod_lt _ (by omega)
        obtain ⟨x, hxi⟩ : ∃ x, R[i]? = some x := ⟨_, List.getElem?_eq_getElem (by omega)⟩
        obtain ⟨y, hyi⟩ : ∃ y, R[(i + 1) % R.length]? = some y := ⟨_, List.getElem?_eq_getElem hm⟩
        obtain ⟨f, hfi⟩ : ∃ f, R[0]? = some f := ⟨_, List.getElem?_eq_getElem (by omega)⟩
        have gx := recs_get0 ixC_len hxi (by omega)
        have gy := recs_get0 ixC_len hyi (by omega)
        have gf := recs_get0 ixC_len hfi (by omega)
        rw [Nat.mul_one, show (ixC x)[0]? = some (.int .i64 (x : Nat)) from rfl] at gx
        rw [Nat.mul_one, show (ixC y)[0]? = some (.int .i64 (y : Nat)) from rfl] at gy
        rw [Nat.zero_mul, show (ixC f)[0]? = some (.int .i64 (f : Nat)) from rfl] at gf
        have hedge := hF i x y hxi hyi
        have hle0 := hf i x f hxi hfi
        have e16' := e16 x y
        rw [decide_eq_true hedge] at e16'
        have htm : ((i : Int) + 1).tmod (R.length : Int) = (((i + 1) % R.length : Nat) : Int) := tmodN (i + 1) R.length
        have hR0 : ¬ ((R.length : Int) = 0) := by omega
        clear e16 hF hf
        generalize (i + 1) % R.length = mi at *
        simp (maxSteps := 1000000) (disch := first | omega | (simp (disch := first | omega | (simp only [gC_len, Edg.len, ixC_len, wC_len, bC_len, List.length_append, List.length_cons, List.length_nil, List.length_set]; first | done | omega)) only [gC_len, Edg.len, ixC_len, wC_len, bC_len, amSide, Int.reduceToNat, Nat.reducePow, Nat.reduceMul]; first | done | omega)) only  [↓amPre, amPost, ↓s_lit', Nat.reduceAdd, Nat.reduceSub, List.replicate, retA, resultsA, resultA, toC, toCL, Nat.reduceEqDiff, he, (ze33 S.p), eql_bool (un4 S.p), neq_bool (un4 S.p), iaddr_sl (un35 S.p) (sz3 S.p), len_sl (un22 S.p), len_nils (un22 S.p), len_sl (un35 S.p), len_nils (un35 S.p), part_sc (ag3 S.p), part_all (ag33 S.p) (sz33 S.p), part_at (ag33 S.p) (sz33 S.p), store_last (sz33 S.p), (sz33 S.p), hlen4, idx_ok, hcc, gx, gy, gf, cj, pE, htm, hR0, e16', dec_f, Nat.mul_one, Int.toNat_natCast, Int.toNat_zero, Nat.zero_mul, Nat.zero_add, wrap_i64]
        refine hag ⟨i + 1⟩ (by simp only; omega) (by simp only; omega) _ ?_
        simp (maxSteps := 1000000) (disch := first | omega | (simp (disch := first | omega | (simp only [gC_len, Edg.len, ixC_len, wC_len, bC_len, List.length_append, List.length_cons, List.length_nil, List.length_set]; first | done | omega)) only [gC_len, Edg.len, ixC_len, wC_len, bC_len, amSide, Int.reduceToNat, Nat.reducePow, Nat.reduceMul]; first | done | omega)) only [↓amPre, amPost, ↓s_lit', Nat.reduceAdd, Nat.reduceSub, List.replicate, retA, resultsA, resultA, toC, toCL, Nat.reduceEqDiff, Int.natCast_add, Int.cast_ofNat_Int, dec_t, dec_f]
      · simp only [decide_eq_false_iff_not] at hc2
        obtain rfl : i = R.length := by omega
        clear hag hF hf e16
        obtain ⟨v3, h3, e10, hx3, hv3⟩ := s10 S (show 3 ≤ d by omega) Go h.length hj (by omega) hTj
        change (match orderV E with | some out => ∃ q', v3 = .tup [.sc q', .sc (.bool true)] ∧ Rs ixC 1 h3 q' out | none => v3 = .tup [.sc .nils, .sc (.bool false)]) at hv3
        have hT3 := tabB_ext hTj hx3
        have hle3 := hx3.len
        cases ho : orderV E with
        | none =>
          rw [ho] at hv3
          simp only at hv3
          subst hv3
          obtain ⟨n, hn⟩ := order_none G ho
          have hbt : b = true := hrb.2 ⟨n, hn.lt G, hn⟩
          have hRp := hpos'.2 hbt
          subst hbt
          have f7 := fun lk => s7 S (show 5 ≤ d by omega) lk (h3 ++ [.map []]) (tabB_ext hT3 ((Ext1.refl h3).push _))
          simp (maxSteps := 1000000) (disch := first | omega | (simp (disch := first | omega | (simp only [gC_len, Edg.len, ixC_len, wC_len, bC_len, List.length_append, List.length_cons, List.length_nil, List.length_set]; first | done | omega)) only [gC_len, Edg.len, ixC_len, wC_len, bC_len, amSide, Int.reduceToNat, Nat.reducePow, Nat.reduceMul]; first | done | omega)) only  [↓amPre, amPost, ↓s_lit', Nat.reduceAdd, Nat.reduceSub, List.replicate, retA, resultsA, resultA, toC, toCL, Nat.reduceEqDiff, he, (ze33 S.p), eql_bool (un4 S.p), neq_bool (un4 S.p), iaddr_sl (un35 S.p) (sz3 S.p), len_sl (un22 S.p), len_nils (un22 S.p), len_sl (un35 S.p), len_nils (un35 S.p), part_sc (ag3 S.p), part_all (ag33 S.p) (sz33 S.p), part_at (ag33 S.p) (sz33 S.p), store_last (sz33 S.p), (sz33 S.p), hlen4, cj, pE, e10, dec_t, bne_self_eq_false]
          refine ends_loop (X := ThN) ⟨0⟩ [2, 14, 15, 17, 91, 92, 93, 94, 95, 96, 97, 98, 99, 100, 101, 102, 103, 104, 105, 106, 107, 108, 109, 110, 111, 112, 113, 114, 115, 116, 117, 118, 119] (fun x => x.i = 0) (fun x => 0)
            (fun x e => e) (fun x => h3 ++ [.map []])
            (by have := S.k; show _ < K; omega) rfl rfl rfl ?_
          clear he
          rintro ⟨i⟩ hi again hag e he
          clear hag
          simp only [↓amPre, amPost, ↓s_lit', Nat.reduceAdd, Nat.reduceSub, List.replicate, retA, resultsA, resultA, toC, toCL, Nat.reduceEqDiff] at he
          simp (maxSteps := 1000000) (disch := first | omega | (simp (disch := first | omega | (simp only [gC_len, Edg.len, ixC_len, wC_len, bC_len, List.length_append, List.length_cons, List.length_nil, List.length_set]; first | done | omega)) only [gC_len, Edg.len, ixC_len, wC_len, bC_len, amSide, Int.reduceToNat, Nat.reducePow, Nat.reduceMul]; first | done | omega)) only  [↓amPre, amPost, ↓s_lit', Nat.reduceAdd, Nat.reduceSub, List.replicate, retA, resultsA, resultA, toC, toCL, Nat.reduceEqDiff, he, (ze33 S.p), eql_bool (un4 S.p), neq_bool (un4 S.p), iaddr_sl (un35 S.p) (sz3 S.p), len_sl (un22 S.p), len_nils (un22 S.p), len_sl (un35 S.p), len_nils (un35 S.p), part_sc (ag3 S.p), part_all (ag33 S.p) (sz33 S.p), part_at (ag33 S.p) (sz33 S.p), store_last (sz33 S.p), (sz33 S.p), dec_f, f7]
          exact Ends.some rfl
        | some out =>
          rw [ho] at hv3
          obtain ⟨q11, rfl, r11⟩ := hv3
          obtain ⟨o1, o2, o3⟩ := order_some G ho
          have hbf : b = false := by
            cases hq : b
            · rfl
            · obtain ⟨n, _, hn⟩ := hrb.1 hq
              exact absurd hn (o1 n)
          have hRp : ¬ 0 < R.length := fun z => by rw [hpos'.1 z] at hbf; cases hbf
          subst hbf
          have hol : out.length ≤ 64 := by
            have := ord_len _ _ [] out 0 rfl ho
            rw [this, List.length_nil]
            have := bl_len (allE E 64)
            omega
          have hlen11 := r11.len (un35 S.p)
          have hAx : Ext1 h3 (h3 ++ [.map []]) := (Ext1.refl h3).push _
          clear o1 hrb hpos' r4' e13 ho
          simp (maxSteps := 1000000) (disch := first | omega | (simp (disch := first | omega | (simp only [gC_len, Edg.len, ixC_len, wC_len, bC_len, List.length_append, List.length_cons, List.length_nil, List.length_set]; first | done | omega)) only [gC_len, Edg.len, ixC_len, wC_len, bC_len, amSide, Int.reduceToNat, Nat.reducePow, Nat.reduceMul]; first | done | omega)) only  [↓amPre, amPost, ↓s_lit', Nat.reduceAdd, Nat.reduceSub, List.replicate, retA, resultsA, resultA, toC, toCL, Nat.reduceEqDiff, he, (ze33 S.p), eql_bool (un4 S.p), neq_bool (un4 S.p), iaddr_sl (un35 S.p) (sz3 S.p), len_sl (un22 S.p), len_nils (un22 S.p), len_sl (un35 S.p), len_nils (un35 S.p), part_sc (ag3 S.p), part_all (ag33 S.p) (sz33 S.p), part_at (ag33 S.p) (sz33 S.p), store_last (sz33 S.p), (sz33 S.p), hlen4, cj, pE, e10, dec_f, bne_self_eq_false, beq_self_eq_true, hlen11]
          refine ends_loop (X := ThP) ⟨0, [], h3 ++ [.map []]⟩ [2, 14, 15, 17, 91, 92, 93, 94, 95, 96, 97, 98, 99, 100, 101, 102, 103, 104, 105, 106, 107, 108, 109, 110, 111, 112, 113, 114, 115, 116, 117, 118, 119]
            (fun x => x.i ≤ out.length ∧ Ext1 h3 x.h ∧ h3.length < x.h.length ∧ x.h[h3.length]? = some (.map (ents x.M)) ∧ ∀ (j k : Nat), out[j]? = some k → j < x.i → getE (k : Int) x.M = (j : Int) + 1) (fun x => out.length - x.i)
            (fun x e => e.set 90 (.v (.sc (.int .i64 x.i)))) (fun x => x.h)
            (by have := S.k; show _ < K; simp only; omega) ⟨by simp only; omega, hAx, by simp, by simp [ents], fun j k _ z => absurd z (by simp)⟩ rfl rfl ?_
          clear he
          rintro ⟨i, M, hm⟩ ⟨hi, hxm, hlm, hM, hMk⟩ again hag e he
          simp only at hi hxm hlm hM hMk hag he
          simp only [↓amPre, amPost, ↓s_lit', Nat.reduceAdd, Nat.reduceSub, List.replicate, retA, resultsA, resultA, toC, toCL, Nat.reduceEqDiff] at he
          simp only [↓amPre, amPost, ↓s_lit', Nat.reduceAdd, Nat.reduceSub, List.replicate, retA, resultsA, resultA, toC, toCL, Nat.reduceEqDiff, he]
          have hlx := hxm.len
          refine ends_cond (fun hc3 => ?_) (fun hc3 => ?_)
          · simp only [decide_eq_true_eq] at hc3
            obtain ⟨bb, rfl, hbb, hcc⟩ := r11.at (by omega)
            obtain ⟨n, hni⟩ : ∃ n, out[i]? = some n := ⟨_, List.getElem?_eq_getElem (by omega)⟩
            have hcm : cellsAt hm bb = some (recs ixC out) := by rw [hxm.cells hbb]; exact hcc
            have gn := recs_get0 ixC_len hni (by omega)
            rw [Nat.mul_one, show (ixC n)[0]? = some (.int .i64 (n : Nat)) from rfl] at gn
            have hup := upd_ents (P := P) (un47 S.p) (un3 S.p) hM (show h.length ≤ h3.length by omega) (n : Int) ((i : Int) + 1)
            obtain ⟨M', hM'⟩ : ∃ M', M' = updE (n : Int) ((i : Int) + 1) M := ⟨_, rfl⟩
            rw [← hM'] at hup
            obtain ⟨h4, hh4⟩ : ∃ h4, h4 = hm.set h3.length (.map (ents M')) := ⟨_, rfl⟩
            rw [← hh4] at hup
            have hl4 : h4.length = hm.length := by rw [hh4, List.length_set]
            have x4 : Ext1 h3 h4 := by rw [hh4]; exact hxm.set (Nat.le_refl _) _
            have c4 : cellsAt h4 h.length = some (gC E) := by rw [(hx3.trans x4).cells (by omega)]; exact cj
            have m4 : h4[h3.length]? = some (.map (ents M')) := by rw [hh4]; exact List.getElem?_set_self hlm
            have cm4 : cellsAt h4 bb = some (recs ixC out) := by rw [x4.cells hbb]; exact hcc
            obtain ⟨v5, h5, e18, hx5, q5, rfl, r5⟩ := s18 S (show 3 ≤ d by omega) Go (n : Int) h.length h4 (by omega) (tabB_ext hT3 x4)
            rw [next_eq G] at r5
            have hlen5 := r5.len (un35 S.p)
            have m5 : h5[h3.length]? = some (.map (ents M')) := by rw [hx5.get (by omega)]; exact m4
            have hnl := nxL_le L (n : Int) 64
            have hMn : ∀ (j k : Nat), out[j]? = some k → j < i + 1 → getE (k : Int) M' = (j : Int) + 1 := by
              intro j k hjk hj1
              rw [hM', getE_upd]
              by_cases hk : (k : Int) = (n : Int)
              · rw [if_pos hk]
                have hkn : k = n := by omega
                have := (List.getElem?_inj (j := i) (List.getElem?_eq_some_iff.1 hjk).1 o2).1 (by rw [hjk, hni, hkn])
                omega
              · rw [if_neg hk]
                refine hMk j k hjk ?_
                rcases Nat.lt_or_ge j i with z | z
                · exact z
                · have : j = i := by omega
                  rw [this, hni] at hjk
                  have := Option.some.inj hjk
                  omega
            have hNk : ∀ k ∈ nxL L (n : Int) 64, ∃ j, j < i ∧ getE (k : Int) M' = (j : Int) + 1 := by
              intro k hk
              have hkL : (⟨(n : Int), (k : Int)⟩ : Edg) ∈ L := by
                unfold nxL at hk
                exact of_decide_eq_true (List.mem_filter.1 hk).2
              have hkt := o3 i n hni k hkL
              obtain ⟨j, hj⟩ := List.getElem?_of_mem hkt
              have hjlt : j < (out.take i).length := (List.getElem?_eq_some_iff.1 hj).1
              rw [List.length_take] at hjlt
              rw [List.getElem?_take_of_lt (by omega)] at hj
              exact ⟨j, by omega, hMn j k hj (by omega)⟩
            have hago := hag ⟨i + 1, M', h5⟩ ⟨by simp only; omega, x4.trans hx5, by have := hx5.len; simp only; omega, m5, hMn⟩ (by simp only; omega)
            clear hag hMk hMn o3
            generalize nxL L (n : Int) 64 = R5 at *
            simp (maxSteps := 1000000) (disch := first | omega | (simp (disch := first | omega | (simp only [gC_len, Edg.len, ixC_len, wC_len, bC_len, List.length_append, List.length_cons, List.length_nil, List.length_set]; first | done | omega)) only [gC_len, Edg.len, ixC_len, wC_len, bC_len, amSide, Int.reduceToNat, Nat.reducePow, Nat.reduceMul]; first | done | omega)) only  [↓amPre, amPost, ↓s_lit', Nat.reduceAdd, Nat.reduceSub, List.replicate, retA, resultsA, resultA, toC, toCL, Nat.reduceEqDiff, he, (ze33 S.p), eql_bool (un4 S.p), neq_bool (un4 S.p), iaddr_sl (un35 S.p) (sz3 S.p), len_sl (un22 S.p), len_nils (un22 S.p), len_sl (un35 S.p), len_nils (un35 S.p), part_sc (ag3 S.p), part_all (ag33 S.p) (sz33 S.p), part_at (ag33 S.p) (sz33 S.p), store_last (sz33 S.p), (sz33 S.p), idx_ok, hcm, gn, hup, c4, pE, e18, hlen5, Nat.mul_one, Int.toNat_natCast, Nat.zero_add, wrap_i64]
            refine ends_loop (X := ThN) ⟨0⟩ [2, 17, 104, 105, 106, 107, 108, 109, 110, 111, 112, 113, 114, 115, 116, 117, 118] (fun x => x.i ≤ R5.length) (fun x => R5.length - x.i)
              (fun x e => e.set 103 (.v (.sc (.int .i64 x.i)))) (fun x => h5)
              (by have := S.k; show _ < K; simp only; omega) (by simp only; omega) rfl rfl ?_
            clear he
            rintro ⟨j⟩ hj again2 hag2 e2 he2
            simp only at hj hag2 he2
            simp only [↓amPre, amPost, ↓s_lit', Nat.reduceAdd, Nat.reduceSub, List.replicate, retA, resultsA, resultA, toC, toCL, Nat.reduceEqDiff] at he2
            simp only [↓amPre, amPost, ↓s_lit', Nat.reduceAdd, Nat.reduceSub, List.replicate, retA, resultsA, resultA, toC, toCL, Nat.reduceEqDiff, he2]
            refine ends_cond (fun hc4 => ?_) (fun hc4 => ?_)
            · simp only [decide_eq_true_eq] at hc4
              obtain ⟨b5, rfl, hb5, hc5⟩ := r5.at (by omega)
              obtain ⟨k, hki⟩ : ∃ k, R5[j]? = some k := ⟨_, List.getElem?_eq_getElem (by omega)⟩
              have gk := recs_get0 ixC_len hki (by omega)
              rw [Nat.mul_one, show (ixC k)[0]? = some (.int .i64 (k : Nat)) from rfl] at gk
              obtain ⟨j0, hj0, hgk⟩ := hNk k (List.mem_of_getElem? hki)
              have hmu : lookupA P h5 47 (.v (.sc (.mp h3.length))) (.v (.sc (.int .i64 (k : Nat)))) false = _ := lookup_ents (un47 S.p) (un3 S.p) (zc3 S.p) m5 (k : Int)
              rw [hgk] at hmu
              simp (maxSteps := 1000000) (disch := first | omega | (simp (disch := first | omega | (simp only [gC_len, Edg.len, ixC_len, wC_len, bC_len, List.length_append, List.length_cons, List.length_nil, List.length_set]; first | done | omega)) only [gC_len, Edg.len, ixC_len, wC_len, bC_len, amSide, Int.reduceToNat, Nat.reducePow, Nat.reduceMul]; first | done | omega)) only  [↓amPre, amPost, ↓s_lit', Nat.reduceAdd, Nat.reduceSub, List.replicate, retA, resultsA, resultA, toC, toCL, Nat.reduceEqDiff, he2, (ze33 S.p), eql_bool (un4 S.p), neq_bool (un4 S.p), iaddr_sl (un35 S.p) (sz3 S.p), len_sl (un22 S.p), len_nils (un22 S.p), len_sl (un35 S.p), len_nils (un35 S.p), part_sc (ag3 S.p), part_all (ag33 S.p) (sz33 S.p), part_at (ag33 S.p) (sz33 S.p), store_last (sz33 S.p), (sz33 S.p), idx_ok, hc5, gk, hmu, beqI_f, dec_f, Nat.mul_one, Int.toNat_natCast, Nat.zero_add, wrap_i64]
              refine hag2 ⟨j + 1⟩ (by simp only; omega) (by simp only; omega) _ ?_
              simp (maxSteps := 1000000) (disch := first | omega | (simp (disch := first | omega | (simp only [gC_len, Edg.len, ixC_len, wC_len, bC_len, List.length_append, List.length_cons, List.length_nil, List.length_set]; first | done | omega)) only [gC_len, Edg.len, ixC_len, wC_len, bC_len, amSide, Int.reduceToNat, Nat.reducePow, Nat.reduceMul]; first | done | omega)) only [↓amPre, amPost, ↓s_lit', Nat.reduceAdd, Nat.reduceSub, List.replicate, retA, resultsA, resultA, toC, toCL, Nat.reduceEqDiff, Int.natCast_add, Int.cast_ofNat_Int, dec_t, dec_f]
            · simp only [decide_eq_false_iff_not] at hc4
              obtain rfl : j = R5.length := by omega
              clear hag2
              simp (maxSteps := 1000000) (disch := first | omega | (simp (disch := first | omega | (simp only [gC_len, Edg.len, ixC_len, wC_len, bC_len, List.length_append, List.length_cons, List.length_nil, List.length_set]; first | done | omega)) only [gC_len, Edg.len, ixC_len, wC_len, bC_len, amSide, Int.reduceToNat, Nat.reducePow, Nat.reduceMul]; first | done | omega)) only  [↓amPre, amPost, ↓s_lit', Nat.reduceAdd, Nat.reduceSub, List.replicate, retA, resultsA, resultA, toC, toCL, Nat.reduceEqDiff, he2, (ze33 S.p), eql_bool (un4 S.p), neq_bool (un4 S.p), iaddr_sl (un35 S.p) (sz3 S.p), len_sl (un22 S.p), len_nils (un22 S.p), len_sl (un35 S.p), len_nils (un35 S.p), part_sc (ag3 S.p), part_all (ag33 S.p) (sz33 S.p), part_at (ag33 S.p) (sz33 S.p), store_last (sz33 S.p), (sz33 S.p), wrap_i64]
              refine hago _ ?_
              simp (maxSteps := 1000000) (disch := first | omega | (simp (disch := first | omega | (simp only [gC_len, Edg.len, ixC_len, wC_len, bC_len, List.length_append, List.length_cons, List.length_nil, List.length_set]; first | done | omega)) only [gC_len, Edg.len, ixC_len, wC_len, bC_len, amSide, Int.reduceToNat, Nat.reducePow, Nat.reduceMul]; first | done | omega)) only [↓amPre, amPost, ↓s_lit', Nat.reduceAdd, Nat.reduceSub, List.replicate, retA, resultsA, resultA, toC, toCL, Nat.reduceEqDiff, Int.natCast_add, Int.cast_ofNat_Int, dec_t, dec_f]
          · simp only [decide_eq_false_iff_not] at hc3
            have f7 := fun lk => s7 S (show 5 ≤ d by omega) lk hm (tabB_ext hT3 hxm)
            simp (maxSteps := 1000000) (disch := first | omega | (simp (disch := first | omega | (simp only [gC_len, Edg.len, ixC_len, wC_len, bC_len, List.length_append, List.length_cons, List.length_nil, List.length_set]; first | done | omega)) only [gC_len, Edg.len, ixC_len, wC_len, bC_len, amSide, Int.reduceToNat, Nat.reducePow, Nat.reduceMul]; first | done | omega)) only  [↓amPre, amPost, ↓s_lit', Nat.reduceAdd, Nat.reduceSub, List.replicate, retA, resultsA, resultA, toC, toCL, Nat.reduceEqDiff, he, (ze33 S.p), eql_bool (un4 S.p), neq_bool (un4 S.p), iaddr_sl (un35 S.p) (sz3 S.p), len_sl (un22 S.p), len_nils (un22 S.p), len_sl (un35 S.p), len_nils (un35 S.p), part_sc (ag3 S.p), part_all (ag33 S.p) (sz33 S.p), part_at (ag33 S.p) (sz33 S.p), store_last (sz33 S.p), (sz33 S.p), f7]
            exact Ends.some rfl
end Go.AM
