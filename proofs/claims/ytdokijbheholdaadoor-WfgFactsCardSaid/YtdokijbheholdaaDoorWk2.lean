/- Waiting graphs: the ring's edges; orders: mathematics. Conditions: none. -/
import Derived.Test.YtdokijbheholdaaDoorWk1
set_option linter.unusedVariables false
set_option linter.unusedSimpArgs false
set_option maxRecDepth 100000
namespace Go.AM
open Go.Proofs Go.Lib
theorem Dst_next {E : List Nat} {L : List Edg} (G : GR E L) {s n m : Nat} (hn : n < 64) (h : Dst E s 64 n = m + 2) (hm : m + 2 ≠ 65) : ∃ k ∈ blF (E.getD n 0) s, stepP E s (m + 1) k = true := by
  obtain ⟨h1, q, h2, h3, h4, _⟩ := Dst_when h hm
  rw [List.any_eq_true] at h4
  obtain ⟨k, hk, hh⟩ := h4
  obtain rfl : q = m + 1 := by omega
  unfold hitK at hh
  simp only [Bool.or_eq_true, Bool.and_eq_true, beq_iff_eq, bne_iff_ne, ne_eq] at hh
  rcases hh with ⟨_, hh⟩ | ⟨hh, hd⟩
  · omega
  · have hd' : Dst E s (m + 1) k = m + 1 := by simpa using hd
    have hup := Dst_up (m' := 64) (by omega) hd' (by omega)
    exact ⟨k, hk, by unfold stepP; simp [hh, hup]⟩
theorem Dst_last {E : List Nat} {L : List Edg} (G : GR E L) {s n : Nat} (hn : n < 64) (h : Dst E s 64 n = 1) : (⟨n, s⟩ : Edg) ∈ L := by
  obtain ⟨h1, q, h2, h3, h4, _⟩ := Dst_when h (by omega)
  rw [List.any_eq_true] at h4
  obtain ⟨k, hk, hh⟩ := h4
  obtain rfl : q = 0 := by omega
  unfold hitK at hh
  simp only [Bool.or_eq_true, Bool.and_eq_true, beq_iff_eq, bne_iff_ne, ne_eq] at hh
  rcases hh with ⟨hh, _⟩ | ⟨hh, hd⟩
  · subst hh; exact (edge_of G hn hk).1
  · have : Dst E s 0 k = 65 := rfl
    rw [this] at hd
    omega
theorem gw_facts {E : List Nat} {L : List Edg} (G : GR E L) {s : Nat} : ∀ (m n : Nat), n < 64 → s ≤ n → Dst E s 64 n = m + 1 → m + 1 ≠ 65 →
    (n :: gwalk E s m n).length = m + 1 ∧ (∀ (i a b : Nat), (n :: gwalk E s m n)[i]? = some a → (n :: gwalk E s m n)[i + 1]? = some b → (⟨a, b⟩ : Edg) ∈ L) ∧ (∀ a : Nat, (n :: gwalk E s m n)[m]? = some a → (⟨a, s⟩ : Edg) ∈ L) ∧ ∀ x ∈ n :: gwalk E s m n, s ≤ x ∧ x < 64
  | 0, n, hn, hs, h, _ => by
    have hl := Dst_last G hn h
    refine ⟨rfl, fun i a b h1 h2 => ?_, fun a ha => ?_, fun x hx => ?_⟩
    · simp [gwalk] at h2
    · obtain rfl : n = a := Option.some.inj ha
      exact hl
    · obtain rfl : x = n := by simpa [gwalk] using hx
      exact ⟨hs, hn⟩
  | m + 1, n, hn, hs, h, hm => by
    obtain ⟨k0, hk0, hp0⟩ := Dst_next G hn h hm
    have hf : ((blF (E.getD n 0) s).find? (stepP E s (m + 1))).isSome = true := by
      rw [List.find?_isSome]; exact ⟨k0, hk0, hp0⟩
    obtain ⟨k, hk⟩ := Option.isSome_iff_exists.1 hf
    have hkm := List.mem_of_find?_eq_some hk
    have hkp := List.find?_some hk
    have hg : gwalk E s (m + 1) n = k :: gwalk E s m k := by
      show (match (blF (E.getD n 0) s).find? (stepP E s (m + 1)) with | some k => k :: gwalk E s m k | none => []) = _
      rw [hk]
    obtain ⟨e1, e2, e3⟩ := edge_of G hn hkm
    unfold stepP at hkp
    simp only [Bool.and_eq_true, bne_iff_ne, ne_eq, beq_iff_eq] at hkp
    have hdn := Dst_le E s n 64
    obtain ⟨i1, i2, i3, i4⟩ := gw_facts G m k e3 e2 hkp.2 (by omega)
    rw [hg]
    refine ⟨by rw [List.length_cons, i1], fun i a b h1 h2 => ?_, fun a ha => i3 a (by simpa using ha), fun x hx => ?_⟩
    · cases i with
      | zero =>
        obtain rfl : n = a := Option.some.inj h1
        obtain rfl : k = b := by simpa using h2
        exact e1
      | succ i => exact i2 i a b (by simpa using h1) (by simpa using h2)
    · rcases List.mem_cons.1 hx with rfl | hx
      · exact ⟨hs, hn⟩
      · exact i4 x hx
/-- A ring's edges; its first node is the least. -/
theorem ring_facts {E : List Nat} {L : List Edg} (G : GR E L) (h : (bst E 64).1 ≠ 65) : ∃ f r, ringV E = f :: r ∧ (∀ (i a b : Nat), (f :: r)[i]? = some a → (f :: r)[(i + 1) % (f :: r).length]? = some b → (⟨a, b⟩ : Edg) ∈ L) ∧ ∀ x ∈ f :: r, f ≤ x ∧ x < 64 := by
  have h1 := bst_eq E 64 h
  obtain ⟨b1, b2, b3, b4⟩ := bst_le E 64
  have hf : (bst E 64).2 < 64 := by omega
  have hR : ringV E = (bst E 64).2 :: gwalk E (bst E 64).2 ((bst E 64).1 - 1) (bst E 64).2 := by unfold ringV; rw [if_neg h]
  generalize bst E 64 = p at *
  obtain ⟨b, f⟩ := p
  simp only at h h1 b1 b2 b3 hf hR
  obtain ⟨m, rfl⟩ : ∃ m, b = m + 1 := ⟨b - 1, by omega⟩
  obtain ⟨i1, i2, i3, i4⟩ := gw_facts G m f hf (Nat.le_refl _) h1 h
  rw [Nat.add_sub_cancel] at hR
  refine ⟨f, _, hR, fun i a b ha hb => ?_, i4⟩
  have hi : i < m + 1 := by rw [← i1]; exact (List.getElem?_eq_some_iff.1 ha).1
  rw [i1] at hb
  by_cases hlast : i = m
  · subst hlast
    rw [Nat.mod_self] at hb
    obtain rfl : f = b := Option.some.inj hb
    exact i3 a ha
  · rw [Nat.mod_eq_of_lt (by omega)] at hb
    exact i2 i a b ha hb
theorem allE_bit (E : List Nat) (k : Nat) : ∀ n, (allE E n).testBit k = true ↔ ∃ i, i < n ∧ E.getD i 0 ≠ 0 ∧ ((E.getD i 0).testBit k = true ∨ i = k)
  | 0 => by simp [allE]
  | n + 1 => by
    have ih := allE_bit E k n
    unfold allE
    split
    · rename_i h0
      rw [ih]
      constructor
      · rintro ⟨i, h1, h2⟩; exact ⟨i, by omega, h2⟩
      · rintro ⟨i, h1, h2, h3⟩
        by_cases hi : i = n
        · subst hi; exact absurd h0 h2
        · exact ⟨i, by omega, h2, h3⟩
    · rename_i h0
      rw [Nat.testBit_or, Nat.testBit_or, Bool.or_eq_true, Bool.or_eq_true, ih, Nat.testBit_two_pow, decide_eq_true_eq]
      constructor
      · rintro ((⟨i, h1, h2⟩ | h) | h)
        · exact ⟨i, by omega, h2⟩
        · exact ⟨n, by omega, h0, .inl h⟩
        · exact ⟨n, by omega, h0, .inr h⟩
      · rintro ⟨i, h1, h2, h3⟩
        by_cases hi : i = n
        · subst hi
          rcases h3 with h3 | h3
          · exact .inl (.inr h3)
          · exact .inr h3
        · exact .inl (.inl ⟨i, by omega, h2, h3⟩)
theorem all_mem {E : List Nat} {L : List Edg} (G : GR E L) {a b : Nat} (h : (⟨a, b⟩ : Edg) ∈ L) : a ∈ bl (allE E 64) ∧ b ∈ bl (allE E 64) := by
  obtain ⟨h1, h2⟩ := G.node h
  have hb := (G.bit a b h1 h2).2 h
  have hne : E.getD a 0 ≠ 0 := fun z => by rw [z] at hb; simp at hb
  exact ⟨(bl_mem _ _).2 ⟨h1, (allE_bit E a 64).2 ⟨a, h1, hne, .inr rfl⟩⟩, (bl_mem _ _).2 ⟨h2, (allE_bit E b 64).2 ⟨a, h1, hne, .inl hb⟩⟩⟩
/-- What holds while the order is laid. -/
structure OInv (L : List Edg) (out left : List Nat) (done : Nat) : Prop where
  dlt : done < 18446744073709551616
  bit : ∀ k, done.testBit k = true ↔ k ∈ out
  nd : (out ++ left).Nodup
  lt : ∀ k ∈ left, k < 64
  ord : ∀ (i n : Nat), out[i]? = some n → ∀ k : Nat, (⟨n, k⟩ : Edg) ∈ L → k ∈ out.take i
theorem okP_iff {E : List Nat} {L : List Edg} (G : GR E L) {out left : List Nat} {done : Nat} (H : OInv L out left done) {n : Nat} (hn : n < 64) : okP E done n = true ↔ ∀ k : Nat, (⟨n, k⟩ : Edg) ∈ L → k ∈ out := by
  unfold okP
  rw [decide_eq_true_eq]
  have hb := less_bit (G.lt n) H.dlt
  constructor
  · intro h k hk
    have h1 := hb k
    rw [h, Nat.zero_testBit, (G.bit n k hn (G.node hk).2).2 hk] at h1
    cases hd : done.testBit k
    · rw [hd] at h1; cases h1
    · exact (H.bit k).1 hd
  · intro h
    apply Nat.eq_of_testBit_eq
    intro k
    rw [hb, Nat.zero_testBit]
    cases hq : (E.getD n 0).testBit k
    · rfl
    · have hk := (G.bit n k hn (testBit_lt (G.lt n) hq)).1 hq
      rw [(H.bit k).2 (h k hk)]; rfl
theorem cons_erase {l : List Nat} {i : Nat} (hi : i < l.length) : (l[i] :: l.eraseIdx i).Perm l := by
  rw [List.eraseIdx_eq_take_drop_succ]
  have h : l = l.take i ++ l[i] :: l.drop (i + 1) := by rw [← List.drop_eq_getElem_cons hi, List.take_append_drop]
  exact (List.perm_middle.symm).trans (List.Perm.of_eq h.symm)
theorem OInv.step {E : List Nat} {L : List Edg} (G : GR E L) {out left : List Nat} {done i n : Nat} (H : OInv L out left done) (hi : left[i]? = some n) (hok : okP E done n = true) : OInv L (out ++ [n]) (left.eraseIdx i) (done ||| 2 ^ n) := by
  have hn := H.lt n (List.mem_of_getElem? hi)
  have hil := (List.getElem?_eq_some_iff.1 hi).1
  have hall := (okP_iff G H hn).1 hok
  refine ⟨Nat.or_lt_two_pow (n := 64) H.dlt (two_lt hn), fun k => ?_, ?_, fun k hk => H.lt k (List.mem_of_mem_eraseIdx hk), fun j m hj k hk => ?_⟩
  · rw [Nat.testBit_or, Bool.or_eq_true, H.bit, Nat.testBit_two_pow, decide_eq_true_eq, List.mem_append, List.mem_singleton]
    exact or_congr_right eq_comm
  · have hp : (out ++ left).Perm ((out ++ [n]) ++ left.eraseIdx i) := by
      rw [List.append_assoc]
      refine List.Perm.append_left out ?_
      have : n = left[i] := by
        have := List.getElem?_eq_getElem hil
        rw [hi] at this
        exact Option.some.inj this
      rw [this]
      exact (cons_erase hil).symm
    exact hp.nodup_iff.1 H.nd
  · rcases Nat.lt_or_ge j out.length with h | h
    · rw [List.getElem?_append_left h] at hj
      rw [List.take_append_of_le_length (by omega)]
      exact H.ord j m hj k hk
    · rw [List.getElem?_append_right h] at hj
      have hj0 : j - out.length = 0 := by
        rcases Nat.eq_zero_or_pos (j - out.length) with z | z
        · exact z
        · rw [List.getElem?_eq_none (by simp; omega)] at hj; cases hj
      rw [hj0] at hj
      obtain rfl : n = m := by simpa using hj
      have hjl : j = out.length := by omega
      rw [hjl, List.take_append_of_le_length (Nat.le_refl _), List.take_length]
      exact hall k hk
theorem ord_facts {E : List Nat} {L : List Edg} (G : GR E L) : ∀ (m : Nat) (left out : List Nat) (done : Nat), left.length = m → OInv L out left done →
    (∀ res, ordV E m left done out = some res → (∃ d', OInv L res [] d') ∧ ∀ x, (x ∈ out ∨ x ∈ left) → x ∈ res) ∧
    (ordV E m left done out = none → ∃ out' left' d', OInv L out' left' d' ∧ left' ≠ [] ∧ (∀ k ∈ left', okP E d' k = false) ∧ ∀ x, (x ∈ out ∨ x ∈ left) → (x ∈ out' ∨ x ∈ left'))
  | 0, left, out, done, hl, H => by
    obtain rfl := List.eq_nil_of_length_eq_zero hl
    refine ⟨fun res hr => ?_, fun hr => by cases hr⟩
    obtain rfl : out = res := Option.some.inj hr
    exact ⟨⟨done, H⟩, fun x hx => by simpa using hx⟩
  | m + 1, left, out, done, hl, H => by
    cases hf : left.findIdx? (okP E done) with
    | none =>
      have hn : ordV E (m + 1) left done out = none := by
        show (match left.findIdx? (okP E done) with | some i => _ | none => none) = none
        rw [hf]
      rw [hn]
      refine ⟨fun res hr => (by cases hr), fun _ => ⟨out, left, done, H, fun z => by rw [z] at hl; simp at hl, fun k hk => ?_, fun x hx => hx⟩⟩
      have := List.findIdx?_eq_none_iff.1 hf k hk
      simpa using this
    | some i =>
      obtain ⟨hi, hok, _⟩ := List.findIdx?_eq_some_iff_getElem.1 hf
      have hgi : left[i]? = some left[i] := List.getElem?_eq_getElem hi
      have hgd : left.getD i 0 = left[i] := by rw [List.getD_eq_getElem?_getD, hgi]; rfl
      have hs : ordV E (m + 1) left done out = ordV E m (left.eraseIdx i) (done ||| 2 ^ left[i]) (out ++ [left[i]]) := by
        show (match left.findIdx? (okP E done) with | some i => ordV E m (left.eraseIdx i) (done ||| 2 ^ (left.getD i 0)) (out ++ [left.getD i 0]) | none => none) = _
        rw [hf]
        simp only [hgd]
      have H' := H.step G hgi hok
      obtain ⟨r1, r2⟩ := ord_facts G m (left.eraseIdx i) (out ++ [left[i]]) (done ||| 2 ^ left[i]) (by rw [List.length_eraseIdx_of_lt hi]; omega) H'
      have hmem : ∀ x, (x ∈ out ∨ x ∈ left) → (x ∈ out ++ [left[i]] ∨ x ∈ left.eraseIdx i) := by
        intro x hx
        rcases hx with hx | hx
        · exact .inl (List.mem_append_left _ hx)
        · have := (cons_erase hi).mem_iff.2 hx
          rcases List.mem_cons.1 this with q | q
          · exact .inl (by rw [q]; simp)
          · exact .inr q
      rw [hs]
      refine ⟨fun res hr => ?_, fun hr => ?_⟩
      · obtain ⟨a, b⟩ := r1 res hr
        exact ⟨a, fun x hx => b x (hmem x hx)⟩
      · obtain ⟨o', l', d', a, b, c, e⟩ := r2 hr
        exact ⟨o', l', d', a, b, c, fun x hx => e x (hmem x hx)⟩
/-- Where each has a next one, someone reaches himself. -/
theorem loop_ex {L : List Edg} : ∀ (m : Nat) (A : List Nat), A.length ≤ m → A ≠ [] → (∀ k ∈ A, ∃ j ∈ A, (⟨k, j⟩ : Edg) ∈ L) → ∃ n, Rch L n n
  | 0, A, hl, hne, _ => absurd (List.eq_nil_of_length_eq_zero (by omega)) hne
  | m + 1, A, hl, hne, H => by
    obtain ⟨k, hk⟩ : ∃ k, k ∈ A := List.exists_mem_of_ne_nil A hne
    by_cases hkk : Rch L k k
    · exact ⟨k, hkk⟩
    · obtain ⟨j, hj, hkj⟩ := H k hk
      obtain ⟨B, hB⟩ : ∃ B, B = A.filter fun x => @decide (Rch L k x) (Classical.propDecidable _) := ⟨_, rfl⟩
      have hmem : ∀ x, x ∈ B ↔ x ∈ A ∧ Rch L k x := fun x => by
        rw [hB, List.mem_filter]
        simp
      have hlt : B.length < A.length := by
        have hle := List.length_filter_le (fun x => @decide (Rch L k x) (Classical.propDecidable _)) A
        rw [← hB] at hle
        rcases Nat.lt_or_eq_of_le hle with h | h
        · exact h
        · exfalso
          rw [hB] at h
          have := List.length_filter_eq_length_iff.1 h k hk
          exact hkk (by simpa using this)
      refine loop_ex m B (by omega) (fun z => ?_) fun x hx => ?_
      · have : j ∈ B := (hmem j).2 ⟨hj, .one j hkj⟩
        rw [z] at this; cases this
      · obtain ⟨h1, h2⟩ := (hmem x).1 hx
        obtain ⟨y, hy, hxy⟩ := H x h1
        exact ⟨y, (hmem y).2 ⟨hy, .more x y h2 hxy⟩, hxy⟩
theorem ord_start {E : List Nat} {L : List Edg} (G : GR E L) : OInv L [] (bl (allE E 64)) 0 :=
  ⟨by omega, fun k => by simp, by
    rw [List.nil_append]
    unfold bl blN
    exact List.Pairwise.filter _ List.nodup_range, fun k hk => ((bl_mem _ _).1 hk).1, fun i n h => by simp at h⟩
def orderV (E : List Nat) : Option (List Nat) := ordV E (bl (allE E 64)).length (bl (allE E 64)) 0 []
/-- There is an order just if nobody reaches himself; in it each stands behind all to whom it has edges. -/
theorem order_some {E : List Nat} {L : List Edg} (G : GR E L) {res : List Nat} (h : orderV E = some res) : (∀ n, ¬ Rch L n n) ∧ res.Nodup ∧ ∀ (i n : Nat), res[i]? = some n → ∀ k : Nat, (⟨n, k⟩ : Edg) ∈ L → k ∈ res.take i := by
  obtain ⟨⟨d', H⟩, hm⟩ := (ord_facts G _ _ [] 0 rfl (ord_start G)).1 res h
  have hnd : res.Nodup := by have := H.nd; rwa [List.append_nil] at this
  refine ⟨fun n hr => ?_, hnd, H.ord⟩
  have hn : n ∈ res := by
    obtain ⟨b, hb⟩ : ∃ b : Nat, (⟨b, n⟩ : Edg) ∈ L := by
      cases hr with
      | one _ h => exact ⟨_, h⟩
      | more j _ _ h => exact ⟨j, h⟩
    exact hm n (.inr (all_mem G hb).2)
  obtain ⟨i, hi⟩ := List.getElem?_of_mem hn
  have key : ∀ k, Rch L n k → k ∈ res.take i := by
    intro k hk
    induction hk with
    | one k h => exact H.ord i n hi k h
    | more j k _ h ih =>
      obtain ⟨i', hi'⟩ := List.getElem?_of_mem ih
      have hlt : i' < (res.take i).length := (List.getElem?_eq_some_iff.1 hi').1
      rw [List.length_take] at hlt
      rw [List.getElem?_take_of_lt (by omega)] at hi'
      have := H.ord i' j hi' k h
      exact List.take_subset_take_left res (by omega) this
  have hself := key n hr
  obtain ⟨i', hi'⟩ := List.getElem?_of_mem hself
  have hlt : i' < (res.take i).length := (List.getElem?_eq_some_iff.1 hi').1
  rw [List.length_take] at hlt
  rw [List.getElem?_take_of_lt (by omega)] at hi'
  obtain ⟨a1, a2⟩ := List.getElem?_eq_some_iff.1 hi
  obtain ⟨b1, b2⟩ := List.getElem?_eq_some_iff.1 hi'
  have := (List.getElem?_inj (j := i') a1 hnd).1 (by rw [hi, hi'])
  omega
theorem order_none {E : List Nat} {L : List Edg} (G : GR E L) (h : orderV E = none) : ∃ n, Rch L n n := by
  obtain ⟨out', left', d', H, hne, hno, hm⟩ := (ord_facts G _ _ [] 0 rfl (ord_start G)).2 h
  refine loop_ex left'.length left' (Nat.le_refl _) hne fun k hk => ?_
  have hk64 := H.lt k hk
  have h1 := hno k hk
  obtain ⟨j, hj, hjo⟩ : ∃ j : Nat, (⟨k, j⟩ : Edg) ∈ L ∧ j ∉ out' := by
    apply Classical.byContradiction
    intro q
    have : okP E d' k = true := (okP_iff G H hk64).2 fun j hj => by
      apply Classical.byContradiction
      intro z
      exact q ⟨j, hj, z⟩
    rw [h1] at this; cases this
  rcases hm j (.inr (all_mem G hj).2) with z | z
  · exact absurd z hjo
  · exact ⟨j, z, hj⟩
end Go.AM
