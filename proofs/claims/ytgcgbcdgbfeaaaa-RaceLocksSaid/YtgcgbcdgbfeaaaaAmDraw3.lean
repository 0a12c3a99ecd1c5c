/- The abstract machine: regions whose order is open: any order, from the text's. Conditions: none. -/
import Derived.Test.YtgcgbcdgbfeaaaaAmDraw2
set_option linter.unusedVariables false
set_option linter.unusedSimpArgs false
namespace Go.AM
/-- Every order leads to z. -/
def anyG (P : Program) (E : Ext) (lk base : Nat) (al ws : List Nat) (ops : Array Oper) (cs : List Cls) (z : List AV × List AO) : Nat → Array Bool → List AV × List AO → Prop
  | 0, listed, s => Region.ready .any ops listed = [] ∧ s = z
  | n + 1, listed, s => (Region.ready .any ops listed = [] → s = z) ∧ ∀ j ∈ Region.ready .any ops listed, ∃ s', opG P E lk base al ws ops cs j s = some s' ∧ anyG P E lk base al ws ops cs z n (listed.setIfInBounds j true) s'
/-- Does an operation wait for another one, over others? -/
def waitsN (ops : Array Oper) : Nat → Nat → Nat → Bool
  | 0, _, _ => false
  | n + 1, j, i => match ops[j]? with | some o => waits o i || o.after.any fun e => Region.binds .any e && waitsN ops n e.on i | none => false
/-- Who is listed, for him all that bind him are. -/
def ClosedL (ops : Array Oper) (listed : Array Bool) : Prop := ∀ (j : Nat) o, ops[j]? = some o → listed.getD j false = true → ∀ e ∈ o.after, Region.binds .any e = true → listed.getD e.on false = true
theorem waitsN_listed {ops : Array Oper} {listed : Array Bool} (hc : ClosedL ops listed) {i : Nat} : ∀ (n j : Nat), waitsN ops n j i = true → (∀ o, ops[j]? = some o → ∀ e ∈ o.after, Region.binds .any e = true → listed.getD e.on false = true) → listed.getD i false = true
  | 0, j, h, _ => by simp [waitsN] at h
  | n + 1, j, h, hj => by
    unfold waitsN at h
    split at h
    · rename_i o ho
      rcases Bool.or_eq_true_iff.1 h with h | h
      · simp only [waits, Array.any_eq_true'] at h
        obtain ⟨e, he, h⟩ := h
        simp only [Bool.and_eq_true, beq_iff_eq] at h
        rw [← h.2]; exact hj o ho e he h.1
      · simp only [Array.any_eq_true'] at h
        obtain ⟨e, he, h⟩ := h
        simp only [Bool.and_eq_true] at h
        exact waitsN_listed hc n e.on h.2 fun o' ho' e' he' hb => hc e.on o' ho' (hj o ho e he h.1) e' he' hb
    · cases h
def backB (ops : Array Oper) (j : Nat) : Bool := match ops[j]? with | some o => o.after.all fun e => !Region.binds .any e || decide (e.on < j) | none => true
/-- Edges lead back; what is not bound may stand in any order. -/
def lexG (ops : Array Oper) (cs : List Cls) : Bool :=
  Region.noSelect ops && (List.range ops.size).all fun j => backB ops j && (List.range j).all fun i => waitsN ops 5 j i || indepB ops cs i j
def left (m : Nat) (listed : Array Bool) : List Nat := (List.range m).filter fun i => !listed.getD i true
section
variable {P : Program} {E : Ext} {lk base : Nat} {al ws : List Nat} {ops : Array Oper} {cs : List Cls}
theorem lexG_pair (h : lexG ops cs = true) {i j : Nat} (hij : i < j) (hj : j < ops.size) : waitsN ops 5 j i = true ∨ indepB ops cs i j = true := by
  simp only [lexG, Bool.and_eq_true, List.all_eq_true, List.mem_range, Bool.or_eq_true] at h
  exact (h.2 j hj).2 i hij
theorem lexG_back (h : lexG ops cs = true) {j : Nat} {o : Oper} (ho : ops[j]? = some o) : ∀ e ∈ o.after, Region.binds .any e = true → e.on < j := by
  have hj : j < ops.size := (Array.getElem?_eq_some_iff.1 ho).1
  simp only [lexG, Bool.and_eq_true, List.all_eq_true, List.mem_range, Bool.or_eq_true] at h
  have := (h.2 j hj).1
  simp only [backB, ho, Array.all_eq_true_iff_forall_mem] at this
  intro e he hb
  have := this e he
  simp only [hb, Bool.not_true, Bool.false_or, decide_eq_true_eq] at this
  exact this
theorem mem_left {m i : Nat} {listed : Array Bool} : i ∈ left m listed ↔ i < m ∧ listed.getD i true = false := by simp [left]
theorem left_set {m j : Nat} {listed : Array Bool} (hj : j < listed.size) {l1 l2 : List Nat} (h : left m listed = l1 ++ j :: l2) : left m (listed.setIfInBounds j true) = l1 ++ l2 := by
  have hnd : (left m listed).Nodup := List.Pairwise.filter _ List.nodup_range
  have h1 : left m (listed.setIfInBounds j true) = (left m listed).filter fun i => i != j := by
    simp only [left, List.filter_filter]
    apply List.filter_congr
    intro i _
    by_cases hi : i = j
    · subst hi; simp [hj]
    · rw [getD_set_ne true (Ne.symm hi)]; simp [hi]
  rw [h1, h]
  rw [h] at hnd
  have hn := List.nodup_append.1 hnd
  rw [List.filter_append, List.filter_cons_of_neg (by simp)]
  rw [List.filter_eq_self.2, List.filter_eq_self.2]
  · intro a ha; simp only [bne_iff_ne]; rintro rfl; exact (List.nodup_cons.1 hn.2.1).1 ha
  · intro a ha; simp only [bne_iff_ne]; rintro rfl; exact hn.2.2 _ ha _ List.mem_cons_self rfl
theorem any_of_run (hlex : lexG ops cs = true) {z : List AV × List AO} : ∀ (n : Nat) (listed : Array Bool) (s : List AV × List AO), listed.size = ops.size → ClosedL ops listed → (left ops.size listed).length = n →
    runL P E lk base al ws ops cs (left ops.size listed) s = some z → anyG P E lk base al ws ops cs z n listed s := by
  intro n
  induction n with
  | zero =>
    intro listed s hs hcl hn hr
    have h0 : left ops.size listed = [] := List.length_eq_zero_iff.1 hn
    rw [h0] at hr
    refine ⟨?_, Option.some.inj hr⟩
    refine List.eq_nil_iff_forall_not_mem.2 fun j hj => ?_
    obtain ⟨h1, o, ho, _⟩ := mem_ready.1 hj
    have : j ∈ left ops.size listed := mem_left.2 ⟨(Array.getElem?_eq_some_iff.1 ho).1, h1⟩
    rw [h0] at this; cases this
  | succ n ih =>
    intro listed s hs hcl hn hr
    refine ⟨fun he => ?_, fun j hj => ?_⟩
    · exfalso
      cases hl : left ops.size listed with
      | nil => rw [hl] at hn; cases hn
      | cons j l =>
        have hj : j ∈ left ops.size listed := by rw [hl]; exact List.mem_cons_self
        obtain ⟨h1, h2⟩ := mem_left.1 hj
        have ho : ops[j]? = some ops[j] := Array.getElem?_eq_getElem h1
        have hmin : ∀ i, i < j → listed.getD i false = true := fun i hi => by
          have hni : i ∉ left ops.size listed := by
            have hsrt : (left ops.size listed).Pairwise (· < ·) := List.Pairwise.filter _ List.pairwise_lt_range
            rw [hl] at hsrt ⊢
            intro hm
            rcases List.mem_cons.1 hm with rfl | hm
            · omega
            · have := (List.pairwise_cons.1 hsrt).1 i hm; omega
          have := fun h => hni (mem_left.2 ⟨by omega, h⟩)
          have hlt : i < listed.size := by omega
          simp only [Array.getD_eq_getD_getElem?, Array.getElem?_eq_getElem hlt, Option.getD_some] at this ⊢
          simpa using this
        have : j ∈ Region.ready .any ops listed := mem_ready.2 ⟨h2, _, ho, fun e hem hb => hmin _ (lexG_back hlex ho e hem hb)⟩
        rw [he] at this; cases this
    · obtain ⟨h1, o, ho, h3⟩ := mem_ready.1 hj
      have hjl : j ∈ left ops.size listed := mem_left.2 ⟨(Array.getElem?_eq_some_iff.1 ho).1, h1⟩
      obtain ⟨l1, l2, hl⟩ := List.append_of_mem hjl
      have hsrt : (left ops.size listed).Pairwise (· < ·) := List.Pairwise.filter _ List.pairwise_lt_range
      rw [hl] at hsrt
      have hlt : ∀ i ∈ l1, i < j := fun i hi => (List.pairwise_append.1 hsrt).2.2 i hi j List.mem_cons_self
      have hj' : j < ops.size := (Array.getElem?_eq_some_iff.1 ho).1
      rw [hl] at hr
      obtain ⟨s', k1, k2⟩ := run_front l1 l2 (fun i hi => ⟨by have := hlt i hi; omega, by
        rcases lexG_pair hlex (hlt i hi) hj' with hw | hw
        · exfalso
          have this := waitsN_listed hcl 5 j hw fun o' ho' e' he' hb => by
            rw [ho] at ho'
            obtain rfl := Option.some.inj ho'
            exact h3 e' he' hb
          have him : i ∈ left ops.size listed := by rw [hl]; exact List.mem_append_left _ hi
          have h4 := (mem_left.1 him).2
          have hlt : i < listed.size := by have := (mem_left.1 him).1; omega
          simp only [Array.getD_eq_getD_getElem?, Array.getElem?_eq_getElem hlt, Option.getD_some] at this h4
          rw [this] at h4; cases h4
        · exact hw⟩) hr
      have hset := left_set (m := ops.size) (listed := listed) (by omega) hl
      have hmono : ∀ x, listed.getD x false = true → (listed.setIfInBounds j true).getD x false = true := fun x hx => by
        by_cases hxj : x = j
        · subst hxj
          have : x < listed.size := by omega
          simp [Array.getD_eq_getD_getElem?, this]
        · rw [getD_set_ne false (Ne.symm hxj)]; exact hx
      have hcl' : ClosedL ops (listed.setIfInBounds j true) := fun k o' ho' hk e' he' hb => hmono _ (by
        by_cases hkj : k = j
        · subst hkj
          rw [ho] at ho'
          obtain rfl := Option.some.inj ho'
          exact h3 e' he' hb
        · rw [getD_set_ne false (Ne.symm hkj)] at hk
          exact hcl k o' ho' hk e' he' hb)
      refine ⟨s', k1, ih _ s' (by simp [hs]) hcl' ?_ (by rw [hset]; exact k2)⟩
      rw [hset]; rw [hl] at hn; simp at hn ⊢; omega
end
end Go.AM
