/- The abstract machine: slices of records. Conditions: none. -/
import Derived.Test.YtjhhjmngjmflaaaAmOwn
import Derived.Test.YtjhhjmngjmflaaaAmOpns
set_option linter.unusedVariables false
set_option linter.unusedSimpArgs false
namespace Go.AM
section
variable {α : Type} {f : α → List SV} {s : Nat}
def recs (f : α → List SV) (l : List α) : List SV := l.flatMap f
theorem recs_cons (f : α → List SV) (a : α) (l : List α) : recs f (a :: l) = f a ++ recs f l := by simp [recs]
theorem recs_app (f : α → List SV) (a b : List α) : recs f (a ++ b) = recs f a ++ recs f b := by simp [recs]
theorem recs_snoc (f : α → List SV) (l : List α) (a : α) : recs f l ++ f a = recs f (l ++ [a]) := by simp [recs]
theorem recs_len (hf : ∀ a, (f a).length = s) : ∀ l : List α, (recs f l).length = l.length * s
  | [] => by simp [recs]
  | a :: l => by rw [recs_cons, List.length_append, hf, recs_len hf l, List.length_cons, Nat.add_mul]; omega
theorem recs_take (hf : ∀ a, (f a).length = s) : ∀ (l : List α) (i : Nat), (recs f l).take (i * s) = recs f (l.take i)
  | l, 0 => by simp [recs]
  | [], i + 1 => by simp [recs]
  | a :: l, i + 1 => by
    rw [recs_cons, List.take_succ_cons, recs_cons, Nat.add_mul, Nat.one_mul, Nat.add_comm, List.take_append, hf]
    rw [List.take_of_length_le (by rw [hf]; omega), show s + i * s - s = i * s by omega, recs_take hf l i]
theorem recs_drop (hf : ∀ a, (f a).length = s) : ∀ (l : List α) (i : Nat), (recs f l).drop (i * s) = recs f (l.drop i)
  | l, 0 => by simp
  | [], i + 1 => by simp [recs]
  | a :: l, i + 1 => by
    rw [recs_cons, List.drop_succ_cons, Nat.add_mul, Nat.one_mul, Nat.add_comm, List.drop_append, hf]
    rw [List.drop_eq_nil_of_le (by rw [hf]; omega), List.nil_append, show s + i * s - s = i * s by omega, recs_drop hf l i]
theorem recs_at (hf : ∀ a, (f a).length = s) {l : List α} {i : Nat} {x : α} (hx : l[i]? = some x) : ((recs f l).drop (i * s)).take s = f x := by
  have h1 := (List.getElem?_eq_some_iff.1 hx)
  obtain ⟨hi, he⟩ := h1
  rw [recs_drop hf, List.drop_eq_getElem_cons hi, he, recs_cons, List.take_append, hf, Nat.sub_self, List.take_zero, List.append_nil]
  exact List.take_of_length_le (by rw [hf]; exact Nat.le_refl _)
theorem recs_get (hf : ∀ a, (f a).length = s) {l : List α} {i : Nat} {x : α} (hx : l[i]? = some x) (off : Nat) (ho : off < s) : (recs f l)[i * s + off]? = (f x)[off]? := by
  rw [← recs_at hf hx, List.getElem?_take_of_lt ho, List.getElem?_drop]
theorem recs_le (hf : ∀ a, (f a).length = s) {l : List α} {i : Nat} {x : α} (hx : l[i]? = some x) : i * s + s ≤ (recs f l).length := by
  have h1 := (List.getElem?_eq_some_iff.1 hx).1
  rw [recs_len hf, ← Nat.succ_mul]
  exact Nat.mul_le_mul_right _ h1
theorem recs_part {P : Program} {t : TypeId} (ha : aggT P t = some true) (hsz : szT P t = some s) (hf : ∀ a, (f a).length = s) {l : List α} {i : Nat} {x : α} (hx : l[i]? = some x) : partA P t (recs f l) (i * s) = some (.ag (f x)) := by
  rw [part_ag ha hsz, if_pos (recs_le hf hx), recs_at hf hx]
theorem recs_set (hf : ∀ a, (f a).length = s) {l : List α} {i : Nat} (hi : i < l.length) (a : α) : splice (recs f l) (i * s) (f a) = recs f (l.set i a) := by
  show (recs f l).take (i * s) ++ f a ++ (recs f l).drop (i * s + (f a).length) = _
  rw [hf, ← Nat.succ_mul, recs_take hf, recs_drop hf, List.set_eq_take_append_cons_drop, if_pos hi, recs_app, recs_cons, List.append_assoc]
theorem recs_put (hf : ∀ a, (f a).length = s) {l : List α} {i : Nat} {x : α} (hx : l[i]? = some x) (off : Nat) (ho : off < s) (v : SV) (y : α) (hy : (f x).set off v = f y) : (recs f l).set (i * s + off) v = recs f (l.set i y) := by
  have hi := (List.getElem?_eq_some_iff.1 hx).1
  have hle := recs_le hf hx
  apply List.ext_getElem?
  intro j
  rw [List.getElem?_set]
  have hl2 : (recs f (l.set i y)).length = (recs f l).length := by rw [recs_len hf, recs_len hf, List.length_set]
  by_cases hj : i * s + off = j
  · subst hj
    rw [if_pos rfl, if_pos (by omega), recs_get hf (List.getElem?_set_self hi) off ho, ← hy, List.getElem?_set_self (by rw [hf]; exact ho)]
  · rw [if_neg hj]
    have hs0 : 0 < s := by omega
    have hdm := Nat.div_add_mod j s
    have hml := Nat.mod_lt j hs0
    rw [Nat.mul_comm] at hdm
    rcases Nat.lt_or_ge (j / s) l.length with hq | hq
    · rw [← hdm, recs_get hf (List.getElem?_eq_getElem hq) _ hml]
      by_cases hqi : j / s = i
      · have : l[j / s] = x := Option.some.inj (by rw [← List.getElem?_eq_getElem hq, hqi]; exact hx)
        rw [this]
        have h8 : (l.set i y)[j / s]? = some y := by rw [hqi]; exact List.getElem?_set_self hi
        rw [recs_get hf h8 _ hml, ← hy, List.getElem?_set_ne (by intro e; rw [e, ← hqi] at hj; omega)]
      · rw [recs_get hf (x := l[j / s]) (by rw [List.getElem?_set_ne (Ne.symm hqi)]; exact List.getElem?_eq_getElem hq) _ hml]
    · have : l.length * s ≤ j := by have := Nat.mul_le_mul_right s hq; omega
      rw [List.getElem?_eq_none (by rw [recs_len hf]; exact this), List.getElem?_eq_none (by rw [hl2, recs_len hf]; exact this)]
/-- A slice of records. -/
def Rs (f : α → List SV) (s : Nat) (h : List AO) (q : SV) (l : List α) : Prop := (q = .nils ∧ l = []) ∨ ∃ b, q = .sl b 0 l.length s ∧ b < h.length ∧ cellsAt h b = some (recs f l)
theorem Rs.ext {h h' : List AO} {q : SV} {l : List α} (H : Rs f s h q l) (hx : Ext1 h h') : Rs f s h' q l := by
  rcases H with ⟨h1, h2⟩ | ⟨b, h1, h2, h3⟩
  · exact .inl ⟨h1, h2⟩
  · exact .inr ⟨b, h1, Nat.lt_of_lt_of_le h2 hx.len, by rw [hx.cells h2]; exact h3⟩
theorem Rs.at {h : List AO} {q : SV} {l : List α} (H : Rs f s h q l) (h0 : 0 < l.length) : ∃ b, q = .sl b 0 l.length s ∧ b < h.length ∧ cellsAt h b = some (recs f l) := by
  rcases H with ⟨_, rfl⟩ | H
  · simp at h0
  · exact H
theorem Rs.len {P : Program} {t el : TypeId} (hu : P.underlying t = some (.slice el)) {h : List AO} {q : SV} {l : List α} (H : Rs f s h q l) (hh : List AO) : lenA P hh t (.v (.sc q)) = some (.v (.sc (.int .i64 (l.length : Int)))) := by
  rcases H with ⟨rfl, rfl⟩ | ⟨b, rfl, _, _⟩
  · exact len_nils hu
  · exact len_sl hu _ _ _ _
theorem Own.rs {e lo : Nat} (hs : 0 < s) (hf : ∀ a, (f a).length = s) {h : List AO} {q : SV} {l : List α} (H : Own e s lo h q (recs f l)) : Rs f s h q l := by
  rcases H with ⟨rfl, h2⟩ | ⟨b, h1, h2, h3, h4, h5⟩
  · refine .inl ⟨rfl, ?_⟩
    have := recs_len hf l
    rw [h2] at this
    simp only [List.length_nil] at this
    rcases Nat.mul_eq_zero.1 this.symm with h | h
    · exact List.eq_nil_of_length_eq_zero h
    · omega
  · exact .inr ⟨b, by rw [h3, recs_len hf, Nat.mul_div_cancel _ hs], h2, cells_at h4⟩
/-- Cells that are records, one by one. -/
theorem recs_of (hf : ∀ a, (f a).length = s) {p : α → Prop} : ∀ (n : Nat) (cs : List SV), cs.length = n * s → (∀ i, i < n → ∃ x, p x ∧ (cs.drop (i * s)).take s = f x) → ∃ l : List α, l.length = n ∧ cs = recs f l ∧ ∀ x ∈ l, p x
  | 0, cs, hl, _ => ⟨[], rfl, by rw [Nat.zero_mul] at hl; rw [List.eq_nil_of_length_eq_zero hl]; rfl, fun x hx => by cases hx⟩
  | n + 1, cs, hl, hx => by
    rw [Nat.add_mul, Nat.one_mul] at hl
    obtain ⟨x, hp, h1⟩ := hx 0 (by omega)
    rw [Nat.zero_mul, List.drop_zero] at h1
    obtain ⟨l, h2, h3, h4⟩ := recs_of hf n (cs.drop s) (by rw [List.length_drop]; omega) (fun i hi => by
      obtain ⟨y, hy, h5⟩ := hx (i + 1) (by omega)
      refine ⟨y, hy, ?_⟩
      rw [List.drop_drop, ← h5, Nat.add_mul, Nat.one_mul, Nat.add_comm])
    refine ⟨x :: l, by simp [h2], ?_, fun y hy => ?_⟩
    · rw [recs_cons, ← h1, ← h3, List.take_append_drop]
    · rcases List.mem_cons.1 hy with rfl | hy
      · exact hp
      · exact h4 y hy
/-- An argument's records. -/
theorem rs_of (hf : ∀ a, (f a).length = s) {e : Sh} {p : α → Prop} {h : List AO} (hx : ∀ ys, Fits e h ys → ∃ x, p x ∧ ys = f x) {xs : List SV} (H : Fits (.slice s e) h xs) : ∃ q l, xs = [q] ∧ Rs f s h q l ∧ ∀ x ∈ l, p x := by
  rcases H with hq | ⟨l, n, cs, hq, ho, hl, hm, hfx⟩
  · exact ⟨.nils, [], hq, .inl ⟨rfl, rfl⟩, fun x hx => by cases hx⟩
  · obtain ⟨ys, h1, h2, h3⟩ := recs_of hf (p := p) n cs hl fun i hi => by
      obtain ⟨x, hp, he⟩ := hx _ (hfx i hi)
      exact ⟨x, hp, he⟩
    refine ⟨_, ys, hq, .inr ⟨l, by rw [h1], (List.getElem?_eq_some_iff.1 ho).1, ?_⟩, h3⟩
    rw [cells_at_ro ho, h2]
end
end Go.AM
