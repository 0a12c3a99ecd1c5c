/- Maps whose keys are pairs of whole numbers: what is found behind what is put and taken away. Conditions: none. -/
import Derived.Test.YtjhhjmngjmflaaaAmAll
set_option linter.unusedVariables false
set_option linter.unusedSimpArgs false
namespace Go.AM
abbrev Pk := Int × Int
def pk (k : Pk) : List SV := [.int .i64 k.1, .int .i64 k.2]
section
variable {α : Type}
/-- A map's entries. -/
def entsP (enc : α → CV) (M : List (Pk × α)) : List (CV × CV) := M.map fun p => (.ag (pk p.1), enc p.2)
def getP (k : Pk) : List (Pk × α) → Option α
  | [] => none
  | (a, v) :: M => if k = a then some v else getP k M
def updP (k : Pk) (v : α) : List (Pk × α) → List (Pk × α)
  | [] => [(k, v)]
  | (a, w) :: M => if k = a then (k, v) :: M else (a, w) :: updP k v M
def delP (k : Pk) : List (Pk × α) → List (Pk × α)
  | [] => []
  | (a, w) :: M => if k = a then M else (a, w) :: delP k M
theorem find_stepP {P : Program} {kt : TypeId} (he : ∀ xs ys, eqA P kt (.v (.ag xs)) (.v (.ag ys)) = eqL [1, 1] xs ys) (t a : Pk) (v : CV) (es : List (CV × CV)) (k : Nat) :
    findS P kt (pk t) ((.ag (pk a), v) :: es) k = if t = a then some (some (k, v)) else findS P kt (pk t) es (k + 1) := by
  obtain ⟨t1, t2⟩ := t
  obtain ⟨a1, a2⟩ := a
  have hi : intsB (pk (a1, a2)) = true := rfl
  have hq : eqA P kt (.v (.ag (pk (t1, t2)))) (.v (.ag (pk (a1, a2)))) = some ((t1 == a1) && ((t2 == a2) && true)) := by
    rw [he]; simp [pk, eqL, eqS]
  simp only [findS, hi, if_true, hq, Option.bind_some]
  by_cases h1 : t1 = a1
  · by_cases h2 : t2 = a2
    · subst h1; subst h2; simp
    · have : (t2 == a2) = false := by simpa using h2
      simp [this, h2]
  · have : (t1 == a1) = false := by simpa using h1
    simp [this, h1]
theorem find_entsP {P : Program} {kt : TypeId} (he : ∀ xs ys, eqA P kt (.v (.ag xs)) (.v (.ag ys)) = eqL [1, 1] xs ys) (enc : α → CV) (t : Pk) : ∀ (M : List (Pk × α)) (k : Nat),
    (findS P kt (pk t) (entsP enc M) k = some none ∧ getP t M = none ∧ (∀ v, entsP enc M ++ [(.ag (pk t), enc v)] = entsP enc (updP t v M)) ∧ delP t M = M ∧ ∀ p ∈ M, p.1 ≠ t) ∨
    ∃ j v0, findS P kt (pk t) (entsP enc M) k = some (some (k + j, enc v0)) ∧ getP t M = some v0 ∧ (∀ v, (entsP enc M).set j (.ag (pk t), enc v) = entsP enc (updP t v M)) ∧ (entsP enc M).eraseIdx j = entsP enc (delP t M)
  | [], k => .inl ⟨rfl, rfl, fun _ => rfl, rfl, fun p hp => (by cases hp)⟩
  | (a, w) :: M, k => by
    have e1 : findS P kt (pk t) (entsP enc ((a, w) :: M)) k = if t = a then some (some (k, enc w)) else findS P kt (pk t) (entsP enc M) (k + 1) := find_stepP he t a (enc w) (entsP enc M) k
    by_cases h : t = a
    · refine .inr ⟨0, w, ?_, by simp only [getP, if_pos h], fun v => ?_, ?_⟩
      · rw [e1, if_pos h]; simp only [Nat.add_zero]
      · simp only [updP, if_pos h, entsP, List.map_cons, List.set_cons_zero]
      · simp only [delP, if_pos h, entsP, List.map_cons, List.eraseIdx_cons_zero]
    · rw [e1, if_neg h]
      rcases find_entsP he enc t M (k + 1) with ⟨f1, f2, f3, f4, f5⟩ | ⟨j, v0, f1, f0, f2, f3⟩
      · refine .inl ⟨f1, by simp only [getP, if_neg h]; exact f2, fun v => ?_, by simp only [delP, if_neg h, f4], fun p hp => ?_⟩
        · have := f3 v
          simp only [updP, if_neg h, entsP, List.map_cons, List.cons_append] at this ⊢
          rw [this]
        · rcases List.mem_cons.1 hp with rfl | hp
          · exact fun q => h q.symm
          · exact f5 p hp
      · refine .inr ⟨j + 1, v0, ?_, by simp only [getP, if_neg h]; exact f0, fun v => ?_, ?_⟩
        · rw [f1, show k + 1 + j = k + (j + 1) by omega]
        · have := f2 v
          simp only [updP, if_neg h, entsP, List.map_cons, List.set_cons_succ] at this ⊢
          rw [this]
        · simp only [delP, if_neg h, entsP, List.map_cons, List.eraseIdx_cons_succ] at f3 ⊢
          rw [f3]
theorem getP_upd (s t : Pk) (v : α) : ∀ M, getP s (updP t v M) = if s = t then some v else getP s M
  | [] => by simp [updP, getP]
  | (a, w) :: M => by
    unfold updP
    by_cases h : t = a
    · subst h; simp only [if_true, getP]
      by_cases q : s = t <;> simp [q]
    · simp only [if_neg h, getP, getP_upd s t v M]
      by_cases q : s = t
      · subst q; simp [h]
      · simp [q]
theorem keys_updP (t : Pk) (v : α) : ∀ M : List (Pk × α), ∀ p ∈ updP t v M, p.1 = t ∨ ∃ q ∈ M, q.1 = p.1
  | [], p, hp => by simp [updP] at hp; subst hp; exact .inl rfl
  | (a, w) :: M, p, hp => by
    unfold updP at hp
    by_cases h : t = a
    · rw [if_pos h] at hp
      rcases List.mem_cons.1 hp with rfl | hp
      · exact .inl rfl
      · exact .inr ⟨p, List.mem_cons_of_mem _ hp, rfl⟩
    · rw [if_neg h] at hp
      rcases List.mem_cons.1 hp with rfl | hp
      · exact .inr ⟨_, List.mem_cons_self, rfl⟩
      · rcases keys_updP t v M p hp with e | ⟨q, h1, h2⟩
        · exact .inl e
        · exact .inr ⟨q, List.mem_cons_of_mem _ h1, h2⟩
def NdP : List (Pk × α) → Prop
  | [] => True
  | (a, _) :: M => (∀ p ∈ M, p.1 ≠ a) ∧ NdP M
theorem NdP.upd (t : Pk) (v : α) : ∀ {M : List (Pk × α)}, NdP M → NdP (updP t v M)
  | [], _ => ⟨fun p hp => (by cases hp), trivial⟩
  | (a, w) :: M, h => by
    unfold updP
    by_cases q : t = a
    · rw [if_pos q]; exact ⟨fun p hp => by rw [q]; exact h.1 p hp, h.2⟩
    · rw [if_neg q]
      refine ⟨fun p hp => ?_, NdP.upd t v h.2⟩
      rcases keys_updP t v M p hp with e | ⟨r, h1, h2⟩
      · rw [e]; exact q
      · rw [← h2]; exact h.1 r h1
theorem mem_delP (t : Pk) : ∀ (M : List (Pk × α)), ∀ p ∈ delP t M, p ∈ M
  | [], p, hp => by simp [delP] at hp
  | (a, w) :: M, p, hp => by
    unfold delP at hp
    split at hp
    · exact List.mem_cons_of_mem _ hp
    · rcases List.mem_cons.1 hp with rfl | hp
      · exact List.mem_cons_self
      · exact List.mem_cons_of_mem _ (mem_delP t M p hp)
theorem NdP.del (t : Pk) : ∀ {M : List (Pk × α)}, NdP M → NdP (delP t M)
  | [], _ => trivial
  | (a, w) :: M, h => by
    unfold delP
    by_cases q : t = a
    · rw [if_pos q]; exact h.2
    · rw [if_neg q]; exact ⟨fun p hp => h.1 p (mem_delP t M p hp), NdP.del t h.2⟩
theorem getP_none (s : Pk) : ∀ {M : List (Pk × α)}, (∀ p ∈ M, p.1 ≠ s) → getP s M = none
  | [], _ => rfl
  | (a, w) :: M, h => by
    have := h _ List.mem_cons_self
    simp only [getP]
    rw [if_neg (Ne.symm this), getP_none s fun p hp => h p (List.mem_cons_of_mem _ hp)]
theorem getP_del (s t : Pk) : ∀ {M : List (Pk × α)}, NdP M → getP s (delP t M) = if s = t then none else getP s M
  | [], _ => by simp [delP, getP]
  | (a, w) :: M, h => by
    unfold delP
    by_cases q : t = a
    · rw [if_pos q]
      by_cases e : s = t
      · subst e; subst q; rw [if_pos rfl]; exact getP_none _ h.1
      · rw [if_neg e]; simp only [getP]; rw [if_neg (by rw [← q]; exact e)]
    · rw [if_neg q]
      simp only [getP, getP_del s t h.2]
      by_cases e : s = t
      · subst e; simp [q]
      · simp [e]
theorem getP_mem {s : Pk} {v : α} : ∀ {M : List (Pk × α)}, getP s M = some v → (s, v) ∈ M
  | [], h => by cases h
  | (a, w) :: M, h => by
    simp only [getP] at h
    split at h
    · rename_i e; obtain rfl := Option.some.inj h; subst e; exact List.mem_cons_self
    · exact List.mem_cons_of_mem _ (getP_mem h)
theorem getP_of_mem {s : Pk} {v : α} : ∀ {M : List (Pk × α)}, NdP M → (s, v) ∈ M → getP s M = some v
  | (a, w) :: M, h, hm => by
    simp only [getP]
    rcases List.mem_cons.1 hm with e | hm
    · obtain ⟨rfl, rfl⟩ := Prod.mk.inj e; rw [if_pos rfl]
    · rw [if_neg (h.1 _ hm), getP_of_mem h.2 hm]
/-- What such a map's type is. -/
structure DictP (P : Program) (m kt el : TypeId) (z : CV) : Prop where
  m : P.underlying m = some (.map kt el)
  e : ∀ xs ys, eqA P kt (.v (.ag xs)) (.v (.ag ys)) = eqL [1, 1] xs ys
  k : ∀ t, keyB P kt (pk t) = true
  z : zeroC P el = some z
section
variable {P : Program} {m kt el : TypeId} {z : CV} (D : DictP P m kt el z) (enc : α → CV) {h : List AO} {l lk : Nat} {M : List (Pk × α)} (hl : h[l]? = some (.map (entsP enc M))) (t : Pk)
include D hl
theorem lookP (ok : Bool) : lookupA P h m (.v (.sc (.mp l))) (.v (.ag (pk t))) ok = some (match getP t M with
    | some v => (if ok then .tup [enc v, .sc (.bool true)] else .v (enc v))
    | none => (if ok then .tup [z, .sc (.bool false)] else .v z)) := by
  simp only [lookupA, D.m, D.k, if_true, mapAt, hl, Option.bind_some]
  rcases find_entsP D.e enc t M 0 with ⟨f1, f2, _⟩ | ⟨j, v0, f1, f0, _⟩
  · rw [f1, f2]; simp [D.z]
  · rw [f1, f0]; simp
theorem upd_entsP (hlk : lk ≤ l) (v : α) :
    updA P h lk m (.v (.sc (.mp l))) (.v (.ag (pk t))) (.v (enc v)) = some (h.set l (.map (entsP enc (updP t v M)))) := by
  simp only [updA, D.m, D.k, hl, hlk, and_self, if_true]
  rcases find_entsP D.e enc t M 0 with ⟨f1, _, f3, _⟩ | ⟨j, v0, f1, _, f2, _⟩
  · rw [f1]; simp only [Option.map_some, f3]
  · rw [f1]; simp only [Option.map_some, Nat.zero_add, f2]
theorem del_entsP (hlk : lk ≤ l) :
    delA P h lk m (.v (.sc (.mp l))) (.v (.ag (pk t))) = some (h.set l (.map (entsP enc (delP t M)))) := by
  simp only [delA, D.m, D.k, hl, hlk, and_self, if_true]
  rcases find_entsP D.e enc t M 0 with ⟨f1, _, _, f4, _⟩ | ⟨j, v0, f1, _, _, f3⟩
  · rw [f1, f4]
    simp only [Option.map_some, Option.some.injEq]
    refine List.ext_getElem? fun i => ?_
    rw [List.getElem?_set]
    split
    · rename_i e; subst e
      rw [if_pos (List.getElem?_eq_some_iff.1 hl).1]; exact hl
    · rfl
  · rw [f1]; simp only [Option.map_some, Nat.zero_add, f3]
end
end
end Go.AM
