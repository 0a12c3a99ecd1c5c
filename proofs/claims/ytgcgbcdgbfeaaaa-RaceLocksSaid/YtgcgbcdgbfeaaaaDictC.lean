/- Maps from whole numbers to values: what is found behind what is put and taken away. Conditions: none. -/
import Derived.Test.YtgcgbcdgbfeaaaaAmAll
set_option linter.unusedVariables false
set_option linter.unusedSimpArgs false
namespace Go.AM
/-- A map's entries. -/
def entsC (M : List (Int × CV)) : List (CV × CV) := M.map fun p => (.sc (.int .i64 p.1), p.2)
def getC (z : CV) (t : Int) : List (Int × CV) → CV
  | [] => z
  | (a, v) :: M => if t = a then v else getC z t M
def updC (t : Int) (v : CV) : List (Int × CV) → List (Int × CV)
  | [] => [(t, v)]
  | (a, w) :: M => if t = a then (t, v) :: M else (a, w) :: updC t v M
def delC (t : Int) : List (Int × CV) → List (Int × CV)
  | [] => []
  | (a, w) :: M => if t = a then M else (a, w) :: delC t M
theorem find_entsC (z : CV) (t : Int) : ∀ (M : List (Int × CV)) (k : Nat),
    (findM .i64 t (entsC M) k = some none ∧ getC z t M = z ∧ (∀ v, entsC M ++ [(.sc (.int .i64 t), v)] = entsC (updC t v M)) ∧ delC t M = M ∧ ∀ p ∈ M, p.1 ≠ t) ∨
    ∃ j, findM .i64 t (entsC M) k = some (some (k + j, getC z t M)) ∧ (∀ v, (entsC M).set j (.sc (.int .i64 t), v) = entsC (updC t v M)) ∧ (entsC M).eraseIdx j = entsC (delC t M)
  | [], k => .inl ⟨rfl, rfl, fun _ => rfl, rfl, fun p hp => (by cases hp)⟩
  | (a, w) :: M, k => by
    have e1 : findM .i64 t (entsC ((a, w) :: M)) k = if t = a then some (some (k, w)) else findM .i64 t (entsC M) (k + 1) := by
      simp only [entsC, List.map_cons, findM, if_true]
    by_cases h : t = a
    · refine .inr ⟨0, ?_, fun v => ?_, ?_⟩
      · rw [e1, if_pos h]; simp only [getC, if_pos h, Nat.add_zero]
      · simp only [updC, if_pos h, entsC, List.map_cons, List.set_cons_zero]
      · simp only [delC, if_pos h, entsC, List.map_cons, List.eraseIdx_cons_zero]
    · rw [e1, if_neg h]
      rcases find_entsC z t M (k + 1) with ⟨f1, f2, f3, f4, f5⟩ | ⟨j, f1, f2, f3⟩
      · refine .inl ⟨f1, by simp only [getC, if_neg h]; exact f2, fun v => ?_, by simp only [delC, if_neg h, f4], fun p hp => ?_⟩
        · have := f3 v
          simp only [updC, if_neg h, entsC, List.map_cons, List.cons_append] at this ⊢
          rw [this]
        · rcases List.mem_cons.1 hp with rfl | hp
          · exact fun q => h q.symm
          · exact f5 p hp
      · refine .inr ⟨j + 1, ?_, fun v => ?_, ?_⟩
        · rw [f1, show k + 1 + j = k + (j + 1) by omega]; simp only [getC, if_neg h]
        · have := f2 v
          simp only [updC, if_neg h, entsC, List.map_cons, List.set_cons_succ] at this ⊢
          rw [this]
        · simp only [delC, if_neg h, entsC, List.map_cons, List.eraseIdx_cons_succ] at f3 ⊢
          rw [f3]
theorem getC_upd (z : CV) (s t : Int) (v : CV) : ∀ M, getC z s (updC t v M) = if s = t then v else getC z s M
  | [] => by simp [updC, getC]
  | (a, w) :: M => by
    unfold updC
    by_cases h : t = a
    · subst h; simp only [if_true, getC]
      by_cases q : s = t <;> simp [q]
    · simp only [if_neg h, getC, getC_upd z s t v M]
      by_cases q : s = t
      · subst q; simp [h]
      · simp [q]
theorem keys_updC (t : Int) (v : CV) : ∀ M : List (Int × CV), ∀ p ∈ updC t v M, p.1 = t ∨ ∃ q ∈ M, q.1 = p.1
  | [], p, hp => by simp [updC] at hp; subst hp; exact .inl rfl
  | (a, w) :: M, p, hp => by
    unfold updC at hp
    by_cases h : t = a
    · rw [if_pos h] at hp
      rcases List.mem_cons.1 hp with rfl | hp
      · exact .inl rfl
      · exact .inr ⟨p, List.mem_cons_of_mem _ hp, rfl⟩
    · rw [if_neg h] at hp
      rcases List.mem_cons.1 hp with rfl | hp
      · exact .inr ⟨_, List.mem_cons_self, rfl⟩
      · rcases keys_updC t v M p hp with e | ⟨q, h1, h2⟩
        · exact .inl e
        · exact .inr ⟨q, List.mem_cons_of_mem _ h1, h2⟩
def NdC : List (Int × CV) → Prop
  | [] => True
  | (a, _) :: M => (∀ p ∈ M, p.1 ≠ a) ∧ NdC M
theorem NdC.upd (t : Int) (v : CV) : ∀ {M : List (Int × CV)}, NdC M → NdC (updC t v M)
  | [], _ => ⟨fun p hp => (by cases hp), trivial⟩
  | (a, w) :: M, h => by
    unfold updC
    by_cases q : t = a
    · rw [if_pos q]; exact ⟨fun p hp => by rw [q]; exact h.1 p hp, h.2⟩
    · rw [if_neg q]
      refine ⟨fun p hp => ?_, NdC.upd t v h.2⟩
      rcases keys_updC t v M p hp with e | ⟨r, h1, h2⟩
      · rw [e]; exact q
      · rw [← h2]; exact h.1 r h1
theorem mem_delC (t : Int) : ∀ (M : List (Int × CV)), ∀ p ∈ delC t M, p ∈ M
  | [], p, hp => by simp [delC] at hp
  | (a, w) :: M, p, hp => by
    unfold delC at hp
    split at hp
    · exact List.mem_cons_of_mem _ hp
    · rcases List.mem_cons.1 hp with rfl | hp
      · exact List.mem_cons_self
      · exact List.mem_cons_of_mem _ (mem_delC t M p hp)
theorem NdC.del (t : Int) : ∀ {M : List (Int × CV)}, NdC M → NdC (delC t M)
  | [], _ => trivial
  | (a, w) :: M, h => by
    unfold delC
    by_cases q : t = a
    · rw [if_pos q]; exact h.2
    · rw [if_neg q]; exact ⟨fun p hp => h.1 p (mem_delC t M p hp), NdC.del t h.2⟩
theorem getC_none (z : CV) (s : Int) : ∀ {M : List (Int × CV)}, (∀ p ∈ M, p.1 ≠ s) → getC z s M = z
  | [], _ => rfl
  | (a, w) :: M, h => by
    have := h _ List.mem_cons_self
    simp only [getC]
    rw [if_neg (Ne.symm this), getC_none z s fun p hp => h p (List.mem_cons_of_mem _ hp)]
theorem getC_del (z : CV) (s t : Int) : ∀ {M : List (Int × CV)}, NdC M → getC z s (delC t M) = if s = t then z else getC z s M
  | [], _ => by simp [delC, getC]
  | (a, w) :: M, h => by
    unfold delC
    by_cases q : t = a
    · rw [if_pos q]
      by_cases e : s = t
      · subst e; subst q; rw [if_pos rfl]; exact getC_none z _ h.1
      · rw [if_neg e]; simp only [getC]; rw [if_neg (by rw [← q]; exact e)]
    · rw [if_neg q]
      simp only [getC, getC_del z s t h.2]
      by_cases e : s = t
      · subst e; simp [q]
      · simp [e]
theorem lookup_entsC {P : Program} {m kt el : TypeId} {kk : IntKind} (hm : P.underlying m = some (.map kt el)) (hk : P.underlying kt = some (.int kk)) {z : CV} (hz : zeroC P el = some z) {h : List AO} {l : Nat} {M : List (Int × CV)} (hl : h[l]? = some (.map (entsC M))) (t : Int) :
    lookupA P h m (.v (.sc (.mp l))) (.v (.sc (.int .i64 t))) false = some (.v (getC z t M)) := by
  simp only [lookupA, hm, hk, mapAt, hl, Option.bind_some]
  rcases find_entsC z t M 0 with ⟨f1, f2, _⟩ | ⟨j, f1, _⟩
  · rw [f1, f2]; simp [hz]
  · rw [f1]; simp
theorem upd_entsC {P : Program} {m kt el : TypeId} {kk : IntKind} (hm : P.underlying m = some (.map kt el)) (hk : P.underlying kt = some (.int kk)) {h : List AO} {l lk : Nat} {M : List (Int × CV)} (hl : h[l]? = some (.map (entsC M))) (hlk : lk ≤ l) (t : Int) (v : CV) :
    updA P h lk m (.v (.sc (.mp l))) (.v (.sc (.int .i64 t))) (.v v) = some (h.set l (.map (entsC (updC t v M)))) := by
  simp only [updA, hm, hk, hl, hlk, if_true]
  rcases find_entsC (.sc .nils) t M 0 with ⟨f1, _, f3, _⟩ | ⟨j, f1, f2, _⟩
  · rw [f1]; simp only [Option.map_some, f3]
  · rw [f1]; simp only [Option.map_some, Nat.zero_add, f2]
theorem del_entsC {P : Program} {m kt el : TypeId} {kk : IntKind} (hm : P.underlying m = some (.map kt el)) (hk : P.underlying kt = some (.int kk)) {h : List AO} {l lk : Nat} {M : List (Int × CV)} (hl : h[l]? = some (.map (entsC M))) (hlk : lk ≤ l) (t : Int) :
    delA P h lk m (.v (.sc (.mp l))) (.v (.sc (.int .i64 t))) = some (h.set l (.map (entsC (delC t M)))) := by
  simp only [delA, hm, hk, hl, hlk, if_true]
  rcases find_entsC (.sc .nils) t M 0 with ⟨f1, _, _, f4, _⟩ | ⟨j, f1, _, f3⟩
  · rw [f1, f4]
    simp only [Option.map_some, Option.some.injEq]
    refine List.ext_getElem? fun i => ?_
    rw [List.getElem?_set]
    split
    · rename_i e; subst e
      rw [if_pos (List.getElem?_eq_some_iff.1 hl).1]; exact hl
    · rfl
  · rw [f1]; simp only [Option.map_some, Nat.zero_add, f3]
end Go.AM
