/- Maps from whole numbers to whole numbers: what is found behind what is put and taken away. Conditions: none. -/
import Derived.Test.YtdokijbheholdaaDoorAmAll
set_option linter.unusedVariables false
set_option linter.unusedSimpArgs false
namespace Go.AM
/-- A map's entries. -/
def ents (M : List (Int × Int)) : List (CV × CV) := M.map fun p => (.sc (.int .i64 p.1), .sc (.int .i64 p.2))
def getE (t : Int) : List (Int × Int) → Int
  | [] => 0
  | (a, v) :: M => if t = a then v else getE t M
def updE (t v : Int) : List (Int × Int) → List (Int × Int)
  | [] => [(t, v)]
  | (a, w) :: M => if t = a then (t, v) :: M else (a, w) :: updE t v M
def delE (t : Int) : List (Int × Int) → List (Int × Int)
  | [] => []
  | (a, w) :: M => if t = a then M else (a, w) :: delE t M
theorem find_ents (t : Int) : ∀ (M : List (Int × Int)) (k : Nat),
    (findM .i64 t (ents M) k = some none ∧ getE t M = 0 ∧ (∀ v, ents M ++ [(.sc (.int .i64 t), .sc (.int .i64 v))] = ents (updE t v M)) ∧ delE t M = M ∧ ∀ p ∈ M, p.1 ≠ t) ∨
    ∃ j, findM .i64 t (ents M) k = some (some (k + j, .sc (.int .i64 (getE t M)))) ∧ (∀ v, (ents M).set j (.sc (.int .i64 t), .sc (.int .i64 v)) = ents (updE t v M)) ∧ (ents M).eraseIdx j = ents (delE t M)
  | [], k => .inl ⟨rfl, rfl, fun _ => rfl, rfl, fun p hp => (by cases hp)⟩
  | (a, w) :: M, k => by
    have e1 : findM .i64 t (ents ((a, w) :: M)) k = if t = a then some (some (k, .sc (.int .i64 w))) else findM .i64 t (ents M) (k + 1) := by
      simp only [ents, List.map_cons, findM, if_true]
    by_cases h : t = a
    · refine .inr ⟨0, ?_, fun v => ?_, ?_⟩
      · rw [e1, if_pos h]; simp only [getE, if_pos h, Nat.add_zero]
      · simp only [updE, if_pos h, ents, List.map_cons, List.set_cons_zero]
      · simp only [delE, if_pos h, ents, List.map_cons, List.eraseIdx_cons_zero]
    · rw [e1, if_neg h]
      rcases find_ents t M (k + 1) with ⟨f1, f2, f3, f4, f5⟩ | ⟨j, f1, f2, f3⟩
      · refine .inl ⟨f1, by simp only [getE, if_neg h]; exact f2, fun v => ?_, by simp only [delE, if_neg h, f4], fun p hp => ?_⟩
        · have := f3 v
          simp only [updE, if_neg h, ents, List.map_cons, List.cons_append] at this ⊢
          rw [this]
        · rcases List.mem_cons.1 hp with rfl | hp
          · exact fun q => h q.symm
          · exact f5 p hp
      · refine .inr ⟨j + 1, ?_, fun v => ?_, ?_⟩
        · rw [f1, show k + 1 + j = k + (j + 1) by omega]; simp only [getE, if_neg h]
        · have := f2 v
          simp only [updE, if_neg h, ents, List.map_cons, List.set_cons_succ] at this ⊢
          rw [this]
        · simp only [delE, if_neg h, ents, List.map_cons, List.eraseIdx_cons_succ] at f3 ⊢
          rw [f3]
theorem getE_upd (s t v : Int) : ∀ M, getE s (updE t v M) = if s = t then v else getE s M
  | [] => by simp [updE, getE]
  | (a, w) :: M => by
    unfold updE
    by_cases h : t = a
    · subst h; simp only [if_true, getE]
      by_cases q : s = t <;> simp [q]
    · simp only [if_neg h, getE, getE_upd s t v M]
      by_cases q : s = t
      · subst q; simp [h]
      · simp [q]
theorem keys_upd (t v : Int) : ∀ M : List (Int × Int), ∀ p ∈ updE t v M, p.1 = t ∨ ∃ q ∈ M, q.1 = p.1
  | [], p, hp => by simp [updE] at hp; subst hp; exact .inl rfl
  | (a, w) :: M, p, hp => by
    unfold updE at hp
    by_cases h : t = a
    · rw [if_pos h] at hp
      rcases List.mem_cons.1 hp with rfl | hp
      · exact .inl rfl
      · exact .inr ⟨p, List.mem_cons_of_mem _ hp, rfl⟩
    · rw [if_neg h] at hp
      rcases List.mem_cons.1 hp with rfl | hp
      · exact .inr ⟨_, List.mem_cons_self, rfl⟩
      · rcases keys_upd t v M p hp with e | ⟨q, h1, h2⟩
        · exact .inl e
        · exact .inr ⟨q, List.mem_cons_of_mem _ h1, h2⟩
def NdE : List (Int × Int) → Prop
  | [] => True
  | (a, _) :: M => (∀ p ∈ M, p.1 ≠ a) ∧ NdE M
theorem NdE.upd (t v : Int) : ∀ {M : List (Int × Int)}, NdE M → NdE (updE t v M)
  | [], _ => ⟨fun p hp => (by cases hp), trivial⟩
  | (a, w) :: M, h => by
    unfold updE
    by_cases q : t = a
    · rw [if_pos q]; exact ⟨fun p hp => by rw [q]; exact h.1 p hp, h.2⟩
    · rw [if_neg q]
      refine ⟨fun p hp => ?_, NdE.upd t v h.2⟩
      rcases keys_upd t v M p hp with e | ⟨r, h1, h2⟩
      · rw [e]; exact q
      · rw [← h2]; exact h.1 r h1
theorem mem_del (t : Int) : ∀ (M : List (Int × Int)), ∀ p ∈ delE t M, p ∈ M
  | [], p, hp => by simp [delE] at hp
  | (a, w) :: M, p, hp => by
    unfold delE at hp
    split at hp
    · exact List.mem_cons_of_mem _ hp
    · rcases List.mem_cons.1 hp with rfl | hp
      · exact List.mem_cons_self
      · exact List.mem_cons_of_mem _ (mem_del t M p hp)
theorem NdE.del (t : Int) : ∀ {M : List (Int × Int)}, NdE M → NdE (delE t M)
  | [], _ => trivial
  | (a, w) :: M, h => by
    unfold delE
    by_cases q : t = a
    · rw [if_pos q]; exact h.2
    · rw [if_neg q]; exact ⟨fun p hp => h.1 p (mem_del t M p hp), NdE.del t h.2⟩
theorem getE_none (s : Int) : ∀ {M : List (Int × Int)}, (∀ p ∈ M, p.1 ≠ s) → getE s M = 0
  | [], _ => rfl
  | (a, w) :: M, h => by
    have := h _ List.mem_cons_self
    simp only [getE]
    rw [if_neg (Ne.symm this), getE_none s fun p hp => h p (List.mem_cons_of_mem _ hp)]
theorem getE_del (s t : Int) : ∀ {M : List (Int × Int)}, NdE M → getE s (delE t M) = if s = t then 0 else getE s M
  | [], _ => by simp [delE, getE]
  | (a, w) :: M, h => by
    unfold delE
    by_cases q : t = a
    · rw [if_pos q]
      by_cases e : s = t
      · subst e; subst q; rw [if_pos rfl]; exact getE_none _ h.1
      · rw [if_neg e]; simp only [getE]; rw [if_neg (by rw [← q]; exact e)]
    · rw [if_neg q]
      simp only [getE, getE_del s t h.2]
      by_cases e : s = t
      · subst e; simp [q]
      · simp [e]
theorem lookup_ents {P : Program} {m kt el : TypeId} {kk : IntKind} (hm : P.underlying m = some (.map kt el)) (hk : P.underlying kt = some (.int kk)) (hz : zeroC P el = some (.sc (.int .i64 0))) {h : List AO} {l : Nat} {M : List (Int × Int)} (hl : h[l]? = some (.map (ents M))) (t : Int) :
    lookupA P h m (.v (.sc (.mp l))) (.v (.sc (.int .i64 t))) false = some (.v (.sc (.int .i64 (getE t M)))) := by
  simp only [lookupA, hm, hk, mapAt, hl, Option.bind_some]
  rcases find_ents t M 0 with ⟨f1, f2, _⟩ | ⟨j, f1, _⟩
  · rw [f1, f2]; simp [hz]
  · rw [f1]; simp
theorem upd_ents {P : Program} {m kt el : TypeId} {kk : IntKind} (hm : P.underlying m = some (.map kt el)) (hk : P.underlying kt = some (.int kk)) {h : List AO} {l lk : Nat} {M : List (Int × Int)} (hl : h[l]? = some (.map (ents M))) (hlk : lk ≤ l) (t v : Int) :
    updA P h lk m (.v (.sc (.mp l))) (.v (.sc (.int .i64 t))) (.v (.sc (.int .i64 v))) = some (h.set l (.map (ents (updE t v M)))) := by
  simp only [updA, hm, hk, hl, hlk, if_true]
  rcases find_ents t M 0 with ⟨f1, _, f3, _⟩ | ⟨j, f1, f2, _⟩
  · rw [f1]; simp only [Option.map_some, f3]
  · rw [f1]; simp only [Option.map_some, Nat.zero_add, f2]
theorem del_ents {P : Program} {m kt el : TypeId} {kk : IntKind} (hm : P.underlying m = some (.map kt el)) (hk : P.underlying kt = some (.int kk)) {h : List AO} {l lk : Nat} {M : List (Int × Int)} (hl : h[l]? = some (.map (ents M))) (hlk : lk ≤ l) (t : Int) :
    delA P h lk m (.v (.sc (.mp l))) (.v (.sc (.int .i64 t))) = some (h.set l (.map (ents (delE t M)))) := by
  simp only [delA, hm, hk, hl, hlk, if_true]
  rcases find_ents t M 0 with ⟨f1, _, _, f4, _⟩ | ⟨j, f1, _, f3⟩
  · rw [f1, f4]
    simp only [Option.map_some, Option.some.injEq]
    refine List.ext_getElem? fun i => ?_
    rw [List.getElem?_set]
    split
    · rename_i e; subst e
      rw [if_pos (List.getElem?_eq_some_iff.1 hl).1]; exact hl
    · rfl
  · rw [f1]; simp only [Option.map_some, Nat.zero_add, f3]
end Go.AM
