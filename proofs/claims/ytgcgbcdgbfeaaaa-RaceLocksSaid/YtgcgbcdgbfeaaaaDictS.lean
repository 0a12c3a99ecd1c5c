/- Maps from whole numbers to single cells: what is found behind what is put and taken away. Conditions: none. -/
import Derived.Test.YtgcgbcdgbfeaaaaAmAll
set_option linter.unusedVariables false
set_option linter.unusedSimpArgs false
namespace Go.AM
/-- A map's entries. -/
def entsS (M : List (Int × SV)) : List (CV × CV) := M.map fun p => (.sc (.int .i64 p.1), .sc p.2)
def getS (t : Int) : List (Int × SV) → SV
  | [] => .nils
  | (a, v) :: M => if t = a then v else getS t M
def updS (t : Int) (v : SV) : List (Int × SV) → List (Int × SV)
  | [] => [(t, v)]
  | (a, w) :: M => if t = a then (t, v) :: M else (a, w) :: updS t v M
def delS (t : Int) : List (Int × SV) → List (Int × SV)
  | [] => []
  | (a, w) :: M => if t = a then M else (a, w) :: delS t M
theorem find_entsS (t : Int) : ∀ (M : List (Int × SV)) (k : Nat),
    (findM .i64 t (entsS M) k = some none ∧ getS t M = .nils ∧ (∀ v, entsS M ++ [(.sc (.int .i64 t), .sc v)] = entsS (updS t v M)) ∧ delS t M = M ∧ ∀ p ∈ M, p.1 ≠ t) ∨
    ∃ j, findM .i64 t (entsS M) k = some (some (k + j, .sc (getS t M))) ∧ (∀ v, (entsS M).set j (.sc (.int .i64 t), .sc v) = entsS (updS t v M)) ∧ (entsS M).eraseIdx j = entsS (delS t M)
  | [], k => .inl ⟨rfl, rfl, fun _ => rfl, rfl, fun p hp => (by cases hp)⟩
  | (a, w) :: M, k => by
    have e1 : findM .i64 t (entsS ((a, w) :: M)) k = if t = a then some (some (k, .sc w)) else findM .i64 t (entsS M) (k + 1) := by
      simp only [entsS, List.map_cons, findM, if_true]
    by_cases h : t = a
    · refine .inr ⟨0, ?_, fun v => ?_, ?_⟩
      · rw [e1, if_pos h]; simp only [getS, if_pos h, Nat.add_zero]
      · simp only [updS, if_pos h, entsS, List.map_cons, List.set_cons_zero]
      · simp only [delS, if_pos h, entsS, List.map_cons, List.eraseIdx_cons_zero]
    · rw [e1, if_neg h]
      rcases find_entsS t M (k + 1) with ⟨f1, f2, f3, f4, f5⟩ | ⟨j, f1, f2, f3⟩
      · refine .inl ⟨f1, by simp only [getS, if_neg h]; exact f2, fun v => ?_, by simp only [delS, if_neg h, f4], fun p hp => ?_⟩
        · have := f3 v
          simp only [updS, if_neg h, entsS, List.map_cons, List.cons_append] at this ⊢
          rw [this]
        · rcases List.mem_cons.1 hp with rfl | hp
          · exact fun q => h q.symm
          · exact f5 p hp
      · refine .inr ⟨j + 1, ?_, fun v => ?_, ?_⟩
        · rw [f1, show k + 1 + j = k + (j + 1) by omega]; simp only [getS, if_neg h]
        · have := f2 v
          simp only [updS, if_neg h, entsS, List.map_cons, List.set_cons_succ] at this ⊢
          rw [this]
        · simp only [delS, if_neg h, entsS, List.map_cons, List.eraseIdx_cons_succ] at f3 ⊢
          rw [f3]
theorem getS_upd (s t : Int) (v : SV) : ∀ M, getS s (updS t v M) = if s = t then v else getS s M
  | [] => by simp [updS, getS]
  | (a, w) :: M => by
    unfold updS
    by_cases h : t = a
    · subst h; simp only [if_true, getS]
      by_cases q : s = t <;> simp [q]
    · simp only [if_neg h, getS, getS_upd s t v M]
      by_cases q : s = t
      · subst q; simp [h]
      · simp [q]
theorem keys_updS (t : Int) (v : SV) : ∀ M : List (Int × SV), ∀ p ∈ updS t v M, p.1 = t ∨ ∃ q ∈ M, q.1 = p.1
  | [], p, hp => by simp [updS] at hp; subst hp; exact .inl rfl
  | (a, w) :: M, p, hp => by
    unfold updS at hp
    by_cases h : t = a
    · rw [if_pos h] at hp
      rcases List.mem_cons.1 hp with rfl | hp
      · exact .inl rfl
      · exact .inr ⟨p, List.mem_cons_of_mem _ hp, rfl⟩
    · rw [if_neg h] at hp
      rcases List.mem_cons.1 hp with rfl | hp
      · exact .inr ⟨_, List.mem_cons_self, rfl⟩
      · rcases keys_updS t v M p hp with e | ⟨q, h1, h2⟩
        · exact .inl e
        · exact .inr ⟨q, List.mem_cons_of_mem _ h1, h2⟩
def NdS : List (Int × SV) → Prop
  | [] => True
  | (a, _) :: M => (∀ p ∈ M, p.1 ≠ a) ∧ NdS M
theorem NdS.upd (t : Int) (v : SV) : ∀ {M : List (Int × SV)}, NdS M → NdS (updS t v M)
  | [], _ => ⟨fun p hp => (by cases hp), trivial⟩
  | (a, w) :: M, h => by
    unfold updS
    by_cases q : t = a
    · rw [if_pos q]; exact ⟨fun p hp => by rw [q]; exact h.1 p hp, h.2⟩
    · rw [if_neg q]
      refine ⟨fun p hp => ?_, NdS.upd t v h.2⟩
      rcases keys_updS t v M p hp with e | ⟨r, h1, h2⟩
      · rw [e]; exact q
      · rw [← h2]; exact h.1 r h1
theorem mem_delS (t : Int) : ∀ (M : List (Int × SV)), ∀ p ∈ delS t M, p ∈ M
  | [], p, hp => by simp [delS] at hp
  | (a, w) :: M, p, hp => by
    unfold delS at hp
    split at hp
    · exact List.mem_cons_of_mem _ hp
    · rcases List.mem_cons.1 hp with rfl | hp
      · exact List.mem_cons_self
      · exact List.mem_cons_of_mem _ (mem_delS t M p hp)
theorem NdS.del (t : Int) : ∀ {M : List (Int × SV)}, NdS M → NdS (delS t M)
  | [], _ => trivial
  | (a, w) :: M, h => by
    unfold delS
    by_cases q : t = a
    · rw [if_pos q]; exact h.2
    · rw [if_neg q]; exact ⟨fun p hp => h.1 p (mem_delS t M p hp), NdS.del t h.2⟩
theorem getS_none (s : Int) : ∀ {M : List (Int × SV)}, (∀ p ∈ M, p.1 ≠ s) → getS s M = .nils
  | [], _ => rfl
  | (a, w) :: M, h => by
    have := h _ List.mem_cons_self
    simp only [getS]
    rw [if_neg (Ne.symm this), getS_none s fun p hp => h p (List.mem_cons_of_mem _ hp)]
theorem getS_del (s t : Int) : ∀ {M : List (Int × SV)}, NdS M → getS s (delS t M) = if s = t then .nils else getS s M
  | [], _ => by simp [delS, getS]
  | (a, w) :: M, h => by
    unfold delS
    by_cases q : t = a
    · rw [if_pos q]
      by_cases e : s = t
      · subst e; subst q; rw [if_pos rfl]; exact getS_none _ h.1
      · rw [if_neg e]; simp only [getS]; rw [if_neg (by rw [← q]; exact e)]
    · rw [if_neg q]
      simp only [getS, getS_del s t h.2]
      by_cases e : s = t
      · subst e; simp [q]
      · simp [e]
theorem lookup_entsS {P : Program} {m kt el : TypeId} {kk : IntKind} (hm : P.underlying m = some (.map kt el)) (hk : P.underlying kt = some (.int kk)) (hz : zeroC P el = some (.sc .nils)) {h : List AO} {l : Nat} {M : List (Int × SV)} (hl : h[l]? = some (.map (entsS M))) (t : Int) :
    lookupA P h m (.v (.sc (.mp l))) (.v (.sc (.int .i64 t))) false = some (.v (.sc (getS t M))) := by
  simp only [lookupA, hm, hk, mapAt, hl, Option.bind_some]
  rcases find_entsS t M 0 with ⟨f1, f2, _⟩ | ⟨j, f1, _⟩
  · rw [f1, f2]; simp [hz]
  · rw [f1]; simp
theorem upd_entsS {P : Program} {m kt el : TypeId} {kk : IntKind} (hm : P.underlying m = some (.map kt el)) (hk : P.underlying kt = some (.int kk)) {h : List AO} {l lk : Nat} {M : List (Int × SV)} (hl : h[l]? = some (.map (entsS M))) (hlk : lk ≤ l) (t : Int) (v : SV) :
    updA P h lk m (.v (.sc (.mp l))) (.v (.sc (.int .i64 t))) (.v (.sc v)) = some (h.set l (.map (entsS (updS t v M)))) := by
  simp only [updA, hm, hk, hl, hlk, if_true]
  rcases find_entsS t M 0 with ⟨f1, _, f3, _⟩ | ⟨j, f1, f2, _⟩
  · rw [f1]; simp only [Option.map_some, f3]
  · rw [f1]; simp only [Option.map_some, Nat.zero_add, f2]
theorem del_entsS {P : Program} {m kt el : TypeId} {kk : IntKind} (hm : P.underlying m = some (.map kt el)) (hk : P.underlying kt = some (.int kk)) {h : List AO} {l lk : Nat} {M : List (Int × SV)} (hl : h[l]? = some (.map (entsS M))) (hlk : lk ≤ l) (t : Int) :
    delA P h lk m (.v (.sc (.mp l))) (.v (.sc (.int .i64 t))) = some (h.set l (.map (entsS (delS t M)))) := by
  simp only [delA, hm, hk, hl, hlk, if_true]
  rcases find_entsS t M 0 with ⟨f1, _, _, f4, _⟩ | ⟨j, f1, _, f3⟩
  · rw [f1, f4]
    simp only [Option.map_some, Option.some.injEq]
    refine List.ext_getElem? fun i => ?_
    rw [List.getElem?_set]
    split
    · rename_i e; subst e
      rw [if_pos (List.getElem?_eq_some_iff.1 hl).1]; exact hl
    · rfl
  · rw [f1]; simp only [Option.map_some, Nat.zero_add, f3]
end Go.AM
