/- Plans: what the changes come to, put into a list of objects. Conditions: none. -/
import Derived.Test.YtdokijbheholdabPl11
set_option linter.unusedVariables false
set_option linter.unusedSimpArgs false
set_option maxRecDepth 100000
namespace Go.AM
open Go.Proofs
/-- Objects, with the words that changes write. -/
def nsOf (os : List ObjV) (chs : List Chg) : List ObjV := os.mapIdx fun j z => { z with w := wOf chs j z.w }
theorem nsOf_nil (os : List ObjV) : nsOf os [] = os := by
  refine List.ext_getElem? fun j => ?_
  simp only [nsOf, List.getElem?_mapIdx]
  cases os[j]? with
  | none => rfl
  | some z => simp [wOf]
theorem nsOf_len (os : List ObjV) (chs : List Chg) : (nsOf os chs).length = os.length := by simp [nsOf]
theorem nsOf_get {os : List ObjV} (chs : List Chg) {j : Nat} {z : ObjV} (hz : os[j]? = some z) : (nsOf os chs)[j]? = some { z with w := wOf chs j z.w } := by
  simp [nsOf, List.getElem?_mapIdx, hz]
theorem nsOf_snoc {os : List ObjV} {chs : List Chg} {y : Chg} {j : Nat} {z : ObjV} (hz : os[j]? = some z) (ho : y.o = ((j : Nat) : Int)) (h : ∀ y' ∈ chs, y'.o ≠ y.o) : (nsOf os chs).set j { z with w := y.w } = nsOf os (chs ++ [y]) := by
  have hj := (List.getElem?_eq_some_iff.1 hz).1
  refine List.ext_getElem? fun i => ?_
  rw [List.getElem?_set]
  by_cases e : j = i
  · subst e
    rw [if_pos rfl, if_pos (by rw [nsOf_len]; exact hj), nsOf_get _ hz, wOf_snoc h, if_pos ho]
  · rw [if_neg e]
    simp only [nsOf, List.getElem?_mapIdx]
    cases os[i]? with
    | none => rfl
    | some q => simp only [Option.map_some]; rw [wOf_snoc h, if_neg (by rw [ho]; omega)]
theorem nd_not {chs : List Chg} (nd : (chs.map Chg.o).Nodup) {m : Nat} {y : Chg} (hm : chs[m]? = some y) : ∀ y' ∈ chs.take m, y'.o ≠ y.o := by
  intro y' hy
  obtain ⟨i, hi, rfl⟩ := List.getElem_of_mem hy
  have hi' : i < m := by simp at hi; omega
  have hm' := (List.getElem?_eq_some_iff.1 hm).1
  rw [List.getElem_take]
  intro e
  have e1 : (chs.map Chg.o)[i]'(by simp; omega) = (chs.map Chg.o)[m]'(by simpa using hm') := by
    rw [List.getElem_map, List.getElem_map, e, (List.getElem?_eq_some_iff.1 hm).2]
  exact (List.pairwise_iff_getElem.1 nd) i m (by simp; omega) (by simpa using hm') hi' e1
end Go.AM
