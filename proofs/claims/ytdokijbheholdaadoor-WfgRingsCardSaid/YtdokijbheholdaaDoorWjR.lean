/- Waiting graphs: the laws' arguments; the table in its variable. Conditions: none. -/
import Derived.Test.YtdokijbheholdaaDoorWj5
import Derived.Test.YtdokijbheholdaaDoorAmOpns
import Derived.Test.YtdokijbheholdaaDoorFlat
import Derived.Test.YtdokijbheholdaaDoorRows
import Derived.OpenShut
import Derived.LaidMore
import Derived.Lay
set_option linter.unusedVariables false
set_option linter.unusedSimpArgs false
set_option maxRecDepth 100000
namespace Go.AM
open Go.Proofs Go.Lib
abbrev shEd : Sh := .pair 1 (.int .i64) (.pair 1 (.int .i64) .nil)
theorem edg_of {h : List AO} {xs : List SV} (H : Fits shEd h xs) : ∃ x : Edg, True ∧ xs = x.cells := by
  obtain ⟨hl, ho⟩ := fits_flat shEd _ h xs rfl H
  match xs, hl with
  | [a0, a1], _ =>
    have h0 := ho 0 _ rfl
    have h1 := ho 1 _ rfl
    simp only [List.getElem?_cons_zero, List.getElem?_cons_succ, Option.some.injEq, exists_eq_left', FK.ok] at h0 h1
    obtain ⟨n0, rfl, _⟩ := h0
    obtain ⟨n1, rfl, _⟩ := h1
    exact ⟨⟨n0, n1⟩, trivial, rfl⟩
theorem edgs_of {h : List AO} {xs : List SV} (H : Fits (.slice 2 shEd) h xs) : ∃ q l, xs = [q] ∧ Rs Edg.cells 2 h q l ∧ ∀ x ∈ l, True :=
  rs_of Edg.len (fun ys hy => edg_of hy) H
/-- The table. -/
def tabC : List SV := deBruijn64tab.map fun x => SV.int .u8 (x : Nat)
theorem tab_ok (t : List AO) : tabB 0 ([AO.gl 0 tabC] ++ t) = true := by
  show (decide ((0 : Nat) = 0) && eqTab tabC deBruijn64tab) = true
  kernel_rfl
theorem noRW_gl : noRW [AO.gl 0 tabC] := fun l ⟨o, ho, hr⟩ => by
  cases l with
  | zero => obtain rfl := Option.some.inj ho; cases hr
  | succ l => simp at ho
theorem HRel.gl {w : World} (h : ∀ r, r < 64 → w.cell? ⟨0, r, none⟩ = some (.int .u8 ((deBruijn64tab.getD r 0 : Nat) : Int))) : HRel noG [AO.gl 0 tabC] w := by
  refine ⟨fun l o hl => ?_, fun l l' _ a _ => absurd a (fun z => noRW_gl l z)⟩
  cases l with
  | succ l => simp at hl
  | zero =>
    obtain rfl := Option.some.inj hl
    refine ⟨rfl, rfl, fun i x hx => ?_⟩
    have hlen : deBruijn64tab.length = 64 := by kernel_rfl
    have hi : i < 64 := by
      have := (List.getElem?_eq_some_iff.1 hx).1
      unfold tabC at this
      rw [List.length_map, hlen] at this; exact this
    unfold tabC at hx
    rw [List.getElem?_map] at hx
    obtain ⟨q, hq, rfl⟩ := Option.map_eq_some_iff.1 hx
    refine ⟨.int .u8 (q : Nat), ?_, rfl⟩
    show w.cell? ⟨0, 0 + i, none⟩ = _
    rw [Nat.zero_add, h i hi, List.getD_eq_getElem?_getD, hq]; rfl
end Go.AM
namespace Go.Proofs.YtdokijbheholdaaDoor
open Go.ChangeShapes Go.WideShapes Go.RowKit
theorem laid_eq {H : Type} : (Rows.laid_math_bits_deBruijn64tab : DataW H) = .agg (Lib.deBruijn64tab.map fun n => .lit (.int .u8 (n : Nat))) := by kernel_rfl
theorem tab_cell {W : World} (h : laidMetH Tryd.prog [("math/bits.deBruijn64tab", Rows.laid_math_bits_deBruijn64tab)] W) (r : Nat) (hr : r < 64) : W.cell? ⟨0, r, none⟩ = some (.int .u8 ((Lib.deBruijn64tab.getD r 0 : Nat) : Int)) := by
  rw [MakeChecks.laidMetH_plain _ _ _ (by kernel_rfl)] at h
  obtain ⟨ps, ⟨g, t, cs, fuel, p, q, hg, ht, hv, hd, _, _⟩, _⟩ := h
  obtain rfl := Option.some.inj ((show Tryd.prog.globalNamed "math/bits.deBruijn64tab" = some 0 by kernel_rfl).symm.trans hg)
  obtain rfl := Option.some.inj ((show (Tryd.prog.globals[0]?).map (·.type) = some 62 by kernel_rfl).symm.trans ht)
  obtain ⟨xs, m, _, ex, _, hl, hel⟩ := DataW.trod_array Tryd.underlying62 hd
  have c5 : Tryd.prog.cellsOf 5 = 1 := by kernel_rfl
  have hE := hel r hr
  rw [c5, Nat.mul_one, List.getElem?_eq_getElem (by omega)] at hE
  obtain ⟨z, e1, e2, _⟩ := DataW.trod_int Tryd.underlying5 hE
  have hlen : Lib.deBruijn64tab.length = 64 := by kernel_rfl
  rw [laid_eq] at ex
  have e3 : (xs.map (·.1)) = Lib.deBruijn64tab.map fun n => .lit (.int .u8 (n : Nat)) := (DataW.agg.inj (Prod.mk.inj ex).1).symm
  have e4 : (xs.map (·.1))[r]? = (Lib.deBruijn64tab.map fun n => (DataW.lit (.int .u8 ((n : Nat) : Int)) : DataW Unit))[r]? := by rw [e3]
  rw [List.getElem?_map, List.getElem?_map, List.getElem?_eq_getElem (by omega : r < xs.length), List.getElem?_eq_getElem (by omega : r < Lib.deBruijn64tab.length), e2] at e4
  have hz : z = ((Lib.deBruijn64tab.getD r 0 : Nat) : Int) := by
    simp only [Option.map_some, Option.some.injEq, DataW.lit.injEq, Lit.int.injEq, true_and] at e4
    rw [e4, List.getD, List.getElem?_eq_getElem (by omega : r < Lib.deBruijn64tab.length)]; rfl
  rw [World.var?_cell hg hv r, ← hz]
  have : cs.toList[r]? = some (.int .u8 z) := by
    have h0 : ((cs.toList.drop r).take 1)[0]? = some (.int .u8 z) := by rw [e1]; rfl
    simpa using h0
  simpa using this
end Go.Proofs.YtdokijbheholdaaDoor
