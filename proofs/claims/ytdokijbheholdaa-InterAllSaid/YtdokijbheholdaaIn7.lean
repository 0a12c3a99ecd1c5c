/- Orders: a clone of counts. Conditions: none. -/
import Derived.Test.YtdokijbheholdaaIn6
set_option linter.unusedVariables false
set_option linter.unusedSimpArgs false
set_option maxRecDepth 100000
namespace Go.AM
open Go.Proofs
-- LENS: cells_len, ints_len
theorem eql_sl_nil {P : Program} {t el : TypeId} (hu : P.underlying t = some (.slice el)) (l o n s : Nat) : binOpA P .eql t (.v (.sc (.sl l o n s))) (.v (.sc .nils)) = some (.v (.sc (.bool false))) := by
  simp [binOpA, eqA, hu, isNilS]
theorem eql_nil_nil {P : Program} {t el : TypeId} (hu : P.underlying t = some (.slice el)) : binOpA P .eql t (.v (.sc .nils)) (.v (.sc .nils)) = some (.v (.sc (.bool true))) := by
  simp [binOpA, eqA, hu, isNilS]
theorem appB_slA {lk : Nat} {h : List AO} (e s b l o n : Nat) (new : List SV) (k : AV → List AO → Res) (hn : new.isEmpty = false) (hm : new.length % s = 0) : appB e s b lk h (.v (.sc (.sl l o n s))) (some new) k = appC e s b lk h l o n new h[l]? k := by
  cases new with
  | nil => cases hn
  | cons v vs => exact appB_sl e s b l o n v vs k hm
theorem s47 {P : Program} {T : Tab} {K d : Nat} (S : Sd P T K) (hd : 1 ≤ d) (q : SV) (l : List Nat) (h0 : 0 < l.length) (hl : l.length ≤ 8) (lk : Nat) (h : List AO) (hlk : lk ≤ h.length) (hS : Sl h q (ints l)) :
    ev P T K d 47 [.sc q] lk h = some (.v (.sc (.sl (h.length + 1) 0 l.length 1)), h ++ [.dead] ++ [.rw 3 (cellsI l)]) := by
  obtain ⟨d, rfl⟩ : ∃ k, d = k + 1 := ⟨d - 1, by omega⟩
  rw [ev_run (at47 S.t)]
  unfold i47 Try.f47
  obtain ⟨b, rfl, hb, hc⟩ := hS.at (by rw [ints_len]; omega)
  rw [ints_len] at *
  have hcc : cellsAt h b = some (cellsI l) := hc
  have hne : (cellsI l).isEmpty = false := by
    have := cells_len l
    cases hq : cellsI l with
    | nil => rw [hq] at this; simp at this; omega
    | cons _ _ => rfl
  have htk : (cellsI l).take l.length = cellsI l := List.take_of_length_le (by rw [cells_len]; omega)
  simp (disch := first | omega | (simp (disch := first | omega | (simp only [cells_len, ints_len, List.length_append, List.length_cons, List.length_nil, List.length_set]; first | done | omega)) only [cells_len, ints_len, amSide, Int.reduceToNat, Nat.reducePow, Nat.reduceMul]; first | done | omega)) only  [↓amPre, amPost, ↓s_lit', Nat.reduceAdd, Nat.reduceSub, List.replicate, retA, resultsA, resultA, toC, toCL, Nat.reduceEqDiff, append_at (un35 S.p) (sz3 S.p) (by3 S.p) (ze3 S.p) (by decide) (by decide) rfl, sl_cells (sz3 S.p), lit_fill (un35 S.p) (sz3 S.p) (ze3 S.p), eql_sl_nil (un35 S.p), hcc, cells_self, cells_other, obj_self, set_self, Nat.mul_one, Nat.zero_mul, Nat.zero_add, htk, appB_slA, hne, cells_len, Nat.div_one, Nat.mod_one, List.drop_zero, List.drop_nil, List.flatten_nil, List.replicate_zero, List.nil_append]
end Go.AM
