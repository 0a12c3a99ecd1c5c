/- Monitors' model: maps that are equal. Conditions: none. -/
import Derived.Test.YtjhhjmngjmflaaaMok
import Derived.Test.YtjhhjmngjmflaaaAmKey
import Derived.Test.YtjhhjmngjmflaaaAmRow
import Derived.Test.YtjhhjmngjmflaaaAmTypes
import Derived.Shelf.SlMaps.Clone
import Derived.Maps.OwnSet
import Derived.Maps.RangeWalk
set_option linter.unusedVariables false
set_option linter.unusedSimpArgs false
namespace Go.Proofs
open Go.RowKit Go.Maps Go.Sort Go.Shelf
def iR {H : Type} : Value → Option (DataW H × List MemPlace)
  | .int .i64 n => some (.lit (.int .i64 n), [])
  | _ => none
theorem iR_inv {H : Type} {v : Value} {y : DataW H × List MemPlace} (h : iR v = some y) : ∃ n : Int, v = .int .i64 n ∧ y = (.lit (.int .i64 n), []) := by
  unfold iR at h
  split at h
  · exact ⟨_, rfl, (Option.some.inj h).symm⟩
  · cases h
theorem iR_inv' {H : Type} {v : Value} {y : DataW H × List MemPlace} (h : iR v = some y) : ∃ n : Int, v = .int .i64 n := let ⟨n, e, _⟩ := iR_inv h; ⟨n, e⟩
def lR {H : Type} : Value → Option (DataW H × List MemPlace)
  | .agg ⟨[.int .i64 a, .int .i64 b]⟩ => some (.agg [.lit (.int .i64 a), .lit (.int .i64 b)], [])
  | _ => none
theorem lR_inv {H : Type} {v : Value} {y : DataW H × List MemPlace} (h : lR v = some y) : ∃ x : Int × Int, v = .agg #[.int .i64 x.1, .int .i64 x.2] ∧ y = (.agg [.lit (.int .i64 x.1), .lit (.int .i64 x.2)], []) := by
  unfold lR at h
  split at h
  · rename_i a b
    exact ⟨(a, b), rfl, (Option.some.inj h).symm⟩
  · cases h
theorem lR_inv' {H : Type} {v : Value} {y : DataW H × List MemPlace} (h : lR v = some y) : ∃ x : Int × Int, v = .agg #[.int .i64 x.1, .int .i64 x.2] := let ⟨n, e, _⟩ := lR_inv h; ⟨n, e⟩
theorem iR_inj {H : Type} {a b : Value} {d : DataW H} {p q : List MemPlace} (h1 : iR a = some (d, p)) (h2 : iR b = some (d, q)) : a = b := by
  obtain ⟨x, rfl, e1⟩ := iR_inv h1
  obtain ⟨y, rfl, e2⟩ := iR_inv h2
  have h3 := congrArg Prod.fst e1
  have h4 := congrArg Prod.fst e2
  simp only at h3 h4
  rw [h3] at h4
  simp at h4
  rw [h4]
theorem lR_inj {H : Type} {a b : Value} {d : DataW H} {p q : List MemPlace} (h1 : lR a = some (d, p)) (h2 : lR b = some (d, q)) : a = b := by
  obtain ⟨⟨x1, x2⟩, rfl, e1⟩ := lR_inv h1
  obtain ⟨⟨y1, y2⟩, rfl, e2⟩ := lR_inv h2
  have h3 := congrArg Prod.fst e1
  have h4 := congrArg Prod.fst e2
  simp only at h3 h4
  rw [h3] at h4
  simp at h4
  rw [h4.1, h4.2]
open Go.AM in
theorem Try.eq141s (a b : Int) : (∀ w : World, (Op.equal 141 (.agg #[.int .i64 a, .int .i64 b]) (.agg #[.int .i64 a, .int .i64 b])).run Try.prog w = .ok true w) ∧ (∀ (w : World) op x y, (eqGuard op 141 x y (.agg #[.int .i64 a, .int .i64 b]) (.agg #[.int .i64 a, .int .i64 b])).run Try.prog w = .ok () w) ∧ (binOp .eql 141 (.agg #[.int .i64 a, .int .i64 b]) (.agg #[.int .i64 a, .int .i64 b]) = (do pure (.bool (← Op.equal 141 (.agg #[.int .i64 a, .int .i64 b]) (.agg #[.int .i64 a, .int .i64 b]))))) ∧ (binOp .neq 141 (.agg #[.int .i64 a, .int .i64 b]) (.agg #[.int .i64 a, .int .i64 b]) = (do pure (.bool (!(← Op.equal 141 (.agg #[.int .i64 a, .int .i64 b]) (.agg #[.int .i64 a, .int .i64 b])))))) :=
  eqA_sound (P := Try.prog) (t := 141) (g := noG) (n := 0) (x := .v (.ag [.int .i64 a, .int .i64 b])) (y := .v (.ag [.int .i64 a, .int .i64 b])) (q := true) ⟨_, rfl, ⟨rfl, rfl, trivial⟩⟩ ⟨_, rfl, ⟨rfl, rfl, trivial⟩⟩ (by rw [eq141 rfl]; simp [eqL, eqS])
theorem Try.neq141 (a b : Int) : ∀ W : World, (binOp .neq 141 (.agg #[.int .i64 a, .int .i64 b]) (.agg #[.int .i64 a, .int .i64 b])).run Try.prog W = .ok (.bool false) W := fun W => by
  rw [(Try.eq141s a b).2.2.2]
  simp [(Try.eq141s a b).1]
theorem Try.guard141 (a b : Int) : ∀ (W : World) (x y : Operand), (eqGuard .neq 141 x y (.agg #[.int .i64 a, .int .i64 b]) (.agg #[.int .i64 a, .int .i64 b])).run Try.prog W = .ok () W := fun W x y => (Try.eq141s a b).2.1 W _ x y
end Go.Proofs
