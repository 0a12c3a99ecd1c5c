/- Monitors' model: keys that are pairs of whole numbers, as the kit reads them. Conditions: none. -/
import Derived.Test.YtjhhjmngjmflaaaProg
import Derived.DeepKeys3
import Derived.Maps.Ext
import Derived.Maps.Keyed
import Derived.KernelRfl
set_option linter.unusedVariables false
set_option linter.unusedSimpArgs false
namespace Go.Proofs
open Go.RowKit Go.Maps Go.WideShapes
/-- A key of two whole numbers. -/
def pkV (x : Int × Int) : Value := .agg #[.int .i64 x.1, .int .i64 x.2]
theorem pkV_inj {x y : Int × Int} (h : pkV x = pkV y) : x = y := by
  obtain ⟨a, b⟩ := x
  obtain ⟨c, d⟩ := y
  simp [pkV] at h
  rw [h.1, h.2]
/-- Such a key's type. -/
structure PairT (P : Program) (t : TypeId) : Prop where
  s : ∃ f0 f1 : Field, P.underlying t = some (.struct #[f0, f1]) ∧ P.underlying f0.type = some (.int .i64) ∧ P.underlying f1.type = some (.int .i64) ∧ f0.offset = 0 ∧ f1.offset = 1 ∧ (f0.name != "_") = true ∧ (f1.name != "_") = true ∧ P.cellsOf f0.type = 1 ∧ P.cellsOf f1.type = 1
  c : P.cellsOf t = 2
  k : P.keyType t = true
  k2 : P.keyTypeAt 2 t = true
  t2 : P.tiled 2 t = true
  z : ∃ d, P.types.size = d + 1
theorem PairT.law {P : Program} {t : TypeId} (T : PairT P t) : Keyed P t := by
  obtain ⟨f0, f1, hu, _⟩ := T.s
  exact Keyed.of_law (deep_law (m := 2) (by omega) T.k2 T.t2 (by rw [hu]))
theorem keyLits_int_mk {P : Program} {d : Nat} {t : TypeId} (hu : P.underlying t = some (.int .i64)) {a : Int} (hw : (Lit.int .i64 a).wf = true) : P.keyLits (d + 1) t [.int .i64 a] = some [.int .i64 a] := by
  unfold Program.keyLits
  simp [hu, hw]
theorem keyLits_wf1 {P : Program} {d : Nat} {t : TypeId} (hu : P.underlying t = some (.int .i64)) {cs : List Value} {l : List Lit} (h : P.keyLits d t cs = some l) : ∃ a, cs = [.int .i64 a] ∧ l = [.int .i64 a] ∧ (Lit.int .i64 a).wf = true := by
  obtain ⟨a, rfl, rfl⟩ := keyLits_int' hu h
  refine ⟨a, rfl, rfl, ?_⟩
  cases d with
  | zero => simp [Program.keyLits] at h
  | succ d =>
    unfold Program.keyLits at h
    simp only [hu] at h
    split at h
    · rename_i hc; exact hc.2
    · cases h
theorem PairT.mk' {P : Program} {t : TypeId} (T : PairT P t) {x : Int × Int} (h1 : (Lit.int .i64 x.1).wf = true) (h2 : (Lit.int .i64 x.2).wf = true) : ∃ kl, keyOf P t (pkV x) = some kl := by
  obtain ⟨f0, f1, hu, u0, u1, o0, o1, n0, n1, c0, c1⟩ := T.s
  obtain ⟨d, hd⟩ := T.z
  have e0 := keyLits_int_mk (P := P) (d := d) u0 h1
  have e1 := keyLits_int_mk (P := P) (d := d) u1 h2
  have key : P.keyLits (d + 2) t [.int .i64 x.1, .int .i64 x.2] = some [.int .i64 x.1, .int .i64 x.2] := by
    unfold Program.keyLits
    simp [hu, T.c, n0, n1, o0, o1, c0, c1, e0, e1]
  refine ⟨.string (keyBytes [.int .i64 x.1, .int .i64 x.2]), ?_⟩
  unfold keyOf
  simp only [hu, T.k, pkV, Value.formed, T.c, hd, Value.cells]
  simp [key]
theorem PairT.inv {P : Program} {t : TypeId} (T : PairT P t) {v : Value} {kl : Lit} (h : keyOf P t v = some kl) : ∃ x : Int × Int, v = pkV x := by
  obtain ⟨f0, f1, hu, u0, u1, o0, o1, n0, n1, c0, c1⟩ := T.s
  obtain ⟨xs, L, rfl, h1, _⟩ := keyOf_top (by rw [hu]) h
  unfold Program.keyLits at h1
  simp only [hu] at h1
  split at h1
  · rename_i hc
    have hlen := hc.1
    rw [T.c] at hlen
    obtain ⟨ls, ha, _⟩ := Option.map_eq_some_iff.1 h1
    have each := mapM_each ha
    obtain ⟨l0, h0⟩ := each f0 (by simp)
    obtain ⟨l1, h1⟩ := each f1 (by simp)
    obtain ⟨a, ea, _⟩ := keyLits_wf1 u0 h0
    obtain ⟨b, eb, _⟩ := keyLits_wf1 u1 h1
    rw [o0, c0] at ea
    rw [o1, c1] at eb
    obtain ⟨l⟩ := xs
    simp only at hlen ea eb
    match l, hlen with
    | [x, y], _ =>
      simp at ea eb
      exact ⟨(a, b), by rw [ea, eb]; rfl⟩
  · cases h1
/-- Is such a key among a map's? -/
def KeyIn {H : Type} (P : Program) (t : TypeId) (D : DataW H) (x : Int × Int) : Prop := ∃ kl, keyOf P t (pkV x) = some kl ∧ has D kl = true
/-- What has come: no key twice; a key is there just where the map has it and it is no longer to come. -/
def ColP {H : Type} (P : Program) (t : TypeId) (D0 : DataW H) (left : Lit → Bool) (ss : List (Int × Int)) : Prop :=
  ss.Nodup ∧ ∀ x, x ∈ ss ↔ ∃ kl, keyOf P t (pkV x) = some kl ∧ has D0 kl = true ∧ left kl = false
theorem ColP.start {H : Type} {P : Program} {t : TypeId} (D0 : DataW H) : ColP P t D0 (has D0) [] := ⟨List.nodup_nil, fun x => by
  constructor
  · intro h; cases h
  · rintro ⟨kl, _, h1, h2⟩; rw [h1] at h2; cases h2⟩
theorem ColP.step {H : Type} {P : Program} {t : TypeId} (T : PairT P t) {D0 : DataW H} {left : Lit → Bool} {ss : List (Int × Int)} (h : ColP P t D0 left ss) {x : Int × Int} {kl : Lit} {y : DataW H} (hk : keyOf P t (pkV x) = some kl) (hlk : left kl = true) (hat : ∀ zd, D0.atKey kl zd = y) :
    ColP P t D0 (fun z => left z && !z.sameKey kl) (ss ++ [x]) := by
  have hhas : has D0 kl = true := has_true_of_atKey hat
  have hnew : x ∉ ss := fun hx => by
    obtain ⟨k', e1, _, e2⟩ := (h.2 x).1 hx
    rw [hk] at e1
    obtain rfl := Option.some.inj e1
    rw [hlk] at e2; cases e2
  have hstr : ∀ {v : Value} {l : Lit}, keyOf P t v = some l → ∃ s, l = .string s := fun hv => by
    obtain ⟨f0, f1, hu, _⟩ := T.s
    obtain ⟨_, _, _, _, e⟩ := keyOf_top (by rw [hu]) hv
    exact ⟨_, e⟩
  obtain ⟨s0, rfl⟩ := hstr hk
  refine ⟨List.nodup_append.2 ⟨h.1, by simp, fun a ha b hb => by simp at hb; subst hb; exact fun e => hnew (e ▸ ha)⟩, fun z => ?_⟩
  rw [List.mem_append, h.2 z, List.mem_singleton]
  constructor
  · rintro (⟨k', e1, e2, e3⟩ | rfl)
    · exact ⟨k', e1, e2, by simp only [e3, Bool.false_and]⟩
    · exact ⟨_, hk, hhas, by simp [Lit.sameKey]⟩
  · rintro ⟨k', e1, e2, e3⟩
    obtain ⟨s1, rfl⟩ := hstr e1
    cases hl : left (.string s1) with
    | false => exact .inl ⟨_, e1, e2, hl⟩
    | true =>
      refine .inr ?_
      simp only [hl] at e3
      simp only [Bool.true_and, Bool.not_eq_false'] at e3
      simp [Lit.sameKey] at e3
      subst e3
      exact pkV_inj (T.law.inj e1 hk)
end Go.Proofs
