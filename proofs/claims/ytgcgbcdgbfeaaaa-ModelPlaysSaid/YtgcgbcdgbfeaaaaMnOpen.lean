/- Monitors' model: the law's argument: a list of events. Conditions: none. -/
import Derived.Test.YtgcgbcdgbfeaaaaMoV
import Derived.Test.YtgcgbcdgbfeaaaaAmOpns
import Derived.Test.YtgcgbcdgbfeaaaaFlat
set_option linter.unusedVariables false
set_option linter.unusedSimpArgs false
namespace Go.AM
abbrev shEv : Sh := .pair 1 (.int .i64) (.pair 1 (.int .i64) (.pair 1 (.int .i64) (.pair 1 (.int .i64) (.pair 1 (.int .i64) .nil))))
/-- All five numbers are of their kind. -/
def EvV.wf (x : EvV) : Prop := (Lit.int .i64 x.k).wf = true ∧ (Lit.int .i64 x.t).wf = true ∧ (Lit.int .i64 x.o).wf = true ∧ (Lit.int .i64 x.a).wf = true ∧ (Lit.int .i64 x.e).wf = true
theorem ev_of {h : List AO} {xs : List SV} (H : Fits shEv h xs) : ∃ x : EvV, x.wf ∧ xs = x.cells := by
  obtain ⟨hl, ho⟩ := fits_flat shEv _ h xs rfl H
  match xs, hl with
  | [a0, a1, a2, a3, a4], _ =>
    have h0 := ho 0 _ rfl
    have h1 := ho 1 _ rfl
    have h2 := ho 2 _ rfl
    have h3 := ho 3 _ rfl
    have h4 := ho 4 _ rfl
    clear ho H
    simp only [List.getElem?_cons_zero, List.getElem?_cons_succ, Option.some.injEq, exists_eq_left', FK.ok] at h0 h1 h2 h3 h4
    obtain ⟨n0, rfl, w0⟩ := h0
    obtain ⟨n1, rfl, w1⟩ := h1
    obtain ⟨n2, rfl, w2⟩ := h2
    obtain ⟨n3, rfl, w3⟩ := h3
    obtain ⟨n4, rfl, w4⟩ := h4
    exact ⟨⟨n0, n1, n2, n3, n4⟩, ⟨w0, w1, w2, w3, w4⟩, rfl⟩
theorem evs_of {h : List AO} {xs : List SV} (H : Fits (.slice 5 shEv) h xs) : ∃ q l, xs = [q] ∧ Rs EvV.cells 5 h q l ∧ ∀ x ∈ l, x.wf := rs_of EvV.len (fun ys hy => ev_of hy) H
abbrev sh3 : Sh := .pair 1 (.int .i64) (.pair 1 (.int .i64) (.pair 1 (.int .i64) .nil))
theorem three {xs : List SV} {a b c : SV} (h1 : xs.take 1 = [a]) (h2 : (xs.drop 1).take 1 = [b]) (h3 : ((xs.drop 1).drop 1).take 1 = [c]) (h4 : ((xs.drop 1).drop 1).drop 1 = []) : xs = [a, b, c] := by
  match xs with
  | [] => simp at h1
  | [x] => simp at h2
  | [x, y] => simp at h3
  | x :: y :: z :: t =>
    simp only [List.take_succ_cons, List.take_zero, List.drop_succ_cons, List.drop_zero, List.cons.injEq, and_true] at h1 h2 h3 h4
    subst h1 h2 h3 h4
    rfl
theorem arr3_of {h : List AO} {xs : List SV} (H : Fits sh3 h xs) : ∃ a b c, xs = [.int .i64 a, .int .i64 b, .int .i64 c] := by
  obtain ⟨l1, ⟨a, ha, _⟩, l2, ⟨b, hb, _⟩, l3, ⟨c, hc, _⟩, hz⟩ := H
  exact ⟨a, b, c, three ha hb hc hz⟩
end Go.AM
