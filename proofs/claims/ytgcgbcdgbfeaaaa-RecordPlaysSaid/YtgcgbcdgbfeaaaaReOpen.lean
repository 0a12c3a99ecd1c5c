/- Records: the laws' arguments. Conditions: none. -/
import Derived.Test.YtgcgbcdgbfeaaaaRe6
import Derived.Test.YtgcgbcdgbfeaaaaAmOpen
set_option linter.unusedVariables false
namespace Go.AM
open Go.Proofs
abbrev shSt : Sh := .pair 1 (.int .u8) (.pair 1 (.int .i64) (.pair 1 (.int .u64) .nil))
theorem three {xs : List SV} {a b c : SV} (h1 : xs.take 1 = [a]) (h2 : (xs.drop 1).take 1 = [b]) (h3 : ((xs.drop 1).drop 1).take 1 = [c]) (h4 : ((xs.drop 1).drop 1).drop 1 = []) : xs = [a, b, c] := by
  match xs with
  | [] => simp at h1
  | [x] => simp at h2
  | [x, y] => simp at h3
  | x :: y :: z :: t =>
    simp only [List.take_succ_cons, List.take_zero, List.drop_succ_cons, List.drop_zero, List.cons.injEq, and_true] at h1 h2 h3 h4
    subst h1 h2 h3 h4
    rfl
theorem stvs_of {h : List AO} {xs : List SV} (H : Fits (.slice 3 shSt) h xs) : ∃ q l, xs = [q] ∧ Rs StV.cells 3 h q l ∧ ∀ x ∈ l, True :=
  rs_of StV.len (fun ys hy => by
    obtain ⟨l1, ⟨a, ha, wa⟩, l2, ⟨b, hb, wb⟩, l3, ⟨c, hc, wc⟩, hz⟩ := hy
    exact ⟨⟨a, b, c⟩, trivial, three ha hb hc hz⟩) H
theorem step_of {xs : List SV} (hl : xs.length = 3) (ho : ∀ (i : Nat) (k : FK), ([.i .u8, .i .i64, .i .u64] : List FK)[i]? = some k → ∃ x, xs[i]? = some x ∧ k.ok x) : ∃ a b c, xs = [.int .u8 a, .int .i64 b, .int .u64 c] := by
  match xs, hl with
  | [a, b, c], _ =>
    have h0 := ho 0 _ rfl
    have h1 := ho 1 _ rfl
    have h2 := ho 2 _ rfl
    simp only [List.getElem?_cons_zero, List.getElem?_cons_succ, Option.some.injEq, exists_eq_left', FK.ok] at h0 h1 h2
    obtain ⟨n0, rfl, _⟩ := h0
    obtain ⟨n1, rfl, _⟩ := h1
    obtain ⟨n2, rfl, _⟩ := h2
    exact ⟨n0, n1, n2, rfl⟩
end Go.AM
