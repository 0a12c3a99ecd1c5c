/- Shapes without memory: their cells. Conditions: none. -/
import Derived.Test.YtjhhjmngjmflaaaAmOpns
import Derived.Test.YtjhhjmngjmflaaaAmRecs
import Derived.Test.YtjhhjmngjmflaaaMoV
import Derived.Test.YtjhhjmngjmflaaaGhs
set_option linter.unusedVariables false
set_option linter.unusedSimpArgs false
namespace Go.AM
/-- The kinds of a shape's cells, if it has no memory. -/
def flatK : Sh → Option (List FK)
  | .int k => some [.i k]
  | .bool => some [.b]
  | .nil => some []
  | .pair n a b => match flatK a, flatK b with
    | some x, some y => if x.length = n then some (x ++ y) else none
    | _, _ => none
  | _ => none
theorem fits_flat : ∀ (sh : Sh) (ks : List FK) (h : List AO) (xs : List SV), flatK sh = some ks → Fits sh h xs → xs.length = ks.length ∧ ∀ (i : Nat) (k : FK), ks[i]? = some k → ∃ x, xs[i]? = some x ∧ k.ok x
  | .int k, ks, h, xs, hk, H => by
    obtain rfl := Option.some.inj hk
    obtain ⟨n, rfl, hn⟩ := H
    refine ⟨rfl, fun i k' hi => ?_⟩
    match i with
    | 0 => obtain rfl := Option.some.inj hi; exact ⟨_, rfl, n, rfl, hn⟩
    | i + 1 => simp at hi
  | .bool, ks, h, xs, hk, H => by
    obtain rfl := Option.some.inj hk
    obtain ⟨b, rfl⟩ := H
    refine ⟨rfl, fun i k' hi => ?_⟩
    match i with
    | 0 => obtain rfl := Option.some.inj hi; exact ⟨_, rfl, b, rfl⟩
    | i + 1 => simp at hi
  | .nil, ks, h, xs, hk, H => by
    obtain rfl := Option.some.inj hk
    obtain rfl : xs = [] := H
    exact ⟨rfl, fun i k' hi => by simp at hi⟩
  | .str, ks, h, xs, hk, H => by cases hk
  | .slice _ _, ks, h, xs, hk, H => by cases hk
  | .pair n a b, ks, h, xs, hk, H => by
    obtain ⟨h1, h2, h3⟩ := H
    simp only [flatK] at hk
    split at hk
    · rename_i x y hx hy
      split at hk
      · rename_i hn
        obtain rfl := Option.some.inj hk
        obtain ⟨a1, a2⟩ := fits_flat a x h _ hx h2
        obtain ⟨b1, b2⟩ := fits_flat b y h _ hy h3
        rw [List.length_take] at a1
        rw [List.length_drop] at b1
        refine ⟨by rw [List.length_append]; omega, fun i k hi => ?_⟩
        rcases Nat.lt_or_ge i x.length with q | q
        · rw [List.getElem?_append_left q] at hi
          obtain ⟨v, e1, e2⟩ := a2 i k hi
          rw [List.getElem?_take_of_lt (by omega)] at e1
          exact ⟨v, e1, e2⟩
        · rw [List.getElem?_append_right q] at hi
          obtain ⟨v, e1, e2⟩ := b2 _ k hi
          rw [List.getElem?_drop, show n + (i - x.length) = i by omega] at e1
          exact ⟨v, e1, e2⟩
      · cases hk
    · cases hk
end Go.AM
/- Monitors' model: the law's argument: a list of events. Conditions: none. -/
set_option linter.unusedVariables false
set_option linter.unusedSimpArgs false
namespace Go.AM
abbrev shEv : Sh := .pair 1 (.int .i64) (.pair 1 (.int .i64) (.pair 1 (.int .i64) (.pair 1 (.int .i64) (.pair 1 (.int .i64) .nil))))
/-- All five numbers are of their kind. -/
def EvV.wf (x : EvV) : Prop := (Lit.int .i64 x.k).wf = true ∧ (Lit.int .i64 x.t).wf = true ∧ (Lit.int .i64 x.o).wf = true ∧ (Lit.int .i64 x.a).wf = true ∧ (Lit.int .i64 x.e).wf = true
abbrev sh3 : Sh := .pair 1 (.int .i64) (.pair 1 (.int .i64) (.pair 1 (.int .i64) .nil))
theorem three {xs : List SV} {a b c : SV} (h1 : xs.take 1 = [a]) (h2 : (xs.drop 1).take 1 = [b]) (h3 : ((xs.drop 1).drop 1).take 1 = [c]) (h4 : ((xs.drop 1).drop 1).drop 1 = []) : xs = [a, b, c] := by
  match xs with
  | [] => simp at h1
  | [x] => simp at h2
  | [x, y] => simp at h3
  | x :: y :: z :: t =>
    simp only [List.take_succ_cons, List.take_zero, List.drop_succ_cons, List.drop_zero, List.cons.injEq, and_true] at h1 h2 h3 h4
    subst h1 h2 h3 h4
    rfl
theorem arr3_of {h : List AO} {xs : List SV} (H : Fits sh3 h xs) : ∃ a b c, xs = [.int .i64 a, .int .i64 b, .int .i64 c] := by
  obtain ⟨l1, ⟨a, ha, _⟩, l2, ⟨b, hb, _⟩, l3, ⟨c, hc, _⟩, hz⟩ := H
  exact ⟨a, b, c, three ha hb hc hz⟩
end Go.AM
/- Logs: the laws' arguments: lists of entries. Conditions: none. -/
set_option linter.unusedVariables false
set_option linter.unusedSimpArgs false
namespace Go.AM
abbrev shEn : Sh := .pair 1 (.int .i64) (.pair 1 (.int .i64) (.pair 1 (.int .i64) (.pair 3 (.pair 1 (.int .i64) (.pair 1 (.int .i64) (.pair 1 (.int .i64) .nil))) (.pair 5 shEv (.pair 1 (.int .i64) (.pair 1 (.int .i64) .nil))))))
theorem en_of {h : List AO} {xs : List SV} (H : Fits shEn h xs) : ∃ x : EnV, True ∧ xs = x.cells := by
  obtain ⟨hl, ho⟩ := fits_flat shEn _ h xs rfl H
  match xs, hl with
  | [a0, a1, a2, a3, a4, a5, a6, a7, a8, a9, a10, a11, a12], _ =>
    have h0 := ho 0 _ rfl
    have h1 := ho 1 _ rfl
    have h2 := ho 2 _ rfl
    have h3 := ho 3 _ rfl
    have h4 := ho 4 _ rfl
    have h5 := ho 5 _ rfl
    have h6 := ho 6 _ rfl
    have h7 := ho 7 _ rfl
    have h8 := ho 8 _ rfl
    have h9 := ho 9 _ rfl
    have h10 := ho 10 _ rfl
    have h11 := ho 11 _ rfl
    have h12 := ho 12 _ rfl
    clear ho H
    simp only [List.getElem?_cons_zero, List.getElem?_cons_succ, Option.some.injEq, exists_eq_left', FK.ok] at h0 h1 h2 h3 h4 h5 h6 h7 h8 h9 h10 h11 h12
    obtain ⟨n0, rfl, w0⟩ := h0
    obtain ⟨n1, rfl, w1⟩ := h1
    obtain ⟨n2, rfl, w2⟩ := h2
    obtain ⟨n3, rfl, w3⟩ := h3
    obtain ⟨n4, rfl, w4⟩ := h4
    obtain ⟨n5, rfl, w5⟩ := h5
    obtain ⟨n6, rfl, w6⟩ := h6
    obtain ⟨n7, rfl, w7⟩ := h7
    obtain ⟨n8, rfl, w8⟩ := h8
    obtain ⟨n9, rfl, w9⟩ := h9
    obtain ⟨n10, rfl, w10⟩ := h10
    obtain ⟨n11, rfl, w11⟩ := h11
    obtain ⟨n12, rfl, w12⟩ := h12
    exact ⟨⟨n0, n1, n2, n3, n4, n5, ⟨n6, n7, n8, n9, n10⟩, n11, n12⟩, trivial, rfl⟩
theorem ens_of {h : List AO} {xs : List SV} (H : Fits (.slice 13 shEn) h xs) : ∃ q l, xs = [q] ∧ Rs EnV.cells 13 h q l := by
  obtain ⟨q, l, h1, h2, _⟩ := rs_of EnV.len (fun ys hy => en_of hy) H
  exact ⟨q, l, h1, h2⟩
end Go.AM
