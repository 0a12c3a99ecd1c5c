/- Shapes without memory: their cells. Conditions: none. -/
import Derived.Test.YtjhhjmngjmflaaaAmOpns
import Derived.Test.YtjhhjmngjmflaaaAmRecs
set_option linter.unusedVariables false
set_option linter.unusedSimpArgs false
namespace Go.AM
/-- The kinds of a shape's cells, if it has no memory. -/
def flatK : Sh → Option (List FK)
  | .int k => some [.i k]
  | .bool => some [.b]
  | .nil => some []
  | .pair n a b => match flatK a, flatK b with
    | some x, some y => if x.length = n then some (x ++ y) else none
    | _, _ => none
  | _ => none
theorem fits_flat : ∀ (sh : Sh) (ks : List FK) (h : List AO) (xs : List SV), flatK sh = some ks → Fits sh h xs → xs.length = ks.length ∧ ∀ (i : Nat) (k : FK), ks[i]? = some k → ∃ x, xs[i]? = some x ∧ k.ok x
  | .int k, ks, h, xs, hk, H => by
    obtain rfl := Option.some.inj hk
    obtain ⟨n, rfl, hn⟩ := H
    refine ⟨rfl, fun i k' hi => ?_⟩
    match i with
    | 0 => obtain rfl := Option.some.inj hi; exact ⟨_, rfl, n, rfl, hn⟩
    | i + 1 => simp at hi
  | .bool, ks, h, xs, hk, H => by
    obtain rfl := Option.some.inj hk
    obtain ⟨b, rfl⟩ := H
    refine ⟨rfl, fun i k' hi => ?_⟩
    match i with
    | 0 => obtain rfl := Option.some.inj hi; exact ⟨_, rfl, b, rfl⟩
    | i + 1 => simp at hi
  | .nil, ks, h, xs, hk, H => by
    obtain rfl := Option.some.inj hk
    obtain rfl : xs = [] := H
    exact ⟨rfl, fun i k' hi => by simp at hi⟩
  | .str, ks, h, xs, hk, H => by cases hk
  | .slice _ _, ks, h, xs, hk, H => by cases hk
  | .pair n a b, ks, h, xs, hk, H => by
    obtain ⟨h1, h2, h3⟩ := H
    simp only [flatK] at hk
    split at hk
    · rename_i x y hx hy
      split at hk
      · rename_i hn
        obtain rfl := Option.some.inj hk
        obtain ⟨a1, a2⟩ := fits_flat a x h _ hx h2
        obtain ⟨b1, b2⟩ := fits_flat b y h _ hy h3
        rw [List.length_take] at a1
        rw [List.length_drop] at b1
        refine ⟨by rw [List.length_append]; omega, fun i k hi => ?_⟩
        rcases Nat.lt_or_ge i x.length with q | q
        · rw [List.getElem?_append_left q] at hi
          obtain ⟨v, e1, e2⟩ := a2 i k hi
          rw [List.getElem?_take_of_lt (by omega)] at e1
          exact ⟨v, e1, e2⟩
        · rw [List.getElem?_append_right q] at hi
          obtain ⟨v, e1, e2⟩ := b2 _ k hi
          rw [List.getElem?_drop, show n + (i - x.length) = i by omega] at e1
          exact ⟨v, e1, e2⟩
      · cases hk
    · cases hk
end Go.AM
