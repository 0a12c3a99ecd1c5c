/- Orders: one step, as a function. Conditions: none. -/
import Derived.Test.YtdokijbheholdaaIn8
set_option linter.unusedVariables false
set_option linter.unusedSimpArgs false
set_option maxRecDepth 100000
namespace Go.AM
open Go.Proofs
/-- Who steps: the first one whose orders have a rank. -/
def whoT (n : Nat) (l : List Nat) : Nat := ((List.range l.length).find? fun t => decide (n < sumT 0 l (t + 1))).getD 0
theorem whoT_eq {n : Nat} {l : List Nat} {t : Nat} (ht : t < l.length) (h1 : sumT 0 l t ≤ n) (h2 : n < sumT 0 l (t + 1)) : whoT n l = t := by
  unfold whoT
  have : (List.range l.length).find? (fun t => decide (n < sumT 0 l (t + 1))) = some t := by
    rw [List.find?_eq_some_iff_getElem]
    refine ⟨by simpa using h2, t, by simpa using ht, by simp, fun j hj => ?_⟩
    have := sumT_mono 0 l (show j + 1 ≤ t by omega)
    simp only [List.getElem_range, Bool.not_eq_true', decide_eq_false_iff_not]
    omega
  rw [this]; rfl
def leftT (n : Nat) (l : List Nat) : List Nat := l.set (whoT n l) (l.getD (whoT n l) 0 - 1)
def restT (n : Nat) (l : List Nat) : Nat := n - sumT 0 l (whoT n l)
theorem s48' {P : Program} {T : Tab} {K d : Nat} (S : Sd P T K) (hd : 2 ≤ d) (n0 : Nat) (l : List Nat) (hl : l.length ≤ 8) (hs : sumN l ≤ 20) (hn : n0 < sumT 0 l l.length) (b lk : Nat) (h : List AO) (hlk : lk ≤ b) (hb : h[b]? = some (.rw 3 (cellsI l))) :
    whoT n0 l < l.length ∧ l.getD (whoT n0 l) 0 ≠ 0 ∧ restT n0 l < multi 0 (leftT n0 l) ∧
      ev P T K d 48 [.sc (.int .u64 (n0 : Nat)), .sc (.sl b 0 l.length 1)] lk h = some (.tup [.sc (.int .i64 (whoT n0 l : Nat)), .sc (.int .u64 ((restT n0 l : Nat) : Int))], h.set b (.rw 3 (cellsI (leftT n0 l)))) := by
  obtain ⟨t, h1, h2, h3, h4, h5⟩ := s48 S hd n0 l hl hs hn b lk h hlk hb
  have e := whoT_eq h1 h3 h4
  unfold restT leftT
  rw [e]
  refine ⟨h1, h2, ?_, h5⟩
  have ti : sumT 0 l (t + 1) = sumT 0 l t + multi 0 (l.set t (l.getD t 0 - 1)) := by show sumT 0 l t + term 0 l t = _; unfold term; rw [if_neg h2]
  omega
theorem leftT_len (n : Nat) (l : List Nat) : (leftT n l).length = l.length := by simp [leftT]
theorem leftT_sum {n : Nat} {l : List Nat} (h1 : whoT n l < l.length) (h2 : l.getD (whoT n l) 0 ≠ 0) : sumN (leftT n l) + 1 = sumN l := by
  have := sumN_set l (whoT n l) (l.getD (whoT n l) 0 - 1) h1
  unfold leftT; omega
/-- The order of a rank. -/
def nthL : Nat → Nat → List Nat → List Nat
  | 0, _, _ => []
  | k + 1, n, l => whoT n l :: nthL k (restT n l) (leftT n l)
end Go.AM
