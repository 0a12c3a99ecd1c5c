/- Waiting graphs: how far nodes are from one: what the code counts. Conditions: none. -/
import Derived.Test.YtdokijbheholdaaDoorWh7
set_option linter.unusedVariables false
set_option linter.unusedSimpArgs false
set_option maxRecDepth 100000
namespace Go.AM
open Go.Proofs Go.Lib
-- LENS: gC_len, Edg.len, ixC_len, wC_len
def hitK (s r : Nat) (prev : Nat → Nat) (k : Nat) : Bool := (k == s && r == 1) || (k != s && prev k == r - 1)
/-- The nodes of a set from one on. -/
def blF (x s : Nat) : List Nat := (bl x).filter fun k => decide (s ≤ k)
/-- How far a node is, by so many rounds: 65 is: not yet met. -/
def Dst (E : List Nat) (s : Nat) : Nat → Nat → Nat
  | 0, _ => 65
  | m + 1, n => if s ≤ n ∧ Dst E s m n = 65 ∧ (blF (E.getD n 0) s).any (hitK s (m + 1) (Dst E s m)) = true then m + 1 else Dst E s m n
theorem Dst_succ (E : List Nat) (s m n : Nat) : Dst E s (m + 1) n = if s ≤ n ∧ Dst E s m n = 65 ∧ (blF (E.getD n 0) s).any (hitK s (m + 1) (Dst E s m)) = true then m + 1 else Dst E s m n := rfl
theorem Dst_low (E : List Nat) {s n : Nat} (h : n < s) : ∀ m, Dst E s m n = 65
  | 0 => rfl
  | m + 1 => by rw [Dst_succ, if_neg (by omega)]; exact Dst_low E h m
theorem Dst_le (E : List Nat) (s n : Nat) : ∀ m, Dst E s m n = 65 ∨ (1 ≤ Dst E s m n ∧ Dst E s m n ≤ m)
  | 0 => .inl rfl
  | m + 1 => by
    rw [Dst_succ]
    split
    · exact .inr ⟨by omega, by omega⟩
    · rcases Dst_le E s n m with h | h
      · exact .inl h
      · exact .inr ⟨h.1, by omega⟩
theorem Dst_keep (E : List Nat) (s n : Nat) {m : Nat} (hm : m < 64) : (Dst E s (m + 1) n = m ↔ Dst E s m n = m) := by
  rw [Dst_succ]
  split
  · rename_i h; omega
  · exact Iff.rfl
theorem blF_eq {x s : Nat} (hx : x < 18446744073709551616) : bl (x / 2 ^ s * 2 ^ s % 18446744073709551616) = blF x s := by
  have hle : x / 2 ^ s * 2 ^ s ≤ x := Nat.div_mul_le_self _ _
  rw [Nat.mod_eq_of_lt (by omega)]
  unfold blF bl blN
  rw [List.filter_filter]
  refine List.filter_congr fun j _ => ?_
  rw [Nat.testBit_mul_two_pow, Nat.testBit_div_two_pow]
  by_cases h : s ≤ j
  · simp [h, show j - s + s = j by omega]
  · simp [h]
def wC (w : Nat → Nat) : List SV := (List.range 64).map fun n => SV.int .i64 (w n : Nat)
theorem wC_len (w : Nat → Nat) : (wC w).length = 64 := by simp [wC]
theorem wC_at (w : Nat → Nat) {k : Nat} (h : k < 64) : (wC w)[k]? = some (.int .i64 (w k : Nat)) := by
  unfold wC
  rw [List.getElem?_map, List.getElem?_range h]; rfl
def updF (w : Nat → Nat) (n v : Nat) : Nat → Nat := fun j => if j = n then v else w j
theorem wC_set (w : Nat → Nat) (n v : Nat) : (wC w).set n (.int .i64 (v : Nat)) = wC (updF w n v) := by
  apply List.ext_getElem?
  intro j
  rw [List.getElem?_set, wC_len]
  by_cases hj : j < 64
  · rw [wC_at _ hj, wC_at _ hj]
    by_cases h : n = j
    · subst h; rw [if_pos rfl, if_pos hj]; simp [updF]
    · rw [if_neg h]; simp [updF, Ne.symm h]
  · rw [List.getElem?_eq_none (by rw [wC_len]; omega), List.getElem?_eq_none (by rw [wC_len]; omega)]
    split
    · rename_i e; rw [if_neg (by omega)]
    · rfl
theorem wC_congr {w v : Nat → Nat} (h : ∀ j, j < 64 → w j = v j) : wC w = wC v := by
  unfold wC
  refine List.map_congr_left fun j hj => ?_
  rw [h j (List.mem_range.1 hj)]
theorem wz : List.replicate 64 (SV.int IntKind.i64 0) = wC fun _ => 0 := by
  unfold wC
  rw [List.map_const', List.length_range]; rfl
theorem store_cell {P : Program} {t e : TypeId} (hs : szT P t = some 1) {h : List AO} {b lk : Nat} {cs : List SV} (g : h[b]? = some (.rw e cs)) (hk : lk ≤ b) (o : Nat) (ho : o < cs.length) (x : SV) :
    storeA P h lk t (.v (.sc (.ptr b o))) (.v (.sc x)) = some (h.set b (.rw e (cs.set o x))) := by
  rw [store_at (c := .sc x) (o := o) g hk hs rfl (by omega)]
  show some (h.set b (AO.rw e (splice cs o [x]))) = _
  rw [splice_one _ _ _ ho]
theorem wfr (w : Nat → Nat) : (freeA (.v (.ag (wC w)))).isSome = true := by
  have : ∀ l : List Nat, (freeL (l.map fun n => SV.int .i64 (w n : Nat))).isSome = true := by
    intro l
    induction l with
    | nil => rfl
    | cons a l ih =>
      obtain ⟨v, hv⟩ := Option.isSome_iff_exists.1 ih
      simp [freeL, freeS, hv]
  obtain ⟨v, hv⟩ := Option.isSome_iff_exists.1 (this (List.range 64))
  simp [freeA, freeC, wC, hv]
/-- A round under way. -/
def mixD (E : List Nat) (s r n : Nat) : Nat → Nat := fun j => if j < n then Dst E s (r + 1) j else Dst E s r j
structure ThW where
  r : Nat
  h : List AO
structure ThV where
  n : Nat
  h : List AO
end Go.AM
