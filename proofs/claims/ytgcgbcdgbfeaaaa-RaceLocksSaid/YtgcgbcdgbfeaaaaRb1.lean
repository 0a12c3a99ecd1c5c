/- Races: one lock that is owned at each access; one thread alone: mathematics. Conditions: none. -/
import Derived.Test.YtgcgbcdgbfeaaaaRa6
set_option linter.unusedVariables false
set_option linter.unusedSimpArgs false
set_option maxRecDepth 100000
namespace Go.AM
open Go.Proofs
def setT (t : Int) (x : AcV) : AcV := { x with t := t }
def orL (b : Int) (x : AcV) : AcV := { x with L := bitsA .or .u64 x.L b }
theorem wrapB (v : BitVec 64) : IntKind.u64.wrap (v.toNat : Int) = v.toNat := by
  have := v.isLt
  exact wrap_u64 (by omega) (by omega)
theorem andV_eq (a b : Int) : andV a b = ((BitVec.ofInt 64 a &&& BitVec.ofInt 64 b).toNat : Int) := wrapB _
theorem orV_eq (a b : Int) : bitsA .or .u64 a b = ((BitVec.ofInt 64 a ||| BitVec.ofInt 64 b).toNat : Int) := wrapB _
theorem ofB (v : BitVec 64) : BitVec.ofInt 64 (v.toNat : Int) = v := by
  apply BitVec.eq_of_toNat_eq
  have := v.isLt
  simp only [BitVec.ofInt_natCast, BitVec.toNat_ofNat]
  omega
theorem andV_has {a c : Int} (h : andV a c = c) : BitVec.ofInt 64 a &&& BitVec.ofInt 64 c = BitVec.ofInt 64 c := by
  rw [andV_eq] at h
  have := congrArg (BitVec.ofInt 64) h
  rwa [ofB] at this
theorem andV_and {a b c : Int} (h1 : andV a c = c) (h2 : andV b c = c) : andV (andV a b) c = c := by
  have k1 := andV_has h1
  have k2 := andV_has h2
  rw [andV_eq, andV_eq a b, ofB, BitVec.and_assoc, k2, k1, ← k2, ← andV_eq]
  exact h2
theorem andV_or {a c : Int} (h0 : 0 ≤ c) (h1 : c < 18446744073709551616) : andV (bitsA .or .u64 a c) c = c := by
  rw [andV_eq, orV_eq, ofB]
  have : (BitVec.ofInt 64 a ||| BitVec.ofInt 64 c) &&& BitVec.ofInt 64 c = BitVec.ofInt 64 c := by
    ext i hi
    simp only [BitVec.getElem_and, BitVec.getElem_or]
    cases (BitVec.ofInt 64 a)[i] <;> simp
  rw [this]
  simp only [BitVec.toNat_ofInt]
  omega
theorem andV_zero (c : Int) : andV 0 c = 0 := by
  rw [andV_eq]
  simp
/-- A cell whose accesses all own one lock. -/
theorem locksV {l : List AcV} {b : Int} (hb : b ≠ 0) (H : ∀ x ∈ l, andV x.L b = b) (c : Int) : ∀ n, (cellV l c n).k = 0 ∨ (cellV l c n).k = 1 ∨ (((cellV l c n).k = 2 ∨ (cellV l c n).k = 3) ∧ andV (cellV l c n).L b = b)
  | 0 => .inl rfl
  | n + 1 => by
    have ih := locksV hb H c n
    cases hx : l[n]? with
    | none =>
      have e : cellV l c (n + 1) = cellV l c n := by
        show (match l[n]? with | some x => if x.c = c then nextV (cellV l c n) x else cellV l c n | none => cellV l c n) = _
        rw [hx]
      rw [e]; exact ih
    | some x =>
      rw [cellV_succ hx]
      have hL := H x (List.mem_of_getElem? hx)
      generalize cellV l c n = s at ih
      by_cases e : c = x.c
      · rw [if_pos e]
        have met : ∀ k L, (k = 2 ∨ k = 3) → andV L b = b → (metV k L).k = 0 ∨ (metV k L).k = 1 ∨ (((metV k L).k = 2 ∨ (metV k L).k = 3) ∧ andV (metV k L).L b = b) := by
          intro k L hk hL
          have h0 : L ≠ 0 := by
            intro h0
            rw [h0, andV_zero] at hL
            exact hb hL.symm
          refine .inr (.inr ⟨?_, hL⟩)
          show (if k = 3 ∧ L = 0 then (4 : Int) else k) = 2 ∨ (if k = 3 ∧ L = 0 then (4 : Int) else k) = 3
          rw [if_neg (fun h => h0 h.2)]
          exact hk
        have hw : wrV x = 2 ∨ wrV x = 3 := by
          unfold wrV
          split
          · exact .inr rfl
          · exact .inl rfl
        unfold nextV
        split
        · exact ih
        · split
          · exact .inr (.inl rfl)
          · split
            · split
              · exact ih
              · exact met _ _ hw hL
            · rename_i h0 h1
              obtain ⟨hk, hs⟩ : (s.k = 2 ∨ s.k = 3) ∧ andV s.L b = b := by
                rcases ih with i | i | i
                · exact absurd i h0
                · exact absurd i h1
                · exact i
              split
              · exact met _ _ hw (andV_and hs hL)
              · exact met _ _ hk (andV_and hs hL)
      · rw [if_neg e]; exact ih
/-- A cell that one thread alone accesses. -/
theorem oneV {l : List AcV} {t : Int} (H : ∀ x ∈ l, x.t = t) (c : Int) : ∀ n, (cellV l c n).k = 0 ∨ ((cellV l c n).k = 1 ∧ (cellV l c n).t = t)
  | 0 => .inl rfl
  | n + 1 => by
    have ih := oneV H c n
    cases hx : l[n]? with
    | none =>
      have e : cellV l c (n + 1) = cellV l c n := by
        show (match l[n]? with | some x => if x.c = c then nextV (cellV l c n) x else cellV l c n | none => cellV l c n) = _
        rw [hx]
      rw [e]; exact ih
    | some x =>
      rw [cellV_succ hx]
      have ht := H x (List.mem_of_getElem? hx)
      generalize cellV l c n = s at ih
      by_cases e : c = x.c
      · rw [if_pos e]
        unfold nextV
        split
        · exact ih
        · split
          · exact .inr ⟨rfl, ht⟩
          · rename_i h0
            rcases ih with i | ⟨i1, i2⟩
            · exact absurd i h0
            · rw [if_pos i1, if_pos (by rw [ht, i2])]
              exact .inr ⟨i1, i2⟩
      · rw [if_neg e]; exact ih
theorem bareL_locks {l : List AcV} (hw : cWf l) {b : Int} (hb : b ≠ 0) (H : ∀ x ∈ l, andV x.L b = b) : (sortL (bareL l)).length = 0 := by
  rw [show (sortL (bareL l)).length = (bareL l).length from List.length_mergeSort _]
  obtain ⟨ls, _, _, h3, h4⟩ := bareL_eq l hw
  rw [h3]
  unfold bares
  rw [List.length_map, List.length_eq_zero_iff, List.filter_eq_nil_iff]
  intro x hx
  have h5 := (h4 x hx).1
  have h6 := locksV hb H x.1 l.length
  rw [← h5] at h6
  simp only [beq_iff_eq]
  rcases h6 with h | h | ⟨h | h, _⟩ <;> omega
theorem pow_lt64 {n : Nat} (h : n < 64) : (0 : Int) ≠ ((2 ^ n : Nat) : Int) ∧ (((2 ^ n : Nat) : Int)) < 18446744073709551616 := by
  have h1 : 0 < 2 ^ n := Nat.two_pow_pos n
  have h2 : 2 ^ n < 2 ^ 64 := Nat.pow_lt_pow_right (by omega) h
  omega
/-- So many are changed. -/
def chg (f : AcV → AcV) (l : List AcV) (i : Nat) : List AcV := (l.take i).map f ++ l.drop i
theorem chg_zero (f : AcV → AcV) (l : List AcV) : chg f l 0 = l := rfl
theorem chg_all (f : AcV → AcV) (l : List AcV) : chg f l l.length = l.map f := by simp [chg]
theorem chg_len (f : AcV → AcV) (l : List AcV) (i : Nat) : (chg f l i).length = l.length := by
  unfold chg
  rw [List.length_append, List.length_map, List.length_take, List.length_drop]; omega
theorem chg_at {f : AcV → AcV} {l : List AcV} {i : Nat} {x : AcV} (h : l[i]? = some x) : (chg f l i)[i]? = some x := by
  have hi := (List.getElem?_eq_some_iff.1 h).1
  unfold chg
  rw [List.getElem?_append_right (by simp; omega), List.length_map, List.length_take, Nat.min_eq_left (by omega), Nat.sub_self, List.getElem?_drop]
  exact h
theorem chg_put {f : AcV → AcV} {l : List AcV} {i : Nat} {x : AcV} (h : l[i]? = some x) : (chg f l i).set i (f x) = chg f l (i + 1) := by
  have hi := (List.getElem?_eq_some_iff.1 h).1
  unfold chg
  rw [List.set_append_right _ _ (by simp; omega), List.length_map, List.length_take, Nat.min_eq_left (by omega), Nat.sub_self, List.drop_eq_getElem_cons hi, List.set_cons_zero, List.take_add_one, h, List.map_append, List.append_assoc]
  rfl
end Go.AM
