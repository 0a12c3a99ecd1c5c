/- Plans: what the changes write, in numbers and lists. Conditions: none. -/
import Derived.Test.YtdokijbheholdabPlOpen
set_option linter.unusedVariables false
set_option linter.unusedSimpArgs false
namespace Go.AM
/-- The word that changes write. -/
def wOf (l : List Chg) (j : Nat) (w : Nat) : Nat := match l.find? (fun y => y.o == (j : Int)) with | some y => y.w | none => w
theorem wOf_not {l : List Chg} {j : Nat} (h : ∀ y ∈ l, y.o ≠ (j : Int)) (w : Nat) : wOf l j w = w := by
  unfold wOf
  rw [List.find?_eq_none.2 fun y hy => by simpa using h y hy]
theorem wOf_snoc {l : List Chg} {y : Chg} (h : ∀ y' ∈ l, y'.o ≠ y.o) (j : Nat) (w : Nat) : wOf (l ++ [y]) j w = if y.o = (j : Int) then y.w else wOf l j w := by
  unfold wOf
  rw [List.find?_append]
  by_cases e : y.o = (j : Int)
  · rw [if_pos e, List.find?_eq_none.2 fun y' hy => by have := h y' hy; rw [e] at this; simpa using this]
    simp [e]
  · rw [if_neg e]
    have : ([y] : List Chg).find? (fun y => y.o == (j : Int)) = none := by simp [e]
    rw [this]; simp
/-- Changes that may be. -/
structure ChOk (os : List ObjV) (k : Int) (chs : List Chg) : Prop where
  one : ∀ y ∈ chs, ∃ j z, os[j]? = some z ∧ y.o = ((j : Nat) : Int) ∧ z.k = k ∧ y.w ≠ z.w
  nd : (chs.map Chg.o).Nodup
theorem ChOk.nil (os : List ObjV) (k : Int) : ChOk os k [] := ⟨fun y hy => (by cases hy), List.nodup_nil⟩
theorem ChOk.snoc {os : List ObjV} {k : Int} {chs : List Chg} {y : Chg} (H : ChOk os k chs) (h1 : ∃ j z, os[j]? = some z ∧ y.o = ((j : Nat) : Int) ∧ z.k = k ∧ y.w ≠ z.w) (h2 : ∀ y' ∈ chs, y'.o ≠ y.o) : ChOk os k (chs ++ [y]) := by
  refine ⟨fun y' hy => ?_, ?_⟩
  · rcases List.mem_append.1 hy with hy | hy
    · exact H.one y' hy
    · rw [List.mem_singleton.1 hy]; exact h1
  · rw [List.map_append, List.map_singleton]
    refine List.nodup_append.2 ⟨H.nd, by simp, fun a ha b hb => ?_⟩
    rw [List.mem_singleton.1 hb]
    obtain ⟨y', hy', rfl⟩ := List.mem_map.1 ha
    exact h2 y' hy'
theorem lpF_facts (os : List ObjV) (i k : Nat) (C : Kls) : ∀ n, n ≤ os.length → ChOk os k (lpF os i k C n) ∧ (∀ y ∈ lpF os i k C n, y.o < n ∧ y.o ≠ (i : Int)) ∧
    ∀ (j : Nat) z, os[j]? = some z → wOf (lpF os i k C n) j z.w = if j < n ∧ j ≠ i ∧ z.k = (k : Int) ∧ frO z = true then frW z.w C else z.w
  | 0, _ => ⟨ChOk.nil _ _, fun y hy => by simp [lpF] at hy, fun j z hz => by rw [if_neg (by omega)]; rfl⟩
  | n + 1, hn => by
    obtain ⟨h1, h2, h3⟩ := lpF_facts os i k C n (by omega)
    obtain ⟨x, hx⟩ : ∃ x, os[n]? = some x := ⟨_, List.getElem?_eq_getElem (by omega)⟩
    rw [lpF_step i k C hx, stepF_eq hx]
    by_cases hc : (n : Int) ≠ (i : Int) ∧ x.k = (k : Int) ∧ frO x = true ∧ frW x.w C ≠ x.w
    · rw [if_pos hc]
      have hne : ∀ y' ∈ lpF os i k C n, y'.o ≠ (⟨(n : Nat), frW x.w C, -1, 0⟩ : Chg).o := fun y' hy => by have := (h2 y' hy).1; simp only; omega
      refine ⟨h1.snoc ⟨n, x, hx, rfl, hc.2.1, hc.2.2.2⟩ hne, fun y hy => ?_, fun j z hz => ?_⟩
      · rcases List.mem_append.1 hy with hy | hy
        · have := h2 y hy; exact ⟨by omega, this.2⟩
        · rw [List.mem_singleton.1 hy]; exact ⟨by simp only; omega, hc.1⟩
      · rw [wOf_snoc hne, h3 j z hz]
        by_cases e : j = n
        · subst e
          rw [hx] at hz
          obtain rfl := Option.some.inj hz
          rw [if_pos rfl, if_pos ⟨by omega, by omega, hc.2.1, hc.2.2.1⟩]
        · rw [if_neg (show ¬ ((n : Nat) : Int) = (j : Int) by omega)]
          have : (j < n + 1 ∧ j ≠ i ∧ z.k = (k : Int) ∧ frO z = true) ↔ (j < n ∧ j ≠ i ∧ z.k = (k : Int) ∧ frO z = true) := by
            constructor <;> intro q <;> exact ⟨by omega, q.2⟩
          simp only [this]
    · rw [if_neg hc]
      refine ⟨h1, fun y hy => ⟨by have := (h2 y hy).1; omega, (h2 y hy).2⟩, fun j z hz => ?_⟩
      rw [h3 j z hz]
      by_cases e : j = n
      · subst e
        rw [hx] at hz
        obtain rfl := Option.some.inj hz
        rw [if_neg (by omega)]
        by_cases q : j < j + 1 ∧ j ≠ i ∧ x.k = (k : Int) ∧ frO x = true
        · rw [if_pos q]
          have : frW x.w C = x.w := by
            apply Classical.byContradiction
            intro hw
            exact hc ⟨by omega, q.2.2.1, q.2.2.2, hw⟩
          rw [this]
        · rw [if_neg q]
      · have : (j < n + 1 ∧ j ≠ i ∧ z.k = (k : Int) ∧ frO z = true) ↔ (j < n ∧ j ≠ i ∧ z.k = (k : Int) ∧ frO z = true) := by
          constructor <;> intro q <;> exact ⟨by omega, q.2⟩
        simp only [this]
theorem lpN_facts (os : List ObjV) (k : Nat) : ∀ n, n ≤ os.length → ChOk os k (lpN os k n) ∧ (∀ y ∈ lpN os k n, y.o < n) ∧
    ∀ (j : Nat) z, os[j]? = some z → wOf (lpN os k n) j z.w = if j < n ∧ z.k = (k : Int) ∧ oneOk j z.w = true then (oneV j z).w else z.w
  | 0, _ => ⟨ChOk.nil _ _, fun y hy => by simp [lpN] at hy, fun j z hz => by rw [if_neg (by omega)]; rfl⟩
  | n + 1, hn => by
    obtain ⟨h1, h2, h3⟩ := lpN_facts os k n (by omega)
    obtain ⟨x, hx⟩ : ∃ x, os[n]? = some x := ⟨_, List.getElem?_eq_getElem (by omega)⟩
    have hst : lpN os k (n + 1) = if x.k = (k : Int) ∧ oneOk n x.w = true then lpN os k n ++ [oneV n x] else lpN os k n := by
      rw [lpN_step k hx]
      unfold stepN
      rw [addC_one hx]
      by_cases q1 : x.k = (k : Int)
      · rw [if_pos q1]
        by_cases q2 : oneOk n x.w = true
        · rw [if_pos q2, if_pos ⟨q1, q2⟩]
        · rw [if_neg q2, if_neg (fun q => q2 q.2)]
      · rw [if_neg q1, if_neg (fun q => q1 q.1)]
    rw [hst]
    by_cases hc : x.k = (k : Int) ∧ oneOk n x.w = true
    · rw [if_pos hc]
      obtain ⟨o1, o2⟩ := one_ne hc.2
      have hne : ∀ y' ∈ lpN os k n, y'.o ≠ (oneV n x).o := fun y' hy => by have := h2 y' hy; rw [o2]; omega
      refine ⟨h1.snoc ⟨n, x, hx, o2, hc.1, o1⟩ hne, fun y hy => ?_, fun j z hz => ?_⟩
      · rcases List.mem_append.1 hy with hy | hy
        · have := h2 y hy; omega
        · rw [List.mem_singleton.1 hy, o2]; omega
      · rw [wOf_snoc hne, h3 j z hz, o2]
        by_cases e : j = n
        · subst e
          rw [hx] at hz
          obtain rfl := Option.some.inj hz
          rw [if_pos rfl, if_pos ⟨by omega, hc⟩]
        · rw [if_neg (show ¬ ((n : Nat) : Int) = (j : Int) by omega)]
          have : (j < n + 1 ∧ z.k = (k : Int) ∧ oneOk j z.w = true) ↔ (j < n ∧ z.k = (k : Int) ∧ oneOk j z.w = true) := by
            constructor <;> intro q <;> exact ⟨by omega, q.2⟩
          simp only [this]
    · rw [if_neg hc]
      refine ⟨h1, fun y hy => by have := h2 y hy; omega, fun j z hz => ?_⟩
      rw [h3 j z hz]
      by_cases e : j = n
      · subst e
        rw [hx] at hz
        obtain rfl := Option.some.inj hz
        rw [if_neg (by omega), if_neg (fun q => hc q.2)]
      · have : (j < n + 1 ∧ z.k = (k : Int) ∧ oneOk j z.w = true) ↔ (j < n ∧ z.k = (k : Int) ∧ oneOk j z.w = true) := by
          constructor <;> intro q <;> exact ⟨by omega, q.2⟩
        simp only [this]
/-- All changes: what each object's word is behind them. -/
theorem chsB_facts {os : List ObjV} {cs : List Kls} {x : ObjV} {c : Kls} {i k : Nat} (H : RvOk os cs (i : Int) x c i k) (rb rv : Int) :
    ChOk os k (chsB os i k x c rb rv) ∧ ∀ (j : Nat) z, os[j]? = some z → wOf (chsB os i k x c rb rv) j z.w =
      if z.k = (k : Int) ∧ (j = i ∨ polW c rb rv = 2) then (if oneOk j z.w = true then (oneV j z).w else z.w) else if z.k = (k : Int) ∧ polW c rb rv = 1 ∧ frO z = true then frW z.w (clsB c rb rv) else z.w := by
  obtain ⟨a1, a2, a3, a4, a5, a6⟩ := H
  have hi := (List.getElem?_eq_some_iff.1 a4).1
  unfold chsB
  by_cases hW : polW c rb rv = 1
  · rw [if_pos hW]
    obtain ⟨h1, h2, h3⟩ := lpF_facts os i k (clsB c rb rv) os.length (Nat.le_refl _)
    rw [addC_one a4]
    have h20 : ¬ polW c rb rv = 2 := by omega
    by_cases hok : oneOk i x.w = true
    · rw [if_pos hok]
      obtain ⟨o1, o2⟩ := one_ne hok
      have hne : ∀ y' ∈ lpF os i k (clsB c rb rv) os.length, y'.o ≠ (oneV i x).o := fun y' hy => by have := (h2 y' hy).2; rw [o2]; exact this
      refine ⟨h1.snoc ⟨i, x, a4, o2, a5, o1⟩ hne, fun j z hz => ?_⟩
      have hj := (List.getElem?_eq_some_iff.1 hz).1
      rw [wOf_snoc hne, h3 j z hz, o2]
      by_cases e : j = i
      · subst e
        rw [a4] at hz
        obtain rfl := Option.some.inj hz
        rw [if_pos rfl, if_pos ⟨a5, .inl rfl⟩, if_pos hok]
      · rw [if_neg (show ¬ ((i : Nat) : Int) = (j : Int) by omega), if_neg (show ¬ (z.k = (k : Int) ∧ (j = i ∨ polW c rb rv = 2)) from fun q => by rcases q.2 with q | q; (· exact e q); (· exact h20 q))]
        have : (j < os.length ∧ j ≠ i ∧ z.k = (k : Int) ∧ frO z = true) ↔ (z.k = (k : Int) ∧ polW c rb rv = 1 ∧ frO z = true) := ⟨fun q => ⟨q.2.2.1, hW, q.2.2.2⟩, fun q => ⟨hj, e, q.1, q.2.2⟩⟩
        simp only [this]
    · rw [if_neg hok]
      refine ⟨h1, fun j z hz => ?_⟩
      have hj := (List.getElem?_eq_some_iff.1 hz).1
      rw [h3 j z hz]
      by_cases e : j = i
      · subst e
        rw [a4] at hz
        obtain rfl := Option.some.inj hz
        rw [if_neg (fun q => q.2.1 rfl), if_pos ⟨a5, .inl rfl⟩, if_neg hok]
      · rw [if_neg (show ¬ (z.k = (k : Int) ∧ (j = i ∨ polW c rb rv = 2)) from fun q => by rcases q.2 with q | q; (· exact e q); (· exact h20 q))]
        have : (j < os.length ∧ j ≠ i ∧ z.k = (k : Int) ∧ frO z = true) ↔ (z.k = (k : Int) ∧ polW c rb rv = 1 ∧ frO z = true) := ⟨fun q => ⟨q.2.2.1, hW, q.2.2.2⟩, fun q => ⟨hj, e, q.1, q.2.2⟩⟩
        simp only [this]
  · rw [if_neg hW]
    by_cases hW2 : polW c rb rv = 2
    · rw [if_pos hW2]
      obtain ⟨h1, h2, h3⟩ := lpN_facts os k os.length (Nat.le_refl _)
      refine ⟨h1, fun j z hz => ?_⟩
      have hj := (List.getElem?_eq_some_iff.1 hz).1
      rw [h3 j z hz]
      by_cases hk : z.k = (k : Int)
      · rw [if_pos (show z.k = (k : Int) ∧ (j = i ∨ polW c rb rv = 2) from ⟨hk, .inr hW2⟩)]
        by_cases hok : oneOk j z.w = true
        · rw [if_pos ⟨hj, hk, hok⟩, if_pos hok]
        · rw [if_neg (fun q => hok q.2.2), if_neg hok]
      · rw [if_neg (fun q => hk q.2.1), if_neg (fun q => hk q.1), if_neg (fun q => hk q.1)]
    · rw [if_neg hW2, addC_one a4]
      by_cases hok : oneOk i x.w = true
      · rw [if_pos hok]
        obtain ⟨o1, o2⟩ := one_ne hok
        have hne : ∀ y' ∈ ([] : List Chg), y'.o ≠ (oneV i x).o := fun y' hy => by cases hy
        refine ⟨(ChOk.nil os k).snoc ⟨i, x, a4, o2, a5, o1⟩ hne, fun j z hz => ?_⟩
        rw [wOf_snoc hne, o2]
        by_cases e : j = i
        · subst e
          rw [a4] at hz
          obtain rfl := Option.some.inj hz
          rw [if_pos rfl, if_pos ⟨a5, .inl rfl⟩, if_pos hok]
        · rw [if_neg (show ¬ ((i : Nat) : Int) = (j : Int) by omega), if_neg (show ¬ (z.k = (k : Int) ∧ (j = i ∨ polW c rb rv = 2)) from fun q => by rcases q.2 with q | q; (· exact e q); (· exact hW2 q)), if_neg (fun q => hW q.2.1)]
          rfl
      · rw [if_neg hok]
        refine ⟨ChOk.nil os k, fun j z hz => ?_⟩
        rw [wOf_not (fun y hy => by cases hy)]
        by_cases e : j = i
        · subst e
          rw [a4] at hz
          obtain rfl := Option.some.inj hz
          rw [if_pos ⟨a5, .inl rfl⟩, if_neg hok]
        · rw [if_neg (show ¬ (z.k = (k : Int) ∧ (j = i ∨ polW c rb rv = 2)) from fun q => by rcases q.2 with q | q; (· exact e q); (· exact hW2 q)), if_neg (fun q => hW q.2.1)]
/-- Fresh words. -/
theorem fr_facts {w : Nat} {c : Kls} (hc : c.ok) (hb : biW w = true) : frW w c < 18446744073709551616 ∧ biW (frW w c) = true ∧ ownW (frW w c) = ownW w ∧ validK c (frW w c) = c.bias := by
  obtain ⟨f1, f2, f3⟩ := fr_may hc hb
  obtain ⟨b1, b2⟩ := bi_word f2 f3
  have e : frW w c = (frH w c).word := by unfold frW; rw [if_pos hb]
  have hk := (bi_facts hb).2.1
  rw [e]
  refine ⟨?_, b1, ?_, ?_⟩
  · unfold Hdr.ok at f1
    have hf : (frH w c).fits = true := by rw [may_eq _ f1] at f2; simp only [Bool.and_eq_true] at f2; exact f2.1
    have ha := fits_age hf (.inr f3)
    unfold Hdr.word
    rw [if_pos hf, if_neg (by omega), if_neg (by omega), if_neg (by omega), if_pos f3]
    omega
  · unfold ownW
    rw [b2, f3, hk]
    rfl
  · unfold validK
    rw [b1, b2]
    simp [frH]
/-- One object's new word. -/
theorem one_facts {j : Nat} {z : ObjV} (hj : j < 65536) (hb : biW z.w = true) : oneOk j z.w = true ∧ (oneV j z).w < 18446744073709551616 ∧ (rdH (oneV j z).w).kind ≠ 4 ∧ (hasC z.cnt (ownW z.w) = true → ownW (oneV j z).w = ownW z.w) := by
  have hok : oneOk j z.w = true := by
    unfold oneOk; rw [hb]; simp; omega
  obtain ⟨hr, hk, ha, hown, hu⟩ := bi_facts hb
  refine ⟨hok, ?_⟩
  unfold oneV
  rw [if_pos hok]
  by_cases hh : hasC z.cnt (ownW z.w) = true
  · rw [if_pos hh]
    have hp := has_pos hh
    have hop : 0 < (rdH z.w).own := by omega
    obtain ⟨to, tm, tw⟩ := hdr_t (rdH z.w).own j hop hown hj
    obtain ⟨t1, t2⟩ := may_rd tm
    rw [tw] at t2
    have e : thinW (j : Int) z.w = j * 256 + (rdH z.w).own * 16777216 := by unfold thinW; rw [Int.toNat_natCast]
    simp only [e]
    refine ⟨by omega, by rw [t2]; simp, fun _ => ?_⟩
    rw [hu]
    unfold ownW
    rw [t2]
    simp
  · rw [if_neg hh]
    obtain ⟨ao, am, aw⟩ := hdr_a (rdH z.w).age ha
    obtain ⟨t1, t2⟩ := may_rd am
    rw [aw] at t2
    simp only [neuW]
    exact ⟨by omega, by rw [t2]; simp, fun q => absurd q hh⟩
/-- What holds of each object behind the changes. -/
theorem keeps_law {os : List ObjV} {cs : List Kls} {x : ObjV} {c : Kls} {i k : Nat} (H : RvOk os cs (i : Int) x c i k) (rb rv : Int) (hc : c.ok) {j : Nat} {z : ObjV} (hz : os[j]? = some z) (hzw : z.w < 18446744073709551616) {w : Nat}
    (hw : w = wOf (chsB os i k x c rb rv) j z.w) :
    w < 18446744073709551616 ∧ (biW z.w = true ∧ hasC z.cnt (ownW z.w) = true → ownW w = ownW z.w) ∧ (z.k = (k : Int) → (polW c rb rv = 2 ∨ j = i) → (rdH w).kind ≠ 4) ∧
      (z.k = (k : Int) → polW c rb rv = 1 → (rdH w).kind = 4 → biW z.w = true ∧ hasC z.cnt (ownW z.w) = true → validK (clsB c rb rv) w = true) := by
  have h1 := H.1
  rw [(chsB_facts H rb rv).2 j z hz] at hw
  have hj := (List.getElem?_eq_some_iff.1 hz).1
  by_cases hA : z.k = (k : Int) ∧ (j = i ∨ polW c rb rv = 2)
  · rw [if_pos hA] at hw
    by_cases hb : biW z.w = true
    · obtain ⟨o1, o2, o3, o4⟩ := one_facts (j := j) (by omega) hb
      rw [if_pos o1] at hw
      subst hw
      exact ⟨o2, fun q => o4 q.2, fun _ _ => o3, fun _ _ q => absurd q o3⟩
    · have hno : ¬ oneOk j z.w = true := fun q => hb (by unfold oneOk at q; simp only [Bool.and_eq_true] at q; exact q.1)
      rw [if_neg hno] at hw
      subst hw
      refine ⟨hzw, fun _ => rfl, fun _ _ q => hb (kind4_bi q), fun _ _ q => absurd (kind4_bi q) hb⟩
  · rw [if_neg hA] at hw
    have hnA : z.k = (k : Int) → (polW c rb rv = 2 ∨ j = i) → False := fun q1 q2 => hA ⟨q1, q2.symm⟩
    by_cases hB : z.k = (k : Int) ∧ polW c rb rv = 1 ∧ frO z = true
    · rw [if_pos hB] at hw
      have hf := hB.2.2
      unfold frO at hf
      simp only [Bool.and_eq_true] at hf
      have hCok : (clsB c rb rv).ok := by
        unfold clsB; rw [if_pos hB.2.1]
        unfold Kls.ok anew; exact Nat.mod_lt _ (by omega)
      have hbias : (clsB c rb rv).bias = true := by
        unfold clsB; rw [if_pos hB.2.1]
        have hp := hB.2.1
        unfold polW at hp
        cases hcb : c.bias with
        | true => simp [anew, polC, hcb]
        | false => rw [hcb] at hp; simp at hp
      obtain ⟨f1, f2, f3, f4⟩ := fr_facts hCok hf.1
      subst hw
      exact ⟨f1, fun _ => f3, fun q1 q2 => (hnA q1 q2).elim, fun _ _ _ _ => by rw [f4, hbias]⟩
    · rw [if_neg hB] at hw
      subst hw
      refine ⟨hzw, fun _ => rfl, fun q1 q2 => (hnA q1 q2).elim, fun q1 q2 _ q4 => absurd ⟨q1, q2, ?_⟩ hB⟩
      unfold frO; rw [q4.1, q4.2]; rfl
end Go.AM
