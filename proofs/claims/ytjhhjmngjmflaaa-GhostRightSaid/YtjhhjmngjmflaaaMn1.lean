/- Monitors' model: what stays true of it (mathematics). Conditions: none. -/
import Derived.Test.YtjhhjmngjmflaaaMots
set_option linter.unusedVariables false
set_option linter.unusedSimpArgs false
namespace Go.AM
theorem updP_mem {α : Type} (t : Pk) (v : α) : ∀ M : List (Pk × α), ∀ p ∈ updP t v M, p = (t, v) ∨ p ∈ M
  | [], p, hp => by simp [updP] at hp; exact .inl hp
  | (a, w) :: M, p, hp => by
    unfold updP at hp
    by_cases h : t = a
    · rw [if_pos h] at hp
      rcases List.mem_cons.1 hp with rfl | hp
      · exact .inl rfl
      · exact .inr (List.mem_cons_of_mem _ hp)
    · rw [if_neg h] at hp
      rcases List.mem_cons.1 hp with rfl | hp
      · exact .inr List.mem_cons_self
      · rcases updP_mem t v M p hp with e | e
        · exact .inl e
        · exact .inr (List.mem_cons_of_mem _ e)
theorem mem_thrV {α : Type} {l : List (Pk × α)} {o t : Int} : t ∈ thrV l o ↔ ∃ v, ((o, t), v) ∈ l := by
  unfold thrV
  rw [List.mem_map]
  constructor
  · rintro ⟨⟨⟨a, b⟩, v⟩, hm, rfl⟩
    rw [List.mem_filter] at hm
    have : a = o := by simpa using hm.2
    subst this
    exact ⟨v, hm.1⟩
  · rintro ⟨v, hv⟩
    exact ⟨((o, t), v), List.mem_filter.2 ⟨hv, by simp⟩, rfl⟩
theorem thrV_nil {α : Type} {l : List (Pk × α)} {o : Int} (h : NdP l) : thrV l o = [] ↔ ∀ t, getP (o, t) l = none := by
  constructor
  · intro he t
    cases hg : getP (o, t) l with
    | none => rfl
    | some v =>
      have : t ∈ thrV l o := mem_thrV.2 ⟨v, getP_mem hg⟩
      rw [he] at this; cases this
  · intro hall
    refine List.eq_nil_iff_forall_not_mem.2 fun t ht => ?_
    obtain ⟨v, hv⟩ := mem_thrV.1 ht
    have := getP_of_mem h hv
    rw [hall t] at this; cases this
/-- What stays true of a model: of its sizes n and m, the greatest count c. -/
structure MdI (n m : Nat) (c : Int) (V : MdV) : Prop where
  ok : MdOk V
  fn : V.flags.length = n
  mn : V.mons.length = m
  mc : V.most = c
  own : ∀ (i : Nat) o, V.mons[i]? = some o → (o.own = -1 ∧ o.cnt = 0) ∨ (0 ≤ o.own ∧ o.own < n ∧ 1 ≤ o.cnt ∧ o.cnt ≤ c)
  wc : ∀ x ∈ V.waits, 1 ≤ x.2 ∧ x.2 ≤ c
  lc : ∀ x ∈ V.left, 1 ≤ x.2.cnt ∧ x.2.cnt ≤ c
  wo : ∀ (i : Nat) o (t : Int), V.mons[i]? = some o → getP ((i : Int), t) V.waits ≠ none → o.own ≠ t ∧ getP ((i : Int), t) V.left = none
  lo : ∀ (i : Nat) o (t : Int), V.mons[i]? = some o → getP ((i : Int), t) V.left ≠ none → o.own ≠ t
section
variable {n m : Nat} {c : Int} {V : MdV}
theorem newV_I {n m : Nat} {c : Int} (hn : n ≤ 8) (hm : m ≤ 8) (hc : 1 ≤ c ∧ c ≤ 60) : MdI n m c ⟨c, List.replicate m ⟨-1, 0, 0⟩, List.replicate n false, [], []⟩ where
  ok := {
    n := by simp; omega
    m := by simp; omega
    cnt := fun i o h => by
      have := List.mem_of_getElem? h
      rw [List.mem_replicate] at this
      rw [this.2]; simp
    wk := fun x hx => by cases hx
    lk := fun x hx => by cases hx
    wd := trivial
    ld := trivial }
  fn := by simp
  mn := by simp
  mc := rfl
  own := fun i o h => by
    have := List.mem_of_getElem? h
    rw [List.mem_replicate] at this
    rw [this.2]; simp
  wc := fun x hx => by cases hx
  lc := fun x hx => by cases hx
  wo := fun i o t _ h => absurd rfl h
  lo := fun i o t _ h => absurd rfl h
/-- One object's monitor is another one. -/
theorem MdI.setM (I : MdI n m c V) {ob : Nat} {o y : MonV} (hx : V.mons[ob]? = some o) (hc : c ≤ 60) (hy : (y.own = -1 ∧ y.cnt = 0) ∨ (0 ≤ y.own ∧ y.own < n ∧ 1 ≤ y.cnt ∧ y.cnt ≤ c))
    (hw : ∀ t : Int, getP ((ob : Int), t) V.waits ≠ none → y.own ≠ t) (hl : ∀ t : Int, getP ((ob : Int), t) V.left ≠ none → y.own ≠ t) : MdI n m c (V.setM ob y) := by
  have hob := (List.getElem?_eq_some_iff.1 hx).1
  have key : ∀ (i : Nat) z, (V.setM ob y).mons[i]? = some z → (i = ob ∧ z = y) ∨ (i ≠ ob ∧ V.mons[i]? = some z) := fun i z hz => by
    simp only [MdV.setM] at hz
    by_cases e : ob = i
    · subst e
      rw [List.getElem?_set_self hob] at hz
      exact .inl ⟨rfl, (Option.some.inj hz).symm⟩
    · rw [List.getElem?_set_ne e] at hz
      exact .inr ⟨Ne.symm e, hz⟩
  refine ⟨⟨I.ok.n, by simp only [MdV.setM, List.length_set]; exact I.ok.m, fun i z hz => ?_, fun x hx => ?_, fun x hx => ?_, I.ok.wd, I.ok.ld⟩, I.fn, by simp only [MdV.setM, List.length_set]; exact I.mn, I.mc, fun i z hz => ?_, I.wc, I.lc, fun i z t hz hg => ?_, fun i z t hz hg => ?_⟩
  · rcases key i z hz with ⟨rfl, rfl⟩ | ⟨_, h⟩
    · rcases hy with h | h <;> omega
    · exact I.ok.cnt i z h
  · simp only [MdV.setM, List.length_set]; exact I.ok.wk x hx
  · simp only [MdV.setM, List.length_set]; exact I.ok.lk x hx
  · rcases key i z hz with ⟨rfl, rfl⟩ | ⟨_, h⟩
    · exact hy
    · exact I.own i z h
  · rcases key i z hz with ⟨rfl, rfl⟩ | ⟨_, h⟩
    · exact ⟨hw t hg, (I.wo _ o t hx hg).2⟩
    · exact I.wo i z t h hg
  · rcases key i z hz with ⟨rfl, rfl⟩ | ⟨_, h⟩
    · exact hl t hg
    · exact I.lo i z t h hg
theorem MdI.setF (I : MdI n m c V) (t : Nat) (b : Bool) : MdI n m c (V.setF t b) := by
  refine ⟨⟨by simp only [MdV.setF, List.length_set]; exact I.ok.n, I.ok.m, I.ok.cnt, fun x hx => ?_, fun x hx => ?_, I.ok.wd, I.ok.ld⟩, by simp only [MdV.setF, List.length_set]; exact I.fn, I.mn, I.mc, I.own, I.wc, I.lc, I.wo, I.lo⟩
  · simp only [MdV.setF, List.length_set]; exact I.ok.wk x hx
  · simp only [MdV.setF, List.length_set]; exact I.ok.lk x hx
/-- A thread begins to wait. -/
theorem MdI.addW (I : MdI n m c V) {ob th : Nat} {o : MonV} (hx : V.mons[ob]? = some o) (ht : th < n) {k : Int} (hk : 1 ≤ k ∧ k ≤ c) (hne : o.own ≠ th) (hl : getP ((ob : Int), (th : Int)) V.left = none) :
    MdI n m c { V with waits := updP ((ob : Int), (th : Int)) k V.waits } := by
  have hob := (List.getElem?_eq_some_iff.1 hx).1
  have hfn := I.fn
  refine ⟨⟨I.ok.n, I.ok.m, I.ok.cnt, fun x hx => ?_, I.ok.lk, I.ok.wd.upd _ _, I.ok.ld⟩, I.fn, I.mn, I.mc, I.own, fun x hx => ?_, I.lc, fun i z t hz hg => ?_, I.lo⟩
  · rcases updP_mem _ _ _ x hx with rfl | h
    · simp only; omega
    · exact I.ok.wk x h
  · rcases updP_mem _ _ _ x hx with rfl | h
    · exact hk
    · exact I.wc x h
  · simp only [getP_upd] at hg
    split at hg
    · rename_i e
      obtain ⟨e1, rfl⟩ := Prod.mk.inj e
      obtain rfl : i = ob := by omega
      simp only at hz
      rw [hx] at hz
      obtain rfl := Option.some.inj hz
      exact ⟨hne, hl⟩
    · exact I.wo i z t hz hg
/-- A thread that waits leaves. -/
theorem MdI.leave (I : MdI n m c V) {k : Pk} {x w : Int} (hg : getP k V.waits = some x) : MdI n m c { V with waits := delP k V.waits, left := updP k ⟨x, w⟩ V.left } := by
  have hm := getP_mem hg
  have hwk := I.ok.wk _ hm
  have hwc := I.wc _ hm
  refine ⟨⟨I.ok.n, I.ok.m, I.ok.cnt, fun y hy => I.ok.wk y (mem_delP _ _ y hy), fun y hy => ?_, I.ok.wd.del _, I.ok.ld.upd _ _⟩, I.fn, I.mn, I.mc, I.own, fun y hy => I.wc y (mem_delP _ _ y hy), fun y hy => ?_, fun i z t hz h => ?_, fun i z t hz h => ?_⟩
  · rcases updP_mem _ _ _ y hy with rfl | h
    · exact hwk
    · exact I.ok.lk y h
  · rcases updP_mem _ _ _ y hy with rfl | h
    · exact hwc
    · exact I.lc y h
  · simp only [getP_del _ _ I.ok.wd] at h
    simp only [getP_upd]
    split at h
    · exact absurd rfl h
    · rename_i e
      rw [if_neg e]
      exact I.wo i z t hz h
  · simp only [getP_upd] at h
    split at h
    · rename_i e
      subst e
      exact (I.wo i z t hz (by rw [hg]; simp)).1
    · exact I.lo i z t hz h
theorem MdI.delL (I : MdI n m c V) (k : Pk) : MdI n m c { V with left := delP k V.left } := by
  refine ⟨⟨I.ok.n, I.ok.m, I.ok.cnt, I.ok.wk, fun y hy => I.ok.lk y (mem_delP _ _ y hy), I.ok.wd, I.ok.ld.del _⟩, I.fn, I.mn, I.mc, I.own, I.wc, fun y hy => I.lc y (mem_delP _ _ y hy), fun i z t hz h => ⟨(I.wo i z t hz h).1, ?_⟩, fun i z t hz h => ?_⟩
  · simp only [getP_del _ _ I.ok.ld]
    split
    · rfl
    · exact (I.wo i z t hz h).2
  · simp only [getP_del _ _ I.ok.ld] at h
    split at h
    · exact absurd rfl h
    · exact I.lo i z t hz h
/-- It stays true. -/
theorem MdI.apply (I : MdI n m c V) (hc : 1 ≤ c ∧ c ≤ 60) {e : EvV} {ob th : Nat} {o : MonV} {f : Bool} (ho : e.o = (ob : Int)) (hx : V.mons[ob]? = some o) (ht : e.t = (th : Int)) (hth : th < n)
    (hgo : e.k ≠ 5 → e.k ≠ 6 → goneV V e.t = false) {W : MdV} (hW : applyV V e o f = some W) : MdI n m c W := by
  have hob := (List.getElem?_eq_some_iff.1 hx).1
  have hto : e.o.toNat = ob := by rw [ho]; rfl
  have hto2 : e.t.toNat = th := by rw [ht]; rfl
  have hown := I.own ob o hx
  have hmc := I.mc
  have hgone : e.k ≠ 5 → e.k ≠ 6 → getP ((ob : Int), (th : Int)) V.waits = none ∧ getP ((ob : Int), (th : Int)) V.left = none := fun a b => by
    have := (goneV_false V e.t).1 (hgo a b) ob hob
    rw [ht] at this; exact this
  unfold applyV at hW
  split at hW
  · rename_i k12
    split at hW
    · obtain ⟨g1, g2⟩ := hgone (by omega) (by omega)
      unfold enterV at hW
      split at hW
      · split at hW
        · cases hW
        · rename_i hno
          obtain rfl := Option.some.inj hW
          rw [hto, ht]
          have h1 : ¬ (o.own ≠ e.t ∧ o.own ≠ -1) := fun q => hno (.inl q)
          have h2 : o.cnt ≠ V.most := fun q => hno (.inr q)
          refine I.setM hx hc.2 (.inr ⟨by simp only; omega, by simp only; omega, by simp only; omega, by simp only; omega⟩) (fun t hg => ?_) (fun t hg => ?_)
          · simp only; rintro rfl; exact hg g1
          · simp only; rintro rfl; exact hg g2
      · repeat' split at hW
        all_goals first | (obtain rfl := Option.some.inj hW; exact I) | cases hW
    · cases hW
  · split at hW
    · rename_i k3
      split at hW
      · unfold exitV at hW
        split at hW
        · split at hW
          · obtain rfl := Option.some.inj hW; exact I
          · cases hW
        · split at hW
          · cases hW
          · rename_i hno
            obtain rfl := Option.some.inj hW
            have h1 : o.own = e.t := by
              by_cases q : o.own = e.t
              · exact q
              · exact absurd (Or.inr q) hno
            obtain ⟨g1, g2⟩ := hgone (by omega) (by omega)
            rw [hto]
            refine I.setM hx hc.2 ?_ (fun t hg => ?_) (fun t hg => ?_)
            · by_cases cz : o.cnt - 1 = 0
              · exact .inl ⟨by simp only; rw [if_pos cz], by simp only; omega⟩
              · exact .inr ⟨by simp only; rw [if_neg cz]; omega, by simp only; rw [if_neg cz]; omega, by simp only; omega, by simp only; omega⟩
            · simp only
              split
              · have := I.ok.wk _ (getP_mem (Option.ne_none_iff_exists'.1 hg).choose_spec); simp only at this; omega
              · exact (I.wo ob o t hx hg).1
            · simp only
              split
              · have := I.ok.lk _ (getP_mem (Option.ne_none_iff_exists'.1 hg).choose_spec); simp only at this; omega
              · exact I.lo ob o t hx hg
      · cases hW
    · split at hW
      · rename_i k4
        split at hW
        · unfold beginV at hW
          split at hW
          · split at hW
            · obtain rfl := Option.some.inj hW; exact I
            · cases hW
          · split at hW
            · split at hW
              · obtain rfl := Option.some.inj hW; exact I
              · cases hW
            · split at hW
              · split at hW
                · obtain rfl := Option.some.inj hW; exact I.setF _ _
                · cases hW
              · split at hW
                · split at hW
                  · rename_i h1
                    obtain rfl := Option.some.inj hW
                    obtain ⟨g1, g2⟩ := hgone (by omega) (by omega)
                    rw [hto, ho, ht]
                    have I1 : MdI n m c (V.setM ob ⟨-1, 0, o.hsh⟩) := I.setM hx hc.2 (.inl ⟨rfl, rfl⟩)
                      (fun t hg => by have := I.ok.wk _ (getP_mem (Option.ne_none_iff_exists'.1 hg).choose_spec); simp only at this ⊢; omega)
                      (fun t hg => by have := I.ok.lk _ (getP_mem (Option.ne_none_iff_exists'.1 hg).choose_spec); simp only at this ⊢; omega)
                    exact I1.addW (o := ⟨-1, 0, o.hsh⟩) (List.getElem?_set_self hob) hth (by omega) (by simp only; omega) g2
                  · cases hW
                · cases hW
        · cases hW
      · split at hW
        · split at hW
          · unfold leaveV at hW
            split at hW
            · rename_i x hg
              obtain rfl := Option.some.inj hW
              exact I.leave hg
            · cases hW
          · cases hW
        · split at hW
          · split at hW
            · unfold endV at hW
              split at hW
              · rename_i l hg
                split at hW
                · cases hW
                · rename_i hno
                  obtain rfl := Option.some.inj hW
                  rw [ho, ht] at hg
                  have hlc := I.lc _ (getP_mem hg)
                  have hnw : getP ((ob : Int), (th : Int)) V.waits = none := by
                    cases hq : getP ((ob : Int), (th : Int)) V.waits with
                    | none => rfl
                    | some v =>
                      have := (I.wo ob o th hx (by rw [hq]; simp)).2
                      rw [hg] at this; cases this
                  rw [hto, ho, ht]
                  have I1 := I.delL ((ob : Int), (th : Int))
                  have key : ∀ V' : MdV, MdI n m c V' → V'.mons[ob]? = some o → V'.waits = V.waits → V'.left = delP ((ob : Int), (th : Int)) V.left → MdI n m c (V'.setM ob ⟨(th : Int), l.cnt, o.hsh⟩) := fun V' I' hx' hw' hl' => by
                    refine I'.setM hx' hc.2 (.inr ⟨by simp only; omega, by simp only; omega, hlc.1, hlc.2⟩) (fun t hgt => ?_) (fun t hgt => ?_)
                    · rw [hw'] at hgt
                      simp only; rintro rfl; exact hgt hnw
                    · rw [hl', getP_del _ _ I.ok.ld] at hgt
                      simp only; rintro rfl
                      rw [if_pos rfl] at hgt
                      exact hgt rfl
                  by_cases c12 : e.e = 12
                  · rw [if_pos c12]
                    exact key (MdV.setF { V with left := delP ((ob : Int), (th : Int)) V.left } ((th : Int)).toNat false) (I1.setF _ _) hx rfl rfl
                  · rw [if_neg c12]
                    exact key { V with left := delP ((ob : Int), (th : Int)) V.left } I1 hx rfl rfl
              · cases hW
            · cases hW
          · split at hW
            · unfold tellV at hW
              split at hW
              · split at hW
                · unfold leaveV at hW
                  split at hW
                  · rename_i x hg
                    obtain rfl := Option.some.inj hW
                    exact I.leave hg
                  · cases hW
                · cases hW
              · repeat' split at hW
                all_goals first | (obtain rfl := Option.some.inj hW; exact I) | cases hW
            · split at hW
              · unfold hashV at hW
                split at hW
                · split at hW
                  · obtain rfl := Option.some.inj hW; exact I
                  · cases hW
                · split at hW
                  · cases hW
                  · obtain rfl := Option.some.inj hW
                    rw [hto]
                    exact I.setM hx hc.2 hown (fun t hg => (I.wo ob o t hx hg).1) (fun t hg => I.lo ob o t hx hg)
              · split at hW
                · unfold holdsV at hW
                  split at hW
                  · obtain rfl := Option.some.inj hW; exact I
                  · cases hW
                · split at hW
                  · unfold intrV at hW
                    split at hW
                    · obtain rfl := Option.some.inj hW; exact I.setF _ _
                    · cases hW
                  · cases hW
theorem MdI.next (I : MdI n m c V) (hc : 1 ≤ c ∧ c ≤ 60) (e : EvV) : MdI n m c (nextM V e) := by
  unfold nextM AppV
  split
  · rename_i hm
    unfold mayV at hm
    simp only [Bool.and_eq_true, Bool.or_eq_true, decide_eq_true_eq] at hm
    obtain ⟨⟨c1, c2⟩, c3⟩ := hm
    obtain ⟨th, hth⟩ := Int.eq_ofNat_of_zero_le c1.1
    obtain ⟨ob, hob⟩ := Int.eq_ofNat_of_zero_le c2.1
    obtain ⟨o, ho⟩ : ∃ o, V.mons[ob]? = some o := ⟨_, List.getElem?_eq_getElem (by omega)⟩
    have hfn := I.fn
    rw [hob]
    simp only [Int.toNat_natCast, List.getD_eq_getElem?_getD, ho, Option.getD_some]
    cases hA : applyV V e o ((V.flags[e.t.toNat]?).getD false) with
    | none => exact I
    | some W =>
      refine I.apply hc hob ho hth (by omega) (fun k5 k6 => ?_) hA
      rcases c3 with (h | h) | h
      · exact absurd h k5
      · exact absurd h k6
      · simpa using h
  · exact I
end
end Go.AM
