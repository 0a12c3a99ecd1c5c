/- Races: a cell, the cells that are Bare, the first race; the probe. Conditions: none. -/
import Derived.Test.YtgcgbcdgbfeaaaaRa5
import Derived.Test.YtgcgbcdgbfeaaaaBa2
import Derived.Test.YtgcgbcdgbfeaaaaBa5
set_option linter.unusedVariables false
set_option linter.unusedSimpArgs false
set_option maxRecDepth 100000
namespace Go.AM
open Go.Proofs
-- LENS: freeL_ck, ck_len, AcV.len, AcV.hk, PrV.len, StV.len
theorem j59_eq : (i59 : Info) = j59 := nrfl rfl
theorem j60_eq : (i60 : Info) = j60 := nrfl rfl
theorem j100_eq : (i100 : Info) = j100 := nrfl rfl
theorem j119_eq : (i119 : Info) = j119 := nrfl rfl
theorem sbD {P : Program} {T : Tab} {K : Nat} (S : Sd P T K) : Sb P T K :=
  ⟨S.p, by have := S.k; omega, by rw [at59 S.t, j59_eq], by rw [at60 S.t, j60_eq], by rw [at100 S.t, j100_eq], by rw [at119 S.t, j119_eq]⟩
/-- The cells that are Bare behind all accesses. -/
def bareL (l : List AcV) : List Int := ((stsOf (entsC (mC l l.length))).map bares).getD []
def ixI (n : Int) : List SV := [.int .i64 n]
def cWf (l : List AcV) : Prop := ∀ x ∈ l, (Lit.int .i64 x.c).wf = true
theorem stsOf_ents : ∀ (M : List (Int × CV)), (∀ p ∈ M, (Lit.int .i64 p.1).wf = true ∧ ∃ s : StV, p.2 = .ag s.cells) → ∃ ls, stsOf (entsC M) = some ls ∧ ls.length = M.length ∧ ∀ x ∈ ls, ∃ s : StV, (x.1, CV.ag s.cells) ∈ M ∧ x.2 = (s.k, s.t, s.L)
  | [], _ => ⟨[], rfl, rfl, fun x hx => by cases hx⟩
  | (c, v) :: M, H => by
    obtain ⟨hw, s, hs⟩ := H _ List.mem_cons_self
    obtain ⟨ls, h1, h2, h3⟩ := stsOf_ents M fun p hp => H p (List.mem_cons_of_mem _ hp)
    simp only at hs hw
    subst hs
    refine ⟨(c, s.k, s.t, s.L) :: ls, ?_, by simp [h2], fun x hx => ?_⟩
    · show (if (Lit.int .i64 c).wf = true then (stsOf (entsC M)).map ((c, s.k, s.t, s.L) :: ·) else none) = _
      rw [if_pos hw, h1]; rfl
    · rcases List.mem_cons.1 hx with rfl | hx
      · exact ⟨s, List.mem_cons_self, rfl⟩
      · obtain ⟨s', h4, h5⟩ := h3 x hx
        exact ⟨s', List.mem_cons_of_mem _ h4, h5⟩
theorem mem_updC (t : Int) (v : CV) : ∀ (M : List (Int × CV)), ∀ p ∈ updC t v M, p = (t, v) ∨ p ∈ M
  | [], p, hp => by simp [updC] at hp; exact .inl hp
  | (a, w) :: M, p, hp => by
    unfold updC at hp
    split at hp
    · rcases List.mem_cons.1 hp with rfl | hp
      · exact .inl rfl
      · exact .inr (List.mem_cons_of_mem _ hp)
    · rcases List.mem_cons.1 hp with rfl | hp
      · exact .inr List.mem_cons_self
      · rcases mem_updC t v M p hp with e | e
        · exact .inl e
        · exact .inr (List.mem_cons_of_mem _ e)
theorem len_updC (t : Int) (v : CV) : ∀ (M : List (Int × CV)), (updC t v M).length ≤ M.length + 1
  | [] => by simp [updC]
  | (a, w) :: M => by
    unfold updC
    split
    · simp
    · have := len_updC t v M
      simp; omega
theorem mC_all (l : List AcV) (hw : cWf l) : ∀ n, (mC l n).length ≤ n ∧ ∀ p ∈ mC l n, (Lit.int .i64 p.1).wf = true ∧ (∃ s : StV, p.2 = .ag s.cells) ∧ ∃ x ∈ l, x.c = p.1
  | 0 => ⟨Nat.le_refl _, fun p hp => by cases hp⟩
  | n + 1 => by
    obtain ⟨i1, i2⟩ := mC_all l hw n
    cases h : l[n]? with
    | none =>
      have e1 : mC l (n + 1) = mC l n := by
        show (match l[n]? with | some x => updC x.c (.ag (cellV l x.c (n + 1)).cells) (mC l n) | none => mC l n) = _
        rw [h]
      rw [e1]; exact ⟨by omega, i2⟩
    | some x =>
      rw [mC_succ h]
      have := len_updC x.c (.ag (nextV (cellV l x.c n) x).cells) (mC l n)
      refine ⟨by omega, fun p hp => ?_⟩
      rcases mem_updC _ _ _ p hp with rfl | hp
      · exact ⟨hw x (List.mem_of_getElem? h), ⟨_, rfl⟩, x, List.mem_of_getElem? h, rfl⟩
      · exact i2 p hp
theorem getC_mem (z : CV) : ∀ {M : List (Int × CV)} {c : Int} {v : CV}, NdC M → (c, v) ∈ M → getC z c M = v
  | (a, w) :: M, c, v, hn, hm => by
    rcases List.mem_cons.1 hm with e | hm
    · cases e; simp [getC]
    · have := hn.1 _ hm
      simp only [getC]
      rw [if_neg this]; exact getC_mem z hn.2 hm
theorem bareL_eq (l : List AcV) (hw : cWf l) : ∃ ls, stsOf (entsC (mC l l.length)) = some ls ∧ ls.length ≤ l.length ∧ bareL l = bares ls ∧ ∀ x ∈ ls, x.2.1 = (cellV l x.1 l.length).k ∧ ∃ y ∈ l, y.c = x.1 := by
  obtain ⟨i1, i2⟩ := mC_all l hw l.length
  obtain ⟨ls, h1, h2, h3⟩ := stsOf_ents _ fun p hp => ⟨(i2 p hp).1, (i2 p hp).2.1⟩
  refine ⟨ls, h1, by omega, by unfold bareL; rw [h1]; rfl, fun x hx => ?_⟩
  obtain ⟨s, h4, h5⟩ := h3 x hx
  have h6 := getC_mem (.ag [.int .i64 0, .int .i64 0, .int .u64 0]) (mC_nd l l.length) h4
  rw [mC_get] at h6
  have h7 : (cellV l x.1 l.length).cells = s.cells := by injection h6
  obtain ⟨hk, _⟩ := List.cons.inj h7
  refine ⟨?_, (i2 _ h4).2.2⟩
  rw [h5]
  injection hk with _ hk
  exact hk.symm
theorem s23 {P : Program} {T : Tab} {K d : Nat} (S : Sd P T K) (hd : 1 ≤ d) (q : SV) (l : List AcV) (hl : l.length ≤ 300) (hw : cWf l) (lk : Nat) (h : List AO) (hlk : lk ≤ h.length) (hq : Rs AcV.cells 12 h q l) :
    Ends (fun v h' => Ext1 h h' ∧ ∃ u, v = .v (.sc u) ∧ Rs ixI 1 h' u (sortL (bareL l))) (ev P T K d 23 [.sc q] lk h) := by
  obtain ⟨d, rfl⟩ : ∃ k, d = k + 1 := ⟨d - 1, by omega⟩
  rw [ev_kn (at23 S.t)]
  obtain ⟨v1, h1, e1, hx1, rfl, hlt, hM⟩ := b60 sbB (show 3 ≤ 4 by omega) q l hl lk h hlk hq.rp
  obtain ⟨ls, k1, k2, k3, _⟩ := bareL_eq l hw
  simp only [bareF, e1, hM, k1, hlk, show ls.length ≤ 1000 by omega, and_self, if_true, ← k3]
  by_cases hb : bareL l = []
  · rw [if_pos hb]
    refine Ends.some ⟨hx1.set (Nat.le_refl _) _, _, rfl, .inl ⟨rfl, List.eq_nil_of_length_eq_zero (by rw [hb]; exact List.length_mergeSort _)⟩⟩
  · rw [if_neg hb]
    refine Ends.some ⟨(hx1.set (Nat.le_refl _) _).push _, _, rfl, .inr ⟨h1.length, ?_, by simp, ?_⟩⟩
    · rw [show (sortL (bareL l)).length = (bareL l).length from List.length_mergeSort _]
    · have e : (h1.set h.length AO.dead ++ [AO.rw 3 ((sortL (bareL l)).map (SV.int .i64))])[h1.length]? = some (AO.rw 3 ((sortL (bareL l)).map (SV.int .i64))) := by
        rw [List.getElem?_append_right (by simp)]; simp
      unfold cellsAt
      rw [e]
      show some _ = some _
      congr 1
      generalize sortL (bareL l) = zs
      induction zs with
      | nil => rfl
      | cons a zs ih => rw [List.map_cons, recs_cons, ih]; rfl
theorem s22 {P : Program} {T : Tab} {K d : Nat} (S : Sd P T K) (hd : 4 ≤ d) (q : SV) (l : List AcV) (hl : l.length ≤ 300) (c : Int) (lk : Nat) (h : List AO) (hq : Rp AcV.cells 12 h q l) :
    ev P T K d 22 [.sc q, .sc (.int .i64 c)] lk h = some (.v (.ag (cellV l c l.length).cells), h) := by
  obtain ⟨d, rfl⟩ : ∃ k, d = k + 1 := ⟨d - 1, by omega⟩
  refine ev_pure (at22 S.t) (StV.fr _) ?_
  unfold i22 Try.f22
  obtain ⟨v1, h1, e1, hx1, rfl, hlt, hM⟩ := b60 (sbD S) (show 3 ≤ d by omega) q l hl h.length (h ++ [.rw 45 [.int .i64 0, .int .i64 0, .int .u64 0]]) (by simp) (hq.ext ((Ext1.refl h).push _))
  have hmu : lookupA P h1 134 (.v (.sc (.mp (h ++ [AO.rw 45 [.int .i64 0, .int .i64 0, .int .u64 0]]).length))) (.v (.sc (.int .i64 c))) false = _ := lookup_entsC (un134 S.p) (un3 S.p) (zc45 S.p) hM c
  rw [mC_get] at hmu
  have hl1 : (h ++ [AO.rw 45 [.int .i64 0, .int .i64 0, .int .u64 0]]).length = h.length + 1 := by simp
  rw [hl1] at hlt hmu e1
  have g0 : h1[h.length]? = some (AO.rw 45 [.int .i64 0, .int .i64 0, .int .u64 0]) := ext1_get hx1 (by simp)
  have hs := splN [.int .i64 0, .int .i64 0, .int .u64 0] (cellV l c l.length) rfl
  have hlen := StV.len (cellV l c l.length)
  have hst : storeA P h1 h.length 45 (.v (.sc (.ptr h.length 0))) (.v (.ag (cellV l c l.length).cells)) = some (h1.set h.length (.rw 45 (cellV l c l.length).cells)) := by
    rw [store_at (c := .ag (cellV l c l.length).cells) (o := 0) g0 (Nat.le_refl _) (sz45 S.p) hlen (by simp)]
    rw [show CV.cells (.ag (cellV l c l.length).cells) = (cellV l c l.length).cells from rfl, hs]
  have g1 : (h1.set h.length (AO.rw 45 (cellV l c l.length).cells))[h.length]? = some (AO.rw 45 (cellV l c l.length).cells) := List.getElem?_set_self (by omega)
  have g2 : cellsAt (h1.set h.length (AO.rw 45 (cellV l c l.length).cells)) h.length = some (cellV l c l.length).cells := by unfold cellsAt; rw [g1]
  have g3 : partA P 45 (cellV l c l.length).cells 0 = some (.ag (cellV l c l.length).cells) := by
    have := recs_part (ag45 S.p) (sz45 S.p) StV.len (l := [cellV l c l.length]) (i := 0) rfl
    rw [show recs StV.cells [cellV l c l.length] = (cellV l c l.length).cells by simp [recs]] at this; exact this
  simp (maxSteps := 1000000) (disch := first | omega | (simp (disch := first | omega | (simp only [freeL_ck, ck_len, AcV.len, AcV.hk, PrV.len, StV.len, List.length_append, List.length_cons, List.length_nil, List.length_set]; first | done | omega)) only [freeL_ck, ck_len, AcV.len, AcV.hk, PrV.len, StV.len, amSide, Int.reduceToNat, Nat.reducePow, Nat.reduceMul]; first | done | omega)) only  [↓amPre, amPost, ↓s_lit', Nat.reduceAdd, Nat.reduceSub, List.replicate, retA, resultsA, resultA, toC, toCL, Nat.reduceEqDiff, (ze45 S.p), part_all (ag45 S.p) (sz45 S.p), part_at (ag45 S.p) (sz45 S.p), store_last (sz45 S.p), (sz45 S.p), e1, hmu, hst, g2, g3, cells_self, cells_other, Nat.zero_add]
  exact Ends.some rfl
end Go.AM
