/- The abstract machine: regions whose order is open: the rule. Conditions: none. -/
import Derived.Test.YtgcgbcdgbfeaaaaAmDraw4
set_option linter.unusedVariables false
set_option linter.unusedSimpArgs false
namespace Go.AM
section
variable {P : Program} {h : List AO} {w : World} {W : Nat → Prop} {w0 : World} {lock : Nat} {E : Ext} {base n0 : Nat} {al ws : List Nat} {g0 : G} {ops : Array Oper} {cs : List Cls}
/-- What is unborn. -/
def UA (al : List Nat) (base : Nat) (listed : Array Bool) (l : Nat) : Bool :=
  decide (base ≤ l) && match al[l - base]? with | some j => !listed.getD j true | none => false
/-- Who writes waits for all who allocate. -/
def writeB (al : List Nat) (ops : Array Oper) (cs : List Cls) : Bool :=
  (List.range ops.size).all fun j => match ops[j]? with | some o => (isRd (cs.getD j .w) || decide (cs.getD j .w = .a)) || al.all (waits o) | none => true
theorem FullU.sk {U : Nat → Bool} {e : List AV} {a : Act} (H : FullU W w0 lock n0 g0 U e h a w) (d : Option Tmp) : FullU W w0 lock n0 g0 U (setD e d .sk) h (a.put d undef) w := H.put d fun g _ _ => rfl
theorem FullU.of {U : Nat → Bool} (hU : ∀ i, U i = false) {e : List AV} {a : Act} (H : Full W w0 lock n0 g0 e h a w) : FullU W w0 lock n0 g0 U e h a w := by
  obtain ⟨g, HS, hg, hl, hE, hd⟩ := H
  refine ⟨g, fun u => ?_, hl, hd⟩
  have : gU g U u = g := by unfold gU; simp [hU]
  rw [this]; exact ⟨HS, hg, hE⟩
theorem UA_set {listed : Array Bool} {j : Nat} (hj : j < listed.size) (l : Nat) : UA al base (listed.setIfInBounds j true) l = true → UA al base listed l = true ∧ al[l - base]? ≠ some j := by
  simp only [UA, Bool.and_eq_true, decide_eq_true_eq]
  rintro ⟨h1, h2⟩
  split at h2
  · rename_i i hi
    by_cases hl : j = i
    · subst hl; simp [hj] at h2
    · rw [getD_set_ne true hl] at h2
      exact ⟨⟨h1, h2⟩, by rw [hi]; simpa using Ne.symm hl⟩
  · cases h2
theorem opG_sound (hEx : ExtOk P E) (hwr : writeB al ops cs = true) {listed : Array Bool} (hsz : listed.size = ops.size) {j : Nat} (hj : j ∈ Region.ready .any ops listed) {e e' : List AV} {h h' : List AO} {a : Act} {w : World} (hb : n0 ≤ base)
    (H : FullU W w0 lock n0 g0 (UA al base listed) e h a w) (hr : opG P E lock base al ws ops cs j (e, h) = some (e', h')) {K : Act → World → Prop} {Q : Exit → Act → World → Prop}
    (hK : ∀ a' w', FullU W w0 lock n0 g0 (UA al base (listed.setIfInBounds j true)) e' h' a' w' → K a' w') : wpOp P ops Q j K a w := by
  obtain ⟨hun, o, ho, hrd⟩ := mem_ready.1 hj
  have hjs : j < ops.size := (Array.getElem?_eq_some_iff.1 ho).1
  have hjl : j < listed.size := by omega
  have hmono : ∀ i, UA al base (listed.setIfInBounds j true) i = true → UA al base listed i = true := fun i hi => (UA_set hjl i hi).1
  unfold wpOp
  unfold opG at hr
  simp only [ho] at hr ⊢
  have hE : ∃ g, ERel g h.length e a.tmps := by obtain ⟨g, hu, _, _⟩ := H; exact ⟨_, (hu fun _ => (0, 0, 0)).2.2⟩
  obtain ⟨g1, hE⟩ := hE
  cases hw : wantedA ops e o with
  | none => rw [hw] at hr; cases hr
  | some b =>
    rw [hw] at hr
    cases b with
    | false =>
      obtain ⟨rfl, rfl⟩ := Prod.mk.inj (Option.some.inj hr)
      rw [if_neg (by rw [wanted_rel hE hw]; simp)]
      exact hK _ _ ((H.mono hmono).sk _)
    | true =>
      rw [if_pos (wanted_rel hE hw)]
      left
      obtain ⟨⟨r, h1⟩, hact, he⟩ := Option.map_eq_some_iff.1 hr
      obtain ⟨rfl, rfl⟩ := Prod.mk.inj he
      simp only at hK ⊢
      have hwrite : isRd (cs.getD j .w) = false → cs.getD j .w ≠ .a → stepA P E lock o e h = some (r, h1) → o.wp P a w K Q := fun hn1 hn2 hact => by
        refine step_sound hEx H.full hact fun a' w' H' => hK _ _ (FullU.of (fun i => ?_) H')
        cases hq : UA al base (listed.setIfInBounds j true) i with
        | false => rfl
        | true =>
          exfalso
          have h1 := hmono i hq
          simp only [UA, Bool.and_eq_true, decide_eq_true_eq] at h1
          obtain ⟨h2, h4⟩ := h1
          split at h4
          · rename_i k hk
            simp only [writeB, List.all_eq_true, List.mem_range] at hwr
            have h5 := hwr j hjs
            simp only [ho, hn1, hn2, decide_false, Bool.false_or, Bool.or_self, List.all_eq_true] at h5
            have h6 := h5 k (List.mem_of_getElem? hk)
            simp only [waits, Array.any_eq_true'] at h6
            obtain ⟨ed, hed, h7⟩ := h6
            simp only [Bool.and_eq_true, beq_iff_eq] at h7
            have h8 := hrd ed hed h7.1
            rw [h7.2] at h8
            rcases Nat.lt_or_ge k listed.size with hlt | hge
            · simp only [Array.getD_eq_getD_getElem?, Array.getElem?_eq_getElem hlt, Option.getD_some] at h8 h4
              rw [h8] at h4; cases h4
            · simp [Array.getD_eq_getD_getElem?, Array.getElem?_eq_none hge] at h4
          · cases h4
      cases hc : cs.getD j .w with
      | m =>
        simp only [actG, hc, rdG] at hact
        obtain ⟨v, hv, he⟩ := Option.map_eq_some_iff.1 hact
        obtain ⟨rfl, rfl⟩ := Prod.mk.inj he
        split at hv
        · exact opM_sound H (fun g h => h) rfl hv fun a' H' => hK _ _ (H'.mono hmono)
        · cases hv
      | l =>
        simp only [actG, hc, rdG] at hact
        obtain ⟨v, hv, he⟩ := Option.map_eq_some_iff.1 hact
        obtain ⟨rfl, rfl⟩ := Prod.mk.inj he
        exact opM_sound H (fun g h => h) rfl (readA_pure hv) fun a' H' => hK _ _ (H'.mono hmono)
      | r =>
        simp only [actG, hc, rdG] at hact
        obtain ⟨v, hv, he⟩ := Option.map_eq_some_iff.1 hact
        obtain ⟨rfl, rfl⟩ := Prod.mk.inj he
        exact opR_sound hEx H (fun g h => h.mask o _ _) (maskH_len o _ _ _ _) hv fun a' w' H' => hK _ _ (H'.mono hmono)
      | a =>
        simp only [actG, hc] at hact
        obtain ⟨p, hp, hact⟩ := Option.bind_eq_some_iff.1 hact
        split at hact
        · rename_i hdead
          obtain ⟨rfl, rfl⟩ := Prod.mk.inj (Option.some.inj hact)
          have hd : h[base + al.idxOf j]? = some .dead := by have h2 := hdead.2; unfold isDead at h2; split at h2 <;> first | assumption | cases h2
          have hg := idx_get hdead.1
          refine opA_sound (l := base + al.idxOf j) (mk := p.1) (ao := p.2) ?_ hd (by omega) H hp fun a' w' H' => hK _ _ (H'.mono fun i hi => ?_)
          · have : base + al.idxOf j - base = al.idxOf j := by omega
            simp [UA, this, hg, hun]
          · obtain ⟨h1, h2⟩ := UA_set hjl i hi
            simp only [Bool.and_eq_true, bne_iff_ne]
            refine ⟨h1, ?_⟩
            rintro rfl
            have : base + al.idxOf j - base = al.idxOf j := by omega
            rw [this] at h2; exact h2 hg
        · cases hact
      | x =>
        simp only [actG, hc] at hact
        obtain ⟨p, hp, hact⟩ := Option.bind_eq_some_iff.1 hact
        split at hact
        · obtain rfl := Option.some.inj hact
          exact hwrite (by rw [hc]; rfl) (by rw [hc]; decide) hp
        · cases hact
      | w =>
        simp only [actG, hc] at hact
        exact hwrite (by rw [hc]; rfl) (by rw [hc]; decide) hact
theorem anyG_sound (hEx : ExtOk P E) (hwr : writeB al ops cs = true) (hb : n0 ≤ base) {z : List AV × List AO} {Q : Exit → Act → World → Prop} (hQ : ∀ a w, Full W w0 lock n0 g0 z.1 z.2 a w → Q .normal a w) :
    ∀ (n : Nat) (listed : Array Bool) (s : List AV × List AO) (a : Act) (w : World), listed.size = ops.size → FullU W w0 lock n0 g0 (UA al base listed) s.1 s.2 a w → anyG P E lock base al ws ops cs z n listed s → wpAny P .any ops Q n listed a w
  | 0, listed, s, a, w, hs, H, hz => ⟨hz.1, hQ _ _ (by obtain ⟨_, rfl⟩ := hz; exact H.full)⟩
  | n + 1, listed, s, a, w, hs, H, hz => ⟨fun he => hQ _ _ (by obtain rfl := hz.1 he; exact H.full), fun j hj => by
      obtain ⟨s', h1, h2⟩ := hz.2 j hj
      exact opG_sound hEx hwr hs hj hb H h1 fun a' w' H' => anyG_sound hEx hwr hb hQ n _ s' a' w' (by simp [hs]) H' h2⟩
end
end Go.AM
