/- The abstract machine: what its code comes to, the model's code comes to. Conditions: what is known of the functions that are called. -/
import Derived.Test.YtjhhjmngjmflaaaAmCode2
import Derived.Scope
set_option linter.unusedVariables false
set_option linter.unusedSimpArgs false
namespace Go.AM
theorem HSt.ghost {W : Nat → Prop} {w0 : World} {lock : Nat} {g g' : G} {h : List AO} {w : World} (H : HSt W w0 lock g h w) (hg : GExt h.length g g') : HSt W w0 lock g' h w := by
  have hb : ∀ l, isLive h l → g'.blk l = g.blk l := fun l hl => (hg l (isLive_lt hl)).1
  refine ⟨⟨fun l o ho => ORel.mono (Nat.le_refl _) hg (List.getElem?_eq_some_iff.1 ho).1 (H.rel.obj l o ho), fun i j hij hi hj => ?_⟩, H.keep, fun l hl hr => ?_⟩
  · rw [hb i hi.live, hb j hj]; exact H.rel.excl i j hij hi hj
  · rw [hb l hr.live]; exact H.own l hl hr
theorem HSt.pad {W : Nat → Prop} {w0 : World} {lock : Nat} {g : G} {h : List AO} {w : World} (H : HSt W w0 lock g h w) (n : Nat) : HSt W w0 lock g (h ++ List.replicate n .dead) w := by
  have hold : ∀ l o, (h ++ List.replicate n .dead)[l]? = some o → o = AO.dead ∨ h[l]? = some o := fun l o ho => by
    rw [List.getElem?_append] at ho
    split at ho
    · exact .inr ho
    · rw [List.getElem?_replicate] at ho
      split at ho
      · exact .inl (Option.some.inj ho).symm
      · cases ho
  have hrw : ∀ l, isRW (h ++ List.replicate n .dead) l → isRW h l := fun l ⟨o, ho, hr⟩ => by
    rcases hold l o ho with rfl | ho
    · cases hr
    · exact ⟨o, ho, hr⟩
  have hlv : ∀ l, isLive (h ++ List.replicate n .dead) l → isLive h l := fun l ⟨o, ho, hr⟩ => by
    rcases hold l o ho with rfl | ho
    · cases hr
    · exact ⟨o, ho, hr⟩
  refine ⟨⟨fun l o ho => ?_, fun i j hij hi hj => H.rel.excl i j hij (hrw i hi) (hlv j hj)⟩, H.keep, fun l hl hr => H.own l hl (hrw l hr)⟩
  rcases hold l o ho with rfl | ho
  · trivial
  · exact ORel.mono (by simp) (fun _ _ => ⟨rfl, rfl, rfl⟩) (List.getElem?_eq_some_iff.1 ho).1 (H.rel.obj l o ho)
section
variable {P : Program} {E : Ext} {W : Nat → Prop} {w0 : World} {lock n0 : Nat} {g0 : G} {ops : Array Oper}
/-! Code -/
/-- What holds where code ends. -/
def Post (W : Nat → Prop) (w0 : World) (lock n0 : Nat) (g0 : G) (r : AV × List AO) (kn : List AV → List AO → Res) (kx : Nat → List AV → List AO → Res) (kr : List AV → List AO → Res) : Exit → Act → World → Prop
  | .normal, a, w => ∃ e h, Full W w0 lock n0 g0 e h a w ∧ kn e h = some r
  | .exit i, a, w => ∃ e h, Full W w0 lock n0 g0 e h a w ∧ kx i e h = some r
  | .ret, a, w => ∃ e h, Full W w0 lock n0 g0 e h a w ∧ kr e h = some r
  | _, _, _ => False

theorem code_sound {V : Env} (hEx : ExtOk V.P V.E) (hany : V.P.follows .mixedOrders = true) (hlk : V.lock = lock) : ∀ (c : Code), drOk V.dr c = true → ∀ (e : List AV) (h : List AO) (kn : List AV → List AO → Res) (kx : Nat → List AV → List AO → Res) (kr : List AV → List AO → Res) (r : AV × List AO) (a : Act) (w : World),
    Full W w0 lock n0 g0 e h a w → codeA V c e h kn kx kr = some r → c.wp V.P (Post W w0 lock n0 g0 r kn kx kr) a w
  | .skip, _, e, h, kn, kx, kr, r, a, w, H, hr => wp_skip ⟨e, h, H, hr⟩
  | .label _, _, e, h, kn, kx, kr, r, a, w, H, hr => wp_label ⟨e, h, H, hr⟩
  | .region id ops false, _, e, h, kn, kx, kr, r, a, w, H, hr => by
    obtain ⟨g, HS, hg, hl, hE, hd⟩ := H
    simp only [codeA, hlk] at hr
    exact wp_region_list (ops_sound (W := W) (w0 := w0) (n0 := n0) (g0 := g0) (lock := lock) hEx (Q := Post W w0 lock n0 g0 r kn kx kr) (fun e' h' a' w' H' hk => ⟨e', h', H', hk⟩) _ _ _ _ _ ⟨g, HS, hg, hl, forget_rel _ hE, hd⟩ hr)
  | .region id ops true, hdr, e, h, kn, kx, kr, r, a, w, H, hr => by
    obtain ⟨g, HS, hg, hl, hE, hd⟩ := H
    simp only [codeA] at hr
    simp only [drOk] at hdr
    have hrel : HRel g h w.drew := HS.rel.drew
    split at hr
    · rename_i hdi
      rw [hdi] at hdr
      refine wp_region_quiet (C := Later w.drew) hany hdr (Keeps.refl _ _) ?_
      refine opsQ_sound hEx hrel (fun e' a' hE' hd' hk w' hw' => ?_) _ _ _ (forget_rel _ hE) hd hr
      exact ⟨e', h, ⟨g, HS.drew.later hw', hg, hl, hE', hd'⟩, hk⟩
    · rename_i n hdi
      rw [hdi] at hdr
      have := wp_region_still_tail (P := V.P) (id := id) (Q := Post W w0 lock n0 g0 r kn kx kr) (a := a) (w := w) (l := ops.toList) n hany (by simpa using hdr) (by
        refine opsS_sound hrel (fun e' a' hE' hd' hk => ?_) _ _ _ (forget_rel _ hE) hd (by simpa using hr)
        rw [hlk] at hk
        exact ops_sound (W := W) (w0 := w0) (n0 := n0) (g0 := g0) (lock := lock) hEx (Q := Post W w0 lock n0 g0 r kn kx kr) (fun e' h' a' w' H' hk => ⟨e', h', H', hk⟩) _ _ _ _ _ ⟨g, HS.drew, hg, hl, hE', hd'⟩ (by simpa using hk))
      simpa using this
    · rename_i al ws cl hdi
      rw [hdi] at hdr
      simp only [Bool.and_eq_true] at hdr
      obtain ⟨⟨d1, d2⟩, d3⟩ := hdr
      obtain ⟨z, z1, z2⟩ := opsG_run (al := al) (all := cl) ops.toList 0 cl _ _ (fun i => by simp) (fun i => by simp) d3 hr
      rw [hlk] at z1
      refine wp_region_any hany ?_
      have hstart : FullU W w0 lock n0 g0 (UA al h.length (Array.replicate ops.size false)) (forget e (V.er id)) (resv al.length h) a w.drew := by
        refine ⟨g, fun u => ?_, by rw [resv_eq]; simp; omega, hd⟩
        have hgx : GExt h.length g (gU g (UA al h.length (Array.replicate ops.size false)) u) := fun l hl => by
          have : UA al h.length (Array.replicate ops.size false) l = false := by unfold UA; rw [decide_eq_false (by omega)]; rfl
          simp [gU, this]
        rw [resv_eq]
        refine ⟨((HS.drew).ghost hgx).pad _, hg.trans hgx hl, ERel.mono (by simp) hgx (forget_rel _ hE)⟩
      have hrun : runL V.P V.E lock h.length al (blocksOf (forget e (V.er id)) ws) ops (cl.map GOp.cls) (left ops.size (Array.replicate ops.size false)) (forget e (V.er id), resv al.length h) = some z := by
        have : left ops.size (Array.replicate ops.size false) = List.range' 0 ops.toList.length := by
          unfold left
          rw [List.filter_eq_self.2, List.range_eq_range', Array.length_toList]
          intro i hi
          have := List.mem_range.1 hi
          simp [this]
        rw [this]; exact z1
      have hcl0 : ClosedL ops (Array.replicate ops.size false) := fun k o' ho' hk => by
        have hkl := (Array.getElem?_eq_some_iff.1 ho').1
        simp [Array.getD_eq_getD_getElem?, hkl] at hk
      have hany' := any_of_run (P := V.P) (E := V.E) (lk := lock) (base := h.length) (al := al) (ws := blocksOf (forget e (V.er id)) ws) d1 ops.size (Array.replicate ops.size false) _ (by simp) hcl0 (by
        unfold left
        rw [List.filter_eq_self.2, List.length_range]
        intro i hi
        have := List.mem_range.1 hi
        simp [this]) hrun
      exact anyG_sound (W := W) (w0 := w0) (n0 := n0) (g0 := g0) hEx d2 hl (fun a w H => ⟨z.1, z.2, H, z2⟩) _ _ _ _ _ (by simp) hcl0 hstart hany'
    · cases hr
  | .seq x y, hdr, e, h, kn, kx, kr, r, a, w, H, hr => by
    simp only [codeA] at hr
    simp only [drOk, Bool.and_eq_true] at hdr
    refine wp_seq (Code.wp_mono ?_ (code_sound hEx hany hlk x hdr.1 e h _ kx kr r a w H hr))
    intro ex a' w' hp
    cases ex with
    | normal => obtain ⟨e', h', H', hk⟩ := hp; exact code_sound hEx hany hlk y hdr.2 e' h' kn kx kr r a' w' H' hk
    | exit i => exact hp
    | ret => exact hp
    | goto l => exact hp.elim
    | panic c => exact hp.elim
    | outgrown => exact hp.elim
  | .cond c x y, hdr, e, h, kn, kx, kr, r, a, w, H, hr => by
    simp only [codeA] at hr
    simp only [drOk, Bool.and_eq_true] at hdr
    split at hr
    · rename_i q hq
      have hE := H
      obtain ⟨g, _, _, _, hE, _⟩ := hE
      have hv := aeval_rel hE c
      rw [hq] at hv
      simp only [VRel, CRel, SRel] at hv
      refine wp_cond hv ?_
      cases q
      · exact code_sound hEx hany hlk y hdr.2 e h kn kx kr r a w H hr
      · exact code_sound hEx hany hlk x hdr.1 e h kn kx kr r a w H hr
    · cases hr
  | .block id b, hdr, e, h, kn, kx, kr, r, a, w, H, hr => by
    simp only [codeA] at hr
    simp only [drOk, Bool.and_eq_true] at hdr
    refine wp_block (Code.wp_mono ?_ (code_sound hEx hany hlk b hdr e h _ _ kr r a w H hr))
    intro ex a' w' hp
    cases ex with
    | normal => exact hp
    | exit i =>
      obtain ⟨e', h', H', hk⟩ := hp
      simp only [Exit.inBlock]
      dsimp only at hk
      split at hk
      · rename_i hi; rw [if_pos hi]; exact ⟨e', h', H', hk⟩
      · rename_i hi; rw [if_neg hi]; exact ⟨e', h', H', hk⟩
    | ret => exact hp
    | goto l => exact hp.elim
    | panic c => exact hp.elim
    | outgrown => exact hp.elim
  | .loop b, hdr, e, h, kn, kx, kr, r, a, w, H, hr => by
    simp only [codeA] at hr
    simp only [drOk, Bool.and_eq_true] at hdr
    refine wp_loop_rounds V.fuel ?_
    have key : ∀ (k : Nat) (e : List AV) (h : List AO) (a : Act) (w : World), Full W w0 lock n0 g0 e h a w →
        iterA (fun again (s : List AV × List AO) => codeA V b s.1 s.2 (fun e h => again (e, h)) kx kr) k (e, h) = some r → Code.rounds V.P b (Post W w0 lock n0 g0 r kn kx kr) k a w := by
      intro k
      induction k with
      | zero => intro e h a w _ hr; simp [iterA] at hr
      | succ k ih =>
        intro e h a w H hr
        rw [rounds_succ]
        refine Code.wp_mono ?_ (code_sound hEx hany hlk b hdr e h _ kx kr r a w H hr)
        intro ex a' w' hp
        cases ex with
        | normal => obtain ⟨e', h', H', hk⟩ := hp; exact ih e' h' a' w' H' hk
        | exit i => exact hp
        | ret => exact hp
        | goto l => exact hp.elim
        | panic c => exact hp.elim
        | outgrown => exact hp.elim
    exact key _ e h a w H hr
  | .exit id, _, e, h, kn, kx, kr, r, a, w, H, hr => wp_exit ⟨e, h, H, hr⟩
  | .ret, _, e, h, kn, kx, kr, r, a, w, H, hr => wp_ret ⟨e, h, H, hr⟩
  | .rangeFunc _ _ _ _, _, e, h, kn, kx, kr, r, a, w, H, hr => by simp [codeA] at hr
  | .scope b, hdr, e, h, kn, kx, kr, r, a, w, H, hr => by
    simp only [codeA] at hr
    simp only [drOk] at hdr
    refine wp_scope_straight (Code.wp_mono ?_ (code_sound hEx hany hlk b hdr e h kn kx kr r a w H hr))
    intro ex a' w' hp
    cases ex with
    | normal => exact hp
    | exit i => exact hp
    | ret => exact hp
    | goto l => exact hp.elim
    | panic c => exact hp.elim
    | outgrown => exact hp.elim
  | .goto _, _, e, h, kn, kx, kr, r, a, w, H, hr => by simp [codeA] at hr
  | .refuse _, _, e, h, kn, kx, kr, r, a, w, H, hr => by simp [codeA] at hr
end
end Go.AM
