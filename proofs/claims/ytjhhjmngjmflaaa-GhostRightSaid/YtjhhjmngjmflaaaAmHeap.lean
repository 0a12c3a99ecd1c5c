/- The abstract machine: new blocks, stores, growing slices: how heaps stay related. Conditions: none. -/
import Derived.Test.YtjhhjmngjmflaaaAmPure4
set_option linter.unusedVariables false
set_option linter.unusedSimpArgs false
namespace Go.AM
section
variable {P : Program} {g : G} {h : List AO} {w : World}

theorem HRel.lt (H : HRel g h w) {l : Nat} (hl : isLive h l) : g.blk l < w.heap.size := by
  obtain ⟨o, ho, hlive⟩ := hl
  have := H.obj l o ho
  cases o with
  | ro cs =>
    cases cs with
    | nil => simp [AO.live] at hlive
    | cons x cs =>
      obtain ⟨v, h1, _⟩ := this 0 x (by simp)
      exact World.block_lt_of_cell? _ _ h1
  | rw e cs =>
    obtain ⟨C, h1, _⟩ := this
    exact (Array.getElem?_eq_some_iff.1 h1).1
  | map es =>
    obtain ⟨ms, t, h1, _⟩ := this
    exact (Array.getElem?_eq_some_iff.1 h1).1
  | gl b cs =>
    cases cs with
    | nil => simp [AO.live] at hlive
    | cons x cs =>
      obtain ⟨v, h1, _⟩ := this.2.2 0 x (by simp)
      exact World.block_lt_of_cell? _ _ h1
  | dead => simp [AO.live] at hlive
theorem isRW.live {l : Nat} (hl : isRW h l) : isLive h l := by
  obtain ⟨o, ho, hr⟩ := hl
  refine ⟨o, ho, ?_⟩
  cases o <;> simp_all [AO.isRW, AO.live]

/-- What is told of a block hangs on that block alone. -/
theorem ORel.same {n : Nat} {w' : World} {l : Nat} {o : AO} (hw : o.live = true → w'.heap[g.blk l]? = w.heap[g.blk l]?) (h : ORel g n w l o) : ORel g n w' l o := by
  cases o with
  | ro cs =>
    intro i x hx
    obtain ⟨v, h1, h2⟩ := h i x hx
    refine ⟨v, ?_, h2⟩
    have hl : (AO.ro cs).live = true := by cases cs <;> simp_all [AO.live]
    simp only [World.cell?] at h1 ⊢
    rw [hw hl]; exact h1
  | rw e cs => obtain ⟨C, h1, h2⟩ := h; exact ⟨C, by rw [hw rfl]; exact h1, h2⟩
  | map es => obtain ⟨ms, t, h1, h2⟩ := h; exact ⟨ms, t, by rw [hw rfl]; exact h1, h2⟩
  | gl b cs =>
    obtain ⟨h1, h2, h3⟩ := h
    refine ⟨h1, h2, fun i x hx => ?_⟩
    obtain ⟨v, h4, h5⟩ := h3 i x hx
    refine ⟨v, ?_, h5⟩
    have hl : (AO.gl b cs).live = true := by cases cs <;> simp_all [AO.live]
    simp only [World.cell?] at h4 ⊢
    rw [hw hl]; exact h4
  | dead => trivial
theorem ORel.mono {n n' : Nat} {g' : G} {l : Nat} {o : AO} (hn : n ≤ n') (hg : GExt n g g') (hl : l < n) (h : ORel g n w l o) : ORel g' n' w l o := by
  obtain ⟨a, b, c⟩ := hg l hl
  cases o with
  | ro cs => intro i x hx; obtain ⟨v, h1, h2⟩ := h i x hx; exact ⟨v, by rw [a, b]; exact h1, SRel.mono hn hg x v h2⟩
  | rw e cs =>
    obtain ⟨C, h1, h2, h3, h4⟩ := h
    exact ⟨C, by rw [a]; exact h1, by rw [b, c]; exact h2, by rw [c]; exact h3, fun i x hx => by obtain ⟨v, h5, h6⟩ := h4 i x hx; exact ⟨v, by rw [b]; exact h5, SRel.mono hn hg x v h6⟩⟩
  | map es => obtain ⟨ms, t, h1, h2⟩ := h; exact ⟨ms, t, by rw [a]; exact h1, MRel.mono hn hg _ _ h2.1, h2.2⟩
  | gl c cs => exact ⟨by rw [a]; exact h.1, by rw [b]; exact h.2.1, fun i x hx => by obtain ⟨v, h1, h2⟩ := h.2.2 i x hx; exact ⟨v, by rw [a, b]; exact h1, SRel.mono hn hg x v h2⟩⟩
  | dead => trivial

/-- The world goes on; no live block turns. -/
theorem HRel.world (H : HRel g h w) {w' : World} (hw : ∀ l, isLive h l → w'.heap[g.blk l]? = w.heap[g.blk l]?) : HRel g h w' :=
  ⟨fun l o ho => ORel.same (fun hl => hw l ⟨o, ho, hl⟩) (H.obj l o ho), H.excl⟩
theorem HRel.drew (H : HRel g h w) : HRel g h w.drew := H.world fun _ _ => rfl

def G.upd (g : G) (l b o s : Nat) : G := ⟨fun i => if i = l then b else g.blk i, fun i => if i = l then o else g.off i, fun i => if i = l then s else g.siz i⟩
theorem G.upd_ext (g : G) (l b o s : Nat) : GExt l g (g.upd l b o s) := fun i hi => by simp [G.upd, Nat.ne_of_lt hi]
theorem isRW_append {l : Nat} {o : AO} (hl : isRW (h ++ [o]) l) : isRW h l ∨ (l = h.length ∧ o.isRW = true) := by
  obtain ⟨q, hq, hr⟩ := hl
  rcases Nat.lt_or_ge l h.length with h1 | h1
  · rw [List.getElem?_append_left h1] at hq; exact .inl ⟨q, hq, hr⟩
  · rw [List.getElem?_append_right h1] at hq
    have : l - h.length = 0 := by
      rcases Nat.eq_zero_or_pos (l - h.length) with h2 | h2
      · exact h2
      · rw [List.getElem?_eq_none (by simp; omega)] at hq; cases hq
    rw [this] at hq
    obtain rfl : o = q := by simpa using hq
    exact .inr ⟨by omega, hr⟩
theorem isLive_append {l : Nat} {o : AO} (hl : isLive (h ++ [o]) l) : isLive h l ∨ (l = h.length ∧ o.live = true) := by
  obtain ⟨q, hq, hr⟩ := hl
  rcases Nat.lt_or_ge l h.length with h1 | h1
  · rw [List.getElem?_append_left h1] at hq; exact .inl ⟨q, hq, hr⟩
  · rw [List.getElem?_append_right h1] at hq
    have : l - h.length = 0 := by
      rcases Nat.eq_zero_or_pos (l - h.length) with h2 | h2
      · exact h2
      · rw [List.getElem?_eq_none (by simp; omega)] at hq; cases hq
    rw [this] at hq
    obtain rfl : o = q := by simpa using hq
    exact .inr ⟨by omega, hr⟩
theorem isLive_lt {l : Nat} (hl : isLive h l) : l < h.length := by
  obtain ⟨o, ho, _⟩ := hl
  exact (List.getElem?_eq_some_iff.1 ho).1

/-- A new block told at a new place: wherever nobody else is. -/
theorem HRel.push (H : HRel g h w) (o : AO) (b off s : Nat) (hfree : ∀ l, isLive h l → g.blk l ≠ b) (ho : ORel (g.upd h.length b off s) (h.length + 1) w h.length o) :
    HRel (g.upd h.length b off s) (h ++ [o]) w := by
  have hext := g.upd_ext h.length b off s
  constructor
  · intro l q hq
    rcases Nat.lt_or_ge l h.length with h1 | h1
    · rw [List.getElem?_append_left h1] at hq
      rw [List.length_append, List.length_singleton]
      exact ORel.mono (by omega) hext h1 (H.obj l q hq)
    · rw [List.getElem?_append_right h1] at hq
      have h0 : l - h.length = 0 := by
        rcases Nat.eq_zero_or_pos (l - h.length) with h2 | h2
        · exact h2
        · rw [List.getElem?_eq_none (by simp; omega)] at hq; cases hq
      rw [h0] at hq
      obtain rfl : o = q := by simpa using hq
      have : l = h.length := by omega
      subst this
      rw [List.length_append, List.length_singleton]; exact ho
  · intro l l' hne hl hl'
    have e1 : ∀ i, isLive h i → (g.upd h.length b off s).blk i = g.blk i := fun i hi => (hext i (isLive_lt hi)).1
    have e2 : (g.upd h.length b off s).blk h.length = b := by simp [G.upd]
    rcases isRW_append hl with hl | ⟨rfl, _⟩ <;> rcases isLive_append hl' with hl' | ⟨rfl, _⟩
    · rw [e1 _ hl.live, e1 _ hl']; exact H.excl l l' hne hl hl'
    · rw [e1 _ hl.live, e2]; exact hfree l hl.live
    · rw [e2, e1 _ hl']; exact fun e => hfree l' hl' e.symm
    · exact absurd rfl hne

/-- A block is written. -/
theorem HRel.change (H : HRel g h w) {l : Nat} {o o' : AO} {w' : World} (hl : h[l]? = some o) (hrw : o.isRW = true) (same : ∀ k, k ≠ g.blk l → w'.heap[k]? = w.heap[k]?) (new : ORel g h.length w' l o') :
    HRel g (h.set l o') w' := by
  have hlt : l < h.length := (List.getElem?_eq_some_iff.1 hl).1
  have hold : ∀ i q, i ≠ l → (h.set l o')[i]? = some q → h[i]? = some q := fun i q hi hq => by rwa [List.getElem?_set_ne (Ne.symm hi)] at hq
  have hlive : ∀ i, isLive (h.set l o') i → isLive h i := fun i ⟨q, hq, hv⟩ => by
    by_cases hi : i = l
    · subst hi; exact isRW.live ⟨o, hl, hrw⟩
    · exact ⟨q, hold i q hi hq, hv⟩
  have hRW : ∀ i, isRW (h.set l o') i → isRW h i := fun i ⟨q, hq, hv⟩ => by
    by_cases hi : i = l
    · subst hi; exact ⟨o, hl, hrw⟩
    · exact ⟨q, hold i q hi hq, hv⟩
  constructor
  · intro i q hq
    rw [List.length_set]
    by_cases hi : i = l
    · subst hi
      rw [List.getElem?_set_self hlt] at hq
      obtain rfl := Option.some.inj hq
      exact new
    · have hq' := hold i q hi hq
      exact ORel.same (fun hv => same _ (fun e => H.excl l i (Ne.symm hi) ⟨o, hl, hrw⟩ ⟨q, hq', hv⟩ e.symm)) (H.obj i q hq')
  · intro i j hne hi hj
    exact H.excl i j hne (hRW i hi) (hlive j hj)
/-- A block is forgotten. -/
theorem HRel.kill (H : HRel g h w) (l : Nat) : HRel g (h.set l .dead) w := by
  have hold : ∀ i q, (h.set l .dead)[i]? = some q → q = AO.dead ∨ h[i]? = some q := fun i q hq => by
    rw [List.getElem?_set] at hq
    split at hq
    · split at hq
      · exact .inl (Option.some.inj hq).symm
      · cases hq
    · exact .inr hq
  constructor
  · intro i q hq
    rw [List.length_set]
    rcases hold i q hq with rfl | hq
    · trivial
    · exact H.obj i q hq
  · intro i j hne ⟨q, hq, hv⟩ ⟨q', hq', hv'⟩
    rcases hold i q hq with rfl | hq
    · simp [AO.isRW] at hv
    · rcases hold j q' hq' with rfl | hq'
      · simp [AO.live] at hv'
      · exact H.excl i j hne ⟨q, hq, hv⟩ ⟨q', hq', hv'⟩

/-- Cells stored, one behind the other. -/
theorem run_storeCells' (b o : Nat) (e : TypeId) : ∀ (vs : List Value) (i : Nat) (w : World) (C : Array Value), w.heap[b]? = some (.cells C e (0, 0)) → o + i + vs.length ≤ C.size → (∀ v ∈ vs, v.oneCell' = true) →
    ∃ w' C', (storeCells ⟨b, o, none⟩ vs i).run P w = .ok () w' ∧ w'.heap[b]? = some (.cells C' e (0, 0)) ∧ C'.size = C.size ∧
      (∀ j : Nat, C'[j]? = if o + i ≤ j ∧ j < o + i + vs.length then vs[j - (o + i)]? else C[j]?) ∧
      (∀ k, k ≠ b → w'.heap[k]? = w.heap[k]?) ∧ w'.heap.size = w.heap.size ∧ w'.os = w.os ∧ w'.tape = w.tape ∧ w'.output = w.output
  | [], i, w, C, hb, _, _ => ⟨w, C, by simp [storeCells], hb, rfl, fun j => by rw [if_neg (by simp)], fun _ _ => rfl, rfl, rfl, rfl, rfl⟩
  | v :: vs, i, w, C, hb, hle, h1 => by
    simp only [List.length_cons] at hle
    have hc : w.cell? ⟨b, o + i, none⟩ = some (C[o + i]'(by omega)) := by simp [World.cell?, hb]
    have hf : w.frozen? ⟨b, o + i, none⟩ = false := by simp [World.frozen?, hb]
    have hb' : (w.setCell ⟨b, o + i, none⟩ v).heap[b]? = some (.cells (C.setIfInBounds (o + i) v) e (0, 0)) := by
      simp [World.setCell, Array.getElem?_modify, hb]
    obtain ⟨w', C', r1, r2, r3, r4, r5, r6, r7, r8, r9⟩ := run_storeCells' b o e vs (i + 1) _ _ hb' (by simp; omega) (fun u hu => h1 u (List.mem_cons_of_mem _ hu))
    refine ⟨w', C', ?_, r2, by rw [r3]; simp, fun j => ?_, fun k hk => ?_, by rw [r6]; simp [World.setCell], r7, r8, r9⟩
    · simp only [storeCells, Sem.run_bind, addr_add, run_store P w ⟨b, o + i, none⟩ v .plain (h1 v List.mem_cons_self), hc, hf]
      simp only [Bool.false_eq_true, if_false, Result.andThen_ok]
      exact r1
    · rw [r4 j]
      by_cases hj : j = o + i
      · subst hj
        rw [if_neg (by omega), if_pos (by simp), Array.getElem?_setIfInBounds]
        simp; omega
      · by_cases hr : o + (i + 1) ≤ j ∧ j < o + (i + 1) + vs.length
        · rw [if_pos hr, if_pos (by simp; omega), show j - (o + i) = (j - (o + (i + 1))) + 1 by omega, List.getElem?_cons_succ]
        · rw [if_neg hr, if_neg (by simp; omega), Array.getElem?_setIfInBounds, if_neg (by omega)]
    · rw [r5 k hk]
      exact Go.RowKit.Below.heap_setCell _ _ _ _ hk
end
end Go.AM
