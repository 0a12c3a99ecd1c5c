/- The abstract machine: what its code comes to, the model's code comes to. Conditions: what is known of the functions that are called. -/
import Derived.Test.YtjhhjmngjmflaaaAmEff2
import Derived.LoopN
set_option linter.unusedVariables false
set_option linter.unusedSimpArgs false
namespace Go.AM

/-- What is known of a function. -/
def CallOk (P : Program) (f : FuncId) (F : List CV → Nat → List AO → Option (AV × List AO)) : Prop :=
  ∀ (g : G) (h : List AO) (w : World) (lock : Nat) (xs : List CV) (vals : List Value) (r : AV) (h' : List AO), HRel g h w → CRelL g h.length xs vals → F xs lock h = some (r, h') →
    (callFunc f vals.toArray).run P w = .ok (.enter f vals.toArray) w ∧
    Calls P f vals.toArray w (fun e w' => ∃ v g', e = .returned v ∧ VRel g' h'.length r v ∧ HRel g' h' w' ∧ GExt h.length g g' ∧ h.length ≤ h'.length ∧
      Keeps (fun b => ∃ l, lock ≤ l ∧ isRW h l ∧ g.blk l = b) w w' ∧ ∀ l, lock ≤ l → isRW h' l → (∃ l0, lock ≤ l0 ∧ isRW h l0 ∧ g.blk l0 = g'.blk l) ∨ w.heap.size ≤ g'.blk l)
def ExtOk (P : Program) (E : Ext) : Prop := ∀ f, CallOk P f (E f)

/-- Where a run stands, slots and all. -/
def Full (W : Nat → Prop) (w0 : World) (lock n0 : Nat) (g0 : G) (e : List AV) (h : List AO) (a : Act) (w : World) : Prop :=
  ∃ g, HSt W w0 lock g h w ∧ GExt n0 g0 g ∧ n0 ≤ h.length ∧ ERel g h.length e a.tmps ∧ a.defers = []

section
variable {P : Program} {E : Ext} {W : Nat → Prop} {w0 : World} {lock n0 : Nat} {g0 : G} {ops : Array Oper}

theorem put_rel {g : G} {n : Nat} {e : List AV} {a : Act} (h : ERel g n e a.tmps) (d : Option Tmp) {x : AV} {v : Value} (hv : VRel g n x v) : ERel g n (setD e d x) (a.put d v).tmps := by
  cases d with
  | none => exact h
  | some d => exact h.put d hv
theorem put_defers {a : Act} (h : a.defers = []) (d : Option Tmp) (v : Value) : (a.put d v).defers = [] := by cases d <;> exact h
theorem wanted_rel {g : G} {n : Nat} {e : List AV} {a : Act} (h : ERel g n e a.tmps) {o : Oper} {b : Bool} (hb : wantedA ops e o = some b) : Region.wanted o (yielded ops a.tmps) = b := by
  unfold wantedA at hb
  unfold Region.wanted
  split at hb
  · rename_i hg; obtain rfl := Option.some.inj hb; rw [hg]
  · rename_i j want hg
    rw [hg]
    split at hb
    · rename_i d hd
      split at hb
      · rename_i q hq
        obtain rfl := Option.some.inj hb
        obtain ⟨v, h1, h2⟩ := h.2 d _ hq
        simp only [VRel, CRel, SRel] at h2
        subst h2
        simp only [yielded, hd, Option.bind_some, h1]
        cases q <;> cases want <;> rfl
      · rename_i hq
        obtain rfl := Option.some.inj hb
        obtain ⟨v, h1, h2⟩ := h.2 d _ hq
        simp only [VRel] at h2
        subst h2
        simp only [yielded, hd, Option.bind_some, h1, undef]
        rfl
      · cases hb
    · rename_i hd
      obtain rfl := Option.some.inj hb
      simp only [yielded, hd]
      rfl

theorem toCL_rel {g : G} {n : Nat} {a : Act} {e : List AV} (hE : ERel g n e a.tmps) : ∀ {xs : List Operand} {ys : List CV}, toCL (xs.map (aeval e)) = some ys → CRelL g n ys (xs.map a.eval)
  | [], ys, h => by obtain rfl := Option.some.inj h; simp [CRelL]
  | x :: xs, ys, h => by
    simp only [List.map_cons, toCL, Option.bind_eq_some_iff, Option.map_eq_some_iff] at h
    obtain ⟨y, hy, zs, hz, rfl⟩ := h
    refine ⟨?_, toCL_rel hE hz⟩
    have := aeval_rel hE x
    unfold toC at hy
    split at hy
    · rename_i hh
      rw [hh] at this
      obtain rfl := Option.some.inj hy
      exact this
    · cases hy
theorem CRelL.append {g : G} {n : Nat} : ∀ {xs : List CV} {vs : List Value} {ys : List CV} {us : List Value}, CRelL g n xs vs → CRelL g n ys us → CRelL g n (xs ++ ys) (vs ++ us)
  | [], [], _, _, _, k => by simpa using k
  | a :: xs, b :: vs, ys, us, h, k => ⟨h.1, CRelL.append h.2 k⟩
  | [], _ :: _, _, _, h, _ => by simp [CRelL] at h
  | _ :: _, [], _, _, h, _ => by simp [CRelL] at h
theorem SRelL.crel {g : G} {n : Nat} : ∀ {xs : List SV} {vs : List Value}, SRelL g n xs vs → CRelL g n (xs.map .sc) vs
  | [], [], _ => by simp [CRelL]
  | a :: xs, b :: vs, h => by simp only [SRelL] at h; exact ⟨h.1, SRelL.crel h.2⟩
  | [], _ :: _, h => by simp [SRelL] at h
  | _ :: _, [], h => by simp [SRelL] at h
/-- A call, found. -/
theorem callee_rel {g : G} {n : Nat} {a : Act} {e : List AV} (hE : ERel g n e a.tmps) {o : Oper} {f : FuncId} {xs : List CV} (h : calleeA o e = some (f, xs)) :
    ∃ vals : List Value, CRelL g n xs vals ∧ ∀ w, (execOp a.eval o).run P w = (callFunc f vals.toArray).run P w := by
  unfold calleeA at h
  split at h
  · rename_i fo args ts ho
    split at h
    · rename_i f' b c hf
      obtain ⟨ys, hy, h⟩ := Option.map_eq_some_iff.1 h
      obtain ⟨rfl, rfl⟩ := Prod.mk.inj h
      have hv := aeval_rel hE fo
      rw [hf] at hv
      simp only [VRel, CRel, SRel] at hv
      obtain ⟨va, vc, h1, h2, h3⟩ := hv
      refine ⟨va.toList ++ args.toList.map a.eval ++ vc.toList, (h2.crel.append (toCL_rel hE hy)).append h3.crel, fun w => ?_⟩
      simp only [execOp, ho, resolve, h1, Deferred.ofValue, invoke, Sem.run_bind, Sem.run_pure, Result.andThen_ok]
      congr 2
      apply Array.ext'
      simp
    · cases h
  · cases h

theorem step_sound (hEx : ExtOk P E) {o : Oper} {e : List AV} {h : List AO} {a : Act} {w : World} (H : Full W w0 lock n0 g0 e h a w) {r : AV} {h' : List AO} (hr : stepA P E lock o e h = some (r, h'))
    {next : Act → World → Prop} {Q : Exit → Act → World → Prop} (hn : ∀ a' w', Full W w0 lock n0 g0 (setD e o.dst r) h' a' w' → next a' w') : o.wp P a w next Q := by
  obtain ⟨g, HS, hg, hl, hE, hd⟩ := H
  unfold stepA at hr
  split at hr
  · rename_i r' hp
    obtain ⟨rfl, rfl⟩ := Prod.mk.inj (Option.some.inj hr)
    obtain ⟨v, h1, h2⟩ := pure_sound HS.rel hE hp
    unfold Oper.wp
    rw [h1 w (Keeps.refl _ _)]
    exact hn _ _ ⟨g, HS, hg, hl, put_rel hE _ h2, put_defers hd _ _⟩
  · split at hr
    · rename_i f xs hc
      obtain ⟨vals, hv, hrun⟩ := callee_rel (P := P) hE hc
      obtain ⟨h1, h2⟩ := hEx f g h w lock xs vals r h' HS.rel hv hr
      unfold Oper.wp
      rw [hrun w, h1]
      refine h2.mono ?_
      rintro ex w' ⟨v, g', rfl, k1, k2, k3, k4, k5, k6⟩
      refine hn _ _ ⟨g', ⟨k2, ?_, ?_⟩, hg.trans k3 hl, by omega, put_rel (hE.mono k4 k3) _ k1, put_defers hd _ _⟩
      · refine HS.keep.trans k5 fun i hi ⟨l, a1, a2, a3⟩ => ?_
        rcases HS.own l a1 a2 with h | h
        · rw [← a3]; exact h
        · omega
      · intro l a1 a2
        rcases k6 l a1 a2 with ⟨l0, b1, b2, b3⟩ | h
        · rw [← b3]; exact HS.own l0 b1 b2
        · right; have := HS.keep.size; omega
    · obtain ⟨nx, z, g', w', h1, h2, h3, h4, h5, h6⟩ := eff_sound HS hE hr
      unfold Oper.wp
      rw [h1]
      rcases h2 with rfl | ⟨rfl, rfl⟩
      · exact hn _ _ ⟨g', h4, hg.trans h5 hl, by omega, put_rel (hE.mono h6 h5) _ h3, put_defers hd _ _⟩
      · exact hn _ _ ⟨g', h4, hg.trans h5 hl, by omega, put_rel (hE.mono h6 h5) _ h3, put_defers hd _ _⟩

theorem ops_sound (hEx : ExtOk P E) {Q : Exit → Act → World → Prop} {K : List AV → List AO → Res} {r : AV × List AO} (hK : ∀ e h a w, Full W w0 lock n0 g0 e h a w → K e h = some r → Q .normal a w) :
    ∀ (l : List Oper) (e : List AV) (h : List AO) (a : Act) (w : World), Full W w0 lock n0 g0 e h a w → opsA P E lock ops l e h K = some r → wpList P ops Q l a w
  | [], e, h, a, w, H, hr => hK e h a w H hr
  | o :: l, e, h, a, w, H, hr => by
    simp only [opsA] at hr
    have hE := H
    obtain ⟨g, _, _, _, hE', _⟩ := hE
    split at hr
    · rename_i hw
      obtain ⟨⟨r', h'⟩, h1, h2⟩ := Option.bind_eq_some_iff.1 hr
      unfold wpList
      rw [if_pos (wanted_rel hE' hw)]
      exact .inl (step_sound hEx H h1 fun a' w' H' => ops_sound hEx hK l _ _ a' w' H' h2)
    · rename_i hw
      unfold wpList
      rw [if_neg (by rw [wanted_rel hE' hw]; simp)]
      obtain ⟨g, HS, hg, hl, hE, hd⟩ := H
      exact ops_sound hEx hK l _ _ _ w ⟨g, HS, hg, hl, put_rel hE _ (show VRel g h.length .sk undef from rfl), put_defers hd _ _⟩ hr
    · cases hr

/-! Regions whose order is open -/
theorem freeS_rel {g : G} {n : Nat} {x : SV} {v u : Value} (h : freeS x = some v) (hr : SRel g n x u) : u = v := by
  unfold freeS at h
  split at h <;> first | (obtain rfl := Option.some.inj h; simpa [SRel] using hr) | cases h
theorem freeL_rel {g : G} {n : Nat} : ∀ {xs : List SV} {vs us : List Value}, freeL xs = some vs → SRelL g n xs us → us = vs
  | [], vs, us, h, hr => by
    obtain rfl := Option.some.inj h
    cases us with
    | nil => rfl
    | cons => simp [SRelL] at hr
  | x :: xs, vs, us, h, hr => by
    simp only [freeL, Option.bind_eq_some_iff, Option.map_eq_some_iff] at h
    obtain ⟨v, h1, vs', h2, rfl⟩ := h
    cases us with
    | nil => simp [SRelL] at hr
    | cons u us => simp only [SRelL] at hr; rw [freeS_rel h1 hr.1, freeL_rel h2 hr.2]
theorem freeC_rel {g : G} {n : Nat} {x : CV} {v u : Value} (h : freeC x = some v) (hr : CRel g n x u) : u = v := by
  cases x with
  | sc x => exact freeS_rel h hr
  | ag cs =>
    obtain ⟨vs, hv, rfl⟩ := Option.map_eq_some_iff.1 h
    obtain ⟨us, rfl, hu⟩ := hr
    rw [← freeL_rel hv hu]
theorem freeCL_rel {g : G} {n : Nat} : ∀ {xs : List CV} {vs us : List Value}, freeCL xs = some vs → CRelL g n xs us → us = vs
  | [], vs, us, h, hr => by
    obtain rfl := Option.some.inj h
    cases us with
    | nil => rfl
    | cons => simp [CRelL] at hr
  | x :: xs, vs, us, h, hr => by
    simp only [freeCL, Option.bind_eq_some_iff, Option.map_eq_some_iff] at h
    obtain ⟨v, h1, vs', h2, rfl⟩ := h
    cases us with
    | nil => simp [CRelL] at hr
    | cons u us => rw [freeC_rel h1 hr.1, freeCL_rel h2 hr.2]
theorem freeA_rel {g : G} {n : Nat} {x : AV} {v u : Value} (h : freeA x = some v) (hr : VRel g n x u) : u = v := by
  cases x with
  | v x => exact freeC_rel h hr
  | tup xs =>
    obtain ⟨vs, hv, rfl⟩ := Option.map_eq_some_iff.1 h
    obtain ⟨us, rfl, hu⟩ := hr
    rw [← freeCL_rel hv hu]
  | und => cases h
  | sk => cases h
theorem freeS_mk {g : G} {n : Nat} {x : SV} {v : Value} (h : freeS x = some v) : SRel g n x v := by
  unfold freeS at h
  split at h <;> first | (obtain rfl := Option.some.inj h; simp [SRel]; done) | cases h
theorem freeL_mk {g : G} {n : Nat} : ∀ {xs : List SV} {vs : List Value}, freeL xs = some vs → SRelL g n xs vs
  | [], vs, h => by obtain rfl := Option.some.inj h; simp [SRelL]
  | x :: xs, vs, h => by
    simp only [freeL, Option.bind_eq_some_iff, Option.map_eq_some_iff] at h
    obtain ⟨v, h1, vs', h2, rfl⟩ := h
    simp only [SRelL]
    exact ⟨freeS_mk h1, freeL_mk h2⟩
theorem freeC_mk {g : G} {n : Nat} {x : CV} {v : Value} (h : freeC x = some v) : CRel g n x v := by
  cases x with
  | sc x => exact freeS_mk h
  | ag cs => obtain ⟨vs, hv, rfl⟩ := Option.map_eq_some_iff.1 h; exact ⟨_, rfl, by simpa using freeL_mk hv⟩
theorem freeCL_mk {g : G} {n : Nat} : ∀ {xs : List CV} {vs : List Value}, freeCL xs = some vs → CRelL g n xs vs
  | [], vs, h => by obtain rfl := Option.some.inj h; simp [CRelL]
  | x :: xs, vs, h => by
    simp only [freeCL, Option.bind_eq_some_iff, Option.map_eq_some_iff] at h
    obtain ⟨v, h1, vs', h2, rfl⟩ := h
    exact ⟨freeC_mk h1, freeCL_mk h2⟩
theorem freeA_mk {g : G} {n : Nat} {x : AV} {v : Value} (h : freeA x = some v) : VRel g n x v := by
  cases x with
  | v x => exact freeC_mk h
  | tup xs => obtain ⟨vs, hv, rfl⟩ := Option.map_eq_some_iff.1 h; exact ⟨_, rfl, by simpa using freeCL_mk hv⟩
  | und => cases h
  | sk => cases h

/-- The worlds of such a region: later ones. -/
abbrev Later (w w' : World) : Prop := Keeps (fun _ => False) w w'
theorem HSt.later {g : G} {h : List AO} {w w' : World} (H : HSt W w0 lock g h w) (hl : Later w w') : HSt W w0 lock g h w' :=
  ⟨H.rel.world fun l hv => hl.block _ (H.rel.lt hv) (fun h => h), H.keep.trans hl fun _ _ h => h.elim, H.own⟩

theorem quiet_sound (hEx : ExtOk P E) {o : Oper} {e : List AV} {h : List AO} {a : Act} {w : World} {g : G} (H : HRel g h w) (hE : ERel g h.length e a.tmps) {r : AV} (hr : quietA P E o e h = some r) :
    ∃ v, (∀ w', Later w w' → o.quietAt P a (Later w) w' v) ∧ VRel g h.length r v := by
  unfold quietA at hr
  split at hr
  · rename_i r' hp
    obtain rfl := Option.some.inj hr
    obtain ⟨v, h1, h2⟩ := pure_sound H hE hp
    refine ⟨v, fun w' hw' => ?_, h2⟩
    unfold Oper.quietAt
    rw [h1 w' hw']
    exact ⟨rfl, rfl⟩
  · split at hr
    · rename_i f xs hc
      split at hr
      · rename_i r' h' hF
        split at hr
        · rename_i hcond
          obtain rfl := Option.some.inj hr
          obtain ⟨u, hu⟩ := Option.isSome_iff_exists.1 hcond.2
          obtain ⟨vals, hv, hrun⟩ := callee_rel (P := P) hE hc
          refine ⟨u, fun w' hw' => ?_, freeA_mk hu⟩
          have H' : HRel g h w' := H.world fun l hv => hw'.block _ (H.lt hv) (fun h => h)
          obtain ⟨h1, h2⟩ := hEx f g h w' h.length xs vals r' h' H' hv hF
          unfold Oper.quietAt
          rw [hrun w', h1]
          refine ⟨rfl, h2.mono ?_⟩
          rintro ex w'' ⟨v, g', rfl, k1, k2, k3, k4, k5, k6⟩
          refine ⟨by rw [freeA_rel hu k1], ?_⟩
          refine Keeps.trans hw' k5 fun i hi ⟨l, a1, a2, a3⟩ => ?_
          exact absurd (isLive_lt a2.live) (by omega)
        · cases hr
      · cases hr
    · cases hr

theorem opsQ_sound (hEx : ExtOk P E) {w : World} {g : G} {h : List AO} (H : HRel g h w) {Q : Act → Prop} {K : List AV → Res} {r : AV × List AO} (hK : ∀ e a, ERel g h.length e a.tmps → a.defers = [] → K e = some r → Q a) :
    ∀ (l : List Oper) (e : List AV) (a : Act), ERel g h.length e a.tmps → a.defers = [] → opsQ P E ops l e h K = some r → wpQuiet P ops (Later w) Q l a
  | [], e, a, hE, hd, hr => hK e a hE hd hr
  | o :: l, e, a, hE, hd, hr => by
    simp only [opsQ] at hr
    unfold wpQuiet
    split at hr
    · rename_i hw
      obtain ⟨r', h1, h2⟩ := Option.bind_eq_some_iff.1 hr
      rw [if_pos (wanted_rel hE hw)]
      obtain ⟨v, k1, k2⟩ := quiet_sound hEx H hE h1
      exact ⟨v, k1, opsQ_sound hEx H hK l _ _ (put_rel hE _ k2) (put_defers hd _ _) h2⟩
    · rename_i hw
      rw [if_neg (by rw [wanted_rel hE hw]; simp)]
      exact opsQ_sound hEx H hK l _ _ (put_rel hE _ (show VRel g h.length .sk undef from rfl)) (put_defers hd _ _) hr
    · cases hr
/-- The head of a region whose tail is in order: it reads alone. -/
theorem opsS_sound {w : World} {g : G} {h : List AO} (H : HRel g h w) {Q : Act → Prop} {K : List AV → Res} {r : AV × List AO} (hK : ∀ e a, ERel g h.length e a.tmps → a.defers = [] → K e = some r → Q a) :
    ∀ (l : List Oper) (e : List AV) (a : Act), ERel g h.length e a.tmps → a.defers = [] → opsQ P (fun _ _ _ _ => none) ops l e h K = some r → wpStill P ops w Q l a
  | [], e, a, hE, hd, hr => hK e a hE hd hr
  | o :: l, e, a, hE, hd, hr => by
    simp only [opsQ] at hr
    unfold wpStill
    split at hr
    · rename_i hw
      obtain ⟨r', h1, h2⟩ := Option.bind_eq_some_iff.1 hr
      rw [if_pos (wanted_rel hE hw)]
      unfold quietA at h1
      split at h1
      · rename_i r'' hp
        obtain rfl := Option.some.inj h1
        obtain ⟨v, k1, k2⟩ := pure_sound H hE hp
        unfold Oper.still
        rw [k1 w (Keeps.refl _ _), Oper.stillUpon_value]
        exact opsS_sound H hK l _ _ (put_rel hE _ k2) (put_defers hd _ _) h2
      · split at h1
        · cases h1
        · cases h1
    · rename_i hw
      rw [if_neg (by rw [wanted_rel hE hw]; simp)]
      exact opsS_sound H hK l _ _ (put_rel hE _ (show VRel g h.length .sk undef from rfl)) (put_defers hd _ _) hr
    · cases hr

theorem forget_rel {g : G} {n : Nat} : ∀ (ds : List Nat) {e : List AV} {t : Array Value}, ERel g n e t → ERel g n (forget e ds) t
  | [], e, t, h => h
  | d :: ds, e, t, h => forget_rel ds ⟨by simp [h.1], fun i x hx => by
      by_cases hd : d = i
      · subst hd
        rw [List.getElem?_set] at hx
        simp only [if_true] at hx
        split at hx
        · rename_i hlt
          obtain rfl := Option.some.inj hx
          have : d < t.size := by rw [← h.1]; exact hlt
          exact ⟨t[d], by simp [this], trivial⟩
        · cases hx
      · rw [List.getElem?_set_ne hd] at hx
        exact h.2 i x hx⟩
end
end Go.AM
