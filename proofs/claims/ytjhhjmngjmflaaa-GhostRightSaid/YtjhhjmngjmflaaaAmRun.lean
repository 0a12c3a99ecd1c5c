/- The abstract machine: a function's contract out of its run here. Conditions: what is known of the functions that it calls. -/
import Derived.Test.YtjhhjmngjmflaaaAmSound2
set_option linter.unusedVariables false
set_option linter.unusedSimpArgs false
namespace Go.AM
section
variable {P : Program}

def resSem (t : Array Value) : ResultVar → Sem Value
  | .tmp t' => pure (t.getD t' undef)
  | .cell a ty => do loadVar ty (← asAddr (t.getD a undef))
theorem result_sound {g : G} {h : List AO} {w : World} {e : List AV} {t : Array Value} (H : HRel g h w) (hE : ERel g h.length e t) {rv : ResultVar} {x : CV} (hr : resultA P e h rv = some x) :
    ∃ v, (resSem t rv).run P w = .ok v w ∧ CRel g h.length x v := by
  have ev : ∀ i, VRel g h.length (e.getD i .und) (t.getD i undef) := fun i => by
    rw [List.getD_eq_getElem?_getD]
    cases hx : e[i]? with
    | none => trivial
    | some y => exact hE.get hx
  have toc : ∀ {y : AV} {v : Value} {x : CV}, toC y = some x → VRel g h.length y v → CRel g h.length x v := fun {y v x} hy hv => by
    unfold toC at hy
    split at hy
    · obtain rfl := Option.some.inj hy; exact hv
    · cases hy
  cases rv with
  | tmp t' => exact ⟨_, rfl, toc hr (ev t')⟩
  | cell a ty =>
    simp only [resultA, Option.bind_eq_some_iff] at hr
    obtain ⟨y, h1, h2⟩ := hr
    have hv := ev a
    have hl := h1
    unfold loadA at hl
    split at hl
    · rename_i l o hh
      rw [hh] at hv h1
      obtain ⟨u, k1, k2⟩ := load_sound (P := P) H hv h1
      simp only [VRel, CRel, SRel] at hv
      have k1 := k1 w (Keeps.refl _ _)
      refine ⟨u, ?_, toc h2 k2⟩
      simp only [hv.2, Instr.loadAt, Instr.sureAddr, Sem.run_bind, Sem.run_pure, Result.andThen_ok] at k1
      simp only [resSem, hv.2, asAddr, Sem.run_bind, Sem.run_pure, Result.andThen_ok]
      exact k1
    · cases hl
theorem results_sound {g : G} {h : List AO} {w : World} {e : List AV} {t : Array Value} (H : HRel g h w) (hE : ERel g h.length e t) : ∀ {rs : List ResultVar} {xs : List CV}, resultsA P e h rs = some xs →
    ∃ vs, (rs.mapM (resSem t)).run P w = .ok vs w ∧ CRelL g h.length xs vs
  | [], xs, hr => by obtain rfl := Option.some.inj hr; exact ⟨[], by simp, by simp [CRelL]⟩
  | rv :: rs, xs, hr => by
    simp only [resultsA, Option.bind_eq_some_iff, Option.map_eq_some_iff] at hr
    obtain ⟨x, hx, ys, hy, rfl⟩ := hr
    obtain ⟨v, h1, h2⟩ := result_sound H hE hx
    obtain ⟨vs, h3, h4⟩ := results_sound H hE hy
    refine ⟨v :: vs, ?_, h2, h4⟩
    rw [List.mapM_cons]
    simp only [Sem.run_bind]
    rw [h1]
    simp only [Result.andThen_ok, h3, Sem.run_pure]
theorem ret_sound {g : G} {h : List AO} {w : World} {e : List AV} {t : Array Value} (H : HRel g h w) (hE : ERel g h.length e t) {fn : Func} {r : AV} {h' : List AO} (hr : retA P fn.results.toList e h = some (r, h')) :
    ∃ v, (results fn t).run P w = .ok v w ∧ VRel g h.length r v ∧ h' = h := by
  unfold retA at hr
  obtain ⟨xs, hx, hr⟩ := Option.bind_eq_some_iff.1 hr
  obtain ⟨vs, h1, h2⟩ := results_sound (P := P) H hE hx
  have hrun : (results fn t).run P w = .ok (if h : vs.toArray.size = 1 then vs.toArray[0] else .tuple vs.toArray) w := by
    have e1 : results fn t = (do let vs ← fn.results.mapM (resSem t); pure (if h : vs.size = 1 then vs[0] else .tuple vs)) := by
      have : (fun rv : ResultVar => resSem t rv) = (fun | .tmp t' => pure (t.getD t' undef) | .cell a ty => (do loadVar ty (← asAddr (t.getD a undef)) : Sem Value)) := by
        funext rv
        cases rv <;> rfl
      show _ = (do let vs ← fn.results.mapM (fun rv => resSem t rv); pure (if h : vs.size = 1 then vs[0] else .tuple vs))
      rw [this]
      rfl
    rw [e1, ← Array.toArray_toList (xs := fn.results), List.mapM_toArray]
    simp only [Sem.run_bind, Sem.run_map, h1, Result.andThen_ok, Sem.run_pure]
  match xs, vs, h2, hr, hrun with
  | [x], [v], h2, hr, hrun =>
    obtain ⟨rfl, rfl⟩ := Prod.mk.inj (Option.some.inj hr)
    exact ⟨v, by rw [hrun]; simp, h2.1, rfl⟩
  | [], [], h2, hr, hrun =>
    obtain ⟨rfl, rfl⟩ := Prod.mk.inj (Option.some.inj hr)
    exact ⟨.tuple #[], by rw [hrun]; simp, ⟨#[], rfl, by simp [CRelL]⟩, rfl⟩
  | x :: y :: xs, v :: u :: vs, h2, hr, hrun =>
    obtain ⟨rfl, rfl⟩ := Prod.mk.inj (Option.some.inj hr)
    refine ⟨.tuple (v :: u :: vs).toArray, by rw [hrun]; simp, ⟨_, rfl, h2⟩, rfl⟩
  | [x], [], h2, _, _ => simp [CRelL] at h2
  | [x], v :: u :: vs, h2, _, _ => simp [CRelL] at h2
  | [], v :: vs, h2, _, _ => simp [CRelL] at h2
  | x :: y :: xs, [], h2, _, _ => simp [CRelL] at h2
  | x :: y :: xs, [v], h2, _, _ => simp [CRelL] at h2

/-- A function that can be entered. -/
def Enters (P : Program) (f : FuncId) : Prop := ∀ (vals : Array Value) (w : World), (callFunc f vals).run P w = .ok (.enter f vals) w
theorem enters_of {f : FuncId} {fn : Func} (hf : P.funcs[f]? = some fn) (hn : (fn.name == "runtime.NumGoroutine") = false) (hb : fn.body.isNone = false) : Enters P f := fun vals w => by
  simp only [callFunc, Sem.run_bind, run_program, Result.andThen_ok, hf]
  rw [if_neg (by rw [hn]; simp), if_neg (by rw [hb]; simp)]
  rfl
theorem crel_args {g : G} {n : Nat} : ∀ {xs : List CV} {vs : List Value}, CRelL g n xs vs → xs.length = vs.length ∧ ∀ (i : Nat) x, (xs.map AV.v)[i]? = some x → ∃ v, vs[i]? = some v ∧ VRel g n x v
  | [], [], _ => ⟨rfl, fun i x h => by simp at h⟩
  | a :: xs, b :: vs, h => ⟨by simp [(crel_args h.2).1], fun i x hx => by
    cases i with
    | zero => obtain rfl : AV.v a = x := by simpa using hx
              exact ⟨b, rfl, h.1⟩
    | succ i => exact (crel_args h.2).2 i x (by simpa using hx)⟩
  | [], _ :: _, h => by simp [CRelL] at h
  | _ :: _, [], h => by simp [CRelL] at h

/-- A run here is a run there. -/
theorem run_sound {V : Env} (hEx : ExtOk V.P V.E) (hany : V.P.follows .mixedOrders = true) {f : FuncId} {fn : Func} {c : Code} (hf : V.P.funcs[f]? = some fn) (hb : fn.body = some c) (hdr : drOk V.dr c = true)
    {g : G} {h : List AO} {w : World} {xs : List CV} {vals : List Value} {r : AV} {h' : List AO} (H : HRel g h w) (hv : CRelL g h.length xs vals) (hr : runA V fn c xs h = some (r, h')) :
    Calls V.P f vals.toArray w (fun e w' => ∃ v g', e = .returned v ∧ VRel g' h'.length r v ∧ HRel g' h' w' ∧ GExt h.length g g' ∧ h.length ≤ h'.length ∧
      Keeps (fun b => ∃ l, V.lock ≤ l ∧ isRW h l ∧ g.blk l = b) w w' ∧ ∀ l, V.lock ≤ l → isRW h' l → (∃ l0, V.lock ≤ l0 ∧ isRW h l0 ∧ g.blk l0 = g'.blk l) ∨ w.heap.size ≤ g'.blk l) := by
  obtain ⟨hlen, hargs⟩ := crel_args hv
  have HF : Full (fun b => ∃ l, V.lock ≤ l ∧ isRW h l ∧ g.blk l = b) w V.lock h.length g (xs.map .v ++ List.replicate (fn.ntmps - xs.length) .und) h
      { tmps := vals.toArray ++ Array.replicate (fn.ntmps - vals.toArray.size) undef, defers := [] } w := by
    refine ⟨g, ⟨H, Keeps.refl _ _, fun l a b => .inl ⟨l, a, b, rfl⟩⟩, GExt.refl _ _, Nat.le_refl _, ⟨by simp [hlen], fun i x hx => ?_⟩, rfl⟩
    rcases Nat.lt_or_ge i xs.length with h1 | h1
    · rw [List.getElem?_append_left (by simpa using h1)] at hx
      obtain ⟨v, k1, k2⟩ := hargs i x hx
      exact ⟨v, by rw [Array.getElem?_append_left (by simp; omega)]; simpa using k1, k2⟩
    · rw [List.getElem?_append_right (by simpa using h1), List.getElem?_replicate] at hx
      split at hx
      · rename_i hlt
        obtain rfl := Option.some.inj hx
        refine ⟨undef, ?_, trivial⟩
        rw [Array.getElem?_append_right (by simp; omega), Array.getElem?_replicate]
        simp only [List.length_map] at hlt
        rw [if_pos (by simp; omega)]
      · cases hx
  refine calls_of_wp hf hb ?_
  refine Code.wp_mono ?_ (code_sound hEx hany rfl c hdr _ h _ _ _ (r, h') _ w HF hr)
  have fin : ∀ (e : List AV) (h1 : List AO) (a : Act) (w' : World), Full (fun b => ∃ l, V.lock ≤ l ∧ isRW h l ∧ g.blk l = b) w V.lock h.length g e h1 a w' → retA V.P fn.results.toList e h1 = some (r, h') →
      a.defers = [] ∧ ∃ v, (results fn a.tmps).run V.P w' = .ok v w' ∧ ∃ v' g', Ending.returned v = .returned v' ∧ VRel g' h'.length r v' ∧ HRel g' h' w' ∧ GExt h.length g g' ∧ h.length ≤ h'.length ∧
      Keeps (fun b => ∃ l, V.lock ≤ l ∧ isRW h l ∧ g.blk l = b) w w' ∧ ∀ l, V.lock ≤ l → isRW h' l → (∃ l0, V.lock ≤ l0 ∧ isRW h l0 ∧ g.blk l0 = g'.blk l) ∨ w.heap.size ≤ g'.blk l := by
    rintro e h1 a w' ⟨g1, HS, k1, k2, k3, k4⟩ hk
    obtain ⟨v, r1, r2, rfl⟩ := ret_sound HS.rel k3 hk
    exact ⟨k4, v, r1, v, g1, rfl, r2, HS.rel, k1, k2, HS.keep, HS.own⟩
  intro ex a w' hp
  cases ex with
  | normal => obtain ⟨e, h1, H1, hk⟩ := hp; exact fin e h1 a w' H1 hk
  | ret => obtain ⟨e, h1, H1, hk⟩ := hp; exact fin e h1 a w' H1 hk
  | exit i => obtain ⟨e, h1, H1, hk⟩ := hp; cases hk
  | goto l => exact hp.elim
  | panic c => exact hp.elim
  | outgrown => exact hp.elim

/-- Nothing is known. -/
theorem callOk_none (f : FuncId) : CallOk P f (fun _ _ _ => none) := fun _ _ _ _ _ _ _ _ _ _ h => by cases h
/-- A function that leaves the heap alone, and answers a value without addresses. -/
theorem callOk_pure {f : FuncId} {fn : Func} {c : Code} {F : List CV → List AO → Option AV} (hen : Enters P f) (hf : P.funcs[f]? = some fn) (hb : fn.body = some c)
    (hany : P.follows .mixedOrders = true) {E : Ext} (hE : ExtOk P E) {er : Nat → List Nat} {dr : Nat → Option Way} (hdr : drOk dr c = true)
    (hF : ∀ xs h r, F xs h = some r → (freeA r).isSome ∧ ∃ k h', runA ⟨P, E, h.length, k, er, dr⟩ fn c xs h = some (r, h')) :
    CallOk P f (fun xs _ h => (F xs h).map fun r => (r, h)) := by
  intro g h w lock xs vals r h' H hv hr
  obtain ⟨r', hr', he⟩ := Option.map_eq_some_iff.1 hr
  obtain ⟨rfl, rfl⟩ := Prod.mk.inj he
  obtain ⟨hfree, k, h1, hrun⟩ := hF xs h r' hr'
  obtain ⟨u, hu⟩ := Option.isSome_iff_exists.1 hfree
  refine ⟨hen _ _, (run_sound (V := ⟨P, E, h.length, k, er, dr⟩) hE hany hf hb hdr H hv hrun).mono ?_⟩
  rintro e w' ⟨v, g', rfl, k1, k2, k3, k4, k5, k6⟩
  have hno : ∀ b, ¬ ∃ l, h.length ≤ l ∧ isRW h l ∧ g.blk l = b := fun b ⟨l, a1, a2, _⟩ => absurd (isLive_lt a2.live) (by omega)
  have hlater : Later w w' := ⟨k5.os, k5.tape, k5.output, k5.size, fun k hk _ => k5.block k hk (hno k)⟩
  refine ⟨v, g, rfl, ?_, H.world fun l hl => hlater.block _ (H.lt hl) (fun h => h), GExt.refl _ _, Nat.le_refl _, ⟨k5.os, k5.tape, k5.output, k5.size, fun k hk _ => k5.block k hk (hno k)⟩, fun l a b => .inl ⟨l, a, b, rfl⟩⟩
  rw [freeA_rel hu k1]
  exact freeA_mk hu
end
end Go.AM
