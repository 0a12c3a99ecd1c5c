/- The abstract machine: all functions at once, and what a run ends in. Conditions: the table's own check. -/
import Derived.Test.YtjhhjmngjmflaaaAmSimp
set_option linter.unusedVariables false
set_option linter.unusedSimpArgs false
namespace Go.AM

/-- A function, and what helps to run it. -/
structure Info where
  fn : Func
  c : Code
  er : Nat → List Nat
  dr : Nat → Option Way
/-- Functions that are run, and functions whose answers are known. -/
inductive Row1 where
  | run (i : Info)
  | pure (i : Info)
  | known (F : Fn1)
abbrev Tab := List (FuncId × Row1)
def Tab.at : Tab → FuncId → Option Row1
  | [], _ => none
  | (g, r) :: l, f => if f = g then some r else Tab.at l f
/-- An answer without addresses; the heap is as it was. -/
noncomputable def dropA (h : List AO) (r : Res) : Res := match r with | some (r, _) => if (freeA r).isSome then some (r, h) else none | none => none
/-- All functions, to a depth. -/
noncomputable def ev (P : Program) (T : Tab) (K : Nat) : Nat → Ext
  | 0 => fun _ _ _ _ => none
  | d + 1 => fun f xs lk h => match T.at f with
    | some (.run i) => runA ⟨P, ev P T K d, lk, K, i.er, i.dr⟩ i.fn i.c xs h
    | some (.pure i) => dropA h (runA ⟨P, ev P T K d, h.length, K, i.er, i.dr⟩ i.fn i.c xs h)
    | some (.known F) => F xs lk h
    | none => none
def RowOk (P : Program) (f : FuncId) : Row1 → Prop
  | .run i => P.funcs[f]? = some i.fn ∧ i.fn.body = some i.c ∧ (i.fn.name == "runtime.NumGoroutine") = false ∧ drOk i.dr i.c = true
  | .pure i => P.funcs[f]? = some i.fn ∧ i.fn.body = some i.c ∧ (i.fn.name == "runtime.NumGoroutine") = false ∧ drOk i.dr i.c = true
  | .known F => CallOk P f F
def TabOk (P : Program) (T : Tab) : Prop := ∀ p ∈ T, RowOk P p.1 p.2
theorem TabOk.nil {P : Program} : TabOk P [] := fun p hp => by cases hp
theorem TabOk.cons {P : Program} {T : Tab} {p : FuncId × Row1} (h : RowOk P p.1 p.2) (hT : TabOk P T) : TabOk P (p :: T) := fun q hq => by
  rcases List.mem_cons.1 hq with rfl | hq
  · exact h
  · exact hT q hq
theorem Tab.at_mem {T : Tab} {f : FuncId} {r : Row1} (h : T.at f = some r) : (f, r) ∈ T := by
  induction T with
  | nil => cases h
  | cons p l ih =>
    obtain ⟨g, r'⟩ := p
    unfold Tab.at at h
    split at h
    · rename_i e; subst e; obtain rfl := Option.some.inj h; exact List.mem_cons_self
    · exact List.mem_cons_of_mem _ (ih h)
theorem ev_ok {P : Program} {T : Tab} {K : Nat} (hT : TabOk P T) (hany : P.follows .mixedOrders = true) : ∀ d, ExtOk P (ev P T K d)
  | 0 => fun f => callOk_none f
  | d + 1 => fun f => by
    intro g h w lock xs vals r h' H hv hr
    simp only [ev] at hr
    cases ha : T.at f with
    | none => rw [ha] at hr; cases hr
    | some row =>
      rw [ha] at hr
      have hrow := hT _ (Tab.at_mem ha)
      cases row with
      | known F => exact hrow g h w lock xs vals r h' H hv hr
      | pure i =>
        obtain ⟨h1, h2, h3, h4⟩ := hrow
        simp only [dropA] at hr
        cases hrun : runA ⟨P, ev P T K d, h.length, K, i.er, i.dr⟩ i.fn i.c xs h with
        | none => rw [hrun] at hr; cases hr
        | some p =>
          obtain ⟨r1, h1'⟩ := p
          rw [hrun] at hr
          simp only at hr
          split at hr
          · rename_i hfree
            obtain ⟨rfl, rfl⟩ := Prod.mk.inj (Option.some.inj hr)
            classical
            have := callOk_pure (F := fun xs1 h0 => if xs1 = xs ∧ h0 = h then some r1 else none) (enters_of h1 h3 (by rw [h2]; rfl)) h1 h2 hany (ev_ok hT hany d) (er := i.er) (dr := i.dr) h4
              (fun xs1 h0 r0 hF => by
                split at hF
                · rename_i hc
                  obtain ⟨rfl, rfl⟩ := hc
                  obtain rfl := Option.some.inj hF
                  exact ⟨hfree, K, _, hrun⟩
                · cases hF)
            exact this g h w lock xs vals r1 h H hv (by simp)
          · cases hr
      | run i =>
        obtain ⟨h1, h2, h3, h4⟩ := hrow
        exact ⟨enters_of h1 h3 (by rw [h2]; rfl) _ _, run_sound (V := ⟨P, ev P T K d, lock, K, i.er, i.dr⟩) (ev_ok hT hany d) hany h1 h2 h4 H hv hr⟩
theorem ev_run {P : Program} {T : Tab} {K : Nat} {f : FuncId} {i : Info} (hT : T.at f = some (.run i)) {d : Nat} (xs : List CV) (lk : Nat) (h : List AO) :
    ev P T K (d + 1) f xs lk h = runA ⟨P, ev P T K d, lk, K, i.er, i.dr⟩ i.fn i.c xs h := by simp only [ev, hT]
/-! What a run ends in -/
/-- It ends, and it is so. -/
def Ends (Φ : AV → List AO → Prop) (r : Res) : Prop := ∃ v h, r = some (v, h) ∧ Φ v h
section
variable {Φ Ψ : AV → List AO → Prop}
theorem Ends.some {v : AV} {h : List AO} (H : Φ v h) : Ends Φ (some (v, h)) := ⟨v, h, rfl, H⟩
theorem Ends.mono {r : Res} (H : ∀ v h, Φ v h → Ψ v h) : Ends Φ r → Ends Ψ r := fun ⟨v, h, e, k⟩ => ⟨v, h, e, H v h k⟩
theorem ends_cond {q : Bool} {x y : Unit → Res} (h1 : q = true → Ends Φ (x ())) (h2 : q = false → Ends Φ (y ())) : Ends Φ (condB q x y) := by
  cases q
  · exact h2 rfl
  · exact h1 rfl
theorem ev_pure {P : Program} {T : Tab} {K : Nat} {f : FuncId} {i : Info} (hT : T.at f = some (.pure i)) {d : Nat} {xs : List CV} {lk : Nat} {h : List AO} {r : AV} (hf : (freeA r).isSome = true)
    (hr : Ends (fun v _ => v = r) (runA ⟨P, ev P T K d, h.length, K, i.er, i.dr⟩ i.fn i.c xs h)) : ev P T K (d + 1) f xs lk h = some (r, h) := by
  obtain ⟨v, h', e, rfl⟩ := hr
  simp only [ev, hT, e, dropA, hf, if_true]
/-- A loop. -/
theorem ends_loop {X : Type} (x0 : X) (ds : List Nat) (I : X → Prop) (μ : X → Nat) (upd : X → List AV → List AV) (hp : X → List AO)
    {F : (List AV × List AO → Res) → List AV × List AO → Res} {k : Nat} {e0 : List AV} {h0 : List AO}
    (hk : μ x0 < k) (hI : I x0) (he : forget e0 ds = forget (upd x0 e0) ds) (hh : h0 = hp x0)
    (step : ∀ x, I x → ∀ again : List AV × List AO → Res, (∀ y, I y → μ y < μ x → ∀ e, forget e ds = forget (upd y e0) ds → Ends Φ (again (e, hp y))) →
      ∀ e, forget e ds = forget (upd x e0) ds → Ends Φ (F again (e, hp x))) : Ends Φ (iterA F k (e0, h0)) := by
  have main : ∀ (k : Nat) (x : X), μ x < k → I x → ∀ e, forget e ds = forget (upd x e0) ds → Ends Φ (iterA F k (e, hp x)) := by
    intro k
    induction k with
    | zero => intro x h; omega
    | succ k ih =>
      intro x hx hI e he
      exact step x hI _ (fun y hy hm e' he' => ih y (by omega) hy e' he') e he
  subst hh
  exact main k x0 hk hI e0 he
end
/-- A heap that has what another one has, and more. -/
def Ext1 (h h' : List AO) : Prop := ∃ j, h' = h ++ j
theorem Ext1.refl (h : List AO) : Ext1 h h := ⟨[], by simp⟩
theorem Ext1.trans {a b c : List AO} : Ext1 a b → Ext1 b c → Ext1 a c := fun ⟨j, hj⟩ ⟨k, hk⟩ => ⟨j ++ k, by rw [hk, hj, List.append_assoc]⟩
theorem Ext1.push {a b : List AO} (h : Ext1 a b) (o : AO) : Ext1 a (b ++ [o]) := h.trans ⟨[o], rfl⟩
theorem Ext1.len {a b : List AO} : Ext1 a b → a.length ≤ b.length := fun ⟨j, hj⟩ => by rw [hj]; simp
theorem Ext1.get {a b : List AO} (h : Ext1 a b) {l : Nat} (hl : l < a.length) : b[l]? = a[l]? := by
  obtain ⟨j, rfl⟩ := h
  exact List.getElem?_append_left hl
theorem Ext1.cells {a b : List AO} (h : Ext1 a b) {l : Nat} (hl : l < a.length) : cellsAt b l = cellsAt a l := by simp only [cellsAt, h.get hl]
theorem Ext1.set {a b : List AO} (h : Ext1 a b) {l : Nat} (hl : a.length ≤ l) (o : AO) : Ext1 a (b.set l o) := by
  obtain ⟨j, rfl⟩ := h
  exact ⟨j.set (l - a.length) o, by rw [List.set_append_right _ _ hl]⟩
end Go.AM
