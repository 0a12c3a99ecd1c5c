/- Monitors' model: whether maps are equal: contracts, told of abstract heaps. Conditions: none. -/
import Derived.Test.YtjhhjmngjmflaaaMoG
import Derived.Test.YtjhhjmngjmflaaaMoF
import Derived.Test.YtjhhjmngjmflaaaSame
set_option linter.unusedVariables false
set_option linter.unusedSimpArgs false
set_option maxRecDepth 100000
namespace Go.AM
open Go.Proofs Go.RowKit Go.Maps Go.WideElems Go.Sort Go.Shelf
def entD {α : Type} (P : Program) (t : TypeId) (val : α → Value) (R : Value → Option (DataW Unit × List MemPlace)) (x : Pk × α) : Lit × DataW Unit := (((keyOf P t (pkV x.1)).bind fun key => (R (val x.2)).map fun y => (key, y.1)) : Option (Lit × DataW Unit)).getD (.bool false, .nil)
theorem size_entD {P : Program} {t : TypeId} {α : Type} {val : α → Value} {R : Value → Option (DataW Unit × List MemPlace)} (M : List (Pk × α)) : Maps.size (DataW.map ((M.map (entD P t val R)).foldr DataW.insert [])) = M.length := by
  simp [Maps.size, length_sorted]
section
variable {P : Program} {t : TypeId} (T : PairT P t) {α : Type} {val : α → Value} {R : Value → Option (DataW Unit × List MemPlace)}
include T
theorem key_str {v : Value} {l : Lit} (h : keyOf P t v = some l) : ∃ s, l = .string s := by
  obtain ⟨f0, f1, hu, _⟩ := T.s
  obtain ⟨_, _, _, _, e⟩ := keyOf_top (by rw [hu]) h
  exact ⟨_, e⟩
theorem find_entD (hR : ∀ a, ∃ y, R (val a) = some y) {k : Pk} {kl : Lit} (hk : keyOf P t (pkV k) = some kl) : ∀ (M : List (Pk × α)), (∀ x ∈ M, (Lit.int .i64 x.1.1).wf = true ∧ (Lit.int .i64 x.1.2).wf = true) → NdP M →
    ((M.map (entD P t val R)).foldr DataW.insert []).find? (fun p => p.1.sameKey kl) = (getP k M).map fun v => (kl, ((R (val v)).getD (.nil, [])).1)
  | [], _, _ => rfl
  | (k0, v0) :: M, hw, hd => by
    obtain ⟨kl0, hk0⟩ := T.mk' (hw (k0, v0) (List.mem_cons_self ..)).1 (hw (k0, v0) (List.mem_cons_self ..)).2
    obtain ⟨y0, hy0⟩ := hR v0
    obtain ⟨s, rfl⟩ := key_str T hk
    obtain ⟨s0, rfl⟩ := key_str T hk0
    have ih := find_entD hR hk M (fun x hx => hw x (List.mem_cons_of_mem _ hx)) hd.2
    have he : entD P t val R (k0, v0) = (.string s0, y0.1) := by
      unfold entD
      rw [show keyOf P t (pkV (k0, v0).1) = some (.string s0) from hk0, show R (val (k0, v0).2) = some y0 from hy0]; rfl
    rw [List.map_cons, List.foldr_cons, he]
    unfold getP
    by_cases e : k = k0
    · subst e
      rw [hk] at hk0
      obtain rfl := Lit.string.inj (Option.some.inj hk0)
      rw [if_pos rfl, find_insert_hit (by simp [Lit.sameKey])]
      · simp only [Option.map_some, hy0, Option.getD_some]
      · have hn : getP k M = none := getP_none k fun p hp q => hd.1 p hp q
        rw [hn] at ih
        intro p hp
        have := List.find?_eq_none.1 ih p hp
        simpa using this
    · have hne : s0 ≠ s := fun q => by
        subst q
        exact e (pkV_inj (T.law.inj hk hk0))
      rw [if_neg e, find_insert_miss (by simp [Lit.sameKey, hne])]
      exact ih
theorem agr_iff (hR : ∀ a, ∃ y, R (val a) = some y) (hi : ∀ a b x p q, R (val a) = some (x, p) → R (val b) = some (x, q) → a = b) {M1 M2 : List (Pk × α)} (w1 : ∀ x ∈ M1, (Lit.int .i64 x.1.1).wf = true ∧ (Lit.int .i64 x.1.2).wf = true) (w2 : ∀ x ∈ M2, (Lit.int .i64 x.1.1).wf = true ∧ (Lit.int .i64 x.1.2).wf = true) (d1 : NdP M1) (d2 : NdP M2) :
    Agr P t (DataW.map ((M1.map (entD P t val R)).foldr DataW.insert [])) (DataW.map ((M2.map (entD P t val R)).foldr DataW.insert [])) ↔ SameP M1 M2 := by
  have hat : ∀ (M : List (Pk × α)), (∀ x ∈ M, (Lit.int .i64 x.1.1).wf = true ∧ (Lit.int .i64 x.1.2).wf = true) → NdP M → ∀ k kl, keyOf P t (pkV k) = some kl →
      (has (DataW.map ((M.map (entD P t val R)).foldr DataW.insert [])) kl = (getP k M).isSome) ∧ ∀ z, (DataW.map ((M.map (entD P t val R)).foldr DataW.insert [])).atKey kl z = match getP k M with | some v => ((R (val v)).getD (.nil, [])).1 | none => z := fun M hw hd k kl hk => by
    have hf := find_entD T hR hk M hw hd
    constructor
    · have hany : ∀ (es : List (Lit × DataW Unit)) (f : Lit × DataW Unit → Bool), es.any f = (es.find? f).isSome := fun es f => by rw [Bool.eq_iff_iff, List.any_eq_true, List.find?_isSome]
      rw [has_eq, hany, hf]; cases getP k M <;> rfl
    · intro z
      simp only [DataW.atKey, hf]
      cases getP k M <;> rfl
  constructor
  · rintro ⟨hs, hall⟩
    rw [size_entD, size_entD] at hs
    refine ⟨hs, fun k v hg => ?_⟩
    have hm := getP_mem hg
    obtain ⟨kl, hk⟩ := T.mk' (w1 _ hm).1 (w1 _ hm).2
    obtain ⟨a1, a2⟩ := hat M1 w1 d1 k kl hk
    obtain ⟨b1, b2⟩ := hat M2 w2 d2 k kl hk
    obtain ⟨c1, y, c2, c3⟩ := hall k kl hk (by rw [a1, hg]; rfl)
    rw [b1] at c1
    obtain ⟨v', hv'⟩ := Option.isSome_iff_exists.1 c1
    have e1 := (a2 .nil).symm.trans (c2 .nil)
    have e2 := (b2 .nil).symm.trans (c3 .nil)
    rw [hg] at e1
    rw [hv'] at e2
    obtain ⟨y1, hy1⟩ := hR v
    obtain ⟨y2, hy2⟩ := hR v'
    simp only [hy1, hy2, Option.getD_some] at e1 e2
    obtain ⟨q1, q2⟩ := y1
    obtain ⟨r1, r2⟩ := y2
    simp only at e1 e2
    subst e1
    subst e2
    rw [hv', hi v' v _ _ _ hy2 hy1]
  · rintro ⟨hs, hall⟩
    refine ⟨by rw [size_entD, size_entD]; exact hs, fun k kl hk hh => ?_⟩
    obtain ⟨a1, a2⟩ := hat M1 w1 d1 k kl hk
    obtain ⟨b1, b2⟩ := hat M2 w2 d2 k kl hk
    rw [a1] at hh
    obtain ⟨v, hv⟩ := Option.isSome_iff_exists.1 hh
    have hv2 := hall k v hv
    refine ⟨by rw [b1, hv2]; rfl, ((R (val v)).getD (.nil, [])).1, fun z => ?_, fun z => ?_⟩
    · rw [a2, hv]
    · rw [b2, hv2]
end
open Classical in
/-- Two maps are held against each other. -/
noncomputable def eqG {α : Type} (enc : α → CV) (xs : List CV) (lk : Nat) (h : List AO) : Option (AV × List AO) := match xs with
  | [.sc (.mp l1), .sc (.mp l2)] => if ∃ M1 M2 : List (Pk × α), h[l1]? = some (.map (entsP enc M1)) ∧ h[l2]? = some (.map (entsP enc M2)) ∧ (∀ x ∈ M1, (Lit.int .i64 x.1.1).wf = true ∧ (Lit.int .i64 x.1.2).wf = true) ∧ (∀ x ∈ M2, (Lit.int .i64 x.1.1).wf = true ∧ (Lit.int .i64 x.1.2).wf = true) ∧ M1.length ≤ 1000 ∧ M2.length ≤ 1000 ∧ NdP M1 ∧ NdP M2 then
      some (.v (.sc (.bool (decide (∃ M1 M2 : List (Pk × α), h[l1]? = some (.map (entsP enc M1)) ∧ h[l2]? = some (.map (entsP enc M2)) ∧ SameP M1 M2)))), h) else none
  | _ => none
theorem entsP_inj {α : Type} {enc : α → CV} (hi : ∀ a b, enc a = enc b → a = b) : ∀ {M1 M2 : List (Pk × α)}, entsP enc M1 = entsP enc M2 → M1 = M2
  | [], [], _ => rfl
  | [], _ :: _, h => by simp [entsP] at h
  | _ :: _, [], h => by simp [entsP] at h
  | (k1, v1) :: M1, (k2, v2) :: M2, h => by
    have h' : ((CV.ag (pk k1), enc v1) :: entsP enc M1) = ((CV.ag (pk k2), enc v2) :: entsP enc M2) := h
    obtain ⟨e1, e2⟩ := List.cons.inj h'
    obtain ⟨e3, e4⟩ := Prod.mk.inj e1
    have e5 : k1 = k2 := by
      obtain ⟨a, b⟩ := k1
      obtain ⟨c, d⟩ := k2
      simp [pk] at e3
      rw [e3.1, e3.2]
    rw [e5, hi _ _ e4, entsP_inj hi e2]
open Classical in
theorem eqg_of {f : FuncId} {α : Type} {enc : α → CV} {val : α → Value} (hval : ∀ (g : G) (n : Nat) (a : α) (v : Value), CRel g n (enc a) v → v = val a) {R : Value → Option (DataW Unit × List MemPlace)} (hR : ∀ a, ∃ y, R (val a) = some y)
    (hi : ∀ a b x p q, R (val a) = some (x, p) → R (val b) = some (x, q) → a = b) (he : ∀ a b, enc a = enc b → a = b)
    (hc : ∀ (b1 b2 : Nat) (D1 D2 : DataW Unit) (w : World), w.ownsMap Try.prog 138 R b1 1000 D1 → w.ownsMap Try.prog 138 R b2 1000 D2 → Calls Try.prog f #[.map (some b1), .map (some b2)] w fun e w' => GeqP Try.prog 138 D1 D2 w e w')
    (hen : ∀ args w, (callFunc f args).run Try.prog w = .ok (.enter f args) w) : CallOk Try.prog f (eqG enc) := by
  intro g h w lock xs vals r h' H hv hr
  refine ⟨hen _ _, ?_⟩
  match xs, hr with
  | [.sc (.mp l1), .sc (.mp l2)], hr =>
    simp only [eqG] at hr
    split at hr
    · rename_i hex
      obtain ⟨M1, M2, m1, m2, m3, m4, m5, m6, m7, m8⟩ := hex
      obtain ⟨hr1, rfl⟩ := Prod.mk.inj (Option.some.inj hr)
      obtain rfl : vals = [.map (some (g.blk l1)), .map (some (g.blk l2))] := by
        match vals, hv with
        | [a, b], hv =>
          obtain ⟨h1, h2, _⟩ := hv
          simp only [CRel, SRel] at h1 h2
          rw [h1.2, h2.2]
      have O1 := own2_of hval hR H m3 m5 l1 m1
      have O2 := own2_of hval hR H m4 m6 l2 m2
      refine (hc _ _ _ _ w O1 O2).mono ?_
      rintro e w' ⟨b, rfl, hg, hb⟩
      have hbq : b = decide (∃ M1 M2 : List (Pk × α), h[l1]? = some (.map (entsP enc M1)) ∧ h[l2]? = some (.map (entsP enc M2)) ∧ SameP M1 M2) := by
        have hag := agr_iff (val := val) (R := R) Try.pairT hR hi m3 m4 m7 m8
        have hb' : b = true ↔ SameP M1 M2 := hb.trans hag
        have hs : SameP M1 M2 ↔ ∃ M1 M2 : List (Pk × α), h[l1]? = some (.map (entsP enc M1)) ∧ h[l2]? = some (.map (entsP enc M2)) ∧ SameP M1 M2 := ⟨fun q => ⟨M1, M2, m1, m2, q⟩, fun ⟨N1, N2, n1, n2, q⟩ => by
          have e1 := entsP_inj he (AO.map.inj (Option.some.inj (m1.symm.trans n1)))
          have e2 := entsP_inj he (AO.map.inj (Option.some.inj (m2.symm.trans n2)))
          rw [e1, e2]; exact q⟩
        rw [Bool.eq_iff_iff, decide_eq_true_iff]
        exact hb'.trans hs
      subst hbq
      have hK : ∀ k, k < w.heap.size → w'.heap[k]? = w.heap[k]? := fun k hk => hg.block k hk (by simp)
      subst hr1
      exact ⟨_, g, rfl, rfl, H.world fun j hj => hK _ (H.lt hj), GExt.refl _ _, Nat.le_refl _, ⟨hg.os, hg.tape, hg.output, hg.size, fun k hk _ => hK k hk⟩, fun j hj1 hj2 => .inl ⟨j, hj1, hj2, rfl⟩⟩
    · cases hr
theorem geq94_ok (_ : True) (hen : ∀ args w, (callFunc 94 args).run Try.prog w = .ok (.enter 94 args) w) : CallOk Try.prog 94 (eqG intV) :=
  eqg_of (val := fun n => Value.int .i64 n) (fun g n a v h => by
    first
      | (have h1 : v = .int .i64 a := h; exact h1)
      | (obtain ⟨vs, e, hvs⟩ := h
         obtain ⟨vl⟩ := vs
         have hvl : vl = [.int .i64 a.cnt, .int .i64 a.why] := by
           match vl, hvs with
           | [x, y], hvs => obtain ⟨rfl, rfl, _⟩ := hvs; rfl
         subst hvl
         exact e)) (fun a => ⟨_, rfl⟩) (R := iR)
    (fun a b x p q h1 h2 => by
      have := iR_inj h1 h2
      simpa using this)
    (fun a b h => by simpa [intV] using h)
    (fun b1 b2 D1 D2 w h1 h2 => Try.geq94 b1 b2 1000 D1 D2 w h1 h2) hen
theorem geq95_ok (_ : True) (hen : ∀ args w, (callFunc 95 args).run Try.prog w = .ok (.enter 95 args) w) : CallOk Try.prog 95 (eqG LfV.cv) :=
  eqg_of (val := fun x => Value.agg #[.int .i64 x.cnt, .int .i64 x.why]) (fun g n a v h => by
    first
      | (have h1 : v = .int .i64 a := h; exact h1)
      | (obtain ⟨vs, e, hvs⟩ := h
         obtain ⟨vl⟩ := vs
         have hvl : vl = [.int .i64 a.cnt, .int .i64 a.why] := by
           match vl, hvs with
           | [x, y], hvs => obtain ⟨rfl, rfl, _⟩ := hvs; rfl
         subst hvl
         exact e)) (fun a => ⟨_, rfl⟩) (R := lR)
    (fun a b x p q h1 h2 => by
      have := lR_inj h1 h2
      obtain ⟨a1, a2⟩ := a
      obtain ⟨b1, b2⟩ := b
      simp at this
      rw [this.1, this.2])
    (fun a b h => by
      obtain ⟨a1, a2⟩ := a
      obtain ⟨b1, b2⟩ := b
      simp [LfV.cv] at h
      rw [h.1, h.2])
    (fun b1 b2 D1 D2 w h1 h2 => Try.geq95 b1 b2 1000 D1 D2 w h1 h2) hen
end Go.AM
