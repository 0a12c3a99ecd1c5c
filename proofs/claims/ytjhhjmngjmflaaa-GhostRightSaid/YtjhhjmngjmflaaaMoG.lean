/- Monitors' model: whether maps are equal. Conditions: none. -/
import Derived.Test.YtjhhjmngjmflaaaMoE
set_option linter.unusedVariables false
set_option linter.unusedSimpArgs false
namespace Go.Proofs
open Go.RowKit Go.Maps Go.Sort Go.Shelf
/-- Two maps have the same at a key. -/
def AgrAt {H : Type} (D1 D2 : DataW H) (kl : Lit) : Prop := has D2 kl = true ∧ ∃ y, (∀ z, D1.atKey kl z = y) ∧ ∀ z, D2.atKey kl z = y
/-- Two maps are equal. -/
def Agr {H : Type} (P : Program) (t : TypeId) (D1 D2 : DataW H) : Prop := Maps.size D1 = Maps.size D2 ∧ ∀ (x : Int × Int) kl, keyOf P t (pkV x) = some kl → has D1 kl = true → AgrAt D1 D2 kl
/-- They are, as far as one has come. -/
def AgrL {H : Type} (P : Program) (t : TypeId) (D1 D2 : DataW H) (left : Lit → Bool) : Prop := ∀ (x : Int × Int) kl, keyOf P t (pkV x) = some kl → has D1 kl = true → left kl = true ∨ AgrAt D1 D2 kl
theorem AgrL.start {H : Type} {P : Program} {t : TypeId} (D1 D2 : DataW H) : AgrL P t D1 D2 (has D1) := fun x kl _ h => .inl h
theorem AgrL.done {H : Type} {P : Program} {t : TypeId} {D1 D2 : DataW H} {left : Lit → Bool} (h : AgrL P t D1 D2 left) (hl : ∀ kl, left kl = false) : ∀ (x : Int × Int) kl, keyOf P t (pkV x) = some kl → has D1 kl = true → AgrAt D1 D2 kl := fun x kl hk hh => by
  rcases h x kl hk hh with q | q
  · rw [hl] at q; cases q
  · exact q
theorem AgrL.step {H : Type} {P : Program} {t : TypeId} (T : PairT P t) {D1 D2 : DataW H} {left : Lit → Bool} (h : AgrL P t D1 D2 left) {x : Int × Int} {kl : Lit} (hk : keyOf P t (pkV x) = some kl) (hA : AgrAt D1 D2 kl) : AgrL P t D1 D2 (fun z => left z && !z.sameKey kl) := fun z k' hk' hh => by
  have hstr : ∀ {v : Value} {l : Lit}, keyOf P t v = some l → ∃ s, l = .string s := fun hv => by
    obtain ⟨f0, f1, hu, _⟩ := T.s
    obtain ⟨_, _, _, _, e⟩ := keyOf_top (by rw [hu]) hv
    exact ⟨_, e⟩
  obtain ⟨s0, rfl⟩ := hstr hk
  obtain ⟨s1, rfl⟩ := hstr hk'
  rcases h z _ hk' hh with q | q
  · by_cases e : s1 = s0
    · subst e; exact .inr hA
    · refine .inl ?_
      simp only [q, Bool.true_and]
      simp [Lit.sameKey, e]
  · exact .inr q
theorem atKey_has {H : Type} {D : DataW H} {k : Lit} (h : has D k = true) (z z' : DataW H) : D.atKey k z = D.atKey k z' := by
  cases D <;> try (cases h; done)
  rename_i es
  obtain ⟨p, hp, hpk⟩ := List.any_eq_true.1 h
  have hs : (es.find? (fun p => p.1.sameKey k)).isSome = true := List.find?_isSome.2 ⟨p, hp, hpk⟩
  obtain ⟨x, hx⟩ := Option.isSome_iff_exists.1 hs
  simp only [DataW.atKey, hx]
/-- What maps.Equal answers. -/
def GeqP {H : Type} (P : Program) (t : TypeId) (D1 D2 : DataW H) (w : World) (e : Ending) (w' : World) : Prop := ∃ b, e = .returned (.bool b) ∧ w.grownBy w' none ∧ (b = true ↔ Agr P t D1 D2)
theorem GeqP.no {H : Type} {P : Program} {t : TypeId} {D1 D2 : DataW H} {w w' : World} (h1 : w.grownBy w' none) (h2 : ¬ Agr P t D1 D2) : GeqP P t D1 D2 w (.returned (.bool false)) w' := ⟨false, rfl, h1, fun q => (by cases q), fun q => absurd q h2⟩
theorem GeqP.yes {H : Type} {P : Program} {t : TypeId} {D1 D2 : DataW H} {w w' : World} (h1 : w.grownBy w' none) (h2 : Agr P t D1 D2) : GeqP P t D1 D2 w (.returned (.bool true)) w' := ⟨true, rfl, h1, fun _ => h2, fun _ => rfl⟩
open Go.AM in
theorem Try.neq141s (a b c d : Int) : (∀ w : World, (Op.equal 141 (.agg #[.int .i64 a, .int .i64 b]) (.agg #[.int .i64 c, .int .i64 d])).run Try.prog w = .ok (decide (a = c ∧ b = d)) w) ∧ (∀ (w : World) op x y, (eqGuard op 141 x y (.agg #[.int .i64 a, .int .i64 b]) (.agg #[.int .i64 c, .int .i64 d])).run Try.prog w = .ok () w) ∧ (binOp .eql 141 (.agg #[.int .i64 a, .int .i64 b]) (.agg #[.int .i64 c, .int .i64 d]) = (do pure (.bool (← Op.equal 141 (.agg #[.int .i64 a, .int .i64 b]) (.agg #[.int .i64 c, .int .i64 d]))))) ∧ (binOp .neq 141 (.agg #[.int .i64 a, .int .i64 b]) (.agg #[.int .i64 c, .int .i64 d]) = (do pure (.bool (!(← Op.equal 141 (.agg #[.int .i64 a, .int .i64 b]) (.agg #[.int .i64 c, .int .i64 d])))))) :=
  eqA_sound (P := Try.prog) (t := 141) (g := noG) (n := 0) (x := .v (.ag [.int .i64 a, .int .i64 b])) (y := .v (.ag [.int .i64 c, .int .i64 d])) (q := decide (a = c ∧ b = d)) ⟨_, rfl, ⟨rfl, rfl, trivial⟩⟩ ⟨_, rfl, ⟨rfl, rfl, trivial⟩⟩ (by
    rw [eq141 rfl]
    by_cases h1 : a = c
    · by_cases h2 : b = d
      · simp [eqL, eqS, h1, h2]
      · simp [eqL, eqS, h1, h2]
    · simp [eqL, eqS, h1])
theorem Try.nne141 {a b c d : Int} (h : ¬ (a = c ∧ b = d)) : ∀ W : World, (binOp .neq 141 (.agg #[.int .i64 a, .int .i64 b]) (.agg #[.int .i64 c, .int .i64 d])).run Try.prog W = .ok (.bool true) W := fun W => by
  rw [(Try.neq141s a b c d).2.2.2]
  simp [(Try.neq141s a b c d).1, h]
theorem Try.nguard141 (a b c d : Int) : ∀ (W : World) (x y : Operand), (eqGuard .neq 141 x y (.agg #[.int .i64 a, .int .i64 b]) (.agg #[.int .i64 c, .int .i64 d])).run Try.prog W = .ok () W := fun W x y => (Try.neq141s a b c d).2.1 W _ x y
set_option maxRecDepth 100000 in
set_option maxHeartbeats 8000000 in
/-- Whether two maps are equal. -/
theorem Try.geq94 {H : Type} (b1 b2 nn : Nat) (D1 D2 : DataW H) (w : World) (h1 : w.ownsMap Try.prog 138 iR b1 nn D1) (h2 : w.ownsMap Try.prog 138 iR b2 nn D2) :
    Calls Try.prog 94 #[.map (some b1), .map (some b2)] w fun e w' => GeqP Try.prog 138 D1 D2 w e w' := by
  have T := Try.pairT
  have l1 := fun ty => h1.len (t := 129) Try.underlying129 ty
  have l2 := fun ty => h2.len (t := 129) Try.underlying129 ty
  have hb2 := h2.lt
  by_cases hsz : Maps.size D1 = Maps.size D2
  rotate_left
  · have hsz' : ((Maps.size D1 : Int) != (Maps.size D2 : Int)) = true := bne_iff_ne.2 (fun q => hsz (by omega))
    go_enter Try.func94, Try.ntmps94
    go_wp2
    go_ret
    exact GeqP.no (World.grownBy.refl _ _) (fun q => hsz q.1)
  have hsz' : ((Maps.size D1 : Int) != (Maps.size D2 : Int)) = false := bne_eq_false_iff_eq.2 (by omega)
  go_enter Try.func94, Try.ntmps94
  go_wp2_with (first
    | (at_range; refine wpList_range_own _ rfl _ 129 rfl 138 3 T.law Try.underlying129 iR b1 nn _ rfl h1 ?_; intro w0 hrg0 hg0 hs0)
    | go_in)
  go_frame
  go_loopw [18] (fun _ wr => ∃ (left : Lit → Bool) (cnt : Nat), wr.ranges Try.prog 138 iR b1 w.heap.size nn D1 left cnt ∧ wr.ownsMap Try.prog 138 iR b2 nn D2 ∧ w.grownBy wr none ∧ AgrL Try.prog 138 D1 D2 left)
    (fun _ wr => wr.rangeLeft b1 w.heap.size)
  case atStart => exact ⟨_, _, hrg0, h2.kept hg0 (by simp), hg0, AgrL.start D1 D2⟩
  case round =>
    obtain ⟨left, cnt, hrg, h2r, hgw, hag⟩ := hrel
    go_wp2_with (first
      | (at_next; refine wpList_next_ranges _ rfl _ rfl 138 T.law iR (fun x : Int × Int => Value.agg #[.int .i64 x.1, .int .i64 x.2]) (Value.int .i64) (fun key kl hk => T.inv hk) (fun v y h => iR_inv' h) b1 w.heap.size nn _ _ _ rfl hrg ?_ ?_)
      | go_in)
    · -- nothing is left
      intro _ hl0
      go_wp2
      go_ret
      exact GeqP.yes hgw ⟨hsz, hag.done hl0⟩
    · -- an entry has come
      intro x1 x2 c kl yd yp w1 cnt1 hkey hlx hv hat hrg1 hlt hg1 hs1 hen
      have hgw1 : w.grownBy w1 none := hgw.andThen hg1 (fun j hj => by cases hj; exact Or.inl (Nat.le_refl _))
      have h2w1 := h2r.kept hg1 (fun e => by have := Option.some.inj e; omega)
      have hhas1 : Maps.has D1 kl = true := has_true_of_atKey hat
      obtain ⟨v2, ps2, _, hv2⟩ := h2w1.look_ok T.law Try.underlying129 (z := Value.int .i64 0) (Try.zeroValue3 _) (zd := DataW.lit (Lit.int .i64 0)) (zp := []) rfl hkey
      obtain ⟨e, rfl⟩ := iR_inv' hv2
      cases hhas : Maps.has D2 kl with
      | false =>
        go_wp2_with (first
          | (at_lookup; refine wpList_lookup_own_ok _ rfl _ _ 129 rfl 138 3 T.law Try.underlying129 iR (Try.zeroValue3 _) _ [] rfl b2 nn D2 rfl (h2w1.kept (World.grownBy_alloc w1 _ none) (by simp)) _ kl rfl hkey ?_; intro v3 ps3 hv3; rw [hhas]; obtain rfl := iR_inj hv3 hv2; go_frame)
          | go_in)
        go_ret
        refine GeqP.no (hgw1.andThen (World.grownBy_alloc w1 (.cells #[.int .i64 x1, .int .i64 x2] 138) none) (fun j hj => by cases hj)) fun q => ?_
        have := (q.2 (x1, x2) kl hkey hhas1).1
        rw [hhas] at this; cases this
      | true =>
        have hcold : ∀ z, D2.atKey kl z = D2.atKey kl (DataW.lit (Lit.int .i64 0)) := fun z => atKey_has hhas _ _
        by_cases heq : c = e
        · subst heq
          have hA : AgrAt D1 D2 kl := ⟨hhas, _, fun z => (hat z).trans (congrArg Prod.fst (Option.some.inj (hv.symm.trans hv2))), hcold⟩
          have hq : (c != c) = false := bne_self_eq_false c
          go_wp2_with (first
            | (at_lookup; refine wpList_lookup_own_ok _ rfl _ _ 129 rfl 138 3 T.law Try.underlying129 iR (Try.zeroValue3 _) _ [] rfl b2 nn D2 rfl (h2w1.kept (World.grownBy_alloc w1 _ none) (by simp)) _ kl rfl hkey ?_; intro v3 ps3 hv3; rw [hhas]; obtain rfl := iR_inj hv3 hv2; go_frame)
            | go_in)
          have hgX := World.grownBy_alloc w1 (.cells #[.int .i64 x1, .int .i64 x2] 138) none
          have hrgX := hrg1.kept hgX (by simp) (by simp)
          exact ⟨⟨_, cnt1, hrgX, h2w1.kept hgX (by simp), hgw1.andThen hgX (fun j hj => by cases hj), hag.step T (x := (x1, x2)) hkey hA⟩, by rw [hrgX.left_eq, hrg.left_eq]; exact hlt⟩
        · have hq : (c != e) = true := bne_iff_ne.2 heq
          go_wp2_with (first
            | (at_lookup; refine wpList_lookup_own_ok _ rfl _ _ 129 rfl 138 3 T.law Try.underlying129 iR (Try.zeroValue3 _) _ [] rfl b2 nn D2 rfl (h2w1.kept (World.grownBy_alloc w1 _ none) (by simp)) _ kl rfl hkey ?_; intro v3 ps3 hv3; rw [hhas]; obtain rfl := iR_inj hv3 hv2; go_frame)
            | go_in)
          go_ret
          refine GeqP.no (hgw1.andThen (World.grownBy_alloc w1 (.cells #[.int .i64 x1, .int .i64 x2] 138) none) (fun j hj => by cases hj)) fun q => ?_
          obtain ⟨_, y, hy1, hy2⟩ := q.2 (x1, x2) kl hkey hhas1
          have e1 := (hat (DataW.lit (Lit.int .i64 0))).symm.trans (hy1 _)
          have e2 := hy2 (DataW.lit (Lit.int .i64 0))
          rw [e2] at hv2
          rw [e1] at hv
          exact absurd (iR_inj hv hv2) (by intro q; exact heq (by simpa using q))
set_option maxRecDepth 100000 in
set_option maxHeartbeats 8000000 in
/-- Whether two maps are equal. -/
theorem Try.geq95 {H : Type} (b1 b2 nn : Nat) (D1 D2 : DataW H) (w : World) (h1 : w.ownsMap Try.prog 138 lR b1 nn D1) (h2 : w.ownsMap Try.prog 138 lR b2 nn D2) :
    Calls Try.prog 95 #[.map (some b1), .map (some b2)] w fun e w' => GeqP Try.prog 138 D1 D2 w e w' := by
  have T := Try.pairT
  have l1 := fun ty => h1.len (t := 130) Try.underlying130 ty
  have l2 := fun ty => h2.len (t := 130) Try.underlying130 ty
  have hb2 := h2.lt
  by_cases hsz : Maps.size D1 = Maps.size D2
  rotate_left
  · have hsz' : ((Maps.size D1 : Int) != (Maps.size D2 : Int)) = true := bne_iff_ne.2 (fun q => hsz (by omega))
    go_enter Try.func95, Try.ntmps95
    go_wp2
    go_ret
    exact GeqP.no (World.grownBy.refl _ _) (fun q => hsz q.1)
  have hsz' : ((Maps.size D1 : Int) != (Maps.size D2 : Int)) = false := bne_eq_false_iff_eq.2 (by omega)
  go_enter Try.func95, Try.ntmps95
  go_wp2_with (first
    | (at_range; refine wpList_range_own _ rfl _ 130 rfl 138 141 T.law Try.underlying130 lR b1 nn _ rfl h1 ?_; intro w0 hrg0 hg0 hs0)
    | go_in)
  go_frame
  go_loopw [18] (fun _ wr => ∃ (left : Lit → Bool) (cnt : Nat), wr.ranges Try.prog 138 lR b1 w.heap.size nn D1 left cnt ∧ wr.ownsMap Try.prog 138 lR b2 nn D2 ∧ w.grownBy wr none ∧ AgrL Try.prog 138 D1 D2 left)
    (fun _ wr => wr.rangeLeft b1 w.heap.size)
  case atStart => exact ⟨_, _, hrg0, h2.kept hg0 (by simp), hg0, AgrL.start D1 D2⟩
  case round =>
    obtain ⟨left, cnt, hrg, h2r, hgw, hag⟩ := hrel
    go_wp2_with (first
      | (at_next; refine wpList_next_ranges _ rfl _ rfl 138 T.law lR (fun x : Int × Int => Value.agg #[.int .i64 x.1, .int .i64 x.2]) (fun x : Int × Int => Value.agg #[.int .i64 x.1, .int .i64 x.2]) (fun key kl hk => T.inv hk) (fun v y h => lR_inv' h) b1 w.heap.size nn _ _ _ rfl hrg ?_ ?_)
      | go_in)
    · -- nothing is left
      intro _ hl0
      go_wp2
      go_ret
      exact GeqP.yes hgw ⟨hsz, hag.done hl0⟩
    · -- an entry has come
      intro x1 x2 c1 c2 kl yd yp w1 cnt1 hkey hlx hv hat hrg1 hlt hg1 hs1 hen
      have hgw1 : w.grownBy w1 none := hgw.andThen hg1 (fun j hj => by cases hj; exact Or.inl (Nat.le_refl _))
      have h2w1 := h2r.kept hg1 (fun e => by have := Option.some.inj e; omega)
      have hhas1 : Maps.has D1 kl = true := has_true_of_atKey hat
      obtain ⟨v2, ps2, _, hv2⟩ := h2w1.look_ok T.law Try.underlying130 (z := Value.agg #[.int .i64 0, .int .i64 0]) (Try.zeroValue141 _) (zd := DataW.agg [DataW.lit (Lit.int .i64 0), DataW.lit (Lit.int .i64 0)]) (zp := []) rfl hkey
      obtain ⟨⟨e1, e2⟩, rfl⟩ := lR_inv' hv2
      cases hhas : Maps.has D2 kl with
      | false =>
        go_wp2_with (first
          | (at_lookup; refine wpList_lookup_own_ok _ rfl _ _ 130 rfl 138 141 T.law Try.underlying130 lR (Try.zeroValue141 _) _ [] rfl b2 nn D2 rfl ((h2w1.kept (World.grownBy_alloc w1 _ none) (by simp)).kept (World.grownBy_alloc _ _ none) (by simp)) _ kl rfl hkey ?_; intro v3 ps3 hv3; rw [hhas]; obtain rfl := lR_inj hv3 hv2; go_frame)
          | go_in)
        go_ret
        refine GeqP.no (hgw1.andThen (((World.grownBy_alloc w1 (.cells #[.int .i64 x1, .int .i64 x2] 138) none).andThen (row' := none) (World.grownBy_alloc _ (.cells #[.int .i64 c1, .int .i64 c2] 141) none) (fun j hj => by cases hj)).andThen (row' := none) (World.grownBy_alloc _ (.cells #[.int .i64 e1, .int .i64 e2] 141) none) (fun j hj => by cases hj)) (fun j hj => by cases hj)) fun q => ?_
        have := (q.2 (x1, x2) kl hkey hhas1).1
        rw [hhas] at this; cases this
      | true =>
        have hcold : ∀ z, D2.atKey kl z = D2.atKey kl (DataW.agg [DataW.lit (Lit.int .i64 0), DataW.lit (Lit.int .i64 0)]) := fun z => atKey_has hhas _ _
        by_cases heq : c1 = e1 ∧ c2 = e2
        · obtain ⟨rfl, rfl⟩ := heq
          have hA : AgrAt D1 D2 kl := ⟨hhas, _, fun z => (hat z).trans (congrArg Prod.fst (Option.some.inj (hv.symm.trans hv2))), hcold⟩
          have hc := Try.neq141 c1 c2
          have hgd := Try.guard141 c1 c2
          go_wp2_with (first
            | (at_lookup; refine wpList_lookup_own_ok _ rfl _ _ 130 rfl 138 141 T.law Try.underlying130 lR (Try.zeroValue141 _) _ [] rfl b2 nn D2 rfl ((h2w1.kept (World.grownBy_alloc w1 _ none) (by simp)).kept (World.grownBy_alloc _ _ none) (by simp)) _ kl rfl hkey ?_; intro v3 ps3 hv3; rw [hhas]; obtain rfl := lR_inj hv3 hv2; go_frame)
            | go_in)
          have hgX := ((World.grownBy_alloc w1 (.cells #[.int .i64 x1, .int .i64 x2] 138) none).andThen (row' := none) (World.grownBy_alloc _ (.cells #[.int .i64 c1, .int .i64 c2] 141) none) (fun j hj => by cases hj)).andThen (row' := none) (World.grownBy_alloc _ (.cells #[.int .i64 c1, .int .i64 c2] 141) none) (fun j hj => by cases hj)
          have hrgX := hrg1.kept hgX (by simp) (by simp)
          exact ⟨⟨_, cnt1, hrgX, h2w1.kept hgX (by simp), hgw1.andThen hgX (fun j hj => by cases hj), hag.step T (x := (x1, x2)) hkey hA⟩, by rw [hrgX.left_eq, hrg.left_eq]; exact hlt⟩
        · have hc := Try.nne141 (a := c1) (b := c2) (c := e1) (d := e2) heq
          have hgd := Try.nguard141 c1 c2 e1 e2
          go_wp2_with (first
            | (at_lookup; refine wpList_lookup_own_ok _ rfl _ _ 130 rfl 138 141 T.law Try.underlying130 lR (Try.zeroValue141 _) _ [] rfl b2 nn D2 rfl ((h2w1.kept (World.grownBy_alloc w1 _ none) (by simp)).kept (World.grownBy_alloc _ _ none) (by simp)) _ kl rfl hkey ?_; intro v3 ps3 hv3; rw [hhas]; obtain rfl := lR_inj hv3 hv2; go_frame)
            | go_in)
          go_ret
          refine GeqP.no (hgw1.andThen (((World.grownBy_alloc w1 (.cells #[.int .i64 x1, .int .i64 x2] 138) none).andThen (row' := none) (World.grownBy_alloc _ (.cells #[.int .i64 c1, .int .i64 c2] 141) none) (fun j hj => by cases hj)).andThen (row' := none) (World.grownBy_alloc _ (.cells #[.int .i64 e1, .int .i64 e2] 141) none) (fun j hj => by cases hj)) (fun j hj => by cases hj)) fun q => ?_
          obtain ⟨_, y, hy1, hy2⟩ := q.2 (x1, x2) kl hkey hhas1
          have e1 := (hat (DataW.agg [DataW.lit (Lit.int .i64 0), DataW.lit (Lit.int .i64 0)])).symm.trans (hy1 _)
          have e2 := hy2 (DataW.agg [DataW.lit (Lit.int .i64 0), DataW.lit (Lit.int .i64 0)])
          rw [e2] at hv2
          rw [e1] at hv
          exact absurd (lR_inj hv hv2) (by intro q; exact heq (by simpa using q))
end Go.Proofs
