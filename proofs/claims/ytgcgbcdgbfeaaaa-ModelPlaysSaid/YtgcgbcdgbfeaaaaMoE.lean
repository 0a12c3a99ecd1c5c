/- Monitors' model: maps that are equal. Conditions: none. -/
import Derived.Test.YtgcgbcdgbfeaaaaMoI
import Derived.Test.YtgcgbcdgbfeaaaaAmKey
import Derived.Test.YtgcgbcdgbfeaaaaAmRow
import Derived.Test.YtgcgbcdgbfeaaaaAmTypes
import Derived.Shelf.SlMaps.Clone
import Derived.Maps.OwnSet
import Derived.Maps.RangeWalk
set_option linter.unusedVariables false
set_option linter.unusedSimpArgs false
namespace Go.Proofs
open Go.RowKit Go.Maps Go.Sort Go.Shelf
def iR {H : Type} : Value → Option (DataW H × List MemPlace)
  | .int .i64 n => some (.lit (.int .i64 n), [])
  | _ => none
theorem iR_inv {H : Type} {v : Value} {y : DataW H × List MemPlace} (h : iR v = some y) : ∃ n : Int, v = .int .i64 n ∧ y = (.lit (.int .i64 n), []) := by
  unfold iR at h
  split at h
  · exact ⟨_, rfl, (Option.some.inj h).symm⟩
  · cases h
theorem iR_inv' {H : Type} {v : Value} {y : DataW H × List MemPlace} (h : iR v = some y) : ∃ n : Int, v = .int .i64 n := let ⟨n, e, _⟩ := iR_inv h; ⟨n, e⟩
def lR {H : Type} : Value → Option (DataW H × List MemPlace)
  | .agg ⟨[.int .i64 a, .int .i64 b]⟩ => some (.agg [.lit (.int .i64 a), .lit (.int .i64 b)], [])
  | _ => none
theorem lR_inv {H : Type} {v : Value} {y : DataW H × List MemPlace} (h : lR v = some y) : ∃ x : Int × Int, v = .agg #[.int .i64 x.1, .int .i64 x.2] ∧ y = (.agg [.lit (.int .i64 x.1), .lit (.int .i64 x.2)], []) := by
  unfold lR at h
  split at h
  · rename_i a b
    exact ⟨(a, b), rfl, (Option.some.inj h).symm⟩
  · cases h
theorem lR_inv' {H : Type} {v : Value} {y : DataW H × List MemPlace} (h : lR v = some y) : ∃ x : Int × Int, v = .agg #[.int .i64 x.1, .int .i64 x.2] := let ⟨n, e, _⟩ := lR_inv h; ⟨n, e⟩
theorem iR_inj {H : Type} {a b : Value} {d : DataW H} {p q : List MemPlace} (h1 : iR a = some (d, p)) (h2 : iR b = some (d, q)) : a = b := by
  obtain ⟨x, rfl, e1⟩ := iR_inv h1
  obtain ⟨y, rfl, e2⟩ := iR_inv h2
  have h3 := congrArg Prod.fst e1
  have h4 := congrArg Prod.fst e2
  simp only at h3 h4
  rw [h3] at h4
  simp at h4
  rw [h4]
theorem lR_inj {H : Type} {a b : Value} {d : DataW H} {p q : List MemPlace} (h1 : lR a = some (d, p)) (h2 : lR b = some (d, q)) : a = b := by
  obtain ⟨⟨x1, x2⟩, rfl, e1⟩ := lR_inv h1
  obtain ⟨⟨y1, y2⟩, rfl, e2⟩ := lR_inv h2
  have h3 := congrArg Prod.fst e1
  have h4 := congrArg Prod.fst e2
  simp only at h3 h4
  rw [h3] at h4
  simp at h4
  rw [h4.1, h4.2]
open Go.AM in
theorem Try.eq156s (a b : Int) : (∀ w : World, (Op.equal 156 (.agg #[.int .i64 a, .int .i64 b]) (.agg #[.int .i64 a, .int .i64 b])).run Try.prog w = .ok true w) ∧ (∀ (w : World) op x y, (eqGuard op 156 x y (.agg #[.int .i64 a, .int .i64 b]) (.agg #[.int .i64 a, .int .i64 b])).run Try.prog w = .ok () w) ∧ (binOp .eql 156 (.agg #[.int .i64 a, .int .i64 b]) (.agg #[.int .i64 a, .int .i64 b]) = (do pure (.bool (← Op.equal 156 (.agg #[.int .i64 a, .int .i64 b]) (.agg #[.int .i64 a, .int .i64 b]))))) ∧ (binOp .neq 156 (.agg #[.int .i64 a, .int .i64 b]) (.agg #[.int .i64 a, .int .i64 b]) = (do pure (.bool (!(← Op.equal 156 (.agg #[.int .i64 a, .int .i64 b]) (.agg #[.int .i64 a, .int .i64 b])))))) :=
  eqA_sound (P := Try.prog) (t := 156) (g := noG) (n := 0) (x := .v (.ag [.int .i64 a, .int .i64 b])) (y := .v (.ag [.int .i64 a, .int .i64 b])) (q := true) ⟨_, rfl, ⟨rfl, rfl, trivial⟩⟩ ⟨_, rfl, ⟨rfl, rfl, trivial⟩⟩ (by rw [eq156 rfl]; simp [eqL, eqS])
theorem Try.neq156 (a b : Int) : ∀ W : World, (binOp .neq 156 (.agg #[.int .i64 a, .int .i64 b]) (.agg #[.int .i64 a, .int .i64 b])).run Try.prog W = .ok (.bool false) W := fun W => by
  rw [(Try.eq156s a b).2.2.2]
  simp [(Try.eq156s a b).1]
theorem Try.guard156 (a b : Int) : ∀ (W : World) (x y : Operand), (eqGuard .neq 156 x y (.agg #[.int .i64 a, .int .i64 b]) (.agg #[.int .i64 a, .int .i64 b])).run Try.prog W = .ok () W := fun W x y => (Try.eq156s a b).2.1 W _ x y
set_option maxRecDepth 100000 in
set_option maxHeartbeats 4000000 in
/-- Two maps that read as one and the same are equal. -/
theorem Try.meq94 {H : Type} (b1 b2 nn : Nat) (D0 : DataW H) (w : World) (h1 : w.ownsMap Try.prog 164 iR b1 nn D0) (h2 : w.ownsMap Try.prog 164 iR b2 nn D0) :
    Calls Try.prog 94 #[.map (some b1), .map (some b2)] w fun e w' => e = .returned (.bool true) ∧ w.grownBy w' none := by
  have T := Try.pairT
  have l1 := fun ty => h1.len (t := 123) Try.underlying123 ty
  have l2 := fun ty => h2.len (t := 123) Try.underlying123 ty
  have hb2 := h2.lt
  go_enter Try.func94, Try.ntmps94
  go_wp2_with (first
    | (at_range; refine wpList_range_own _ rfl _ 123 rfl 164 3 T.law Try.underlying123 iR b1 nn _ rfl h1 ?_; intro w0 hrg0 hg0 hs0)
    | go_in)
  go_frame
  go_loopw [18] (fun _ wr => ∃ (left : Lit → Bool) (cnt : Nat), wr.ranges Try.prog 164 iR b1 w.heap.size nn D0 left cnt ∧ wr.ownsMap Try.prog 164 iR b2 nn D0 ∧ w.grownBy wr none)
    (fun _ wr => wr.rangeLeft b1 w.heap.size)
  case atStart => exact ⟨_, _, hrg0, h2.kept hg0 (by simp), hg0⟩
  case round =>
    obtain ⟨left, cnt, hrg, h2r, hgw⟩ := hrel
    go_wp2_with (first
      | (at_next; refine wpList_next_ranges _ rfl _ rfl 164 T.law iR (fun x : Int × Int => Value.agg #[.int .i64 x.1, .int .i64 x.2]) (Value.int .i64) (fun key kl hk => T.inv hk) (fun v y h => iR_inv' h) b1 w.heap.size nn _ _ _ rfl hrg ?_ ?_)
      | go_in)
    · -- nothing is left
      intro _ hl0
      go_wp2
      go_ret
      exact ⟨rfl, hgw⟩
    · -- an entry has come
      intro x1 x2 c kl yd yp w1 cnt1 hkey hlx hv hat hrg1 hlt hg1 hs1 hen
      have hgw1 : w.grownBy w1 none := hgw.andThen hg1 (fun j hj => by cases hj; exact Or.inl (Nat.le_refl _))
      have h2w1 := h2r.kept hg1 (fun e => by have := Option.some.inj e; omega)
      have hhas : Maps.has D0 kl = true := has_true_of_atKey hat
      have hq : (c != c) = false := bne_self_eq_false c
      go_wp2_with (first
        | (at_lookup; refine wpList_lookup_own_ok _ rfl _ _ 123 rfl 164 3 T.law Try.underlying123 iR (Try.zeroValue3 _) _ [] rfl b2 nn D0 rfl (h2w1.kept (World.grownBy_alloc w1 _ none) (by simp)) _ kl rfl hkey ?_; intro v2 ps2 hv2; rw [hhas]; rw [hat] at hv2; obtain rfl := iR_inj hv2 hv; go_frame)
        | go_in)
      have hgX := World.grownBy_alloc w1 (.cells #[.int .i64 x1, .int .i64 x2] 164) none
      have hrgX := hrg1.kept hgX (by simp) (by simp)
      exact ⟨⟨_, cnt1, hrgX, h2w1.kept hgX (by simp), hgw1.andThen hgX (fun j hj => by cases hj)⟩, by rw [hrgX.left_eq, hrg.left_eq]; exact hlt⟩
set_option maxRecDepth 100000 in
set_option maxHeartbeats 4000000 in
/-- Two maps that read as one and the same are equal. -/
theorem Try.meq95 {H : Type} (b1 b2 nn : Nat) (D0 : DataW H) (w : World) (h1 : w.ownsMap Try.prog 164 lR b1 nn D0) (h2 : w.ownsMap Try.prog 164 lR b2 nn D0) :
    Calls Try.prog 95 #[.map (some b1), .map (some b2)] w fun e w' => e = .returned (.bool true) ∧ w.grownBy w' none := by
  have T := Try.pairT
  have l1 := fun ty => h1.len (t := 124) Try.underlying124 ty
  have l2 := fun ty => h2.len (t := 124) Try.underlying124 ty
  have hb2 := h2.lt
  go_enter Try.func95, Try.ntmps95
  go_wp2_with (first
    | (at_range; refine wpList_range_own _ rfl _ 124 rfl 164 156 T.law Try.underlying124 lR b1 nn _ rfl h1 ?_; intro w0 hrg0 hg0 hs0)
    | go_in)
  go_frame
  go_loopw [18] (fun _ wr => ∃ (left : Lit → Bool) (cnt : Nat), wr.ranges Try.prog 164 lR b1 w.heap.size nn D0 left cnt ∧ wr.ownsMap Try.prog 164 lR b2 nn D0 ∧ w.grownBy wr none)
    (fun _ wr => wr.rangeLeft b1 w.heap.size)
  case atStart => exact ⟨_, _, hrg0, h2.kept hg0 (by simp), hg0⟩
  case round =>
    obtain ⟨left, cnt, hrg, h2r, hgw⟩ := hrel
    go_wp2_with (first
      | (at_next; refine wpList_next_ranges _ rfl _ rfl 164 T.law lR (fun x : Int × Int => Value.agg #[.int .i64 x.1, .int .i64 x.2]) (fun x : Int × Int => Value.agg #[.int .i64 x.1, .int .i64 x.2]) (fun key kl hk => T.inv hk) (fun v y h => lR_inv' h) b1 w.heap.size nn _ _ _ rfl hrg ?_ ?_)
      | go_in)
    · -- nothing is left
      intro _ hl0
      go_wp2
      go_ret
      exact ⟨rfl, hgw⟩
    · -- an entry has come
      intro x1 x2 c1 c2 kl yd yp w1 cnt1 hkey hlx hv hat hrg1 hlt hg1 hs1 hen
      have hgw1 : w.grownBy w1 none := hgw.andThen hg1 (fun j hj => by cases hj; exact Or.inl (Nat.le_refl _))
      have h2w1 := h2r.kept hg1 (fun e => by have := Option.some.inj e; omega)
      have hhas : Maps.has D0 kl = true := has_true_of_atKey hat
      have hc := Try.neq156 c1 c2
      have hgd := Try.guard156 c1 c2
      go_wp2_with (first
        | (at_lookup; refine wpList_lookup_own_ok _ rfl _ _ 124 rfl 164 156 T.law Try.underlying124 lR (Try.zeroValue156 _) _ [] rfl b2 nn D0 rfl ((h2w1.kept (World.grownBy_alloc w1 _ none) (by simp)).kept (World.grownBy_alloc _ _ none) (by simp)) _ kl rfl hkey ?_; intro v2 ps2 hv2; rw [hhas]; rw [hat] at hv2; obtain rfl := lR_inj hv2 hv; go_frame)
        | go_in)
      have hgX := ((World.grownBy_alloc w1 (.cells #[.int .i64 x1, .int .i64 x2] 164) none).andThen (row' := none) (World.grownBy_alloc _ (.cells #[.int .i64 c1, .int .i64 c2] 156) none) (fun j hj => by cases hj)).andThen (row' := none) (World.grownBy_alloc _ (.cells #[.int .i64 c1, .int .i64 c2] 156) none) (fun j hj => by cases hj)
      have hrgX := hrg1.kept hgX (by simp) (by simp)
      exact ⟨⟨_, cnt1, hrgX, h2w1.kept hgX (by simp), hgw1.andThen hgX (fun j hj => by cases hj)⟩, by rw [hrgX.left_eq, hrg.left_eq]; exact hlt⟩
end Go.Proofs
