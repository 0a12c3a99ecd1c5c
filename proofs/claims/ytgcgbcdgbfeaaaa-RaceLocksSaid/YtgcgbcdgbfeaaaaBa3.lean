/- Races: what is not Bare is struck. Conditions: none. -/
import Derived.Test.YtgcgbcdgbfeaaaaProg
import Derived.Shelf.Abstract
import Derived.Lib.SlMapFilter
import Derived.WalkKit
import Derived.Maps.Ext
import Derived.Maps.RangeWalk
import Derived.Laws.IdiomRangeMap
import Derived.Deep.LoopGhost
set_option linter.unusedVariables false
set_option linter.unusedSimpArgs false
namespace Go.Proofs
open Go.RowKit Go.Maps
/-- A state as a value. -/
def stVal (x : Int × Int × Int) : Value := .agg #[.int .i64 x.1, .int .i64 x.2.1, .int .u64 x.2.2]
/-- How a state reads: its kind. -/
def stR {H : Type} : Value → Option (DataW H × List MemPlace)
  | .agg ⟨[.int .i64 k, .int .i64 _, .int .u64 _]⟩ => some (.lit (.int .i64 k), [])
  | _ => none
theorem stR_val {H : Type} (x : Int × Int × Int) : stR (H := H) (stVal x) = some (.lit (.int .i64 x.1), []) := rfl
theorem stR_inv {H : Type} {v : Value} {y : DataW H × List MemPlace} (h : stR v = some y) : ∃ x, v = stVal x ∧ y = (.lit (.int .i64 x.1), []) := by
  unfold stR at h
  split at h
  · rename_i k t l
    exact ⟨(k, t, l), rfl, (Option.some.inj h).symm⟩
  · cases h
/-- It is struck. -/
def stD {H : Type} (_ : Lit) (d : DataW H) : Bool := match d with | .lit (.int .i64 k) => k != 4 | _ => true
set_option maxHeartbeats 4000000 in
set_option maxRecDepth 100000 in
theorem bare62 (key : Value) (k t l : Int) (W : World) : Calls Try.prog 62 #[key, .agg #[.int .i64 k, .int .i64 t, .int .u64 l]] W fun e w' => e = .returned (.bool (k != 4)) ∧ W.grownBy w' none := by
  have FG := Try.func62
  go_enter FG, Try.ntmps62
  go_wp2
  go_ret
  exact ⟨rfl, World.grownBy_alloc W _ none⟩
set_option maxHeartbeats 4000000 in
set_option maxRecDepth 100000 in
/-- What is not Bare is struck from the map. -/
theorem bare61 {H : Type} (b n : Nat) (D : DataW H) (w : World) (hown : w.ownsMap Try.prog 3 stR b n D) :
    Calls Try.prog 61 #[.map (some b), .func (.func 62) #[] #[]] w fun e w' => e = .returned (.tuple #[]) ∧ w'.ownsMap Try.prog 3 stR b n (Lib.deleteFuncD stD D) ∧ w.grownBy w' (some b) := by
  have K : Keyed Try.prog 3 := int_keyed Try.underlying3
  obtain ⟨es0, rfl, hap, hkeys⟩ := hown.entries K
  have HD : Aside _ := bare62
  have FG := Try.func61
  go_enter FG, Try.ntmps61
  go_wp2_with (first
    | (at_range; refine wpList_range_own _ rfl _ 134 rfl 3 45 K Try.underlying134 stR b n _ rfl hown ?_; intro w0 hrg0 hg0 hs0)
    | go_in)
  go_frame
  go_loopw [8] (fun _ wr => ∃ (left : Lit → Bool) (cnt : Nat), wr.ranges Try.prog 3 stR b w.heap.size n (Fk stD es0 left) left cnt ∧ w.grownBy wr (some b))
    (fun _ wr => wr.rangeLeft b w.heap.size)
  case atStart => exact ⟨_, _, by rw [Fk_start hkeys]; exact hrg0, hg0.but _⟩
  case round =>
    obtain ⟨left, cnt, hrg, hgw⟩ := hrel
    go_wp2_with (first
      | (at_next; refine wpList_next_ranges _ rfl _ rfl 3 K stR id (fun x : Int × Int × Int => .agg #[.int .i64 x.1, .int .i64 x.2.1, .int .u64 x.2.2]) (fun key _ _ => ⟨key, rfl⟩) (fun v _ h => by obtain ⟨x, e, _⟩ := stR_inv h; exact ⟨x, e⟩) b w.heap.size n _ _ _ rfl hrg ?_ ?_)
      | go_in)
    · -- nothing is left
      intro _ hl0
      go_wp2
      go_end0
      exact ⟨rfl, by rw [← Fk_end hl0]; exact hrg.owns, hgw⟩
    · -- an entry has come
      intro x k t l kl yd yp w1 cnt1 hkey hlx hv hat hrg1 hlt hg1 hs1 hen
      obtain ⟨rfl, rfl⟩ : yd = .lit (.int .i64 k) ∧ yp = [] := by
        have := Option.some.inj hv
        exact ⟨(congrArg Prod.fst this).symm, (congrArg Prod.snd this).symm⟩
      have hgw1 := hgw.andThen hg1 (fun j hj => by cases hj; exact Or.inl (Nat.le_refl _))
      have hbl := hrg1.owns.lt
      have hrl := hrg1.lt
      have hp : stD (H := H) kl (.lit (.int .i64 k)) = (k != 4) := rfl
      have hgo : ∀ o o' : Obj, w1.grownBy ((w1.alloc o).alloc o') none := fun o o' => (World.grownBy_alloc w1 o none).andThen (World.grownBy_alloc _ o' none) (fun j hj => by cases hj)
      have hrg2 : ∀ o o' : Obj, ((w1.alloc o).alloc o').ranges Try.prog 3 stR b w.heap.size n _ _ cnt1 := fun o o' => hrg1.kept (hgo o o') (by simp) (by simp)
      cases hk4 : (k != 4) <;> rw [hk4] at hp
      · -- it stays
        go_wp2
        exact ⟨⟨_, cnt1, by rw [← Fk_stays hap (K.key hkey) hlx hp hat]; exact hrg2 _ _, hgw1.andThen (hgo _ _) (fun j hj => by cases hj)⟩, by rw [(hrg2 _ _).left_eq, hrg.left_eq]; exact hlt⟩
      · -- struck
        go_wp2_with (first
          | (at_delete; refine wpList_delete_ranges _ rfl _ _ 134 3 rfl 45 K Try.underlying134 stR b w.heap.size n _ _ _ rfl (hrg2 _ _) _ _ rfl hkey ?_; intro w3 cnt3 hrg3 hle hturn; go_frame)
          | go_in)
        rw [strike_twice] at hrg3
        exact ⟨⟨_, cnt3, by rw [← Fk_struck hap (K.key hkey) hlx hp hat]; exact hrg3, (hgw1.andThen (hgo _ _) (fun j hj => by cases hj)).andThen hturn.grown (fun j hj => by cases hj; exact Or.inr rfl)⟩, by rw [hrg3.left_eq, hrg.left_eq]; omega⟩
end Go.Proofs
