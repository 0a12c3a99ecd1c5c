/- Monitors' model: the keys of a map of places, one by one. Conditions: none. -/
import Derived.Test.YtjhhjmngjmflaaaMoK
import Derived.RangeFuncNested
import Derived.RangeFuncBox
import Derived.RangeFuncLeaves
import Derived.Sort.MapsRangeIn
import Derived.Sort.OwnSorted
import Derived.Shelf.Abstract
import Derived.WalkKit
import Derived.OwnWalkIn
import Derived.TacticsInMore
import Derived.RegionIn
import Derived.LoopNIn
import Derived.LoopIn
import Derived.Maps.AppendAt
set_option linter.unusedVariables false
set_option linter.unusedSimpArgs false
namespace Go.Proofs
open Go.RowKit Go.Maps Go.Sort Go.Shelf
theorem Try.pairT : PairT Try.prog 138 where
  s := ⟨_, _, Try.underlying138, by kernel_rfl, by kernel_rfl, by kernel_rfl, by kernel_rfl, by kernel_rfl, by kernel_rfl, by kernel_rfl, by kernel_rfl⟩
  c := by kernel_rfl
  k := by kernel_rfl
  k2 := by kernel_rfl
  t2 := by kernel_rfl
  z := ⟨Try.prog.types.size - 1, by kernel_rfl⟩
set_option maxRecDepth 100000 in
set_option maxHeartbeats 2000000 in
/-- The keys of a map, each once, in some order. -/
theorem Try.mkeys96 {H : Type} (F : Fence) (n : Nat) (h10 : F.fn 96) (hro : F.round = none) (hn : 1 ≤ n) (l Bm b nn : Nat) (D0 : DataW H) {R : Value → Option (DataW H × List MemPlace)} (J Jx : List (Int × Int) → World → Prop)
    (hY : ∀ pre x W, J pre W → pre.length < Maps.size D0 → YieldAt F (n - 1) Try.prog l #[pkV x] W fun e W' =>
      (e = .returned (.bool true) ∧ J (pre ++ [x]) W' ∧ KeepsWalks W W') ∨ (e = .returned (.bool false) ∧ Jx (pre ++ [x]) W'))
    (W : World) (hJ : AbidesFrom W.heap.size J) (hm : W.cell? ⟨Bm, 0, none⟩ = some (.map (some b))) (hown : W.ownsMap Try.prog 138 R b nn D0) (h0 : J [] W) :
    CallsIn F n Try.prog 96 #[.func (.yield l) #[] #[], .pointer (some ⟨Bm, 0, none⟩)] W fun e W' => (∃ v, e = .returned v) ∧
      ((∃ ss : List (Int × Int), (ss.length ≤ Maps.size D0 ∧ ss.Nodup ∧ ∀ x, x ∈ ss ↔ KeyIn Try.prog 138 D0 x) ∧ J ss W') ∨ (∃ pre : List (Int × Int), True ∧ Jx pre W')) := by
  have T := Try.pairT
  refine callsIn_of_wp Try.func96 rfl h10 ?_ hro
  simp only [Try.ntmps96, List.size_toArray, List.length_cons, List.length_nil, Nat.reduceAdd, Nat.reduceSub, Array.replicate_succ, Array.replicate_zero, List.push_toArray, List.append_toArray, List.nil_append, List.cons_append]
  gi_wp2_with (first
    | (gi_at_range; refine wpListIn_range_own _ rfl _ 129 rfl 138 3 T.law Try.underlying129 R b nn _ rfl hown ?_; intro w0 hrg0 hg0 hs0)
    | gi_in)
  go_frame
  gi_loopw [3] (fun _ wr => ∃ (left : Lit → Bool) (cnt : Nat) (ss : List (Int × Int)), wr.ranges Try.prog 138 R b W.heap.size nn D0 left cnt ∧ ss.length + cnt ≤ Maps.size D0 ∧ ColP Try.prog 138 D0 left ss ∧ J ss wr)
    (fun _ wr => wr.rangeLeft b W.heap.size)
  case atStart =>
    exact ⟨_, _, [], hrg0, by simp, ColP.start D0, hJ [] W w0 none h0 hg0 (fun r e => by cases e)⟩
  case round =>
    obtain ⟨left, cnt, ss, hrg, hcs, hC, hJs⟩ := hrel
    gi_wp2_with (first
      | (gi_at_next; refine wpListIn_next_ranges _ rfl _ rfl 138 T.law R (fun x : Int × Int => Value.agg #[.int .i64 x.1, .int .i64 x.2]) id (fun key kl hk => T.inv hk) (fun v _ _ => ⟨v, rfl⟩) b W.heap.size nn _ _ _ rfl hrg ?_ ?_)
      | gi_in)
    · -- nothing is left
      intro hc0 hl0
      gi_wp2
      go_end0
      exact ⟨⟨_, rfl⟩, .inl ⟨ss, ⟨by omega, hC.1, fun x => (hC.2 x).trans ⟨fun ⟨kl, e1, e2, _⟩ => ⟨kl, e1, e2⟩, fun ⟨kl, e1, e2⟩ => ⟨kl, e1, e2, hl0 kl⟩⟩⟩, hJs⟩⟩
    · -- an entry has come
      intro x1 x2 c kl yd yp w2 cnt2 hkey hlk hv hat hrg2 hlt hg2 hs2 hen
      have hJ2 : J ss w2 := hJ ss wr w2 (some W.heap.size) hJs hg2 (fun r e => by cases e; exact ⟨Nat.le_refl _, hrg.iter_walk⟩)
      have hb2 := World.alloc_heap_new w2 (.cells #[.int .i64 x1, .int .i64 x2] 138)
      have hJ3 : J ss (w2.alloc (.cells #[.int .i64 x1, .int .i64 x2] 138)) := hJ ss w2 _ none hJ2 (World.grownBy_alloc w2 _ none) (fun r e => by cases e)
      have hrgA := hrg2.kept (World.grownBy_alloc w2 (.cells #[.int .i64 x1, .int .i64 x2] 138) none) (by simp) (by simp)
      obtain ⟨fn, tmps, assign, body, hy, hR⟩ := hY ss (x1, x2) _ hJ3 (by omega)
      rw [show pkV (x1, x2) = Value.agg #[.int .i64 x1, .int .i64 x2] from rfl] at hy
      clear hs2
      gi_wp2
      refine hR.mono ?_
      have hC2 := hC.step T (x := (x1, x2)) hkey hlk hat
      rintro e W3 (⟨rfl, hJ4, hk3⟩ | ⟨rfl, hJx3⟩)
      · gi_wp2
        have hrg3 := hrgA.of_walks hk3
        go_roundw
        case rel => exact ⟨_, cnt2, ss ++ [(x1, x2)], hrg3, by simp; omega, hC2, hJ4⟩
        case measure => rw [hrg3.left_eq, hrg.left_eq]; exact hlt
      · gi_wp2
        refine bodyPost_ret (results_none rfl _ _ _) rfl ?_
        exact ⟨⟨_, rfl⟩, .inr ⟨ss ++ [(x1, x2)], trivial, hJx3⟩⟩
/-- Such an iterator. -/
theorem Try.mstops96 {H : Type} (F : Fence) (n : Nat) (h10 : F.fn 96) (hro : F.round = none) (hn : 1 ≤ n) (Bm b nn : Nat) (D0 : DataW H) {R : Value → Option (DataW H × List MemPlace)} (w : World) (hBm : Bm < w.heap.size)
    (hm : w.cell? ⟨Bm, 0, none⟩ = some (.map (some b))) (hown : w.ownsMap Try.prog 138 R b nn D0) :
    SeqStopsK F n Try.prog 96 #[.pointer (some ⟨Bm, 0, none⟩)] (fun x : Int × Int => #[pkV x]) KeepsWalks (fun ss => ss.length ≤ Maps.size D0 ∧ ss.Nodup ∧ ∀ x, x ∈ ss ↔ KeyIn Try.prog 138 D0 x) (fun _ => True) (Maps.size D0) w := fun l J Jx W hW hJ _ hY h0 => by
  have hown' : W.ownsMap Try.prog 138 R b nn D0 := by
    have hbl := hown.lt
    obtain ⟨es, clock, hb, Ft, hs, hD⟩ := hown
    exact ⟨es, clock, (hW.block b hbl).trans hb, Ft, hs, hD⟩
  exact Try.mkeys96 F n h10 hro hn l Bm b nn D0 J Jx hY W hJ ((hW.cell (p := ⟨Bm, 0, none⟩) hBm).trans hm) hown' h0
set_option maxHeartbeats 1000000 in
theorem Try.mseq90 (F : Fence) (n : Nat) (h7 : F.fn 90) (hro : F.round = none) (mb : Option Nat) (w : World) :
    CallsIn F n Try.prog 90 #[.map mb] w fun e w' => e = .returned (.func (.func 96) #[] #[.pointer (some ⟨w.heap.size, 0, none⟩)]) ∧ w' = w.alloc (.cells #[.map mb] 129) := by
  refine callsIn_of_wp Try.func90 rfl h7 ?_ hro
  simp only [Try.ntmps90, List.size_toArray, List.length_cons, List.length_nil, Nat.reduceAdd, Nat.reduceSub, Array.replicate_succ, Array.replicate_zero, List.push_toArray, List.append_toArray, List.nil_append, List.cons_append]
  gi_wp2
  go_ret
  exact ⟨rfl, rfl⟩
end Go.Proofs
