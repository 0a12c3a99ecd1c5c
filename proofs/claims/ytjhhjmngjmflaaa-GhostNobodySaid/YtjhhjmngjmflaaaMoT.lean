/- Monitors' model: the threads at an object. Conditions: none. -/
import Derived.Test.YtjhhjmngjmflaaaMoI
import Derived.Test.YtjhhjmngjmflaaaShelf
import Derived.Shelf.SlIterI.Sorted
set_option linter.unusedVariables false
set_option linter.unusedSimpArgs false
namespace Go.Proofs
open Go.RowKit Go.Maps Go.Sort Go.Shelf
theorem Try.infoI : (Try.prog.info? 3).map (fun i => (i.zero, i.size, i.bytes)) = some (some (.int .i64 0), 1, 8) := by kernel_rfl
/-- The threads of the places at an object. -/
def pickT (o : Int) (ss : List (Int × Int)) : List Int := (ss.filter fun p => p.1 == o).map (·.2)
theorem pickT_hit (pre : List (Int × Int)) {o x : Int} (y : Int) (h : x = o) : pickT o (pre ++ [(x, y)]) = pickT o pre ++ [y] := by simp [pickT, h]
theorem pickT_miss (pre : List (Int × Int)) {o x : Int} (y : Int) (h : x ≠ o) : pickT o (pre ++ [(x, y)]) = pickT o pre := by simp [pickT, h]
theorem own_and {β : Type} {I I' : β → World → Prop} (h : Own I) (h' : Own I') : Own (fun s W => I s W ∧ I' s W) := fun s W W' row hs hg hr => ⟨h s W W' row hs.1 hg hr, h' s W W' row hs.2 hg hr⟩
attribute [local go_sem] Oper.semAt_some
set_option maxRecDepth 100000 in
set_option maxHeartbeats 4000000 in
/-- The threads of the keys at an object, rising. -/
theorem Try.thr88 {H : Type} (F : Fence) (n : Nat) (hF : ∀ f, F.fn f) (hro : F.round = none) (hn : 5 ≤ n) (hs1 : ∀ (blk off cap : Nat) (ss : List Int) (W : World), Holds encZ W blk off ss.toArray → blk < W.heap.size → ss.length < 4611686018427387904 →
      CallsIn F (n - 1) Try.prog 91 #[.slice (some ⟨blk, off, none⟩) ss.length cap] W fun e w' => e = .returned (.tuple #[]) ∧ ∃ k os, w' = grow (putRow encZ (Sort.ahead W k) blk off (ss.mergeSort fun x y => decide (x ≤ y)).toArray) os)
    (hs2 : ∀ (p : Option Addr) (cap : Nat) (W : World), CallsIn F (n - 1) Try.prog 91 #[.slice p 0 cap] W fun e w' => e = .returned (.tuple #[]) ∧ w' = W) (b nn : Nat) (D0 : DataW H) {R : Value → Option (DataW H × List MemPlace)} (o : Int) (w : World) (hown : w.ownsMap Try.prog 138 R b nn D0) (hmax : Maps.size D0 ≤ 1000) :
    CallsIn F n Try.prog 88 #[.map (some b), .int .i64 o] w fun e w' => ∃ (v : Value) (ss : List (Int × Int)), e = .returned v ∧ ss.Nodup ∧ (∀ x, x ∈ ss ↔ KeyIn Try.prog 138 D0 x) ∧
      w'.ownsRow w.heap.size 3 1 v (pickT o ss).length (((pickT o ss).mergeSort (fun x y => decide (x ≤ y))).map (Value.int .i64)) ∧ (v = .slice none 0 0 ↔ pickT o ss = []) ∧ Below w.heap.size w w' := by
  have h1 : 1 ≤ n := by omega
  have hbl := hown.lt
  obtain ⟨i0, hi, hz0, hz1, hz2⟩ := info_parts Try.infoI
  refine callsIn_of_wp_marks Try.func88 rfl (hF _) ?_ hro
  simp only [Try.ntmps88, List.size_toArray, List.length_cons, List.length_nil, Nat.reduceAdd, Nat.reduceSub, Array.replicate_succ, Array.replicate_zero, List.push_toArray, List.append_toArray, List.nil_append, List.cons_append]
  gi_wp2_with (gi_at_call 90; refine (Try.mseq90 F (n - 1) (hF _) hro _ _).mono ?_; rintro e w' ⟨rfl, rfl⟩)
  have bQ := Boxed.new w 3 (.int .i64 o)
  have bO := Boxed.new (w.alloc (.cells #[.int .i64 o] 3)) 81 (.slice none 0 0)
  have bN := Boxed.new ((w.alloc (.cells #[.int .i64 o] 3)).alloc (.cells #[.slice none 0 0] 81)) 129 (.map (some b))
  simp only [World.size_alloc] at bO bN
  have hB0 : Below w.heap.size w (((w.alloc (.cells #[.int .i64 o] 3)).alloc (.cells #[.slice none 0 0] 81)).alloc (.cells #[.map (some b)] 129)) := (((Below.refl _ w).alloc (Nat.le_refl _) _).alloc (by simp) _).alloc (by simp; omega) _
  have hown1 : (((w.alloc (.cells #[.int .i64 o] 3)).alloc (.cells #[.slice none 0 0] 81)).alloc (.cells #[.map (some b)] 129)).ownsMap Try.prog 138 R b nn D0 := by
    obtain ⟨es, clock, hb, Ft, hs, hD⟩ := hown
    exact ⟨es, clock, (hB0.block b hbl).trans hb, Ft, hs, hD⟩
  refine wpIn_rangeFunc_ownH hro h1 (gf := 96) (lb := #[.pointer (some ⟨w.heap.size + 1 + 1, 0, none⟩)]) rfl (hF _) (enters_of Try.func96 (by kernel_rfl) rfl)
    (Try.mstops96 F (n - 1) (hF _) hro (by omega) (w.heap.size + 1 + 1) b nn D0 _ (by simp) bN.cell hown1) walksK_t walksK_b (Below.refl _ _) (fun _ => rfl)
    (fun pre W => (Boxed W w.heap.size 3 (.int .i64 o) ∧ ∃ v, Boxed W (w.heap.size + 1) 81 v ∧ W.ownsRow (w.heap.size + 1) 3 1 v (pickT o pre).length ((pickT o pre).map (Value.int .i64)) ∧ (v = .slice none 0 0 ↔ pickT o pre = [])) ∧ Below w.heap.size w W)
    (fun _ _ _ => False)
    (OwnFrom.and (Own.from (own_and (boxed_own _ _ (fun _ => .int .i64 o)) (holdsRow_own (w.heap.size + 1) (w.heap.size + 1) 81 3 1 (fun pre => (pickT o pre).length) (fun pre => (pickT o pre).map (Value.int .i64)) (fun pre v => v = .slice none 0 0 ↔ pickT o pre = []))) _) (ownFrom_below (Nat.le_refl _) (by simp; omega)))
    (fun _ _ _ _ _ hs _ _ => hs)
    ⟨⟨(bQ.alloc _).alloc _, _, bO.alloc _, World.ownsRow_nil _ _ _ _, by simp [pickT]⟩, hB0⟩
    (fun x a' W => ∃ B, a' = { tmps := #[.map (some b), .int .i64 o, undef, .pointer (some ⟨w.heap.size, 0, none⟩), .slice none 0 0, .pointer (some ⟨w.heap.size + 1, 0, none⟩), .pointer (some ⟨B, 0, none⟩), .map (some b), .func (.func 96) #[] #[.pointer (some ⟨w.heap.size + 1 + 1, 0, none⟩)], pkV x, undef, undef, undef, undef, undef, undef, undef, undef, undef, undef, undef, undef], defers := [] } ∧ W.heap[B]? = some (.cells #[.int .i64 x.1, .int .i64 x.2] 138 (0, 0)))
    (fun x a' s X Y row ⟨B, ha, hB⟩ hg hr => ⟨B, ha, (hg.block B (Array.getElem?_eq_some_iff.1 hB).1 (fun e => by obtain ⟨_, o', ho, hc⟩ := hr B e.symm; rw [hB] at ho; cases ho; cases hc)).trans hB⟩)
    ?assign ?body ?done ?stop
  case assign =>
    rintro l pre ⟨x1, x2⟩ W K ⟨⟨hq, v, hv, hrow, hnil⟩, hB⟩ hK
    simp only [pkV]
    gi_wp2
    exact hK _ _ ((KeepsOthers.alloc W _).from _) (KeepsOthers.alloc W _).walks ⟨⟨hq.alloc _, v, hv.alloc _, hrow.alloc _, hnil⟩, hB.alloc hB.size _⟩ ⟨W.heap.size, rfl, World.alloc_heap_new W _⟩
  case body =>
    rintro l pre ⟨x1, x2⟩ a' W hlw hlr ⟨⟨hq, v, hv, hrow, hnil⟩, hB⟩ ⟨B, rfl, hBx⟩ hlt
    have hc := hv.cell
    have hqc := hq.cell
    have hpl : (pickT o pre).length ≤ pre.length := by unfold pickT; rw [List.length_map]; exact List.length_filter_le _ _
    have hx0 : W.cell? ⟨B, 0, none⟩ = some (.int .i64 x1) := by simp [World.cell?, hBx]
    have hx1 : W.cell? ⟨B, 1, none⟩ = some (.int .i64 x2) := by simp [World.cell?, hBx]
    have hvl := hv.lt
    have hml : (1000 : Nat) ≤ maxLen := by unfold maxLen; omega
    simp only [pkV]
    gi_wp2_with (gi_at_builtin; refine wpListIn_append_own _ rfl _ _ 81 rfl (w.heap.size + 1) 3 i0 (.int .i64 0) 1 8 Try.underlying81 hi hz0 hz1 hz2 rfl (by decide) _ _ _ rfl (hrow.alloc _) ⟨W.heap.size, 0, none⟩ 1 1 [.int .i64 x2] rfl rfl (cell_one_new _ _ _) (by simp [Value.oneCell']) (by omega) (by omega) (by simp; omega) ?_; intro v' w1 hown' hgrow _; obtain ⟨g', cap', rfl⟩ := ownsRow_succ hown'; obtain ⟨hv1, hv2, hr2, hk2, hb2⟩ := hv.appended (by decide) hrow (by omega) (Nat.le_refl _) hown' hgrow; have hc1 := hv1.cell; have hf1 := hv1.frozen)
    · have hx : x1 = o := by first | assumption | (exact eq_of_beq (by assumption))
      exact ⟨hk2.from _, hk2.walks, ⟨⟨(hb2.block w.heap.size (by omega)).trans hq, _, hv2, by rw [pickT_hit pre x2 hx]; simpa using hr2, by rw [pickT_hit pre x2 hx]; simp⟩, hB.trans (hb2.mono (by omega))⟩⟩
    · have hx : x1 ≠ o := by first | assumption | (rename_i hx; simpa using hx)
      exact ⟨KeepsFrom.refl _ _, (KeepsOthers.refl _).walks, ⟨⟨hq, v, hv, by rw [pickT_miss pre x2 hx]; exact hrow, by rw [pickT_miss pre x2 hx]; exact hnil⟩, hB⟩⟩
  case done =>
    rintro D ys W hD ⟨hys, hnd, hmem⟩ ⟨⟨hq, v, hv, hrow, hnil⟩, hB⟩ hK
    have hc := hv.cell
    have hvl := hv.lt
    have hnr := hv.not_row (by decide) hrow
    rcases hrow.2 with ⟨rfl, hz⟩ | ⟨gb, cap, cur, rfl, hbase, hgb, r1, r2, r3, r4⟩
    · have hnone : pickT o ys = [] := List.eq_nil_of_length_eq_zero hz
      have hA : Aside _ := And.intro hnone (And.intro hnil (And.intro hnd hmem))
      clear hnone hnil hrow hz hnd hmem hnr hys
      gi_wp2_with (gi_at_call 91; refine (hs2 none 0 W).mono ?_; rintro e w' ⟨rfl, rfl⟩)
      refine ⟨by simp, .inl ⟨_, _, rfl, run_takeDeferred hK, ?_⟩⟩
      obtain ⟨hnone, hnil, hnd, hmem⟩ := hA.out
      refine ⟨_, results_tmp rfl _ _ _, .slice none 0 0, ys, rfl, hnd, hmem, ?_, ⟨fun _ => hnone, fun _ => rfl⟩, hB.trans (belowK_b (w := w) (Nat.le_refl _) _ D _ _ (by simp at hD; omega) hK rfl rfl)⟩
      rw [hnone, List.mergeSort_nil]
      exact World.ownsRow_nil _ _ _ _
    · have hH : Holds encZ W gb 0 (pickT o ys).toArray := holds_of_block_i hgb (by simpa [encZ] using r4)
      have hgl : gb < W.heap.size := (Array.getElem?_eq_some_iff.1 hgb).1
      have hl1 : (pickT o ys).length ≤ ys.length := by unfold pickT; rw [List.length_map]; exact List.length_filter_le _ _
      have cS := hs1 gb 0 cap (pickT o ys) W hH hgl (by omega)
      gi_wp2_with (gi_at_call 91; refine cS.mono ?_; rintro e w' ⟨rfl, nn, os, rfl⟩; have hg := grownBy_sorted_i (w := W) (g := gb) (n := nn) (os := os) ((pickT o ys).mergeSort fun x y => decide (x ≤ y)).toArray; have hv3 := hv.kept hg hnr; have hc3 := hv3.cell)
      have hK3 := (hg.block D (Array.getElem?_eq_some_iff.1 hK).1 (fun e => by cases e; rw [hgb] at hK; cases hK)).trans hK
      refine ⟨by simp, .inl ⟨_, _, rfl, run_takeDeferred hK3, ?_⟩⟩
      have hrow3 := ownsRow_sorted_i (n := nn) (os := os) (ss := pickT o ys) (ts := (pickT o ys).mergeSort fun x y => decide (x ≤ y)) (by simp) (show w.heap.size ≤ gb by omega) hgb r1 r2 r3
      exact ⟨_, results_tmp rfl _ _ _, .slice (some ⟨gb, 0, none⟩) (pickT o ys).length cap, ys, rfl, hnd, hmem, ownsRow_putObj hrow3 _ hK3 rfl, hnil,
        (hB.trans ((Below.refl w.heap.size W).grown hg (by omega) (fun j e => by cases e; omega))).trans (belowK_b (w := w) (Nat.le_refl _) _ D _ _ (by simp at hD; omega) hK3 rfl rfl)⟩
  case stop =>
    rintro D c pre W _ _ h _
    exact h.elim
end Go.Proofs
