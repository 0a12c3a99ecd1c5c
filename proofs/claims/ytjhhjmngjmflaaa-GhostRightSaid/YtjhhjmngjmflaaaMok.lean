/- Monitors' model: keys that are pairs of whole numbers, as the kit reads them. Conditions: none. -/
import Derived.Test.YtjhhjmngjmflaaaProg
import Derived.DeepKeys3
import Derived.Maps.Ext
import Derived.Maps.Keyed
import Derived.KernelRfl
import Derived.RangeFuncNested
import Derived.RangeFuncBox
import Derived.RangeFuncLeaves
import Derived.Sort.MapsRangeIn
import Derived.Sort.OwnSorted
import Derived.Shelf.Abstract
import Derived.WalkKit
import Derived.OwnWalkIn
import Derived.TacticsInMore
import Derived.RegionIn
import Derived.LoopNIn
import Derived.LoopIn
import Derived.Maps.AppendAt
import Derived.Test.YtjhhjmngjmflaaaShelf
import Derived.Shelf.SlIterI.Sorted
set_option linter.unusedVariables false
set_option linter.unusedSimpArgs false
namespace Go.Proofs
open Go.RowKit Go.Maps Go.WideShapes
/-- A key of two whole numbers. -/
def pkV (x : Int × Int) : Value := .agg #[.int .i64 x.1, .int .i64 x.2]
theorem pkV_inj {x y : Int × Int} (h : pkV x = pkV y) : x = y := by
  obtain ⟨a, b⟩ := x
  obtain ⟨c, d⟩ := y
  simp [pkV] at h
  rw [h.1, h.2]
/-- Such a key's type. -/
structure PairT (P : Program) (t : TypeId) : Prop where
  s : ∃ f0 f1 : Field, P.underlying t = some (.struct #[f0, f1]) ∧ P.underlying f0.type = some (.int .i64) ∧ P.underlying f1.type = some (.int .i64) ∧ f0.offset = 0 ∧ f1.offset = 1 ∧ (f0.name != "_") = true ∧ (f1.name != "_") = true ∧ P.cellsOf f0.type = 1 ∧ P.cellsOf f1.type = 1
  c : P.cellsOf t = 2
  k : P.keyType t = true
  k2 : P.keyTypeAt 2 t = true
  t2 : P.tiled 2 t = true
  z : ∃ d, P.types.size = d + 1
theorem PairT.law {P : Program} {t : TypeId} (T : PairT P t) : Keyed P t := by
  obtain ⟨f0, f1, hu, _⟩ := T.s
  exact Keyed.of_law (deep_law (m := 2) (by omega) T.k2 T.t2 (by rw [hu]))
theorem keyLits_int_mk {P : Program} {d : Nat} {t : TypeId} (hu : P.underlying t = some (.int .i64)) {a : Int} (hw : (Lit.int .i64 a).wf = true) : P.keyLits (d + 1) t [.int .i64 a] = some [.int .i64 a] := by
  unfold Program.keyLits
  simp [hu, hw]
theorem keyLits_wf1 {P : Program} {d : Nat} {t : TypeId} (hu : P.underlying t = some (.int .i64)) {cs : List Value} {l : List Lit} (h : P.keyLits d t cs = some l) : ∃ a, cs = [.int .i64 a] ∧ l = [.int .i64 a] ∧ (Lit.int .i64 a).wf = true := by
  obtain ⟨a, rfl, rfl⟩ := keyLits_int' hu h
  refine ⟨a, rfl, rfl, ?_⟩
  cases d with
  | zero => simp [Program.keyLits] at h
  | succ d =>
    unfold Program.keyLits at h
    simp only [hu] at h
    split at h
    · rename_i hc; exact hc.2
    · cases h
theorem PairT.mk' {P : Program} {t : TypeId} (T : PairT P t) {x : Int × Int} (h1 : (Lit.int .i64 x.1).wf = true) (h2 : (Lit.int .i64 x.2).wf = true) : ∃ kl, keyOf P t (pkV x) = some kl := by
  obtain ⟨f0, f1, hu, u0, u1, o0, o1, n0, n1, c0, c1⟩ := T.s
  obtain ⟨d, hd⟩ := T.z
  have e0 := keyLits_int_mk (P := P) (d := d) u0 h1
  have e1 := keyLits_int_mk (P := P) (d := d) u1 h2
  have key : P.keyLits (d + 2) t [.int .i64 x.1, .int .i64 x.2] = some [.int .i64 x.1, .int .i64 x.2] := by
    unfold Program.keyLits
    simp [hu, T.c, n0, n1, o0, o1, c0, c1, e0, e1]
  refine ⟨.string (keyBytes [.int .i64 x.1, .int .i64 x.2]), ?_⟩
  unfold keyOf
  simp only [hu, T.k, pkV, Value.formed, T.c, hd, Value.cells]
  simp [key]
theorem PairT.inv {P : Program} {t : TypeId} (T : PairT P t) {v : Value} {kl : Lit} (h : keyOf P t v = some kl) : ∃ x : Int × Int, v = pkV x := by
  obtain ⟨f0, f1, hu, u0, u1, o0, o1, n0, n1, c0, c1⟩ := T.s
  obtain ⟨xs, L, rfl, h1, _⟩ := keyOf_top (by rw [hu]) h
  unfold Program.keyLits at h1
  simp only [hu] at h1
  split at h1
  · rename_i hc
    have hlen := hc.1
    rw [T.c] at hlen
    obtain ⟨ls, ha, _⟩ := Option.map_eq_some_iff.1 h1
    have each := mapM_each ha
    obtain ⟨l0, h0⟩ := each f0 (by simp)
    obtain ⟨l1, h1⟩ := each f1 (by simp)
    obtain ⟨a, ea, _⟩ := keyLits_wf1 u0 h0
    obtain ⟨b, eb, _⟩ := keyLits_wf1 u1 h1
    rw [o0, c0] at ea
    rw [o1, c1] at eb
    obtain ⟨l⟩ := xs
    simp only at hlen ea eb
    match l, hlen with
    | [x, y], _ =>
      simp at ea eb
      exact ⟨(a, b), by rw [ea, eb]; rfl⟩
  · cases h1
/-- Is such a key among a map's? -/
def KeyIn {H : Type} (P : Program) (t : TypeId) (D : DataW H) (x : Int × Int) : Prop := ∃ kl, keyOf P t (pkV x) = some kl ∧ has D kl = true
/-- What has come: no key twice; a key is there just where the map has it and it is no longer to come. -/
def ColP {H : Type} (P : Program) (t : TypeId) (D0 : DataW H) (left : Lit → Bool) (ss : List (Int × Int)) : Prop :=
  ss.Nodup ∧ ∀ x, x ∈ ss ↔ ∃ kl, keyOf P t (pkV x) = some kl ∧ has D0 kl = true ∧ left kl = false
theorem ColP.start {H : Type} {P : Program} {t : TypeId} (D0 : DataW H) : ColP P t D0 (has D0) [] := ⟨List.nodup_nil, fun x => by
  constructor
  · intro h; cases h
  · rintro ⟨kl, _, h1, h2⟩; rw [h1] at h2; cases h2⟩
theorem ColP.step {H : Type} {P : Program} {t : TypeId} (T : PairT P t) {D0 : DataW H} {left : Lit → Bool} {ss : List (Int × Int)} (h : ColP P t D0 left ss) {x : Int × Int} {kl : Lit} {y : DataW H} (hk : keyOf P t (pkV x) = some kl) (hlk : left kl = true) (hat : ∀ zd, D0.atKey kl zd = y) :
    ColP P t D0 (fun z => left z && !z.sameKey kl) (ss ++ [x]) := by
  have hhas : has D0 kl = true := has_true_of_atKey hat
  have hnew : x ∉ ss := fun hx => by
    obtain ⟨k', e1, _, e2⟩ := (h.2 x).1 hx
    rw [hk] at e1
    obtain rfl := Option.some.inj e1
    rw [hlk] at e2; cases e2
  have hstr : ∀ {v : Value} {l : Lit}, keyOf P t v = some l → ∃ s, l = .string s := fun hv => by
    obtain ⟨f0, f1, hu, _⟩ := T.s
    obtain ⟨_, _, _, _, e⟩ := keyOf_top (by rw [hu]) hv
    exact ⟨_, e⟩
  obtain ⟨s0, rfl⟩ := hstr hk
  refine ⟨List.nodup_append.2 ⟨h.1, by simp, fun a ha b hb => by simp at hb; subst hb; exact fun e => hnew (e ▸ ha)⟩, fun z => ?_⟩
  rw [List.mem_append, h.2 z, List.mem_singleton]
  constructor
  · rintro (⟨k', e1, e2, e3⟩ | rfl)
    · exact ⟨k', e1, e2, by simp only [e3, Bool.false_and]⟩
    · exact ⟨_, hk, hhas, by simp [Lit.sameKey]⟩
  · rintro ⟨k', e1, e2, e3⟩
    obtain ⟨s1, rfl⟩ := hstr e1
    cases hl : left (.string s1) with
    | false => exact .inl ⟨_, e1, e2, hl⟩
    | true =>
      refine .inr ?_
      simp only [hl] at e3
      simp only [Bool.true_and, Bool.not_eq_false'] at e3
      simp [Lit.sameKey] at e3
      subst e3
      exact pkV_inj (T.law.inj e1 hk)
end Go.Proofs
/- Monitors' model: the keys of a map of places, one by one. Conditions: none. -/
set_option linter.unusedVariables false
set_option linter.unusedSimpArgs false
namespace Go.Proofs
open Go.RowKit Go.Maps Go.Sort Go.Shelf
theorem Try.pairT : PairT Try.prog 138 where
  s := ⟨_, _, Try.underlying138, by kernel_rfl, by kernel_rfl, by kernel_rfl, by kernel_rfl, by kernel_rfl, by kernel_rfl, by kernel_rfl, by kernel_rfl⟩
  c := by kernel_rfl
  k := by kernel_rfl
  k2 := by kernel_rfl
  t2 := by kernel_rfl
  z := ⟨Try.prog.types.size - 1, by kernel_rfl⟩
set_option maxRecDepth 100000 in
set_option maxHeartbeats 2000000 in
/-- The keys of a map, each once, in some order. -/
theorem Try.mkeys96 {H : Type} (F : Fence) (n : Nat) (h10 : F.fn 96) (hro : F.round = none) (hn : 1 ≤ n) (l Bm b nn : Nat) (D0 : DataW H) {R : Value → Option (DataW H × List MemPlace)} (J Jx : List (Int × Int) → World → Prop)
    (hY : ∀ pre x W, J pre W → pre.length < Maps.size D0 → YieldAt F (n - 1) Try.prog l #[pkV x] W fun e W' =>
      (e = .returned (.bool true) ∧ J (pre ++ [x]) W' ∧ KeepsWalks W W') ∨ (e = .returned (.bool false) ∧ Jx (pre ++ [x]) W'))
    (W : World) (hJ : AbidesFrom W.heap.size J) (hm : W.cell? ⟨Bm, 0, none⟩ = some (.map (some b))) (hown : W.ownsMap Try.prog 138 R b nn D0) (h0 : J [] W) :
    CallsIn F n Try.prog 96 #[.func (.yield l) #[] #[], .pointer (some ⟨Bm, 0, none⟩)] W fun e W' => (∃ v, e = .returned v) ∧
      ((∃ ss : List (Int × Int), (ss.length ≤ Maps.size D0 ∧ ss.Nodup ∧ ∀ x, x ∈ ss ↔ KeyIn Try.prog 138 D0 x) ∧ J ss W') ∨ (∃ pre : List (Int × Int), True ∧ Jx pre W')) := by
  have T := Try.pairT
  refine callsIn_of_wp Try.func96 rfl h10 ?_ hro
  simp only [Try.ntmps96, List.size_toArray, List.length_cons, List.length_nil, Nat.reduceAdd, Nat.reduceSub, Array.replicate_succ, Array.replicate_zero, List.push_toArray, List.append_toArray, List.nil_append, List.cons_append]
  gi_wp2_with (first
    | (gi_at_range; refine wpListIn_range_own _ rfl _ 129 rfl 138 3 T.law Try.underlying129 R b nn _ rfl hown ?_; intro w0 hrg0 hg0 hs0)
    | gi_in)
  go_frame
  gi_loopw [3] (fun _ wr => ∃ (left : Lit → Bool) (cnt : Nat) (ss : List (Int × Int)), wr.ranges Try.prog 138 R b W.heap.size nn D0 left cnt ∧ ss.length + cnt ≤ Maps.size D0 ∧ ColP Try.prog 138 D0 left ss ∧ J ss wr)
    (fun _ wr => wr.rangeLeft b W.heap.size)
  case atStart =>
    exact ⟨_, _, [], hrg0, by simp, ColP.start D0, hJ [] W w0 none h0 hg0 (fun r e => by cases e)⟩
  case round =>
    obtain ⟨left, cnt, ss, hrg, hcs, hC, hJs⟩ := hrel
    gi_wp2_with (first
      | (gi_at_next; refine wpListIn_next_ranges _ rfl _ rfl 138 T.law R (fun x : Int × Int => Value.agg #[.int .i64 x.1, .int .i64 x.2]) id (fun key kl hk => T.inv hk) (fun v _ _ => ⟨v, rfl⟩) b W.heap.size nn _ _ _ rfl hrg ?_ ?_)
      | gi_in)
    · -- nothing is left
      intro hc0 hl0
      gi_wp2
      go_end0
      exact ⟨⟨_, rfl⟩, .inl ⟨ss, ⟨by omega, hC.1, fun x => (hC.2 x).trans ⟨fun ⟨kl, e1, e2, _⟩ => ⟨kl, e1, e2⟩, fun ⟨kl, e1, e2⟩ => ⟨kl, e1, e2, hl0 kl⟩⟩⟩, hJs⟩⟩
    · -- an entry has come
      intro x1 x2 c kl yd yp w2 cnt2 hkey hlk hv hat hrg2 hlt hg2 hs2 hen
      have hJ2 : J ss w2 := hJ ss wr w2 (some W.heap.size) hJs hg2 (fun r e => by cases e; exact ⟨Nat.le_refl _, hrg.iter_walk⟩)
      have hb2 := World.alloc_heap_new w2 (.cells #[.int .i64 x1, .int .i64 x2] 138)
      have hJ3 : J ss (w2.alloc (.cells #[.int .i64 x1, .int .i64 x2] 138)) := hJ ss w2 _ none hJ2 (World.grownBy_alloc w2 _ none) (fun r e => by cases e)
      have hrgA := hrg2.kept (World.grownBy_alloc w2 (.cells #[.int .i64 x1, .int .i64 x2] 138) none) (by simp) (by simp)
      obtain ⟨fn, tmps, assign, body, hy, hR⟩ := hY ss (x1, x2) _ hJ3 (by omega)
      rw [show pkV (x1, x2) = Value.agg #[.int .i64 x1, .int .i64 x2] from rfl] at hy
      clear hs2
      gi_wp2
      refine hR.mono ?_
      have hC2 := hC.step T (x := (x1, x2)) hkey hlk hat
      rintro e W3 (⟨rfl, hJ4, hk3⟩ | ⟨rfl, hJx3⟩)
      · gi_wp2
        have hrg3 := hrgA.of_walks hk3
        go_roundw
        case rel => exact ⟨_, cnt2, ss ++ [(x1, x2)], hrg3, by simp; omega, hC2, hJ4⟩
        case measure => rw [hrg3.left_eq, hrg.left_eq]; exact hlt
      · gi_wp2
        refine bodyPost_ret (results_none rfl _ _ _) rfl ?_
        exact ⟨⟨_, rfl⟩, .inr ⟨ss ++ [(x1, x2)], trivial, hJx3⟩⟩
/-- Such an iterator. -/
theorem Try.mstops96 {H : Type} (F : Fence) (n : Nat) (h10 : F.fn 96) (hro : F.round = none) (hn : 1 ≤ n) (Bm b nn : Nat) (D0 : DataW H) {R : Value → Option (DataW H × List MemPlace)} (w : World) (hBm : Bm < w.heap.size)
    (hm : w.cell? ⟨Bm, 0, none⟩ = some (.map (some b))) (hown : w.ownsMap Try.prog 138 R b nn D0) :
    SeqStopsK F n Try.prog 96 #[.pointer (some ⟨Bm, 0, none⟩)] (fun x : Int × Int => #[pkV x]) KeepsWalks (fun ss => ss.length ≤ Maps.size D0 ∧ ss.Nodup ∧ ∀ x, x ∈ ss ↔ KeyIn Try.prog 138 D0 x) (fun _ => True) (Maps.size D0) w := fun l J Jx W hW hJ _ hY h0 => by
  have hown' : W.ownsMap Try.prog 138 R b nn D0 := by
    have hbl := hown.lt
    obtain ⟨es, clock, hb, Ft, hs, hD⟩ := hown
    exact ⟨es, clock, (hW.block b hbl).trans hb, Ft, hs, hD⟩
  exact Try.mkeys96 F n h10 hro hn l Bm b nn D0 J Jx hY W hJ ((hW.cell (p := ⟨Bm, 0, none⟩) hBm).trans hm) hown' h0
set_option maxHeartbeats 1000000 in
theorem Try.mseq90 (F : Fence) (n : Nat) (h7 : F.fn 90) (hro : F.round = none) (mb : Option Nat) (w : World) :
    CallsIn F n Try.prog 90 #[.map mb] w fun e w' => e = .returned (.func (.func 96) #[] #[.pointer (some ⟨w.heap.size, 0, none⟩)]) ∧ w' = w.alloc (.cells #[.map mb] 129) := by
  refine callsIn_of_wp Try.func90 rfl h7 ?_ hro
  simp only [Try.ntmps90, List.size_toArray, List.length_cons, List.length_nil, Nat.reduceAdd, Nat.reduceSub, Array.replicate_succ, Array.replicate_zero, List.push_toArray, List.append_toArray, List.nil_append, List.cons_append]
  gi_wp2
  go_ret
  exact ⟨rfl, rfl⟩
end Go.Proofs
/- Monitors' model: the threads at an object. Conditions: none. -/
set_option linter.unusedVariables false
set_option linter.unusedSimpArgs false
namespace Go.Proofs
open Go.RowKit Go.Maps Go.Sort Go.Shelf
theorem Try.infoI : (Try.prog.info? 3).map (fun i => (i.zero, i.size, i.bytes)) = some (some (.int .i64 0), 1, 8) := by kernel_rfl
/-- The threads of the places at an object. -/
def pickT (o : Int) (ss : List (Int × Int)) : List Int := (ss.filter fun p => p.1 == o).map (·.2)
theorem pickT_hit (pre : List (Int × Int)) {o x : Int} (y : Int) (h : x = o) : pickT o (pre ++ [(x, y)]) = pickT o pre ++ [y] := by simp [pickT, h]
theorem pickT_miss (pre : List (Int × Int)) {o x : Int} (y : Int) (h : x ≠ o) : pickT o (pre ++ [(x, y)]) = pickT o pre := by simp [pickT, h]
theorem own_and {β : Type} {I I' : β → World → Prop} (h : Own I) (h' : Own I') : Own (fun s W => I s W ∧ I' s W) := fun s W W' row hs hg hr => ⟨h s W W' row hs.1 hg hr, h' s W W' row hs.2 hg hr⟩
attribute [local go_sem] Oper.semAt_some
set_option maxRecDepth 100000 in
set_option maxHeartbeats 4000000 in
/-- The threads of the keys at an object, rising. -/
theorem Try.thr88 {H : Type} (F : Fence) (n : Nat) (hF : ∀ f, F.fn f) (hro : F.round = none) (hn : 5 ≤ n) (hs1 : ∀ (blk off cap : Nat) (ss : List Int) (W : World), Holds encZ W blk off ss.toArray → blk < W.heap.size → ss.length < 4611686018427387904 →
      CallsIn F (n - 1) Try.prog 91 #[.slice (some ⟨blk, off, none⟩) ss.length cap] W fun e w' => e = .returned (.tuple #[]) ∧ ∃ k os, w' = grow (putRow encZ (Sort.ahead W k) blk off (ss.mergeSort fun x y => decide (x ≤ y)).toArray) os)
    (hs2 : ∀ (p : Option Addr) (cap : Nat) (W : World), CallsIn F (n - 1) Try.prog 91 #[.slice p 0 cap] W fun e w' => e = .returned (.tuple #[]) ∧ w' = W) (b nn : Nat) (D0 : DataW H) {R : Value → Option (DataW H × List MemPlace)} (o : Int) (w : World) (hown : w.ownsMap Try.prog 138 R b nn D0) (hmax : Maps.size D0 ≤ 1000) :
    CallsIn F n Try.prog 88 #[.map (some b), .int .i64 o] w fun e w' => ∃ (v : Value) (ss : List (Int × Int)), e = .returned v ∧ ss.Nodup ∧ (∀ x, x ∈ ss ↔ KeyIn Try.prog 138 D0 x) ∧
      w'.ownsRow w.heap.size 3 1 v (pickT o ss).length (((pickT o ss).mergeSort (fun x y => decide (x ≤ y))).map (Value.int .i64)) ∧ (v = .slice none 0 0 ↔ pickT o ss = []) ∧ Below w.heap.size w w' := by
  have h1 : 1 ≤ n := by omega
  have hbl := hown.lt
  obtain ⟨i0, hi, hz0, hz1, hz2⟩ := info_parts Try.infoI
  refine callsIn_of_wp_marks Try.func88 rfl (hF _) ?_ hro
  simp only [Try.ntmps88, List.size_toArray, List.length_cons, List.length_nil, Nat.reduceAdd, Nat.reduceSub, Array.replicate_succ, Array.replicate_zero, List.push_toArray, List.append_toArray, List.nil_append, List.cons_append]
  gi_wp2_with (gi_at_call 90; refine (Try.mseq90 F (n - 1) (hF _) hro _ _).mono ?_; rintro e w' ⟨rfl, rfl⟩)
  have bQ := Boxed.new w 3 (.int .i64 o)
  have bO := Boxed.new (w.alloc (.cells #[.int .i64 o] 3)) 81 (.slice none 0 0)
  have bN := Boxed.new ((w.alloc (.cells #[.int .i64 o] 3)).alloc (.cells #[.slice none 0 0] 81)) 129 (.map (some b))
  simp only [World.size_alloc] at bO bN
  have hB0 : Below w.heap.size w (((w.alloc (.cells #[.int .i64 o] 3)).alloc (.cells #[.slice none 0 0] 81)).alloc (.cells #[.map (some b)] 129)) := (((Below.refl _ w).alloc (Nat.le_refl _) _).alloc (by simp) _).alloc (by simp; omega) _
  have hown1 : (((w.alloc (.cells #[.int .i64 o] 3)).alloc (.cells #[.slice none 0 0] 81)).alloc (.cells #[.map (some b)] 129)).ownsMap Try.prog 138 R b nn D0 := by
    obtain ⟨es, clock, hb, Ft, hs, hD⟩ := hown
    exact ⟨es, clock, (hB0.block b hbl).trans hb, Ft, hs, hD⟩
  refine wpIn_rangeFunc_ownH hro h1 (gf := 96) (lb := #[.pointer (some ⟨w.heap.size + 1 + 1, 0, none⟩)]) rfl (hF _) (enters_of Try.func96 (by kernel_rfl) rfl)
    (Try.mstops96 F (n - 1) (hF _) hro (by omega) (w.heap.size + 1 + 1) b nn D0 _ (by simp) bN.cell hown1) walksK_t walksK_b (Below.refl _ _) (fun _ => rfl)
    (fun pre W => (Boxed W w.heap.size 3 (.int .i64 o) ∧ ∃ v, Boxed W (w.heap.size + 1) 81 v ∧ W.ownsRow (w.heap.size + 1) 3 1 v (pickT o pre).length ((pickT o pre).map (Value.int .i64)) ∧ (v = .slice none 0 0 ↔ pickT o pre = [])) ∧ Below w.heap.size w W)
    (fun _ _ _ => False)
    (OwnFrom.and (Own.from (own_and (boxed_own _ _ (fun _ => .int .i64 o)) (holdsRow_own (w.heap.size + 1) (w.heap.size + 1) 81 3 1 (fun pre => (pickT o pre).length) (fun pre => (pickT o pre).map (Value.int .i64)) (fun pre v => v = .slice none 0 0 ↔ pickT o pre = []))) _) (ownFrom_below (Nat.le_refl _) (by simp; omega)))
    (fun _ _ _ _ _ hs _ _ => hs)
    ⟨⟨(bQ.alloc _).alloc _, _, bO.alloc _, World.ownsRow_nil _ _ _ _, by simp [pickT]⟩, hB0⟩
    (fun x a' W => ∃ B, a' = { tmps := #[.map (some b), .int .i64 o, undef, .pointer (some ⟨w.heap.size, 0, none⟩), .slice none 0 0, .pointer (some ⟨w.heap.size + 1, 0, none⟩), .pointer (some ⟨B, 0, none⟩), .map (some b), .func (.func 96) #[] #[.pointer (some ⟨w.heap.size + 1 + 1, 0, none⟩)], pkV x, undef, undef, undef, undef, undef, undef, undef, undef, undef, undef, undef, undef], defers := [] } ∧ W.heap[B]? = some (.cells #[.int .i64 x.1, .int .i64 x.2] 138 (0, 0)))
    (fun x a' s X Y row ⟨B, ha, hB⟩ hg hr => ⟨B, ha, (hg.block B (Array.getElem?_eq_some_iff.1 hB).1 (fun e => by obtain ⟨_, o', ho, hc⟩ := hr B e.symm; rw [hB] at ho; cases ho; cases hc)).trans hB⟩)
    ?assign ?body ?done ?stop
  case assign =>
    rintro l pre ⟨x1, x2⟩ W K ⟨⟨hq, v, hv, hrow, hnil⟩, hB⟩ hK
    simp only [pkV]
    gi_wp2
    exact hK _ _ ((KeepsOthers.alloc W _).from _) (KeepsOthers.alloc W _).walks ⟨⟨hq.alloc _, v, hv.alloc _, hrow.alloc _, hnil⟩, hB.alloc hB.size _⟩ ⟨W.heap.size, rfl, World.alloc_heap_new W _⟩
  case body =>
    rintro l pre ⟨x1, x2⟩ a' W hlw hlr ⟨⟨hq, v, hv, hrow, hnil⟩, hB⟩ ⟨B, rfl, hBx⟩ hlt
    have hc := hv.cell
    have hqc := hq.cell
    have hpl : (pickT o pre).length ≤ pre.length := by unfold pickT; rw [List.length_map]; exact List.length_filter_le _ _
    have hx0 : W.cell? ⟨B, 0, none⟩ = some (.int .i64 x1) := by simp [World.cell?, hBx]
    have hx1 : W.cell? ⟨B, 1, none⟩ = some (.int .i64 x2) := by simp [World.cell?, hBx]
    have hvl := hv.lt
    have hml : (1000 : Nat) ≤ maxLen := by unfold maxLen; omega
    simp only [pkV]
    gi_wp2_with (gi_at_builtin; refine wpListIn_append_own _ rfl _ _ 81 rfl (w.heap.size + 1) 3 i0 (.int .i64 0) 1 8 Try.underlying81 hi hz0 hz1 hz2 rfl (by decide) _ _ _ rfl (hrow.alloc _) ⟨W.heap.size, 0, none⟩ 1 1 [.int .i64 x2] rfl rfl (cell_one_new _ _ _) (by simp [Value.oneCell']) (by omega) (by omega) (by simp; omega) ?_; intro v' w1 hown' hgrow _; obtain ⟨g', cap', rfl⟩ := ownsRow_succ hown'; obtain ⟨hv1, hv2, hr2, hk2, hb2⟩ := hv.appended (by decide) hrow (by omega) (Nat.le_refl _) hown' hgrow; have hc1 := hv1.cell; have hf1 := hv1.frozen)
    · have hx : x1 = o := by first | assumption | (exact eq_of_beq (by assumption))
      exact ⟨hk2.from _, hk2.walks, ⟨⟨(hb2.block w.heap.size (by omega)).trans hq, _, hv2, by rw [pickT_hit pre x2 hx]; simpa using hr2, by rw [pickT_hit pre x2 hx]; simp⟩, hB.trans (hb2.mono (by omega))⟩⟩
    · have hx : x1 ≠ o := by first | assumption | (rename_i hx; simpa using hx)
      exact ⟨KeepsFrom.refl _ _, (KeepsOthers.refl _).walks, ⟨⟨hq, v, hv, by rw [pickT_miss pre x2 hx]; exact hrow, by rw [pickT_miss pre x2 hx]; exact hnil⟩, hB⟩⟩
  case done =>
    rintro D ys W hD ⟨hys, hnd, hmem⟩ ⟨⟨hq, v, hv, hrow, hnil⟩, hB⟩ hK
    have hc := hv.cell
    have hvl := hv.lt
    have hnr := hv.not_row (by decide) hrow
    rcases hrow.2 with ⟨rfl, hz⟩ | ⟨gb, cap, cur, rfl, hbase, hgb, r1, r2, r3, r4⟩
    · have hnone : pickT o ys = [] := List.eq_nil_of_length_eq_zero hz
      have hA : Aside _ := And.intro hnone (And.intro hnil (And.intro hnd hmem))
      clear hnone hnil hrow hz hnd hmem hnr hys
      gi_wp2_with (gi_at_call 91; refine (hs2 none 0 W).mono ?_; rintro e w' ⟨rfl, rfl⟩)
      refine ⟨by simp, .inl ⟨_, _, rfl, run_takeDeferred hK, ?_⟩⟩
      obtain ⟨hnone, hnil, hnd, hmem⟩ := hA.out
      refine ⟨_, results_tmp rfl _ _ _, .slice none 0 0, ys, rfl, hnd, hmem, ?_, ⟨fun _ => hnone, fun _ => rfl⟩, hB.trans (belowK_b (w := w) (Nat.le_refl _) _ D _ _ (by simp at hD; omega) hK rfl rfl)⟩
      rw [hnone, List.mergeSort_nil]
      exact World.ownsRow_nil _ _ _ _
    · have hH : Holds encZ W gb 0 (pickT o ys).toArray := holds_of_block_i hgb (by simpa [encZ] using r4)
      have hgl : gb < W.heap.size := (Array.getElem?_eq_some_iff.1 hgb).1
      have hl1 : (pickT o ys).length ≤ ys.length := by unfold pickT; rw [List.length_map]; exact List.length_filter_le _ _
      have cS := hs1 gb 0 cap (pickT o ys) W hH hgl (by omega)
      gi_wp2_with (gi_at_call 91; refine cS.mono ?_; rintro e w' ⟨rfl, nn, os, rfl⟩; have hg := grownBy_sorted_i (w := W) (g := gb) (n := nn) (os := os) ((pickT o ys).mergeSort fun x y => decide (x ≤ y)).toArray; have hv3 := hv.kept hg hnr; have hc3 := hv3.cell)
      have hK3 := (hg.block D (Array.getElem?_eq_some_iff.1 hK).1 (fun e => by cases e; rw [hgb] at hK; cases hK)).trans hK
      refine ⟨by simp, .inl ⟨_, _, rfl, run_takeDeferred hK3, ?_⟩⟩
      have hrow3 := ownsRow_sorted_i (n := nn) (os := os) (ss := pickT o ys) (ts := (pickT o ys).mergeSort fun x y => decide (x ≤ y)) (by simp) (show w.heap.size ≤ gb by omega) hgb r1 r2 r3
      exact ⟨_, results_tmp rfl _ _ _, .slice (some ⟨gb, 0, none⟩) (pickT o ys).length cap, ys, rfl, hnd, hmem, ownsRow_putObj hrow3 _ hK3 rfl, hnil,
        (hB.trans ((Below.refl w.heap.size W).grown hg (by omega) (fun j e => by cases e; omega))).trans (belowK_b (w := w) (Nat.le_refl _) _ D _ _ (by simp at hD; omega) hK3 rfl rfl)⟩
  case stop =>
    rintro D c pre W _ _ h _
    exact h.elim
end Go.Proofs
