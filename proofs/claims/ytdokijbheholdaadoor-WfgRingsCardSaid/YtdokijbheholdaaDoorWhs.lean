/- Waiting graphs: nodes, lists of sets, edges. Conditions: none. -/
import Derived.Test.YtdokijbheholdaaDoorAmTab
import Derived.Test.YtdokijbheholdaaDoorAmRecs
import Derived.Test.YtdokijbheholdaaDoorWd0
import Derived.Test.YtdokijbheholdaaDoorWg2
set_option linter.unusedVariables false
set_option linter.unusedSimpArgs false
set_option maxRecDepth 100000
namespace Go.AM
open Go.Proofs
-- LENS: gC_len, Edg.len
def Edg.cells (e : Edg) : List SV := [.int .i64 e.f, .int .i64 e.t]
theorem Edg.len (e : Edg) : e.cells.length = 2 := nrfl rfl
/-- Edges of all nodes, as cells. -/
def gC (E : List Nat) : List SV := E.map fun n => SV.int .u64 (n : Nat)
theorem gC_len (E : List Nat) : (gC E).length = E.length := by simp [gC]
structure GOk (E : List Nat) : Prop where
  len : E.length = 64
  lt : ∀ i, E.getD i 0 < 18446744073709551616
theorem gC_at {E : List Nat} {i : Nat} (h : i < E.length) : (gC E)[i]? = some (.int .u64 (E.getD i 0 : Nat)) := by
  simp [gC, List.getElem?_eq_getElem h]
theorem gC_set (E : List Nat) (i n : Nat) : (gC E).set i (.int .u64 (n : Nat)) = gC (E.set i n) := by simp [gC, List.map_set]
theorem GOk.set {E : List Nat} (H : GOk E) (i : Nat) {n : Nat} (hn : n < 18446744073709551616) : GOk (E.set i n) := by
  refine ⟨by rw [List.length_set]; exact H.len, fun j => ?_⟩
  by_cases hi : i < E.length
  · rw [getD_set E i j n hi]; split
    · exact hn
    · exact H.lt j
  · rw [List.set_eq_of_length_le (by omega)]; exact H.lt j
theorem GOk.nil : GOk (List.replicate 64 0) := ⟨by simp, fun i => by rw [List.getD_eq_getElem?_getD, List.getElem?_replicate]; split <;> simp⟩
def ixC (i : Nat) : List SV := [.int .i64 (i : Nat)]
theorem ixC_len (i : Nat) : (ixC i).length = 1 := nrfl rfl
def isN (n : Int) : Bool := decide (0 ≤ n ∧ n < 64)
theorem s32 {P : Program} {T : Tab} {K d : Nat} (S : Sd P T K) (hd : 1 ≤ d) (n : Int) (lk : Nat) (h : List AO) : ev P T K d 32 [.sc (.int .i64 n)] lk h = some (.v (.sc (.bool (isN n))), h) := by
  obtain ⟨d, rfl⟩ : ∃ k, d = k + 1 := ⟨d - 1, by omega⟩
  refine ev_pure (at32 S.t) rfl ?_
  unfold i32 Tryd.f32
  unfold isN
  by_cases c1 : 0 ≤ n
  · by_cases c2 : n < 64
    · simp (maxSteps := 1000000) (disch := first | omega | (simp (disch := first | omega | (simp only [gC_len, Edg.len, List.length_append, List.length_cons, List.length_nil, List.length_set]; first | done | omega)) only [gC_len, Edg.len, amSide, Int.reduceToNat, Nat.reducePow, Nat.reduceMul]; first | done | omega)) only  [↓amPre, amPost, ↓s_lit', Nat.reduceAdd, Nat.reduceSub, List.replicate, retA, resultsA, resultA, toC, toCL, Nat.reduceEqDiff, if_true, dec_t]
      exact Ends.some rfl
    · simp (maxSteps := 1000000) (disch := first | omega | (simp (disch := first | omega | (simp only [gC_len, Edg.len, List.length_append, List.length_cons, List.length_nil, List.length_set]; first | done | omega)) only [gC_len, Edg.len, amSide, Int.reduceToNat, Nat.reducePow, Nat.reduceMul]; first | done | omega)) only  [↓amPre, amPost, ↓s_lit', Nat.reduceAdd, Nat.reduceSub, List.replicate, retA, resultsA, resultA, toC, toCL, Nat.reduceEqDiff, if_true, dec_t, dec_f]
      exact Ends.some rfl
  · simp (maxSteps := 1000000) (disch := first | omega | (simp (disch := first | omega | (simp only [gC_len, Edg.len, List.length_append, List.length_cons, List.length_nil, List.length_set]; first | done | omega)) only [gC_len, Edg.len, amSide, Int.reduceToNat, Nat.reducePow, Nat.reduceMul]; first | done | omega)) only  [↓amPre, amPost, ↓s_lit', Nat.reduceAdd, Nat.reduceSub, List.replicate, retA, resultsA, resultA, toC, toCL, Nat.reduceEqDiff, if_true, dec_f]
    exact Ends.some rfl
/-- With an edge more. -/
def addE (E : List Nat) (a b : Int) : List Nat := if isN a && isN b then E.set a.toNat (E.getD a.toNat 0 ||| 2 ^ b.toNat) else E
def addC (a b : Int) : Int := if isN a && isN b then 0 else 1
theorem isN_t {n : Int} (h : isN n = true) : ∃ k : Nat, n = (k : Int) ∧ k < 64 := by
  unfold isN at h
  simp only [decide_eq_true_eq] at h
  exact ⟨n.toNat, by omega, by omega⟩
theorem two_lt {k : Nat} (h : k < 64) : 2 ^ k < 18446744073709551616 := Nat.pow_lt_pow_right (n := 64) (by decide) h
theorem addE_ok {E : List Nat} (H : GOk E) (a b : Int) : GOk (addE E a b) := by
  unfold addE
  split
  · rename_i h
    simp only [Bool.and_eq_true] at h
    obtain ⟨k, rfl, hk⟩ := isN_t h.2
    exact H.set _ (or_lt (H.lt _) (by simpa using hk))
  · exact H
theorem one_shl {k : Nat} (h : k < 64) : shiftA .shl .u64 1 (k : Int) = some (.int .u64 ((2 ^ k : Nat) : Int)) := by
  have := shl_nat 1 k (by omega)
  rw [Nat.one_mul, Nat.mod_eq_of_lt (two_lt h)] at this
  exact this
theorem gfr (E : List Nat) (k : Int) : (freeA (.tup [.ag (gC E), .sc (.int .i64 k)])).isSome = true := by
  have : ∀ E : List Nat, (freeL (gC E)).isSome = true := by
    intro E
    induction E with
    | nil => rfl
    | cons a E ih =>
      obtain ⟨v, hv⟩ := Option.isSome_iff_exists.1 ih
      show (freeL (SV.int .u64 (a : Nat) :: gC E)).isSome = true
      simp [freeL, freeS, hv]
  obtain ⟨v, hv⟩ := Option.isSome_iff_exists.1 (this E)
  simp [freeA, freeCL, freeC, freeS, hv]
theorem gfr1 (E : List Nat) : (freeA (.v (.ag (gC E)))).isSome = true := by
  have := gfr E 0
  simp only [freeA, freeCL] at this ⊢
  revert this
  cases freeC (.ag (gC E)) <;> simp
theorem gz : List.replicate 64 (SV.int IntKind.u64 0) = gC (List.replicate 64 0) := by simp [gC]
theorem spA (a b : List SV) (h : a.length = b.length) : splice a 0 b = b := by
  unfold splice
  rw [List.take_zero, List.nil_append, Nat.zero_add, ← h, List.drop_length, List.append_nil]
set_option maxHeartbeats 4000000 in
theorem s15 {P : Program} {T : Tab} {K d : Nat} (S : Sd P T K) (hd : 2 ≤ d) {E : List Nat} (G : GOk E) (a b : Int) (lk : Nat) (h : List AO) : ev P T K d 15 [.ag (gC E), .sc (.int .i64 a), .sc (.int .i64 b)] lk h = some (.tup [.ag (gC (addE E a b)), .sc (.int .i64 (addC a b))], h) := by
  obtain ⟨d, rfl⟩ : ∃ k, d = k + 1 := ⟨d - 1, by omega⟩
  refine ev_pure (at15 S.t) (gfr _ _) ?_
  unfold i15 Tryd.f15
  have f32 := fun n lk h => s32 S (show 1 ≤ d by omega) n lk h
  have hl := gC_len E
  have hl64 := G.len
  cases ha : isN a with
  | false =>
    have e1 : addE E a b = E := by unfold addE; rw [ha]; rfl
    have e2 : addC a b = 1 := by unfold addC; rw [ha]; rfl
    have fa := f32 a; rw [ha] at fa
    rw [e1, e2]
    simp (maxSteps := 1000000) (disch := first | omega | (simp (disch := first | omega | (simp only [gC_len, Edg.len, List.length_append, List.length_cons, List.length_nil, List.length_set]; first | done | omega)) only [gC_len, Edg.len, amSide, Int.reduceToNat, Nat.reducePow, Nat.reduceMul]; first | done | omega)) only  [↓amPre, amPost, ↓s_lit', Nat.reduceAdd, Nat.reduceSub, List.replicate, retA, resultsA, resultA, toC, toCL, Nat.reduceEqDiff, (ze33 S.p), (fa33_0 S.p), iaddr_ptr (un31 S.p) (sz30 S.p), part_sc (ag30 S.p), part_all (ag33 S.p) (sz33 S.p), part_at (ag33 S.p) (sz33 S.p), store_last (sz30 S.p), (sz30 S.p), store_last (sz33 S.p), (sz33 S.p), fa, cells_self, cells_other]
    exact Ends.some rfl
  | true =>
    obtain ⟨m, rfl, hm⟩ := isN_t ha
    have fa := f32 m; rw [ha] at fa
    cases hb : isN b with
    | false =>
      have e1 : addE E m b = E := by unfold addE; rw [ha, hb]; rfl
      have e2 : addC m b = 1 := by unfold addC; rw [ha, hb]; rfl
      have fb := f32 b; rw [hb] at fb
      rw [e1, e2]
      simp (maxSteps := 1000000) (disch := first | omega | (simp (disch := first | omega | (simp only [gC_len, Edg.len, List.length_append, List.length_cons, List.length_nil, List.length_set]; first | done | omega)) only [gC_len, Edg.len, amSide, Int.reduceToNat, Nat.reducePow, Nat.reduceMul]; first | done | omega)) only  [↓amPre, amPost, ↓s_lit', Nat.reduceAdd, Nat.reduceSub, List.replicate, retA, resultsA, resultA, toC, toCL, Nat.reduceEqDiff, (ze33 S.p), (fa33_0 S.p), iaddr_ptr (un31 S.p) (sz30 S.p), part_sc (ag30 S.p), part_all (ag33 S.p) (sz33 S.p), part_at (ag33 S.p) (sz33 S.p), store_last (sz30 S.p), (sz30 S.p), store_last (sz33 S.p), (sz33 S.p), fa, fb, cells_self, cells_other]
      exact Ends.some rfl
    | true =>
      obtain ⟨k, rfl, hk⟩ := isN_t hb
      have fb := f32 k; rw [hb] at fb
      have e1 : addE E m k = E.set m (E.getD m 0 ||| 2 ^ k) := by unfold addE; rw [ha, hb]; rfl
      have e2 : addC m k = 0 := by unfold addC; rw [ha, hb]; rfl
      have hg := gC_at (E := E) (i := m) (by omega)
      have ho := or_nat (E.getD m 0) (2 ^ k) (G.lt m) (two_lt hk)
      have hs := one_shl hk
      have hl2 : (E.set m (E.getD m 0 ||| 2 ^ k)).length = 64 := by rw [List.length_set]; exact hl64
      have sp := spA (gC E) (gC (E.set m (E.getD m 0 ||| 2 ^ k))) (by rw [gC_len, gC_len]; omega)
      have gz' := spA (List.replicate 64 (SV.int .u64 0)) (gC (E.set m (E.getD m 0 ||| 2 ^ k))) (by rw [gC_len]; simp; omega)
      rw [e1, e2]
      simp (maxSteps := 1000000) (disch := first | omega | (simp (disch := first | omega | (simp only [gC_len, Edg.len, List.length_append, List.length_cons, List.length_nil, List.length_set]; first | done | omega)) only [gC_len, Edg.len, amSide, Int.reduceToNat, Nat.reducePow, Nat.reduceMul]; first | done | omega)) only  [↓amPre, amPost, ↓s_lit', Nat.reduceAdd, Nat.reduceSub, List.replicate, retA, resultsA, resultA, toC, toCL, Nat.reduceEqDiff, (ze33 S.p), (fa33_0 S.p), iaddr_ptr (un31 S.p) (sz30 S.p), part_sc (ag30 S.p), part_all (ag33 S.p) (sz33 S.p), part_at (ag33 S.p) (sz33 S.p), store_last (sz30 S.p), (sz30 S.p), store_last (sz33 S.p), (sz33 S.p), fa, fb, hg, ho, hs, gC_set, cells_self, cells_other, idx_ok, Nat.mul_one, Int.toNat_natCast, Nat.zero_add]
      exact Ends.some rfl
end Go.AM
/- Waiting graphs: graphs of edges; lists of sets; Has, Next, Reach. Conditions: none. -/
set_option linter.unusedVariables false
set_option linter.unusedSimpArgs false
set_option maxRecDepth 100000
namespace Go.AM
open Go.Proofs Go.Lib
-- LENS: gC_len, Edg.len, ixC_len
theorem ev_kn {P : Program} {T : Tab} {K d : Nat} {f : FuncId} {F : List CV → Nat → List AO → Option (AV × List AO)} (hT : T.at f = some (.known F)) (xs : List CV) (lk : Nat) (h : List AO) : ev P T K (d + 1) f xs lk h = F xs lk h := by simp only [ev, hT]
theorem tabB_ext {b : Nat} {h h' : List AO} (H : tabB b h = true) (hx : Ext1 h h') : tabB b h' = true := by
  obtain ⟨j, rfl⟩ := hx
  match h, H with
  | .gl b' cs :: t, H => exact H
theorem tabB_pos {b : Nat} {h : List AO} (H : tabB b h = true) : 0 < h.length := by
  match h, H with
  | .gl b' cs :: t, H => simp
theorem s35 {P : Program} {T : Tab} {K d : Nat} (S : Sd P T K) (hd : 1 ≤ d) {x : Nat} (hx : x < 18446744073709551616) (lk : Nat) (h : List AO) (hT : tabB 0 h = true) : ev P T K d 35 [.sc (.int .u64 (x : Nat))] lk h = some (.v (.sc (.int .i64 (ctz 64 x : Nat))), h) := by
  obtain ⟨d, rfl⟩ : ∃ k, d = k + 1 := ⟨d - 1, by omega⟩
  rw [ev_kn (at35 S.t)]
  simp only [tz0, tzF, hT, true_and, Int.toNat_natCast]
  rw [if_pos (by omega)]
/-- Edges of so many. -/
def gE (l : List Edg) (n : Nat) : List Nat := (l.take n).foldl (fun E e => addE E e.f e.t) (List.replicate 64 0)
theorem gE_zero (l : List Edg) : gE l 0 = List.replicate 64 0 := rfl
theorem gE_succ {l : List Edg} {n : Nat} {e : Edg} (h : l[n]? = some e) : gE l (n + 1) = addE (gE l n) e.f e.t := by
  unfold gE
  rw [List.take_add_one, h, List.foldl_append]; rfl
theorem gE_ok (l : List Edg) (n : Nat) : GOk (gE l n) := by
  unfold gE
  have : ∀ (l : List Edg) (E : List Nat), GOk E → GOk (l.foldl (fun E e => addE E e.f e.t) E) := by
    intro l
    induction l with
    | nil => intro E H; exact H
    | cons e l ih => intro E H; exact ih _ (addE_ok H _ _)
  exact this _ _ GOk.nil
structure ThN where
  i : Nat
theorem storeH {P : Program} {t : TypeId} {n : Nat} (hs : szT P t = some n) {h : List AO} {l lk : Nat} {cs : List SV} (g : h[l]? = some (.rw t cs)) (hk : lk ≤ l) (c : List SV) (hc : c.length = n) (hcs : cs.length = n) :
    storeA P h lk t (.v (.sc (.ptr l 0))) (.v (.ag c)) = some (h.set l (.rw t c)) ∧ cellsAt (h.set l (.rw t c)) l = some c := by
  refine ⟨?_, ?_⟩
  · rw [store_at (c := .ag c) (o := 0) g hk hs hc (by omega)]
    show some (h.set l (AO.rw t (splice cs 0 c))) = _
    rw [spA cs c (by omega)]
  · have hl : l < h.length := (List.getElem?_eq_some_iff.1 g).1
    unfold cellsAt
    rw [List.getElem?_set_self hl]
theorem part_self {P : Program} {t : TypeId} {n : Nat} (ha : aggT P t = some true) (hs : szT P t = some n) (c : List SV) (hc : c.length = n) : partA P t c 0 = some (.ag c) := by
  rw [part_ag ha hs, if_pos (by omega), List.drop_zero, List.take_of_length_le (by omega)]
theorem Edg.c0 (x : Edg) : x.cells[0]? = some (.int .i64 x.f) := nrfl rfl
theorem Edg.c1 (x : Edg) : x.cells[1]? = some (.int .i64 x.t) := nrfl rfl
structure ThH where
  i : Nat
  h : List AO
set_option maxHeartbeats 4000000 in
theorem s9 {P : Program} {T : Tab} {K d : Nat} (S : Sd P T K) (hd : 3 ≤ d) (q : SV) (l : List Edg) (hl : l.length ≤ 300) (lk : Nat) (h : List AO) (hq : Rs Edg.cells 2 h q l) :
    ev P T K d 9 [.sc q] lk h = some (.v (.ag (gC (gE l l.length))), h) := by
  obtain ⟨d, rfl⟩ : ∃ k, d = k + 1 := ⟨d - 1, by omega⟩
  refine ev_pure (at9 S.t) (gfr1 _) ?_
  unfold i9 Tryd.f9
  have hlen := hq.len (un22 S.p)
  simp (maxSteps := 1000000) (disch := first | omega | (simp (disch := first | omega | (simp only [gC_len, Edg.len, ixC_len, List.length_append, List.length_cons, List.length_nil, List.length_set]; first | done | omega)) only [gC_len, Edg.len, ixC_len, amSide, Int.reduceToNat, Nat.reducePow, Nat.reduceMul]; first | done | omega)) only  [↓amPre, amPost, ↓s_lit', Nat.reduceAdd, Nat.reduceSub, List.replicate, retA, resultsA, resultA, toC, toCL, Nat.reduceEqDiff, (ze28 S.p), (ze33 S.p), (fa28_0 S.p), (fa28_1 S.p), iaddr_sl (un22 S.p) (sz28 S.p), len_sl (un22 S.p), len_nils (un22 S.p), part_all (ag28 S.p) (sz28 S.p), part_at (ag28 S.p) (sz28 S.p), part_sc (ag3 S.p), part_all (ag33 S.p) (sz33 S.p), part_at (ag33 S.p) (sz33 S.p), store_last (sz28 S.p), (sz28 S.p), store_last (sz33 S.p), (sz33 S.p), hlen]
  refine ends_loop (X := ThH) ⟨0, h ++ [.rw 33 (gC (List.replicate 64 0))] ++ [.rw 33 (gC (List.replicate 64 0))]⟩ [5, 9, 10, 11, 12, 13, 14, 15, 16, 17, 18, 19, 20, 21]
    (fun x => x.i ≤ l.length ∧ Ext1 (h ++ [.rw 33 (gC (List.replicate 64 0))]) x.h ∧ h.length + 1 < x.h.length ∧ x.h[h.length + 1]? = some (.rw 33 (gC (gE l x.i)))) (fun x => l.length - x.i)
    (fun x e => e.set 8 (.v (.sc (.int .i64 x.i)))) (fun x => x.h)
    (by have := S.k; show _ < K; simp only; omega) ⟨by simp only; omega, (Ext1.refl _).push _, by simp, by simp [gE_zero]⟩ rfl rfl ?_
  rintro ⟨i, hj⟩ ⟨hi, hx, hlt, hg⟩ again hag e he
  simp only at hi hx hlt hg hag he
  simp only [↓amPre, amPost, ↓s_lit', Nat.reduceAdd, Nat.reduceSub, List.replicate, retA, resultsA, resultA, toC, toCL, Nat.reduceEqDiff] at he
  simp only [↓amPre, amPost, ↓s_lit', Nat.reduceAdd, Nat.reduceSub, List.replicate, retA, resultsA, resultA, toC, toCL, Nat.reduceEqDiff, he]
  have hgl := (gE_ok l i).len
  refine ends_cond (fun hc1 => ?_) (fun hc1 => ?_)
  · simp only [decide_eq_true_eq] at hc1
    obtain ⟨b, rfl, hb, hc⟩ := hq.at (by omega)
    obtain ⟨y, hy⟩ : ∃ y, l[i]? = some y := ⟨_, List.getElem?_eq_getElem (by omega)⟩
    have hpt := recs_part (ag28 S.p) (sz28 S.p) Edg.len hy
    have hcj : cellsAt hj b = some (recs Edg.cells l) := by rw [((Ext1.refl h).push _ |>.trans hx).cells hb]; exact hc
    have y0 := Edg.c0 y
    have y1 := Edg.c1 y
    have g1 : (hj ++ [AO.rw 28 y.cells])[h.length + 1]? = some (.rw 33 (gC (gE l i))) := by rw [List.getElem?_append_left hlt]; exact hg
    have c1 : cellsAt (hj ++ [AO.rw 28 y.cells]) (h.length + 1) = some (gC (gE l i)) := by unfold cellsAt; rw [g1]
    have p1 := part_self (ag33 S.p) (sz33 S.p) (gC (gE l i)) (by rw [gC_len]; exact hgl)
    have f15 := fun lk h => s15 S (show 2 ≤ d by omega) (gE_ok l i) y.f y.t lk h
    have hsu := gE_succ hy
    have hgl2 := (gE_ok l (i + 1)).len
    rw [hsu] at hgl2
    obtain ⟨k1, k2⟩ := storeH (sz33 S.p) g1 (show h.length ≤ h.length + 1 by omega) (gC (addE (gE l i) y.f y.t)) (by rw [gC_len]; exact hgl2) (by rw [gC_len]; exact hgl)
    simp (maxSteps := 1000000) (disch := first | omega | (simp (disch := first | omega | (simp only [gC_len, Edg.len, ixC_len, List.length_append, List.length_cons, List.length_nil, List.length_set]; first | done | omega)) only [gC_len, Edg.len, ixC_len, amSide, Int.reduceToNat, Nat.reducePow, Nat.reduceMul]; first | done | omega)) only  [↓amPre, amPost, ↓s_lit', Nat.reduceAdd, Nat.reduceSub, List.replicate, retA, resultsA, resultA, toC, toCL, Nat.reduceEqDiff, he, (ze28 S.p), (ze33 S.p), (fa28_0 S.p), (fa28_1 S.p), iaddr_sl (un22 S.p) (sz28 S.p), len_sl (un22 S.p), len_nils (un22 S.p), part_all (ag28 S.p) (sz28 S.p), part_at (ag28 S.p) (sz28 S.p), part_sc (ag3 S.p), part_all (ag33 S.p) (sz33 S.p), part_at (ag33 S.p) (sz33 S.p), store_last (sz28 S.p), (sz28 S.p), store_last (sz33 S.p), (sz33 S.p), idx_ok, hcj, hpt, y0, y1, c1, p1, f15, k1, cells_self, cells_other, Int.toNat_natCast, Nat.zero_add, wrap_i64]
    refine hag ⟨i + 1, _⟩ ⟨by simp only; omega, (hx.push (AO.rw 28 y.cells)).set (by simp) _, by simp; omega, ?_⟩ (by simp only; omega) _ ?_
    · simp only
      rw [hsu]
      exact List.getElem?_set_self (by simp; omega)
    · simp (maxSteps := 1000000) (disch := first | omega | (simp (disch := first | omega | (simp only [gC_len, Edg.len, ixC_len, List.length_append, List.length_cons, List.length_nil, List.length_set]; first | done | omega)) only [gC_len, Edg.len, ixC_len, amSide, Int.reduceToNat, Nat.reducePow, Nat.reduceMul]; first | done | omega)) only [↓amPre, amPost, ↓s_lit', Nat.reduceAdd, Nat.reduceSub, List.replicate, retA, resultsA, resultA, toC, toCL, Nat.reduceEqDiff, Int.natCast_add, Int.cast_ofNat_Int, dec_t, dec_f]
  · simp only [decide_eq_false_iff_not] at hc1
    obtain rfl : i = l.length := by omega
    have c1 : cellsAt hj (h.length + 1) = some (gC (gE l l.length)) := by unfold cellsAt; rw [hg]
    have p1 := part_self (ag33 S.p) (sz33 S.p) (gC (gE l l.length)) (by rw [gC_len]; exact hgl)
    have g0 : hj[h.length]? = some (.rw 33 (gC (List.replicate 64 0))) := by rw [hx.get (by simp)]; simp
    obtain ⟨k1, k2⟩ := storeH (sz33 S.p) g0 (Nat.le_refl _) (gC (gE l l.length)) (by rw [gC_len]; exact hgl) (by rw [gC_len]; simp)
    simp (maxSteps := 1000000) (disch := first | omega | (simp (disch := first | omega | (simp only [gC_len, Edg.len, ixC_len, List.length_append, List.length_cons, List.length_nil, List.length_set]; first | done | omega)) only [gC_len, Edg.len, ixC_len, amSide, Int.reduceToNat, Nat.reducePow, Nat.reduceMul]; first | done | omega)) only  [↓amPre, amPost, ↓s_lit', Nat.reduceAdd, Nat.reduceSub, List.replicate, retA, resultsA, resultA, toC, toCL, Nat.reduceEqDiff, he, (ze28 S.p), (ze33 S.p), (fa28_0 S.p), (fa28_1 S.p), iaddr_sl (un22 S.p) (sz28 S.p), len_sl (un22 S.p), len_nils (un22 S.p), part_all (ag28 S.p) (sz28 S.p), part_at (ag28 S.p) (sz28 S.p), part_sc (ag3 S.p), part_all (ag33 S.p) (sz33 S.p), part_at (ag33 S.p) (sz33 S.p), store_last (sz28 S.p), (sz28 S.p), store_last (sz33 S.p), (sz33 S.p), c1, p1, k1, k2]
    exact Ends.some rfl
end Go.AM
/- Waiting graphs: the nodes of a set; Has, Next, Reach. Conditions: none. -/
set_option linter.unusedVariables false
set_option linter.unusedSimpArgs false
set_option maxRecDepth 100000
namespace Go.AM
open Go.Proofs Go.Lib
-- LENS: gC_len, Edg.len, ixC_len
structure ThL where
  i : Nat
  x : Nat
  l : List Nat
  q : SV
  h : List AO
theorem sub_one {x : Nat} (h0 : x ≠ 0) (h : x < 18446744073709551616) : IntKind.u64.wrap ((x : Int) - 1) = ((x - 1 : Nat) : Int) := by
  rw [wrap_u64 (by omega) (by omega)]; omega
theorem neq0 {x : Nat} (h0 : x ≠ 0) : ((x : Int) != 0) = true := by simp [h0]
set_option maxHeartbeats 4000000 in
theorem s23 {P : Program} {T : Tab} {K d : Nat} (S : Sd P T K) (hd : 2 ≤ d) {x : Nat} (hx : x < 18446744073709551616) (lk : Nat) (h : List AO) (hlk : lk ≤ h.length) (hT : tabB 0 h = true) :
    Ends (fun v h' => Ext1 h h' ∧ ∃ q', v = .v (.sc q') ∧ Own 3 1 h.length h' q' (recs ixC (bl x))) (ev P T K d 23 [.sc (.int .u64 (x : Nat))] lk h) := by
  obtain ⟨d, rfl⟩ : ∃ k, d = k + 1 := ⟨d - 1, by omega⟩
  rw [ev_run (at23 S.t)]
  unfold i23 Tryd.f23
  simp (maxSteps := 1000000) (disch := first | omega | (simp (disch := first | omega | (simp only [gC_len, Edg.len, ixC_len, List.length_append, List.length_cons, List.length_nil, List.length_set]; first | done | omega)) only [gC_len, Edg.len, ixC_len, amSide, Int.reduceToNat, Nat.reducePow, Nat.reduceMul]; first | done | omega)) only  [↓amPre, amPost, ↓s_lit', Nat.reduceAdd, Nat.reduceSub, List.replicate, retA, resultsA, resultA, toC, toCL, Nat.reduceEqDiff, append_at (un35 S.p) (sz3 S.p) (by3 S.p) (ze3 S.p) (by decide) (by decide) rfl, copy_at (un35 S.p) (sz3 S.p) (by3 S.p) (ze3 S.p) (by decide) (by decide) rfl, sl_cells (sz3 S.p), lit_fill (un35 S.p) (sz3 S.p) (ze3 S.p)]
  refine ends_loop (X := ThL) ⟨0, x, [], .nils, h⟩ [4, 5, 6, 7, 8, 9, 10, 11, 12, 13, 14]
    (fun y => Ext1 h y.h ∧ y.x < 18446744073709551616 ∧ Own 3 1 h.length y.h y.q (recs ixC y.l) ∧ y.l ++ bl y.x = bl x) (fun y => (bl y.x).length)
    (fun y e => (e.set 0 (.v (.sc (.int .u64 (y.x : Nat))))).set 3 (.v (.sc y.q))) (fun y => y.h)
    (by have := S.k; have := bl_len x; show _ < K; simp only; omega) ⟨Ext1.refl _, hx, Own.nil _ _ _ _, rfl⟩ rfl rfl ?_
  clear hx
  rintro ⟨_, y, l, q, hj⟩ ⟨hx, hy, ho, hb⟩ again hag e he
  simp only at hx hy ho hb hag he
  simp only [↓amPre, amPost, ↓s_lit', Nat.reduceAdd, Nat.reduceSub, List.replicate, retA, resultsA, resultA, toC, toCL, Nat.reduceEqDiff] at he
  simp only [↓amPre, amPost, ↓s_lit', Nat.reduceAdd, Nat.reduceSub, List.replicate, retA, resultsA, resultA, toC, toCL, Nat.reduceEqDiff, he]
  by_cases h0 : y = 0
  · subst h0
    rw [bl_zero, List.append_nil] at hb
    rw [hb] at ho
    simp (maxSteps := 1000000) (disch := first | omega | (simp (disch := first | omega | (simp only [gC_len, Edg.len, ixC_len, List.length_append, List.length_cons, List.length_nil, List.length_set]; first | done | omega)) only [gC_len, Edg.len, ixC_len, amSide, Int.reduceToNat, Nat.reducePow, Nat.reduceMul]; first | done | omega)) only  [↓amPre, amPost, ↓s_lit', Nat.reduceAdd, Nat.reduceSub, List.replicate, retA, resultsA, resultA, toC, toCL, Nat.reduceEqDiff, he, append_at (un35 S.p) (sz3 S.p) (by3 S.p) (ze3 S.p) (by decide) (by decide) rfl, copy_at (un35 S.p) (sz3 S.p) (by3 S.p) (ze3 S.p) (by decide) (by decide) rfl, sl_cells (sz3 S.p), lit_fill (un35 S.p) (sz3 S.p) (ze3 S.p), bneI_t, bneI_f]
    exact Ends.some ⟨hx, q, rfl, ho⟩
  · have hst := bl_step h0 hy
    have hn := neq0 h0
    have hs := sub_one h0 hy
    have ha := and_nat y (y - 1) hy (by omega)
    have hal := and_lt (y - 1) hy
    have hTj := tabB_ext hT hx
    have f35 := s35 S (show 1 ≤ d by omega) hy lk hj hTj
    have hll : l.length ≤ 64 := by
      have := bl_len x
      rw [← hb, List.length_append] at this; omega
    have hle := hx.len
    obtain ⟨q2, h2, happ, hown, hl2, _, hx2, _⟩ := grow_own (b := 8) (lk := lk) (ho.push (.rw 3 [.int .i64 (ctz 64 y : Nat)])) [.int .i64 (ctz 64 y : Nat)] (by omega) (by simp) (by simp) (by omega) (by simp; omega) (by rw [recs_len ixC_len]; simp; omega)
    have hx3 := hx2 h (hx.push _) (Nat.le_refl _)
    have hcs : ([.int .i64 (ctz 64 y : Nat)] : List SV) = ixC (ctz 64 y) := rfl
    rw [hcs, recs_snoc] at hown
    simp (maxSteps := 1000000) (disch := first | omega | (simp (disch := first | omega | (simp only [gC_len, Edg.len, ixC_len, List.length_append, List.length_cons, List.length_nil, List.length_set]; first | done | omega)) only [gC_len, Edg.len, ixC_len, amSide, Int.reduceToNat, Nat.reducePow, Nat.reduceMul]; first | done | omega)) only  [↓amPre, amPost, ↓s_lit', Nat.reduceAdd, Nat.reduceSub, List.replicate, retA, resultsA, resultA, toC, toCL, Nat.reduceEqDiff, he, append_at (un35 S.p) (sz3 S.p) (by3 S.p) (ze3 S.p) (by decide) (by decide) rfl, copy_at (un35 S.p) (sz3 S.p) (by3 S.p) (ze3 S.p) (by decide) (by decide) rfl, sl_cells (sz3 S.p), lit_fill (un35 S.p) (sz3 S.p) (ze3 S.p), hn, f35, happ, hs, ha, cells_self, List.flatten_cons, List.flatten_nil, List.append_nil, Nat.one_mul, Nat.zero_mul, splice_one, Nat.zero_add]
    refine hag ⟨0, y &&& (y - 1), l ++ [ctz 64 y], q2, h2⟩ ⟨hx3, hal, hown, ?_⟩ (by simp only [hst, List.length_cons]; omega) _ ?_
    · simp only
      rw [List.append_assoc, List.singleton_append, ← hst]; exact hb
    · simp (maxSteps := 1000000) (disch := first | omega | (simp (disch := first | omega | (simp only [gC_len, Edg.len, ixC_len, List.length_append, List.length_cons, List.length_nil, List.length_set]; first | done | omega)) only [gC_len, Edg.len, ixC_len, amSide, Int.reduceToNat, Nat.reducePow, Nat.reduceMul]; first | done | omega)) only [↓amPre, amPost, ↓s_lit', Nat.reduceAdd, Nat.reduceSub, List.replicate, retA, resultsA, resultA, toC, toCL, Nat.reduceEqDiff, Int.natCast_add, Int.cast_ofNat_Int, dec_t, dec_f]
def hasE (E : List Nat) (a b : Int) : Bool := isN a && (isN b && (E.getD a.toNat 0).testBit b.toNat)
theorem has_bit (x k : Nat) : x / 2 ^ k &&& 1 = if x.testBit k then 1 else 0 := by
  have : (x / 2 ^ k &&& 1) = (x / 2 ^ k) % 2 := Nat.and_one_is_mod _
  rw [this, Nat.testBit_eq_decide_div_mod_eq]
  have := Nat.mod_two_eq_zero_or_one (x / 2 ^ k)
  by_cases h : x / 2 ^ k % 2 = 1
  · simp [h]
  · have : x / 2 ^ k % 2 = 0 := by omega
    simp [this]
set_option maxHeartbeats 4000000 in
theorem s16 {P : Program} {T : Tab} {K d : Nat} (S : Sd P T K) (hd : 2 ≤ d) {E : List Nat} (G : GOk E) (a b : Int) (lk : Nat) (h : List AO) : ev P T K d 16 [.ag (gC E), .sc (.int .i64 a), .sc (.int .i64 b)] lk h = some (.v (.sc (.bool (hasE E a b))), h) := by
  obtain ⟨d, rfl⟩ : ∃ k, d = k + 1 := ⟨d - 1, by omega⟩
  refine ev_pure (at16 S.t) rfl ?_
  unfold i16 Tryd.f16
  have f32 := fun n lk h => s32 S (show 1 ≤ d by omega) n lk h
  have hl := gC_len E
  have hl64 := G.len
  unfold hasE
  cases ha : isN a with
  | false =>
    have fa := f32 a; rw [ha] at fa
    simp (maxSteps := 1000000) (disch := first | omega | (simp (disch := first | omega | (simp only [gC_len, Edg.len, ixC_len, List.length_append, List.length_cons, List.length_nil, List.length_set]; first | done | omega)) only [gC_len, Edg.len, ixC_len, amSide, Int.reduceToNat, Nat.reducePow, Nat.reduceMul]; first | done | omega)) only  [↓amPre, amPost, ↓s_lit', Nat.reduceAdd, Nat.reduceSub, List.replicate, retA, resultsA, resultA, toC, toCL, Nat.reduceEqDiff, (fa33_0 S.p), iaddr_ptr (un31 S.p) (sz30 S.p), part_sc (ag30 S.p), fa, cells_self, cells_other]
    exact Ends.some rfl
  | true =>
    obtain ⟨m, rfl, hm⟩ := isN_t ha
    have fa := f32 m; rw [ha] at fa
    cases hb : isN b with
    | false =>
      have fb := f32 b; rw [hb] at fb
      simp (maxSteps := 1000000) (disch := first | omega | (simp (disch := first | omega | (simp only [gC_len, Edg.len, ixC_len, List.length_append, List.length_cons, List.length_nil, List.length_set]; first | done | omega)) only [gC_len, Edg.len, ixC_len, amSide, Int.reduceToNat, Nat.reducePow, Nat.reduceMul]; first | done | omega)) only  [↓amPre, amPost, ↓s_lit', Nat.reduceAdd, Nat.reduceSub, List.replicate, retA, resultsA, resultA, toC, toCL, Nat.reduceEqDiff, (fa33_0 S.p), iaddr_ptr (un31 S.p) (sz30 S.p), part_sc (ag30 S.p), fa, fb, cells_self, cells_other]
      exact Ends.some rfl
    | true =>
      obtain ⟨k, rfl, hk⟩ := isN_t hb
      have fb := f32 k; rw [hb] at fb
      have hg := gC_at (E := E) (i := m) (by omega)
      have hs := shr_nat (E.getD m 0) k (by omega)
      have hlt : E.getD m 0 / 2 ^ k < 18446744073709551616 := Nat.lt_of_le_of_lt (Nat.div_le_self _ _) (G.lt m)
      have ho := and_nat (E.getD m 0 / 2 ^ k) 1 hlt (by omega)
      rw [has_bit] at ho
      simp only [Int.toNat_natCast, Bool.true_and]
      cases hbit : (E.getD m 0).testBit k with
      | true =>
        rw [hbit] at ho
        have ho' : bitsA .and .u64 ((E.getD m 0 / 2 ^ k : Nat) : Int) 1 = 1 := ho
        simp (maxSteps := 1000000) (disch := first | omega | (simp (disch := first | omega | (simp only [gC_len, Edg.len, ixC_len, List.length_append, List.length_cons, List.length_nil, List.length_set]; first | done | omega)) only [gC_len, Edg.len, ixC_len, amSide, Int.reduceToNat, Nat.reducePow, Nat.reduceMul]; first | done | omega)) only  [↓amPre, amPost, ↓s_lit', Nat.reduceAdd, Nat.reduceSub, List.replicate, retA, resultsA, resultA, toC, toCL, Nat.reduceEqDiff, (fa33_0 S.p), iaddr_ptr (un31 S.p) (sz30 S.p), part_sc (ag30 S.p), fa, fb, hg, ho', hs, cells_self, cells_other, idx_ok, Nat.mul_one, Int.toNat_natCast, Nat.zero_add, beqI_t, beq_self_eq_true]
        exact Ends.some rfl
      | false =>
        rw [hbit] at ho
        have ho' : bitsA .and .u64 ((E.getD m 0 / 2 ^ k : Nat) : Int) 1 = 0 := ho
        simp (maxSteps := 1000000) (disch := first | omega | (simp (disch := first | omega | (simp only [gC_len, Edg.len, ixC_len, List.length_append, List.length_cons, List.length_nil, List.length_set]; first | done | omega)) only [gC_len, Edg.len, ixC_len, amSide, Int.reduceToNat, Nat.reducePow, Nat.reduceMul]; first | done | omega)) only  [↓amPre, amPost, ↓s_lit', Nat.reduceAdd, Nat.reduceSub, List.replicate, retA, resultsA, resultA, toC, toCL, Nat.reduceEqDiff, (fa33_0 S.p), iaddr_ptr (un31 S.p) (sz30 S.p), part_sc (ag30 S.p), fa, fb, hg, ho', hs, cells_self, cells_other, idx_ok, Nat.mul_one, Int.toNat_natCast, Nat.zero_add, beqI_f]
        exact Ends.some rfl
def nextE (E : List Nat) (a : Int) : List Nat := if isN a then bl (E.getD a.toNat 0) else []
theorem s18 {P : Program} {T : Tab} {K d : Nat} (S : Sd P T K) (hd : 3 ≤ d) {E : List Nat} (G : GOk E) (a : Int) (lk : Nat) (h : List AO) (hlk : lk ≤ h.length) (hT : tabB 0 h = true) :
    Ends (fun v h' => Ext1 h h' ∧ ∃ q', v = .v (.sc q') ∧ Rs ixC 1 h' q' (nextE E a)) (ev P T K d 18 [.ag (gC E), .sc (.int .i64 a)] lk h) := by
  obtain ⟨d, rfl⟩ : ∃ k, d = k + 1 := ⟨d - 1, by omega⟩
  rw [ev_run (at18 S.t)]
  unfold i18 Tryd.f18
  have f32 := fun n lk h => s32 S (show 1 ≤ d by omega) n lk h
  have hl := gC_len E
  have hl64 := G.len
  unfold nextE
  cases ha : isN a with
  | false =>
    have fa := f32 a; rw [ha] at fa
    simp (maxSteps := 1000000) (disch := first | omega | (simp (disch := first | omega | (simp only [gC_len, Edg.len, ixC_len, List.length_append, List.length_cons, List.length_nil, List.length_set]; first | done | omega)) only [gC_len, Edg.len, ixC_len, amSide, Int.reduceToNat, Nat.reducePow, Nat.reduceMul]; first | done | omega)) only  [↓amPre, amPost, ↓s_lit', Nat.reduceAdd, Nat.reduceSub, List.replicate, retA, resultsA, resultA, toC, toCL, Nat.reduceEqDiff, (fa33_0 S.p), iaddr_ptr (un31 S.p) (sz30 S.p), part_sc (ag30 S.p), fa]
    exact Ends.some ⟨(Ext1.refl h).push _, _, rfl, .inl ⟨rfl, rfl⟩⟩
  | true =>
    obtain ⟨m, rfl, hm⟩ := isN_t ha
    have fa := f32 m; rw [ha] at fa
    have hg := gC_at (E := E) (i := m) (by omega)
    obtain ⟨v1, h1, e1, hx1, q', rfl, hown⟩ := s23 S (show 2 ≤ d by omega) (G.lt m) lk (h ++ [.rw 33 (gC E)]) (by simp; omega) (tabB_ext hT ((Ext1.refl h).push _))
    simp (maxSteps := 1000000) (disch := first | omega | (simp (disch := first | omega | (simp only [gC_len, Edg.len, ixC_len, List.length_append, List.length_cons, List.length_nil, List.length_set]; first | done | omega)) only [gC_len, Edg.len, ixC_len, amSide, Int.reduceToNat, Nat.reducePow, Nat.reduceMul]; first | done | omega)) only  [↓amPre, amPost, ↓s_lit', Nat.reduceAdd, Nat.reduceSub, List.replicate, retA, resultsA, resultA, toC, toCL, Nat.reduceEqDiff, (fa33_0 S.p), iaddr_ptr (un31 S.p) (sz30 S.p), part_sc (ag30 S.p), fa, hg, e1, cells_self, cells_other, idx_ok, Nat.mul_one, Int.toNat_natCast, Nat.zero_add]
    exact Ends.some ⟨((Ext1.refl h).push _).trans hx1, _, rfl, hown.rs (by omega) ixC_len⟩
end Go.AM
