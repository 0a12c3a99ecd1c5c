/- Races: a cell that one lock is owned at each access to is never Bare; one that just one thread accesses is Fresh or Own. Conditions: none. -/
import Derived.Test.YtgcgbcdgbfeaaaaRb1
import Derived.Test.YtgcgbcdgbfeaaaaRa9
set_option linter.unusedVariables false
set_option linter.unusedSimpArgs false
set_option maxRecDepth 100000
namespace Go.AM
open Go.Proofs
-- LENS: freeL_ck, ck_len, AcV.len, AcV.hk, PrV.len, StV.len
theorem shl_bit {n : Nat} (h : n < 64) : shiftA .shl .u64 1 (n : Int) = some (.int .u64 ((2 ^ n : Nat) : Int)) := by
  have h2 := pow_lt64 h
  have h3 : (0 : Int) ≤ ((2 ^ n : Nat) : Int) := Int.natCast_nonneg _
  unfold shiftA
  rw [if_neg (by omega)]
  simp only [Int.toNat_natCast, Option.some.injEq, SV.int.injEq, true_and]
  rw [show min n IntKind.u64.bits = n from Nat.min_eq_left (by show n ≤ 64; omega), Int.one_mul, show ((2 : Int) ^ n) = ((2 ^ n : Nat) : Int) by simp]
  generalize ((2 ^ n : Nat) : Int) = m at h2 h3
  exact wrap_u64 h3 (by omega)
theorem tmod64 {a : Int} (h0 : 0 ≤ a) (h1 : a < 256) : ∃ n : Nat, n < 64 ∧ a.tmod 64 = (n : Int) := by
  refine ⟨(a % 64).toNat, by omega, ?_⟩
  rw [Int.tmod_eq_emod_of_nonneg h0]
  omega
/-- Two own slices of all accesses. -/
structure Two (P : Program) (l : List AcV) (h0 h1 h2 : List AO) (q1 q2 : SV) (b1 b2 : Nat) : Prop where
  s1 : h2.set b1 (.rw 41 (recs AcV.cells l)) = h2
  s2 : h2.set b2 (.rw 41 (recs AcV.cells l)) = h2
  ne : b1 ≠ b2
  on1 : 0 < l.length → q1 = .sl b1 0 l.length 12 ∧ b1 < h2.length ∧ h0.length ≤ b1
  on2 : 0 < l.length → q2 = .sl b2 0 l.length 12 ∧ b2 < h2.length ∧ h0.length ≤ b2
theorem set_no {h : List AO} {b : Nat} (hb : h.length ≤ b) (o : AO) : h.set b o = h := List.set_eq_of_length_le hb
theorem set_get {h : List AO} {b : Nat} {o : AO} (hb : h[b]? = some o) : h.set b o = h := by
  apply List.ext_getElem?
  intro j
  rw [List.getElem?_set]
  split
  · rename_i e; subst e
    rw [if_pos (List.getElem?_eq_some_iff.1 hb).1]; exact hb.symm
  · rfl
theorem two_of {P : Program} {l : List AcV} {h0 h1 h2 : List AO} {q1 q2 : SV} (hx : Ext1 h0 h1) (hx2 : Ext1 h1 h2) (o1 : Own 41 12 h0.length h1 q1 (recs AcV.cells l)) (o2 : Own 41 12 h1.length h2 q2 (recs AcV.cells l)) : ∃ b1 b2, Two P l h0 h1 h2 q1 q2 b1 b2 := by
  have hl := recs_len AcV.len l
  rcases o1 with ⟨rfl, hz⟩ | ⟨b1, c1, c2, rfl, c4, c5⟩
  · have h0l : l.length = 0 := by rw [hz] at hl; simp at hl; omega
    exact ⟨h2.length, h2.length + 1, set_no (by omega) _, set_no (by omega) _, by omega, fun h => by omega, fun h => by omega⟩
  · rcases o2 with ⟨rfl, hz⟩ | ⟨b2, d1, d2, rfl, d4, d5⟩
    · have h0l : l.length = 0 := by rw [hz] at hl; simp at hl; omega
      exact ⟨h2.length, h2.length + 1, set_no (by omega) _, set_no (by omega) _, by omega, fun h => by omega, fun h => by omega⟩
    · have := hx.len
      have := hx2.len
      refine ⟨b1, b2, set_get (ext1_get hx2 c4), set_get d4, by omega, fun h => ⟨by rw [hl, Nat.mul_div_cancel _ (by omega)], by omega, by omega⟩, fun h => ⟨by rw [hl, Nat.mul_div_cancel _ (by omega)], by omega, by omega⟩⟩
theorem setT_put (t : Int) (x : AcV) : x.cells.set 0 (.int .i64 t) = (setT t x).cells := nrfl rfl
theorem orL_put (b : Int) (x : AcV) : x.cells.set 11 (.int .u64 (bitsA .or .u64 x.L b)) = (orL b x).cells := by
  obtain ⟨t, c, w, k, L, hk⟩ := x
  match k, hk with
  | [a, b1, c1, d, e, f, g, h], _ => rfl
theorem cellsAt_set {h : List AO} {b : Nat} (hb : b < h.length) (e : TypeId) (c : List SV) : cellsAt (h.set b (.rw e c)) b = some c := by
  unfold cellsAt; rw [List.getElem?_set_self hb]
/-- A cell of an own block is written. -/
theorem store_cell {P : Program} {t e : TypeId} (hs : szT P t = some 1) {h : List AO} {b lk : Nat} {cs : List SV} (g : h[b]? = some (.rw e cs)) (hk : lk ≤ b) (o : Nat) (ho : o < cs.length) (x : SV) :
    storeA P h lk t (.v (.sc (.ptr b o))) (.v (.sc x)) = some (h.set b (.rw e (cs.set o x))) := by
  rw [store_at (c := .sc x) (o := o) g hk hs rfl (by omega)]
  show some (h.set b (AO.rw e (splice cs o [x]))) = _
  rw [splice_one _ _ _ ho]
set_option maxHeartbeats 16000000 in
theorem s5 {P : Program} {T : Tab} {K d : Nat} (S : Sd P T K) (hd : 8 ≤ d) (q : SV) (l : List AcV) (hw : cWf l) (a t : Int) (ha : (Lit.int .u8 a).wf = true) (lk : Nat) (h : List AO) (hq : Rs AcV.cells 12 h q l) :
    ev P T K d 5 [.sc q, .sc (.int .u8 a), .sc (.int .i64 t)] lk h = some (.v (.sc (.bool true)), h) := by
  obtain ⟨d, rfl⟩ : ∃ k, d = k + 1 := ⟨d - 1, by omega⟩
  refine ev_pure (at5 S.t) rfl ?_
  unfold i5 Try.f5
  have e0 := s14 S (show 1 ≤ d by omega) q l h.length h hq
  have f15 := fun lk h => s15 S (show 7 ≤ d by omega) lk h
  obtain ⟨m, hm, hma⟩ := tmod64 (wfU8 ha).1 (wfU8 ha).2
  have hsh := shl_bit hm
  obtain ⟨hbit0, hbit1⟩ := pow_lt64 hm
  have hbitn : (0 : Int) ≤ ((2 ^ m : Nat) : Int) := Int.natCast_nonneg _
  generalize ((2 ^ m : Nat) : Int) = bit at *
  by_cases hc : 40 < l.length
  · rw [dec_t hc] at e0
    simp (maxSteps := 1000000) (disch := first | omega | (simp (disch := first | omega | (simp only [freeL_ck, ck_len, AcV.len, AcV.hk, PrV.len, StV.len, List.length_append, List.length_cons, List.length_nil, List.length_set]; first | done | omega)) only [freeL_ck, ck_len, AcV.len, AcV.hk, PrV.len, StV.len, amSide, Int.reduceToNat, Nat.reducePow, Nat.reduceMul]; first | done | omega)) only  [↓amPre, amPost, ↓s_lit', Nat.reduceAdd, Nat.reduceSub, List.replicate, retA, resultsA, resultA, toC, toCL, Nat.reduceEqDiff, (fd45_0 S.p), part_sc (ag3 S.p), (fa41_0 S.p), (fa41_1 S.p), (fa41_4 S.p), iaddr_sl (un27 S.p) (sz41 S.p), len_sl (un27 S.p), len_nils (un27 S.p), len_sl (un47 S.p), len_nils (un47 S.p), part_sc (ag39 S.p), slice_lo (un27 S.p) (sz41 S.p), slice_hi (un27 S.p) (sz41 S.p), slice_lohi (un27 S.p) (sz41 S.p), slice_nil (un27 S.p) (sz41 S.p), slice_none (un27 S.p), sliceE_lohi (un27 S.p) (sz41 S.p) (by decide), sliceE_hi (un27 S.p) (sz41 S.p) (by decide), slice_mx (un27 S.p), sliceE_mx (un27 S.p) (sz41 S.p) (by decide), store_last (sz3 S.p), (sz3 S.p), store_last (sz39 S.p), (sz39 S.p), e0, f15]
    exact Ends.some rfl
  · rw [dec_f hc] at e0
    have hl : l.length ≤ 300 := by omega
    obtain ⟨v1, h1, e1, hx1, q1, rfl, o1⟩ := s17 S (show 1 ≤ d by omega) q l hl h.length h (Nat.le_refl _) hq
    obtain ⟨v2, h2, e2, hx2, q2, rfl, o2⟩ := s17 S (show 1 ≤ d by omega) q l hl h.length h1 hx1.len (hq.ext hx1)
    obtain ⟨b1, b2, W⟩ := two_of (P := P) hx1 hx2 o1 o2
    have n1 := (o1.rs (by omega) AcV.len).len (un27 S.p)
    have n2 := (o2.rs (by omega) AcV.len).len (un27 S.p)
    have hle : h.length ≤ h2.length := by have := hx1.len; have := hx2.len; omega
    have rs0 := (o1.rs (by omega) AcV.len).ext hx2
    clear o1 o2
    obtain ⟨G1, hG1⟩ : ∃ G : Nat → List AO, ∀ i, G i = h2.set b1 (.rw 41 (recs AcV.cells (chg (orL bit) l i))) := ⟨_, fun _ => rfl⟩
    have G10 : h2 = G1 0 := by rw [hG1, chg_zero, W.s1]
    have G1l : ∀ i, (G1 i).length = h2.length := fun i => by rw [hG1, List.length_set]
    have h64 : ¬ ((64 : Int) = 0) := by omega
    simp (maxSteps := 1000000) (disch := first | omega | (simp (disch := first | omega | (simp only [freeL_ck, ck_len, AcV.len, AcV.hk, PrV.len, StV.len, List.length_append, List.length_cons, List.length_nil, List.length_set]; first | done | omega)) only [freeL_ck, ck_len, AcV.len, AcV.hk, PrV.len, StV.len, amSide, Int.reduceToNat, Nat.reducePow, Nat.reduceMul]; first | done | omega)) only  [↓amPre, amPost, ↓s_lit', Nat.reduceAdd, Nat.reduceSub, List.replicate, retA, resultsA, resultA, toC, toCL, Nat.reduceEqDiff, (fd45_0 S.p), part_sc (ag3 S.p), (fa41_0 S.p), (fa41_1 S.p), (fa41_4 S.p), iaddr_sl (un27 S.p) (sz41 S.p), len_sl (un27 S.p), len_nils (un27 S.p), len_sl (un47 S.p), len_nils (un47 S.p), part_sc (ag39 S.p), slice_lo (un27 S.p) (sz41 S.p), slice_hi (un27 S.p) (sz41 S.p), slice_lohi (un27 S.p) (sz41 S.p), slice_nil (un27 S.p) (sz41 S.p), slice_none (un27 S.p), sliceE_lohi (un27 S.p) (sz41 S.p) (by decide), sliceE_hi (un27 S.p) (sz41 S.p) (by decide), slice_mx (un27 S.p), sliceE_mx (un27 S.p) (sz41 S.p) (by decide), store_last (sz3 S.p), (sz3 S.p), store_last (sz39 S.p), (sz39 S.p), e0, e1, e2, hma, h64, hsh, n1]
    refine ends_loop (X := ThN) ⟨0⟩ [10, 26, 27, 28, 29, 30, 31, 32, 33, 34, 35, 36, 37] (fun x => x.i ≤ l.length) (fun x => l.length - x.i)
      (fun x e => e.set 25 (.v (.sc (.int .i64 x.i)))) (fun x => G1 x.i)
      (by have := S.k; show _ < K; simp only; omega) (by simp only; omega) rfl G10 ?_
    rintro ⟨i⟩ hi again hag e he
    simp only at hi hag he
    simp only [↓amPre, amPost, ↓s_lit', Nat.reduceAdd, Nat.reduceSub, List.replicate, retA, resultsA, resultA, toC, toCL, Nat.reduceEqDiff] at he
    simp only [↓amPre, amPost, ↓s_lit', Nat.reduceAdd, Nat.reduceSub, List.replicate, retA, resultsA, resultA, toC, toCL, Nat.reduceEqDiff, he]
    refine ends_cond (fun hc1 => ?_) (fun hc1 => ?_)
    · simp only [decide_eq_true_eq] at hc1
      have hio : i < l.length := by omega
      obtain ⟨rfl, hb1, hb0⟩ := W.on1 (by omega)
      obtain ⟨y, hy⟩ : ∃ y, l[i]? = some y := ⟨_, List.getElem?_eq_getElem hio⟩
      have hyc := chg_at (f := orL bit) hy
      have c1 : cellsAt (G1 i) b1 = some (recs AcV.cells (chg (orL bit) l i)) := by rw [hG1]; exact cellsAt_set hb1 _ _
      have p1 := recs_get AcV.len hyc 11 (by omega)
      rw [AcV.c11] at p1
      have g1 : (G1 i)[b1]? = some (.rw 41 (recs AcV.cells (chg (orL bit) l i))) := by rw [hG1]; exact List.getElem?_set_self hb1
      have hle1 := recs_le AcV.len hyc
      have st := store_cell (sz39 S.p) (lk := h.length) g1 hb0 (i * 12 + 11) (by omega) (.int .u64 (bitsA .or .u64 y.L bit))
      rw [recs_put AcV.len hyc 11 (by omega) _ (orL bit y) (orL_put bit y), chg_put hy] at st
      have hnx : (G1 i).set b1 (AO.rw 41 (recs AcV.cells (chg (orL bit) l (i + 1)))) = G1 (i + 1) := by rw [hG1, hG1, List.set_set]
      rw [hnx] at st
      simp (maxSteps := 1000000) (disch := first | omega | (simp (disch := first | omega | (simp only [freeL_ck, ck_len, AcV.len, AcV.hk, PrV.len, StV.len, List.length_append, List.length_cons, List.length_nil, List.length_set]; first | done | omega)) only [freeL_ck, ck_len, AcV.len, AcV.hk, PrV.len, StV.len, amSide, Int.reduceToNat, Nat.reducePow, Nat.reduceMul]; first | done | omega)) only  [↓amPre, amPost, ↓s_lit', Nat.reduceAdd, Nat.reduceSub, List.replicate, retA, resultsA, resultA, toC, toCL, Nat.reduceEqDiff, he, (fd45_0 S.p), part_sc (ag3 S.p), (fa41_0 S.p), (fa41_1 S.p), (fa41_4 S.p), iaddr_sl (un27 S.p) (sz41 S.p), len_sl (un27 S.p), len_nils (un27 S.p), len_sl (un47 S.p), len_nils (un47 S.p), part_sc (ag39 S.p), slice_lo (un27 S.p) (sz41 S.p), slice_hi (un27 S.p) (sz41 S.p), slice_lohi (un27 S.p) (sz41 S.p), slice_nil (un27 S.p) (sz41 S.p), slice_none (un27 S.p), sliceE_lohi (un27 S.p) (sz41 S.p) (by decide), sliceE_hi (un27 S.p) (sz41 S.p) (by decide), slice_mx (un27 S.p), sliceE_mx (un27 S.p) (sz41 S.p) (by decide), store_last (sz3 S.p), (sz3 S.p), store_last (sz39 S.p), (sz39 S.p), idx_ok, c1, p1, st, Int.toNat_natCast, wrap_i64]
      refine hag ⟨i + 1⟩ (by simp only; omega) (by simp only; omega) _ ?_
      simp (maxSteps := 1000000) (disch := first | omega | (simp (disch := first | omega | (simp only [freeL_ck, ck_len, AcV.len, AcV.hk, PrV.len, StV.len, List.length_append, List.length_cons, List.length_nil, List.length_set]; first | done | omega)) only [freeL_ck, ck_len, AcV.len, AcV.hk, PrV.len, StV.len, amSide, Int.reduceToNat, Nat.reducePow, Nat.reduceMul]; first | done | omega)) only [↓amPre, amPost, ↓s_lit', Nat.reduceAdd, Nat.reduceSub, List.replicate, retA, resultsA, resultA, toC, toCL, Nat.reduceEqDiff, Int.natCast_add, Int.cast_ofNat_Int, dec_t, dec_f]
    · simp only [decide_eq_false_iff_not] at hc1
      obtain rfl : i = l.length := by omega
      clear hag
      have hmap : ∀ x ∈ l.map (orL bit), andV x.L bit = bit := by
        intro x hx
        obtain ⟨z, _, rfl⟩ := List.mem_map.1 hx
        exact andV_or hbitn hbit1
      have hwm : cWf (l.map (orL bit)) := by
        intro x hx
        obtain ⟨z, hz, rfl⟩ := List.mem_map.1 hx
        exact hw z hz
      obtain ⟨G2, hG2⟩ : ∃ G : Nat → List AO, ∀ i, G i = (G1 l.length).set b2 (.rw 41 (recs AcV.cells (chg (setT t) l i))) := ⟨_, fun _ => rfl⟩
      have G20 : G1 l.length = G2 0 := by rw [hG2, chg_zero, hG1, List.set_comm _ _ W.ne, W.s2]
      have G2l : ∀ i, (G2 i).length = h2.length := fun i => by rw [hG2, List.length_set, G1l]
      simp (maxSteps := 1000000) (disch := first | omega | (simp (disch := first | omega | (simp only [freeL_ck, ck_len, AcV.len, AcV.hk, PrV.len, StV.len, List.length_append, List.length_cons, List.length_nil, List.length_set]; first | done | omega)) only [freeL_ck, ck_len, AcV.len, AcV.hk, PrV.len, StV.len, amSide, Int.reduceToNat, Nat.reducePow, Nat.reduceMul]; first | done | omega)) only  [↓amPre, amPost, ↓s_lit', Nat.reduceAdd, Nat.reduceSub, List.replicate, retA, resultsA, resultA, toC, toCL, Nat.reduceEqDiff, he, (fd45_0 S.p), part_sc (ag3 S.p), (fa41_0 S.p), (fa41_1 S.p), (fa41_4 S.p), iaddr_sl (un27 S.p) (sz41 S.p), len_sl (un27 S.p), len_nils (un27 S.p), len_sl (un47 S.p), len_nils (un47 S.p), part_sc (ag39 S.p), slice_lo (un27 S.p) (sz41 S.p), slice_hi (un27 S.p) (sz41 S.p), slice_lohi (un27 S.p) (sz41 S.p), slice_nil (un27 S.p) (sz41 S.p), slice_none (un27 S.p), sliceE_lohi (un27 S.p) (sz41 S.p) (by decide), sliceE_hi (un27 S.p) (sz41 S.p) (by decide), slice_mx (un27 S.p), sliceE_mx (un27 S.p) (sz41 S.p) (by decide), store_last (sz3 S.p), (sz3 S.p), store_last (sz39 S.p), (sz39 S.p), n2]
      refine ends_loop (X := ThN) ⟨0⟩ [6, 11, 12, 41, 42, 43, 44, 45, 46, 47, 48, 49, 50, 51, 52, 53, 54, 55, 56, 57, 58, 59, 60, 61, 62, 63, 64, 65] (fun x => x.i ≤ l.length) (fun x => l.length - x.i)
        (fun x e => e.set 40 (.v (.sc (.int .i64 x.i)))) (fun x => G2 x.i)
        (by have := S.k; show _ < K; simp only; omega) (by simp only; omega) rfl G20 ?_
      clear he
      rintro ⟨i⟩ hi again hag e he
      simp only at hi hag he
      simp only [↓amPre, amPost, ↓s_lit', Nat.reduceAdd, Nat.reduceSub, List.replicate, retA, resultsA, resultA, toC, toCL, Nat.reduceEqDiff] at he
      simp only [↓amPre, amPost, ↓s_lit', Nat.reduceAdd, Nat.reduceSub, List.replicate, retA, resultsA, resultA, toC, toCL, Nat.reduceEqDiff, he]
      refine ends_cond (fun hc1 => ?_) (fun hc1 => ?_)
      · simp only [decide_eq_true_eq] at hc1
        have hio : i < l.length := by omega
        obtain ⟨rfl, hb2, hb0⟩ := W.on2 (by omega)
        obtain ⟨y, hy⟩ : ∃ y, l[i]? = some y := ⟨_, List.getElem?_eq_getElem hio⟩
        have hyc := chg_at (f := setT t) hy
        have hle1 := recs_le AcV.len hyc
        have hb2l : b2 < (G1 l.length).length := by rw [G1l]; exact hb2
        have g1 : (G2 i)[b2]? = some (.rw 41 (recs AcV.cells (chg (setT t) l i))) := by rw [hG2]; exact List.getElem?_set_self hb2l
        have g2 : (G2 (i + 1))[b2]? = some (.rw 41 (recs AcV.cells (chg (setT t) l (i + 1)))) := by rw [hG2]; exact List.getElem?_set_self hb2l
        have c2 : cellsAt (G2 (i + 1)) b2 = some (recs AcV.cells (chg (setT t) l (i + 1))) := by rw [hG2]; exact cellsAt_set hb2l _ _
        have st := store_cell (sz3 S.p) (lk := h.length) g1 hb0 (i * 12) (by omega) (.int .i64 t)
        have pu := recs_put AcV.len hyc 0 (by omega) _ (setT t y) (setT_put t y)
        rw [Nat.add_zero] at pu
        rw [pu, chg_put hy] at st
        have hnx : (G2 i).set b2 (AO.rw 41 (recs AcV.cells (chg (setT t) l (i + 1)))) = G2 (i + 1) := by rw [hG2, hG2, List.set_set]
        rw [hnx] at st
        have hyn : (chg (setT t) l (i + 1))[i]? = some (setT t y) := by rw [← chg_put hy]; exact List.getElem?_set_self (by rw [chg_len]; exact hio)
        have p1 := recs_get AcV.len hyn 1 (by omega)
        rw [AcV.c1, show (setT t y).c = y.c from rfl] at p1
        have hpl : ((l.take (i + 1)).map (setT t)).length = i + 1 := by rw [List.length_map, List.length_take]; omega
        have hrp : Rp AcV.cells 12 (G2 (i + 1)) (.sl b2 0 (i + 1) 12) ((l.take (i + 1)).map (setT t)) := .inr ⟨b2, l.drop (i + 1), by rw [hpl], by rw [G2l]; exact hb2, c2⟩
        have e22 := fun lk => s22 S (show 4 ≤ d by omega) _ _ (by omega) y.c lk _ hrp
        have hti : ((i : Int) + 1).toNat = i + 1 := by omega
        have hone := oneV (l := (l.take (i + 1)).map (setT t)) (t := t) (fun x hx => by obtain ⟨z, _, rfl⟩ := List.mem_map.1 hx; rfl) y.c ((l.take (i + 1)).map (setT t)).length
        have sc0 := StV.c0 (cellV ((l.take (i + 1)).map (setT t)) y.c ((l.take (i + 1)).map (setT t)).length)
        have hle2 := recs_le AcV.len hyn
        have hsl := sliceE_hi (h := G2 (i + 1)) (un27 S.p) (sz41 S.p) (by omega) b2 0 l.length .i64 ((i : Int) + 1) g2 (by omega) (by omega)
        rw [hti] at hsl
        generalize cellV ((l.take (i + 1)).map (setT t)) y.c ((l.take (i + 1)).map (setT t)).length = s at e22 hone sc0
        rcases hone with h0 | ⟨h0, _⟩
        · rw [h0] at sc0
          simp (maxSteps := 1000000) (disch := first | omega | (simp (disch := first | omega | (simp only [freeL_ck, ck_len, AcV.len, AcV.hk, PrV.len, StV.len, List.length_append, List.length_cons, List.length_nil, List.length_set]; first | done | omega)) only [freeL_ck, ck_len, AcV.len, AcV.hk, PrV.len, StV.len, amSide, Int.reduceToNat, Nat.reducePow, Nat.reduceMul]; first | done | omega)) only  [↓amPre, amPost, ↓s_lit', Nat.reduceAdd, Nat.reduceSub, List.replicate, retA, resultsA, resultA, toC, toCL, Nat.reduceEqDiff, he, (fd45_0 S.p), part_sc (ag3 S.p), (fa41_0 S.p), (fa41_1 S.p), (fa41_4 S.p), iaddr_sl (un27 S.p) (sz41 S.p), len_sl (un27 S.p), len_nils (un27 S.p), len_sl (un47 S.p), len_nils (un47 S.p), part_sc (ag39 S.p), slice_lo (un27 S.p) (sz41 S.p), slice_hi (un27 S.p) (sz41 S.p), slice_lohi (un27 S.p) (sz41 S.p), slice_nil (un27 S.p) (sz41 S.p), slice_none (un27 S.p), sliceE_lohi (un27 S.p) (sz41 S.p) (by decide), sliceE_hi (un27 S.p) (sz41 S.p) (by decide), slice_mx (un27 S.p), sliceE_mx (un27 S.p) (sz41 S.p) (by decide), store_last (sz3 S.p), (sz3 S.p), store_last (sz39 S.p), (sz39 S.p), idx_ok, c2, p1, st, hti, hsl, e22, effQ_some _ (StV.fr s), sc0, bneI_t, bneI_f, Int.toNat_natCast, Nat.add_zero, wrap_i64]
          refine hag ⟨i + 1⟩ (by simp only; omega) (by simp only; omega) _ ?_
          simp (maxSteps := 1000000) (disch := first | omega | (simp (disch := first | omega | (simp only [freeL_ck, ck_len, AcV.len, AcV.hk, PrV.len, StV.len, List.length_append, List.length_cons, List.length_nil, List.length_set]; first | done | omega)) only [freeL_ck, ck_len, AcV.len, AcV.hk, PrV.len, StV.len, amSide, Int.reduceToNat, Nat.reducePow, Nat.reduceMul]; first | done | omega)) only [↓amPre, amPost, ↓s_lit', Nat.reduceAdd, Nat.reduceSub, List.replicate, retA, resultsA, resultA, toC, toCL, Nat.reduceEqDiff, Int.natCast_add, Int.cast_ofNat_Int, dec_t, dec_f]
        · rw [h0] at sc0
          simp (maxSteps := 1000000) (disch := first | omega | (simp (disch := first | omega | (simp only [freeL_ck, ck_len, AcV.len, AcV.hk, PrV.len, StV.len, List.length_append, List.length_cons, List.length_nil, List.length_set]; first | done | omega)) only [freeL_ck, ck_len, AcV.len, AcV.hk, PrV.len, StV.len, amSide, Int.reduceToNat, Nat.reducePow, Nat.reduceMul]; first | done | omega)) only  [↓amPre, amPost, ↓s_lit', Nat.reduceAdd, Nat.reduceSub, List.replicate, retA, resultsA, resultA, toC, toCL, Nat.reduceEqDiff, he, (fd45_0 S.p), part_sc (ag3 S.p), (fa41_0 S.p), (fa41_1 S.p), (fa41_4 S.p), iaddr_sl (un27 S.p) (sz41 S.p), len_sl (un27 S.p), len_nils (un27 S.p), len_sl (un47 S.p), len_nils (un47 S.p), part_sc (ag39 S.p), slice_lo (un27 S.p) (sz41 S.p), slice_hi (un27 S.p) (sz41 S.p), slice_lohi (un27 S.p) (sz41 S.p), slice_nil (un27 S.p) (sz41 S.p), slice_none (un27 S.p), sliceE_lohi (un27 S.p) (sz41 S.p) (by decide), sliceE_hi (un27 S.p) (sz41 S.p) (by decide), slice_mx (un27 S.p), sliceE_mx (un27 S.p) (sz41 S.p) (by decide), store_last (sz3 S.p), (sz3 S.p), store_last (sz39 S.p), (sz39 S.p), idx_ok, c2, p1, st, hti, hsl, e22, effQ_some _ (StV.fr s), sc0, bneI_t, bneI_f, Int.toNat_natCast, Nat.add_zero, wrap_i64]
          refine hag ⟨i + 1⟩ (by simp only; omega) (by simp only; omega) _ ?_
          simp (maxSteps := 1000000) (disch := first | omega | (simp (disch := first | omega | (simp only [freeL_ck, ck_len, AcV.len, AcV.hk, PrV.len, StV.len, List.length_append, List.length_cons, List.length_nil, List.length_set]; first | done | omega)) only [freeL_ck, ck_len, AcV.len, AcV.hk, PrV.len, StV.len, amSide, Int.reduceToNat, Nat.reducePow, Nat.reduceMul]; first | done | omega)) only [↓amPre, amPost, ↓s_lit', Nat.reduceAdd, Nat.reduceSub, List.replicate, retA, resultsA, resultA, toC, toCL, Nat.reduceEqDiff, Int.natCast_add, Int.cast_ofNat_Int, dec_t, dec_f]
      · simp only [decide_eq_false_iff_not] at hc1
        obtain rfl : i = l.length := by omega
        clear hag
        have hrs : Rs AcV.cells 12 (G2 l.length) q1 (l.map (orL bit)) := by
          by_cases hz : 0 < l.length
          · obtain ⟨rfl, hb1, _⟩ := W.on1 hz
            refine .inr ⟨b1, by rw [List.length_map], by rw [G2l]; exact hb1, ?_⟩
            unfold cellsAt
            rw [hG2, List.getElem?_set_ne (Ne.symm W.ne), hG1, List.getElem?_set_self hb1, chg_all]
          · have hl0 : l = [] := List.eq_nil_of_length_eq_zero (by omega)
            have hz0 : l.length = 0 := by omega
            have hG : G2 l.length = h2 := by
              rw [hz0, ← G20, hz0, ← G10]
            rw [hG, show l.map (orL bit) = l by rw [hl0]; rfl]
            exact rs0
        obtain ⟨v4, h4, e4, hx4, u, rfl, hu⟩ := s23 S (show 1 ≤ d by omega) q1 _ (by rw [List.length_map]; exact hl) hwm h.length _ (by rw [G2l]; exact hle) hrs
        have hlen4 := hu.len (un47 S.p)
        rw [bareL_locks hwm (Ne.symm hbit0) hmap] at hlen4
        simp (maxSteps := 1000000) (disch := first | omega | (simp (disch := first | omega | (simp only [freeL_ck, ck_len, AcV.len, AcV.hk, PrV.len, StV.len, List.length_append, List.length_cons, List.length_nil, List.length_set]; first | done | omega)) only [freeL_ck, ck_len, AcV.len, AcV.hk, PrV.len, StV.len, amSide, Int.reduceToNat, Nat.reducePow, Nat.reduceMul]; first | done | omega)) only  [↓amPre, amPost, ↓s_lit', Nat.reduceAdd, Nat.reduceSub, List.replicate, retA, resultsA, resultA, toC, toCL, Nat.reduceEqDiff, he, (fd45_0 S.p), part_sc (ag3 S.p), (fa41_0 S.p), (fa41_1 S.p), (fa41_4 S.p), iaddr_sl (un27 S.p) (sz41 S.p), len_sl (un27 S.p), len_nils (un27 S.p), len_sl (un47 S.p), len_nils (un47 S.p), part_sc (ag39 S.p), slice_lo (un27 S.p) (sz41 S.p), slice_hi (un27 S.p) (sz41 S.p), slice_lohi (un27 S.p) (sz41 S.p), slice_nil (un27 S.p) (sz41 S.p), slice_none (un27 S.p), sliceE_lohi (un27 S.p) (sz41 S.p) (by decide), sliceE_hi (un27 S.p) (sz41 S.p) (by decide), slice_mx (un27 S.p), sliceE_mx (un27 S.p) (sz41 S.p) (by decide), store_last (sz3 S.p), (sz3 S.p), store_last (sz39 S.p), (sz39 S.p), e4, hlen4, f15, beqI_t]
        exact Ends.some rfl
end Go.AM
