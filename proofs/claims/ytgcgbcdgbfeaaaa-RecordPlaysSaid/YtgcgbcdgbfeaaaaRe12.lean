/- Records: the law of counts. Conditions: none. -/
import Derived.Test.YtgcgbcdgbfeaaaaRe11
set_option linter.unusedVariables false
set_option linter.unusedSimpArgs false
set_option maxRecDepth 100000
namespace Go.AM
open Go.Proofs
-- LENS: Rec.len, StV.len
/-- Records at a block's beginning. -/
def Rp {α : Type} (f : α → List SV) (s : Nat) (h : List AO) (q : SV) (l : List α) : Prop := (q = .nils ∧ l = []) ∨ ∃ b g, q = .sl b 0 l.length s ∧ b < h.length ∧ cellsAt h b = some (recs f l ++ g)
theorem Rp.ext {α : Type} {f : α → List SV} {s : Nat} {h h' : List AO} {q : SV} {l : List α} (H : Rp f s h q l) (hx : Ext1 h h') : Rp f s h' q l := by
  rcases H with ⟨h1, h2⟩ | ⟨b, g, h1, h2, h3⟩
  · exact .inl ⟨h1, h2⟩
  · exact .inr ⟨b, g, h1, Nat.lt_of_lt_of_le h2 hx.len, by rw [hx.cells h2]; exact h3⟩
theorem Rp.at {α : Type} {f : α → List SV} {s : Nat} {h : List AO} {q : SV} {l : List α} (H : Rp f s h q l) (h0 : 0 < l.length) : ∃ b g, q = .sl b 0 l.length s ∧ b < h.length ∧ cellsAt h b = some (recs f l ++ g) := by
  rcases H with ⟨_, rfl⟩ | H
  · simp at h0
  · exact H
theorem Rp.len {α : Type} {f : α → List SV} {s : Nat} {P : Program} {t el : TypeId} (hu : P.underlying t = some (.slice el)) {h : List AO} {q : SV} {l : List α} (H : Rp f s h q l) (hh : List AO) : lenA P hh t (.v (.sc q)) = some (.v (.sc (.int .i64 (l.length : Int)))) := by
  rcases H with ⟨rfl, rfl⟩ | ⟨b, g, rfl, _, _⟩
  · exact len_nils hu
  · exact len_sl hu _ _ _ _
theorem s30 {P : Program} {T : Tab} {K d : Nat} (S : Sd P T K) (hd : 1 ≤ d) (q : SV) (xs : List StV) (h : List AO) (hq : Rs StV.cells 3 h q xs) :
    ∃ q', (∀ lk h', ev P T K d 30 [.sc q] lk h' = some (.v (.sc q'), h')) ∧ Rp StV.cells 3 h q' (xs.take 200) := by
  obtain ⟨d, rfl⟩ : ∃ k, d = k + 1 := ⟨d - 1, by omega⟩
  have hlen := hq.len (un50 S.p)
  rcases hq with ⟨rfl, rfl⟩ | ⟨b, rfl, hb, hc⟩
  · refine ⟨.nils, fun lk h' => ?_, .inl ⟨rfl, by simp⟩⟩
    rw [ev_run (at30 S.t)]
    unfold i30 Try.f30
    have hm0 : ¬ (200 : Int) < ((([] : List StV).length : Nat) : Int) := by simp
    simp (maxSteps := 1000000) (disch := first | omega | (simp (disch := first | omega | (simp only [Rec.len, StV.len, List.length_append, List.length_cons, List.length_nil, List.length_set]; first | done | omega)) only [Rec.len, StV.len, amSide, Int.reduceToNat, Nat.reducePow, Nat.reduceMul]; first | done | omega)) only  [↓amPre, amPost, ↓s_lit', Nat.reduceAdd, Nat.reduceSub, List.replicate, retA, resultsA, resultA, toC, toCL, Nat.reduceEqDiff, len_sl (un50 S.p), len_nils (un50 S.p), slice_lo (un50 S.p) (sz56 S.p), slice_hi (un50 S.p) (sz56 S.p), slice_lohi (un50 S.p) (sz56 S.p), slice_nil (un50 S.p) (sz56 S.p), slice_none (un50 S.p), sliceE_lohi (un50 S.p) (sz56 S.p) (by decide), sliceE_hi (un50 S.p) (sz56 S.p) (by decide), slice_mx (un50 S.p), sliceE_mx (un50 S.p) (sz56 S.p) (by decide), hlen, hm0]
  · have hcut : recs StV.cells xs = recs StV.cells (xs.take 200) ++ recs StV.cells (xs.drop 200) := by rw [← recs_app, List.take_append_drop]
    rw [hcut] at hc
    by_cases h200 : (200 : Int) < (xs.length : Int)
    · refine ⟨.sl b 0 200 3, fun lk h' => ?_, .inr ⟨b, _, by rw [List.length_take_of_le (by omega)], hb, hc⟩⟩
      rw [ev_run (at30 S.t)]
      unfold i30 Try.f30
      have e1 : (200 : Int).toNat = 200 := rfl
      simp (maxSteps := 1000000) (disch := first | omega | (simp (disch := first | omega | (simp only [Rec.len, StV.len, List.length_append, List.length_cons, List.length_nil, List.length_set]; first | done | omega)) only [Rec.len, StV.len, amSide, Int.reduceToNat, Nat.reducePow, Nat.reduceMul]; first | done | omega)) only  [↓amPre, amPost, ↓s_lit', Nat.reduceAdd, Nat.reduceSub, List.replicate, retA, resultsA, resultA, toC, toCL, Nat.reduceEqDiff, len_sl (un50 S.p), len_nils (un50 S.p), slice_lo (un50 S.p) (sz56 S.p), slice_hi (un50 S.p) (sz56 S.p), slice_lohi (un50 S.p) (sz56 S.p), slice_nil (un50 S.p) (sz56 S.p), slice_none (un50 S.p), sliceE_lohi (un50 S.p) (sz56 S.p) (by decide), sliceE_hi (un50 S.p) (sz56 S.p) (by decide), slice_mx (un50 S.p), sliceE_mx (un50 S.p) (sz56 S.p) (by decide), hlen, h200, e1]
    · refine ⟨.sl b 0 xs.length 3, fun lk h' => ?_, .inr ⟨b, _, by rw [List.take_of_length_le (by omega)], hb, hc⟩⟩
      rw [ev_run (at30 S.t)]
      unfold i30 Try.f30
      simp (maxSteps := 1000000) (disch := first | omega | (simp (disch := first | omega | (simp only [Rec.len, StV.len, List.length_append, List.length_cons, List.length_nil, List.length_set]; first | done | omega)) only [Rec.len, StV.len, amSide, Int.reduceToNat, Nat.reducePow, Nat.reduceMul]; first | done | omega)) only  [↓amPre, amPost, ↓s_lit', Nat.reduceAdd, Nat.reduceSub, List.replicate, retA, resultsA, resultA, toC, toCL, Nat.reduceEqDiff, len_sl (un50 S.p), len_nils (un50 S.p), slice_lo (un50 S.p) (sz56 S.p), slice_hi (un50 S.p) (sz56 S.p), slice_lohi (un50 S.p) (sz56 S.p), slice_nil (un50 S.p) (sz56 S.p), slice_none (un50 S.p), sliceE_lohi (un50 S.p) (sz56 S.p) (by decide), sliceE_hi (un50 S.p) (sz56 S.p) (by decide), slice_mx (un50 S.p), sliceE_mx (un50 S.p) (sz56 S.p) (by decide), hlen, h200, Int.toNat_natCast]
/-- The first and the last one. -/
theorem fst_last {o : Int} {l : List Rec} (ho : o ∈ objI l) : ∃ a b x y, Fst o l (some a) ∧ Last o l (some b) ∧ a ≤ b ∧ l[a]? = some x ∧ l[b]? = some y ∧ 0 < cntO o (objI l) ∧ ∀ (i : Nat) z, l[i]? = some z → z.o = o → a ≤ i ∧ i ≤ b := by
  obtain ⟨r, hr⟩ := fst_ex o l
  obtain ⟨s, hs⟩ := last_ex o l
  obtain ⟨w, hw, hwo⟩ := List.mem_map.1 ho
  have hc : 0 < cntO o (objI l) := List.length_pos_iff.2 (List.ne_nil_of_mem (a := o) (List.mem_filter.2 ⟨ho, by simp⟩))
  cases hr with
  | none h => exact absurd hwo (h w hw)
  | some a x hx hxo hxb =>
    cases hs with
    | none h => exact absurd hwo (h w hw)
    | some b y hy hyo hyb =>
      have hi : ∀ (i : Nat) z, l[i]? = some z → z.o = o → a ≤ i ∧ i ≤ b := fun i z hz hzo => by
        obtain ⟨h1, h2⟩ := List.getElem?_eq_some_iff.1 hz
        refine ⟨?_, ?_⟩
        · apply Classical.byContradiction; intro q
          exact hxb z (List.mem_take_iff_getElem.2 ⟨i, by have := (List.getElem?_eq_some_iff.1 hx).1; omega, h2⟩) hzo
        · apply Classical.byContradiction; intro q
          refine hyb z ?_ hzo
          have : (l.drop (b + 1))[i - (b + 1)]? = some z := by rw [List.getElem?_drop, ← hz]; congr 1; omega
          exact List.mem_of_getElem? this
      exact ⟨a, b, x, y, .some a x hx hxo hxb, .some b y hy hyo hyb, (hi a x hx hxo).2, hx, hy, hc, hi⟩
structure RcA where
  i : Nat
  qs : SV
  R : List Rec
  h : List AO
structure RcB where
  i : Nat
  h : List AO
set_option maxHeartbeats 8000000 in
theorem s7 {P : Program} {T : Tab} {K d : Nat} (S : Sd P T K) (hd : 7 ≤ d) (q : SV) (xs : List StV) (lk : Nat) (h : List AO) (hq : Rs StV.cells 3 h q xs) :
    ev P T K d 7 [.sc q] lk h = some (.v (.sc (.bool true)), h) := by
  obtain ⟨d, rfl⟩ : ∃ k, d = k + 1 := ⟨d - 1, by omega⟩
  refine ev_pure (at7 S.t) rfl ?_
  unfold i7 Try.f7
  have f24 := fun lk h => s24k S (show 1 ≤ d by omega) lk h
  have e25 := s25 S (show 1 ≤ d by omega) 512 (by omega) (by omega) h.length h
  have st0 : Stk (h.length + 1) h.length (h ++ [.rw 88 [.int .i64 512, .nils]]) .nils 512 [] := ⟨by simp, .inl ⟨rfl, rfl⟩, by omega⟩
  have x0 : Ext1 h (h ++ [.rw 88 [.int .i64 512, .nils]]) := (Ext1.refl h).push _
  have hl1 : (h ++ [AO.rw 88 [.int .i64 512, .nils]]).length = h.length + 1 := by simp
  generalize hh1 : h ++ [AO.rw 88 [.int .i64 512, .nils]] = h1 at *
  obtain ⟨q2, e30, hq2⟩ := s30 S (show 1 ≤ d by omega) q xs h hq
  have hxl : (xs.take 200).length ≤ 200 := List.length_take_le 200 xs
  generalize xs.take 200 = ys at *
  have l2 := hq2.len (un50 S.p)
  simp (maxSteps := 1000000) (disch := first | omega | (simp (disch := first | omega | (simp only [Rec.len, StV.len, List.length_append, List.length_cons, List.length_nil, List.length_set]; first | done | omega)) only [Rec.len, StV.len, amSide, Int.reduceToNat, Nat.reducePow, Nat.reduceMul]; first | done | omega)) only  [↓amPre, amPost, ↓s_lit', Nat.reduceAdd, Nat.reduceSub, List.replicate, retA, resultsA, resultA, toC, toCL, Nat.reduceEqDiff, (ze56 S.p), (ze62 S.p), (fa56_0 S.p), (fa56_1 S.p), (fa56_2 S.p), (fa62_0 S.p), iaddr_sl (un47 S.p) (sz3 S.p), iaddr_sl (un50 S.p) (sz56 S.p), len_sl (un47 S.p), len_nils (un47 S.p), len_sl (un50 S.p), len_nils (un50 S.p), part_sc (ag3 S.p), part_sc (ag39 S.p), part_sc (ag5 S.p), part_all (ag56 S.p) (sz56 S.p), part_at (ag56 S.p) (sz56 S.p), store_last (sz56 S.p), (sz56 S.p), store_last (sz62 S.p), (sz62 S.p), hh1, e25, e30, l2, eql_pn (un51 S.p), bneI_f]
  refine ends_loop (X := RcA) ⟨0, .nils, [], h1⟩ [6, 33, 34, 35, 36, 37, 38, 39, 40, 41, 42, 43, 44, 45, 46, 47, 48, 49, 50] (fun x => x.i ≤ ys.length ∧ x.R.length ≤ x.i ∧ Ext1 h x.h ∧ h.length + 1 ≤ x.h.length ∧ Stk (h.length + 1) h.length x.h x.qs 512 x.R) (fun x => ys.length - x.i)
    (fun x e => e.set 32 (.v (.sc (.int .i64 x.i)))) (fun x => x.h)
    (by have := S.k; show _ < K; simp only; omega) ⟨by simp only; omega, by simp, x0, by simp only; omega, st0⟩ rfl rfl ?_
  rintro ⟨i, qs, R, hh⟩ ⟨hi, hR, hx, hlh, hst⟩ again hag e he
  simp only at hi hR hx hlh hst hag he
  simp only [↓amPre, amPost, ↓s_lit', Nat.reduceAdd, Nat.reduceSub, List.replicate, retA, resultsA, resultA, toC, toCL, Nat.reduceEqDiff] at he
  simp only [↓amPre, amPost, ↓s_lit', Nat.reduceAdd, Nat.reduceSub, List.replicate, retA, resultsA, resultA, toC, toCL, Nat.reduceEqDiff, he]
  refine ends_cond (fun hc1 => ?_) (fun hc1 => ?_)
  · simp only [decide_eq_true_eq] at hc1
    have hio : i < ys.length := by omega
    obtain ⟨b, g, rfl, hb, hc⟩ := hq2.at (by omega)
    obtain ⟨y, hy⟩ : ∃ y, ys[i]? = some y := ⟨_, List.getElem?_eq_getElem hio⟩
    have hcc : cellsAt hh b = some (recs StV.cells ys ++ g) := by rw [hx.cells hb]; exact hc
    have hpt := recs_gpart (ag56 S.p) (sz56 S.p) StV.len hy g
    have hst2 := hst.push (.rw 56 y.cells)
    have hlx : (hh ++ [AO.rw 56 y.cells]).length = hh.length + 1 := by simp
    have h40 : ((4 : Int) = 0) = False := by simp
    by_cases hk : y.k.tmod 4 = 1
    · obtain ⟨r, hr⟩ := last_ex y.o R
      obtain ⟨n1, n2⟩ := s29 S (show 5 ≤ d by omega) hst2 (by omega) (by omega) y.o h.length (Nat.le_refl _) (by omega)
      cases r with
      | none =>
        obtain ⟨h', e29, hxe⟩ := n1 hr
        clear n1 n2
        simp (maxSteps := 1000000) (disch := first | omega | (simp (disch := first | omega | (simp only [Rec.len, StV.len, List.length_append, List.length_cons, List.length_nil, List.length_set]; first | done | omega)) only [Rec.len, StV.len, amSide, Int.reduceToNat, Nat.reducePow, Nat.reduceMul]; first | done | omega)) only  [↓amPre, amPost, ↓s_lit', Nat.reduceAdd, Nat.reduceSub, List.replicate, retA, resultsA, resultA, toC, toCL, Nat.reduceEqDiff, he, (ze56 S.p), (ze62 S.p), (fa56_0 S.p), (fa56_1 S.p), (fa56_2 S.p), (fa62_0 S.p), iaddr_sl (un47 S.p) (sz3 S.p), iaddr_sl (un50 S.p) (sz56 S.p), len_sl (un47 S.p), len_nils (un47 S.p), len_sl (un50 S.p), len_nils (un50 S.p), part_sc (ag3 S.p), part_sc (ag39 S.p), part_sc (ag5 S.p), part_all (ag56 S.p) (sz56 S.p), part_at (ag56 S.p) (sz56 S.p), store_last (sz56 S.p), (sz56 S.p), store_last (sz62 S.p), (sz62 S.p), idx_ok, hcc, hpt, cells_self, StV.c0, StV.c1, StV.c2, e29, hk, h40, beq_self_eq_true, Int.toNat_natCast, Nat.zero_add, wrap_i64]
        refine hag ⟨i + 1, qs, R, h'⟩ ⟨hio, by simp only; omega, (hx.push _).trans hxe, by have := hxe.len; simp only; omega, hst2.ext hxe⟩ (by simp only; omega) _ ?_
        simp (maxSteps := 1000000) (disch := first | omega | (simp (disch := first | omega | (simp only [Rec.len, StV.len, List.length_append, List.length_cons, List.length_nil, List.length_set]; first | done | omega)) only [Rec.len, StV.len, amSide, Int.reduceToNat, Nat.reducePow, Nat.reduceMul]; first | done | omega)) only [↓amPre, amPost, ↓s_lit', Nat.reduceAdd, Nat.reduceSub, List.replicate, retA, resultsA, resultA, toC, toCL, Nat.reduceEqDiff, Int.natCast_add, Int.cast_ofNat_Int, dec_t, dec_f]
      | some j =>
        obtain ⟨x, hxj⟩ : ∃ x, R[j]? = some x := by cases hr with | some _ x hxj _ _ => exact ⟨x, hxj⟩
        obtain ⟨h', qs', e29, hst3, hF⟩ := n2 j x hxj hr
        have hx3 := hF.ext1 hst2 (hx.push _) (Nat.le_refl _)
        have hl3 := hF.len
        have hj := (List.getElem?_eq_some_iff.1 hxj).1
        clear n1 n2
        simp (maxSteps := 1000000) (disch := first | omega | (simp (disch := first | omega | (simp only [Rec.len, StV.len, List.length_append, List.length_cons, List.length_nil, List.length_set]; first | done | omega)) only [Rec.len, StV.len, amSide, Int.reduceToNat, Nat.reducePow, Nat.reduceMul]; first | done | omega)) only  [↓amPre, amPost, ↓s_lit', Nat.reduceAdd, Nat.reduceSub, List.replicate, retA, resultsA, resultA, toC, toCL, Nat.reduceEqDiff, he, (ze56 S.p), (ze62 S.p), (fa56_0 S.p), (fa56_1 S.p), (fa56_2 S.p), (fa62_0 S.p), iaddr_sl (un47 S.p) (sz3 S.p), iaddr_sl (un50 S.p) (sz56 S.p), len_sl (un47 S.p), len_nils (un47 S.p), len_sl (un50 S.p), len_nils (un50 S.p), part_sc (ag3 S.p), part_sc (ag39 S.p), part_sc (ag5 S.p), part_all (ag56 S.p) (sz56 S.p), part_at (ag56 S.p) (sz56 S.p), store_last (sz56 S.p), (sz56 S.p), store_last (sz62 S.p), (sz62 S.p), idx_ok, hcc, hpt, cells_self, StV.c0, StV.c1, StV.c2, e29, hk, h40, beq_self_eq_true, Int.toNat_natCast, Nat.zero_add, wrap_i64]
        refine hag ⟨i + 1, qs', R.take j ++ R.drop (j + 1), h'⟩ ⟨hio, by simp; omega, hx3, by simp only; omega, hst3⟩ (by simp only; omega) _ ?_
        simp (maxSteps := 1000000) (disch := first | omega | (simp (disch := first | omega | (simp only [Rec.len, StV.len, List.length_append, List.length_cons, List.length_nil, List.length_set]; first | done | omega)) only [Rec.len, StV.len, amSide, Int.reduceToNat, Nat.reducePow, Nat.reduceMul]; first | done | omega)) only [↓amPre, amPost, ↓s_lit', Nat.reduceAdd, Nat.reduceSub, List.replicate, retA, resultsA, resultA, toC, toCL, Nat.reduceEqDiff, Int.natCast_add, Int.cast_ofNat_Int, dec_t, dec_f]
    · obtain ⟨n1, n2⟩ := s26 S (show 2 ≤ d by omega) hst2 (by omega) (by omega) y.o y.s h.length (Nat.le_refl _) (by omega)
      by_cases hin : 0 ≤ y.o ∧ y.o < 65536
      · obtain ⟨h', qs', e26, hst3, hF⟩ := n2 ⟨hin.1, hin.2, by omega⟩
        have hx3 := hF.ext1 hst2 (hx.push _) (Nat.le_refl _)
        have hl3 := hF.len
        clear n1 n2
        simp (maxSteps := 1000000) (disch := first | omega | (simp (disch := first | omega | (simp only [Rec.len, StV.len, List.length_append, List.length_cons, List.length_nil, List.length_set]; first | done | omega)) only [Rec.len, StV.len, amSide, Int.reduceToNat, Nat.reducePow, Nat.reduceMul]; first | done | omega)) only  [↓amPre, amPost, ↓s_lit', Nat.reduceAdd, Nat.reduceSub, List.replicate, retA, resultsA, resultA, toC, toCL, Nat.reduceEqDiff, he, (ze56 S.p), (ze62 S.p), (fa56_0 S.p), (fa56_1 S.p), (fa56_2 S.p), (fa62_0 S.p), iaddr_sl (un47 S.p) (sz3 S.p), iaddr_sl (un50 S.p) (sz56 S.p), len_sl (un47 S.p), len_nils (un47 S.p), len_sl (un50 S.p), len_nils (un50 S.p), part_sc (ag3 S.p), part_sc (ag39 S.p), part_sc (ag5 S.p), part_all (ag56 S.p) (sz56 S.p), part_at (ag56 S.p) (sz56 S.p), store_last (sz56 S.p), (sz56 S.p), store_last (sz62 S.p), (sz62 S.p), idx_ok, hcc, hpt, cells_self, StV.c0, StV.c1, StV.c2, e26, beqI_f, h40, Int.toNat_natCast, Nat.zero_add, wrap_i64]
        refine hag ⟨i + 1, qs', R ++ [⟨y.o, y.s⟩], h'⟩ ⟨hio, by simp; omega, hx3, by simp only; omega, hst3⟩ (by simp only; omega) _ ?_
        simp (maxSteps := 1000000) (disch := first | omega | (simp (disch := first | omega | (simp only [Rec.len, StV.len, List.length_append, List.length_cons, List.length_nil, List.length_set]; first | done | omega)) only [Rec.len, StV.len, amSide, Int.reduceToNat, Nat.reducePow, Nat.reduceMul]; first | done | omega)) only [↓amPre, amPost, ↓s_lit', Nat.reduceAdd, Nat.reduceSub, List.replicate, retA, resultsA, resultA, toC, toCL, Nat.reduceEqDiff, Int.natCast_add, Int.cast_ofNat_Int, dec_t, dec_f]
      · obtain ⟨ee, _, e26⟩ := n1 (fun q => hin ⟨q.1, q.2.1⟩)
        clear n1 n2
        simp (maxSteps := 1000000) (disch := first | omega | (simp (disch := first | omega | (simp only [Rec.len, StV.len, List.length_append, List.length_cons, List.length_nil, List.length_set]; first | done | omega)) only [Rec.len, StV.len, amSide, Int.reduceToNat, Nat.reducePow, Nat.reduceMul]; first | done | omega)) only  [↓amPre, amPost, ↓s_lit', Nat.reduceAdd, Nat.reduceSub, List.replicate, retA, resultsA, resultA, toC, toCL, Nat.reduceEqDiff, he, (ze56 S.p), (ze62 S.p), (fa56_0 S.p), (fa56_1 S.p), (fa56_2 S.p), (fa62_0 S.p), iaddr_sl (un47 S.p) (sz3 S.p), iaddr_sl (un50 S.p) (sz56 S.p), len_sl (un47 S.p), len_nils (un47 S.p), len_sl (un50 S.p), len_nils (un50 S.p), part_sc (ag3 S.p), part_sc (ag39 S.p), part_sc (ag5 S.p), part_all (ag56 S.p) (sz56 S.p), part_at (ag56 S.p) (sz56 S.p), store_last (sz56 S.p), (sz56 S.p), store_last (sz62 S.p), (sz62 S.p), idx_ok, hcc, hpt, cells_self, StV.c0, StV.c1, StV.c2, e26, beqI_f, h40, Int.toNat_natCast, Nat.zero_add, wrap_i64]
        refine hag ⟨i + 1, qs, R, _⟩ ⟨hio, by simp only; omega, hx.push _, by simp; omega, hst2⟩ (by simp only; omega) _ ?_
        simp (maxSteps := 1000000) (disch := first | omega | (simp (disch := first | omega | (simp only [Rec.len, StV.len, List.length_append, List.length_cons, List.length_nil, List.length_set]; first | done | omega)) only [Rec.len, StV.len, amSide, Int.reduceToNat, Nat.reducePow, Nat.reduceMul]; first | done | omega)) only [↓amPre, amPost, ↓s_lit', Nat.reduceAdd, Nat.reduceSub, List.replicate, retA, resultsA, resultA, toC, toCL, Nat.reduceEqDiff, Int.natCast_add, Int.cast_ofNat_Int, dec_t, dec_f]
  simp only [decide_eq_false_iff_not] at hc1
  obtain rfl : i = ys.length := by omega
  clear hag hq2 e30 l2 hi
  have hR2 : R.length ≤ 200 := by omega
  obtain ⟨v, h2, e31, x2, q3, rfl, ht⟩ := s31 S (show 3 ≤ d by omega) hst (by omega) (by omega) h.length (by omega)
  have hst2 := hst.ext x2
  have hol := objI_len R
  have hDl := objsL_len (objI R)
  have hlD := ht.len (un47 S.p)
  have hDm : ∀ (j : Nat) o, (objsL (objI R))[j]? = some o → o ∈ objI R := fun j o hj => ((objsL_facts (objI R)).2 o).1 (List.mem_of_getElem? hj)
  have hsum := sumO_objs (objI R)
  generalize hD : objsL (objI R) = D at *
  simp (maxSteps := 1000000) (disch := first | omega | (simp (disch := first | omega | (simp only [Rec.len, StV.len, List.length_append, List.length_cons, List.length_nil, List.length_set]; first | done | omega)) only [Rec.len, StV.len, amSide, Int.reduceToNat, Nat.reducePow, Nat.reduceMul]; first | done | omega)) only  [↓amPre, amPost, ↓s_lit', Nat.reduceAdd, Nat.reduceSub, List.replicate, retA, resultsA, resultA, toC, toCL, Nat.reduceEqDiff, he, (ze56 S.p), (ze62 S.p), (fa56_0 S.p), (fa56_1 S.p), (fa56_2 S.p), (fa62_0 S.p), iaddr_sl (un47 S.p) (sz3 S.p), iaddr_sl (un50 S.p) (sz56 S.p), len_sl (un47 S.p), len_nils (un47 S.p), len_sl (un50 S.p), len_nils (un50 S.p), part_sc (ag3 S.p), part_sc (ag39 S.p), part_sc (ag5 S.p), part_all (ag56 S.p) (sz56 S.p), part_at (ag56 S.p) (sz56 S.p), store_last (sz56 S.p), (sz56 S.p), store_last (sz62 S.p), (sz62 S.p), e31, hlD]
  refine ends_loop (X := RcB) ⟨0, h2⟩ [2, 9, 10, 11, 12, 13, 14, 15, 16, 17, 18, 55, 56, 57, 58, 59, 60, 61, 62, 63, 64, 65, 66, 67, 68, 69, 70, 71, 72, 73, 74, 75, 76, 77, 78, 79, 80, 81, 82, 83, 84, 85, 86, 87, 88, 89, 90, 91, 92, 93, 94, 95, 96, 97, 98, 99, 100, 101, 102, 103, 104, 105, 106, 107, 108, 109, 110, 111, 112, 113, 114, 115, 116, 117, 118, 119, 120, 121, 122, 123, 124, 125, 126, 127, 128, 129, 130, 131, 132, 133, 134] (fun x => x.i ≤ D.length ∧ Ext1 h2 x.h) (fun x => D.length - x.i)
    (fun x e => (e.set 7 (.v (.sc (.int .i64 (sumO (D.take x.i) (objI R) : Nat))))).set 54 (.v (.sc (.int .i64 x.i)))) (fun x => x.h)
    (by have := S.k; show _ < K; simp only; omega) ⟨by simp only; omega, Ext1.refl _⟩ rfl rfl ?_
  rintro ⟨i, h3⟩ ⟨hi, x3⟩ again hag e2 he2
  simp only at hi x3 hag he2
  simp only [↓amPre, amPost, ↓s_lit', Nat.reduceAdd, Nat.reduceSub, List.replicate, retA, resultsA, resultA, toC, toCL, Nat.reduceEqDiff] at he2
  simp only [↓amPre, amPost, ↓s_lit', Nat.reduceAdd, Nat.reduceSub, List.replicate, retA, resultsA, resultA, toC, toCL, Nat.reduceEqDiff, he2]
  have hst3 := hst2.ext x3
  have hl3 := x3.len
  have hl2 := x2.len
  refine ends_cond (fun hc2 => ?_) (fun hc2 => ?_)
  · simp only [decide_eq_true_eq] at hc2
    have hio : i < D.length := by omega
    obtain ⟨o, ho⟩ : ∃ o, D[i]? = some o := ⟨_, List.getElem?_eq_getElem hio⟩
    obtain ⟨b, cs, rfl, hbl, hbh, hcs, hco⟩ := (ht.ext x3).at ho
    obtain ⟨a, z, u, w, hF, hL, haz, hRa, hRz, hcn, hbt⟩ := fst_last (hDm i o ho)
    have haR := (List.getElem?_eq_some_iff.1 hRa).1
    have hzR := (List.getElem?_eq_some_iff.1 hRz).1
    have f32 := fun lk => s32 S (show 3 ≤ d by omega) hst3 (by omega) (by omega) o lk
    have f33 := fun lk => s33 S (show 3 ≤ d by omega) hst3 (by omega) (by omega) o _ hF lk
    have f34 := fun lk => s34 S (show 4 ≤ d by omega) hst3 (by omega) (by omega) o _ hL lk
    have f27 := fun lk => s27 S (show 3 ≤ d by omega) hst3 (by omega) (by omega) lk
    unfold topV at f33 f34
    have hst' := sumO_take ho (objI R)
    have hsl' := sumO_le D (objI R) (i + 1)
    generalize hC : cntO o (objI R) = C at *
    simp (maxSteps := 1000000) (disch := first | omega | (simp (disch := first | omega | (simp only [Rec.len, StV.len, List.length_append, List.length_cons, List.length_nil, List.length_set]; first | done | omega)) only [Rec.len, StV.len, amSide, Int.reduceToNat, Nat.reducePow, Nat.reduceMul]; first | done | omega)) only  [↓amPre, amPost, ↓s_lit', Nat.reduceAdd, Nat.reduceSub, List.replicate, retA, resultsA, resultA, toC, toCL, Nat.reduceEqDiff, he2, (ze56 S.p), (ze62 S.p), (fa56_0 S.p), (fa56_1 S.p), (fa56_2 S.p), (fa62_0 S.p), iaddr_sl (un47 S.p) (sz3 S.p), iaddr_sl (un50 S.p) (sz56 S.p), len_sl (un47 S.p), len_nils (un47 S.p), len_sl (un50 S.p), len_nils (un50 S.p), part_sc (ag3 S.p), part_sc (ag39 S.p), part_sc (ag5 S.p), part_all (ag56 S.p) (sz56 S.p), part_at (ag56 S.p) (sz56 S.p), store_last (sz56 S.p), (sz56 S.p), store_last (sz62 S.p), (sz62 S.p), idx_ok, hcs, hco, f32, f33, f34, f27, dec_f, Nat.mul_one, Int.toNat_natCast, Nat.zero_add, wrap_i64]
    refine ends_loop (X := RcB) ⟨0, h3⟩ [2, 16, 17, 18, 101, 102, 103, 104, 105, 106, 107, 108, 109, 110, 111, 112, 113, 114, 115, 116, 117, 118, 119, 120, 121, 122, 123, 124, 125, 126, 127] (fun x => x.i ≤ R.length ∧ Ext1 h3 x.h) (fun x => R.length - x.i)
      (fun x e => (e.set 15 (.v (.sc (.int .i64 (cntO o ((objI R).take x.i) : Nat))))).set 100 (.v (.sc (.int .i64 x.i)))) (fun x => x.h)
      (by have := S.k; show _ < K; simp only; omega) ⟨by simp only; omega, Ext1.refl _⟩ rfl rfl ?_
    rintro ⟨m, h4⟩ ⟨hm, x4⟩ again3 hag3 e3 he3
    simp only at hm x4 hag3 he3
    simp only [↓amPre, amPost, ↓s_lit', Nat.reduceAdd, Nat.reduceSub, List.replicate, retA, resultsA, resultA, toC, toCL, Nat.reduceEqDiff] at he3
    simp only [↓amPre, amPost, ↓s_lit', Nat.reduceAdd, Nat.reduceSub, List.replicate, retA, resultsA, resultA, toC, toCL, Nat.reduceEqDiff, he3]
    have hst4 := hst3.ext x4
    have hl4 := x4.len
    refine ends_cond (fun hc3 => ?_) (fun hc3 => ?_)
    · simp only [decide_eq_true_eq] at hc3
      have hmo : m < R.length := by omega
      obtain ⟨x, hxm⟩ : ∃ x, R[m]? = some x := ⟨_, List.getElem?_eq_getElem hmo⟩
      have f28 := fun lk => s28 S (show 2 ≤ d by omega) hst4 (by omega) hxm lk
      have hom : (objI R)[m]? = some x.o := by simp [objI, hxm]
      have hcs' := cntO_snoc o ((objI R).take m) x.o
      rw [← take_snocG (objI R) m x.o hom] at hcs'
      have hcl := cntO_le o ((objI R).take m)
      have htl := List.length_take_le m (objI R)
      have hb := hbt m x hxm
      clear hag f32 f33 f34 f27 hDm hbt
      by_cases k1 : x.o = o
      · rw [if_pos k1] at hcs'
        have hb := hb k1
        simp (maxSteps := 1000000) (disch := first | omega | (simp (disch := first | omega | (simp only [Rec.len, StV.len, List.length_append, List.length_cons, List.length_nil, List.length_set]; first | done | omega)) only [Rec.len, StV.len, amSide, Int.reduceToNat, Nat.reducePow, Nat.reduceMul]; first | done | omega)) only  [↓amPre, amPost, ↓s_lit', Nat.reduceAdd, Nat.reduceSub, List.replicate, retA, resultsA, resultA, toC, toCL, Nat.reduceEqDiff, he3, (ze56 S.p), (ze62 S.p), (fa56_0 S.p), (fa56_1 S.p), (fa56_2 S.p), (fa62_0 S.p), iaddr_sl (un47 S.p) (sz3 S.p), iaddr_sl (un50 S.p) (sz56 S.p), len_sl (un47 S.p), len_nils (un47 S.p), len_sl (un50 S.p), len_nils (un50 S.p), part_sc (ag3 S.p), part_sc (ag39 S.p), part_sc (ag5 S.p), part_all (ag56 S.p) (sz56 S.p), part_at (ag56 S.p) (sz56 S.p), store_last (sz56 S.p), (sz56 S.p), store_last (sz62 S.p), (sz62 S.p), f28, cells_self, Rec.c0, beqI_t, beq_self_eq_true, dec_f, Int.toNat_natCast, Nat.zero_add, wrap_i64]
        refine hag3 ⟨m + 1, _⟩ ⟨hmo, x4.push _⟩ (by simp only; omega) _ ?_
        simp only [hcs']
        simp (maxSteps := 1000000) (disch := first | omega | (simp (disch := first | omega | (simp only [Rec.len, StV.len, List.length_append, List.length_cons, List.length_nil, List.length_set]; first | done | omega)) only [Rec.len, StV.len, amSide, Int.reduceToNat, Nat.reducePow, Nat.reduceMul]; first | done | omega)) only [↓amPre, amPost, ↓s_lit', Nat.reduceAdd, Nat.reduceSub, List.replicate, retA, resultsA, resultA, toC, toCL, Nat.reduceEqDiff, Int.natCast_add, Int.cast_ofNat_Int, dec_t, dec_f]
      · rw [if_neg k1] at hcs'
        simp (maxSteps := 1000000) (disch := first | omega | (simp (disch := first | omega | (simp only [Rec.len, StV.len, List.length_append, List.length_cons, List.length_nil, List.length_set]; first | done | omega)) only [Rec.len, StV.len, amSide, Int.reduceToNat, Nat.reducePow, Nat.reduceMul]; first | done | omega)) only  [↓amPre, amPost, ↓s_lit', Nat.reduceAdd, Nat.reduceSub, List.replicate, retA, resultsA, resultA, toC, toCL, Nat.reduceEqDiff, he3, (ze56 S.p), (ze62 S.p), (fa56_0 S.p), (fa56_1 S.p), (fa56_2 S.p), (fa62_0 S.p), iaddr_sl (un47 S.p) (sz3 S.p), iaddr_sl (un50 S.p) (sz56 S.p), len_sl (un47 S.p), len_nils (un47 S.p), len_sl (un50 S.p), len_nils (un50 S.p), part_sc (ag3 S.p), part_sc (ag39 S.p), part_sc (ag5 S.p), part_all (ag56 S.p) (sz56 S.p), part_at (ag56 S.p) (sz56 S.p), store_last (sz56 S.p), (sz56 S.p), store_last (sz62 S.p), (sz62 S.p), f28, cells_self, Rec.c0, beqI_f, beq_self_eq_true, Int.toNat_natCast, Nat.zero_add, wrap_i64]
        refine hag3 ⟨m + 1, _⟩ ⟨hmo, x4.push _⟩ (by simp only; omega) _ ?_
        simp only [hcs', Nat.add_zero]
        simp (maxSteps := 1000000) (disch := first | omega | (simp (disch := first | omega | (simp only [Rec.len, StV.len, List.length_append, List.length_cons, List.length_nil, List.length_set]; first | done | omega)) only [Rec.len, StV.len, amSide, Int.reduceToNat, Nat.reducePow, Nat.reduceMul]; first | done | omega)) only [↓amPre, amPost, ↓s_lit', Nat.reduceAdd, Nat.reduceSub, List.replicate, retA, resultsA, resultA, toC, toCL, Nat.reduceEqDiff, Int.natCast_add, Int.cast_ofNat_Int, dec_t, dec_f]
    · simp only [decide_eq_false_iff_not] at hc3
      obtain rfl : m = R.length := by omega
      have htk : (objI R).take R.length = objI R := by rw [← hol, List.take_length]
      rw [htk, hC] at he3
      clear hag3 f32 f33 f34 f27 hDm hbt
      simp (maxSteps := 1000000) (disch := first | omega | (simp (disch := first | omega | (simp only [Rec.len, StV.len, List.length_append, List.length_cons, List.length_nil, List.length_set]; first | done | omega)) only [Rec.len, StV.len, amSide, Int.reduceToNat, Nat.reducePow, Nat.reduceMul]; first | done | omega)) only  [↓amPre, amPost, ↓s_lit', Nat.reduceAdd, Nat.reduceSub, List.replicate, retA, resultsA, resultA, toC, toCL, Nat.reduceEqDiff, he3, htk, hC, (ze56 S.p), (ze62 S.p), (fa56_0 S.p), (fa56_1 S.p), (fa56_2 S.p), (fa62_0 S.p), iaddr_sl (un47 S.p) (sz3 S.p), iaddr_sl (un50 S.p) (sz56 S.p), len_sl (un47 S.p), len_nils (un47 S.p), len_sl (un50 S.p), len_nils (un50 S.p), part_sc (ag3 S.p), part_sc (ag39 S.p), part_sc (ag5 S.p), part_all (ag56 S.p) (sz56 S.p), part_at (ag56 S.p) (sz56 S.p), store_last (sz56 S.p), (sz56 S.p), store_last (sz62 S.p), (sz62 S.p), bneI_f, wrap_i64]
      refine hag ⟨i + 1, h4⟩ ⟨hio, x3.trans x4⟩ (by simp only; omega) _ ?_
      simp only [hst']
      simp (maxSteps := 1000000) (disch := first | omega | (simp (disch := first | omega | (simp only [Rec.len, StV.len, List.length_append, List.length_cons, List.length_nil, List.length_set]; first | done | omega)) only [Rec.len, StV.len, amSide, Int.reduceToNat, Nat.reducePow, Nat.reduceMul]; first | done | omega)) only [↓amPre, amPost, ↓s_lit', Nat.reduceAdd, Nat.reduceSub, List.replicate, retA, resultsA, resultA, toC, toCL, Nat.reduceEqDiff, Int.natCast_add, Int.cast_ofNat_Int, dec_t, dec_f]
  · simp only [decide_eq_false_iff_not] at hc2
    obtain rfl : i = D.length := by omega
    rw [List.take_length] at *
    have f27 := fun lk => s27 S (show 3 ≤ d by omega) hst3 (by omega) (by omega) lk
    rw [hol] at hsum
    rw [hsum] at *
    simp (maxSteps := 1000000) (disch := first | omega | (simp (disch := first | omega | (simp only [Rec.len, StV.len, List.length_append, List.length_cons, List.length_nil, List.length_set]; first | done | omega)) only [Rec.len, StV.len, amSide, Int.reduceToNat, Nat.reducePow, Nat.reduceMul]; first | done | omega)) only  [↓amPre, amPost, ↓s_lit', Nat.reduceAdd, Nat.reduceSub, List.replicate, retA, resultsA, resultA, toC, toCL, Nat.reduceEqDiff, he2, (ze56 S.p), (ze62 S.p), (fa56_0 S.p), (fa56_1 S.p), (fa56_2 S.p), (fa62_0 S.p), iaddr_sl (un47 S.p) (sz3 S.p), iaddr_sl (un50 S.p) (sz56 S.p), len_sl (un47 S.p), len_nils (un47 S.p), len_sl (un50 S.p), len_nils (un50 S.p), part_sc (ag3 S.p), part_sc (ag39 S.p), part_sc (ag5 S.p), part_all (ag56 S.p) (sz56 S.p), part_at (ag56 S.p) (sz56 S.p), store_last (sz56 S.p), (sz56 S.p), store_last (sz62 S.p), (sz62 S.p), f27, f24, beq_self_eq_true]
    exact Ends.some rfl
end Go.AM
