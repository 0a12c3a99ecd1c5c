/- Logs: how many entries are right; the law's probe, turns, and a log that nobody made. Conditions: none. -/
import Derived.Test.YtjhhjmngjmflaaaGhus
set_option linter.unusedVariables false
set_option linter.unusedSimpArgs false
set_option maxRecDepth 100000
namespace Go.AM
open Go.Proofs
-- LENS: EvV.len, MonV.len, ThV.len, EnV.len
/-- A slice of the first n records. -/
def Rs2 {α : Type} (f : α → List SV) (s : Nat) (h : List AO) (q : SV) (l : List α) (n : Nat) : Prop := (q = .nils ∧ n = 0) ∨ ∃ b, q = .sl b 0 n s ∧ b < h.length ∧ cellsAt h b = some (recs f l) ∧ n ≤ l.length
theorem Rs2.len {α : Type} {f : α → List SV} {s : Nat} {P : Program} {t el : TypeId} (hu : P.underlying t = some (.slice el)) {h : List AO} {q : SV} {l : List α} {n : Nat} (H : Rs2 f s h q l n) (hh : List AO) : lenA P hh t (.v (.sc q)) = some (.v (.sc (.int .i64 (n : Int)))) := by
  rcases H with ⟨rfl, rfl⟩ | ⟨b, rfl, _, _⟩
  · exact len_nils hu
  · exact len_sl hu _ _ _ _
theorem Rs2.ext {α : Type} {f : α → List SV} {s : Nat} {h h' : List AO} {q : SV} {l : List α} {n : Nat} (H : Rs2 f s h q l n) (hx : Ext1 h h') : Rs2 f s h' q l n := by
  rcases H with ⟨h1, h2⟩ | ⟨b, h1, h2, h3, h4⟩
  · exact .inl ⟨h1, h2⟩
  · exact .inr ⟨b, h1, Nat.lt_of_lt_of_le h2 hx.len, by rw [hx.cells h2]; exact h3, h4⟩
theorem Rs.rs2 {α : Type} {f : α → List SV} {s : Nat} {h : List AO} {q : SV} {l : List α} (H : Rs f s h q l) : Rs2 f s h q l l.length := by
  rcases H with ⟨h1, h2⟩ | ⟨b, h1, h2, h3⟩
  · exact .inl ⟨h1, by rw [h2]; rfl⟩
  · exact .inr ⟨b, h1, h2, h3, Nat.le_refl _⟩
structure RiSt where
  i : Nat
  G : LgV
  qe : SV
  h : List AO
def al1 : EnV := ⟨1, 0, 0, 3, 0, 0, noEv, 0, 0⟩
def al2 : EnV := ⟨3, 0, 0, 0, 0, 0, noEv, 0, 9⟩
def al3 : EnV := ⟨2, 0, 0, 0, 0, 0, ⟨3, 0, 0, 0, 9⟩, 0, 0⟩
def alG1 : LgV := ⟨1, (newL 2 1 3).V, [⟨3, 0, 0, 1, true, 0, noEv⟩, noTh], [al1]⟩
def alG2 : LgV := ⟨1, (newL 2 1 3).V, [⟨3, 0, 0, 1, true, 1, ⟨3, 0, 0, 0, 9⟩⟩, noTh], [al1, al3]⟩
def alG3 : LgV := ⟨1, (newL 2 1 3).V, [⟨0, 0, 0, 1, false, 0, noEv⟩, noTh], [al1, al3, al2]⟩
theorem al_1 : addL (newL 2 1 3) al1 = some alG1 := by rfl
theorem al_2 : addL alG1 al2 = none := by rfl
theorem al_3 : addL alG1 al3 = some alG2 := by rfl
theorem al_4 : addL alG2 al2 = some alG3 := by rfl
section
variable {P : Program} {T : Tab} {K d : Nat} (S : Sd P T K)
include S
theorem s10 (hd : 1 ≤ d) (x : EnV) (lk : Nat) (h : List AO) : ev P T K d 10 [.ag x.cells] lk h = some (.v (.ag x.cells), h) := by
  obtain ⟨d, rfl⟩ : ∃ k, d = k + 1 := ⟨d - 1, by omega⟩
  refine ev_pure (at10 S.t) (EnV.fr x) ?_
  unfold i10 Try.f10
  obtain ⟨kd, th, nm, ok, oo, oa, ⟨vk, vt, vo, va, ve⟩, vl, er⟩ := x
  unfold EnV.cells
  simp (maxSteps := 1000000) (disch := first | omega | (simp (disch := first | omega | (simp only [EvV.len, MonV.len, ThV.len, EnV.len, List.length_append, List.length_cons, List.length_nil, List.length_set]; first | done | omega)) only [EvV.len, MonV.len, ThV.len, EnV.len, amSide, Int.reduceToNat, Nat.reducePow, Nat.reduceMul]; first | done | omega)) only  [↓amPre, amPost, ↓s_lit', Nat.reduceAdd, Nat.reduceSub, List.replicate, retA, resultsA, resultA, toC, toCL, Nat.reduceEqDiff, (ze29 S.p), (ze36 S.p), (bu34 S.p), (bu36 S.p), (fa29_0 S.p), (fa29_1 S.p), (fa29_2 S.p), (fa29_3 S.p), (fa29_4 S.p), (fa31_0 S.p), (fa31_1 S.p), (fa31_2 S.p), (fa31_3 S.p), (fa31_4 S.p), (fa31_5 S.p), (fa31_6 S.p), part_all (ag27 S.p) (sz27 S.p), part_at (ag27 S.p) (sz27 S.p), part_all (ag29 S.p) (sz29 S.p), part_at (ag29 S.p) (sz29 S.p), part_sc (ag3 S.p), part_all (ag36 S.p) (sz36 S.p), part_at (ag36 S.p) (sz36 S.p), store_last (sz29 S.p), (sz29 S.p), store_last (sz36 S.p), (sz36 S.p), splice_def, beqI_t, beqI_f, bneI_t, bneI_f, bne_self_eq_false, beq_self_eq_true, dec_t, dec_f, cells_self, cells_other, idx_ok, Int.toNat_natCast, Nat.zero_add, Nat.add_zero, wrap_i64]
  exact Ends.some rfl
theorem s9 (hd : 1 ≤ d) (q : SV) (l : List EnV) (lk : Nat) (h : List AO) (hq : Rs EnV.cells 13 h q l) : ∃ q', ev P T K d 9 [.sc q] lk h = some (.v (.sc q'), h) ∧ ∀ h', Rs EnV.cells 13 h' q l → Rs2 EnV.cells 13 h' q' l (min l.length 120) := by
  obtain ⟨d, rfl⟩ : ∃ k, d = k + 1 := ⟨d - 1, by omega⟩
  rw [ev_run (at9 S.t)]
  unfold i9 Try.f9
  have hlen := hq.len (un23 S.p)
  have hmin : (if (120 : Int) < (l.length : Int) then (120 : Int) else (l.length : Int)) = ((min l.length 120 : Nat) : Int) := by split <;> omega
  rcases hq with ⟨rfl, rfl⟩ | ⟨b, rfl, hb, hc⟩
  · refine ⟨.nils, ?_, fun h' _ => .inl ⟨rfl, rfl⟩⟩
    have hz : ((([] : List EnV).length : Nat) : Int) = 0 := rfl
    rw [hz] at hlen
    have h0 : (if (120 : Int) < 0 then (120 : Int) else 0) = 0 := rfl
    simp (maxSteps := 1000000) (disch := first | omega | (simp (disch := first | omega | (simp only [EvV.len, MonV.len, ThV.len, EnV.len, List.length_append, List.length_cons, List.length_nil, List.length_set]; first | done | omega)) only [EvV.len, MonV.len, ThV.len, EnV.len, amSide, Int.reduceToNat, Nat.reducePow, Nat.reduceMul]; first | done | omega)) only  [↓amPre, amPost, ↓s_lit', Nat.reduceAdd, Nat.reduceSub, List.replicate, retA, resultsA, resultA, toC, toCL, Nat.reduceEqDiff, len_sl (un23 S.p), len_nils (un23 S.p), slice_lo (un23 S.p) (sz31 S.p), slice_hi (un23 S.p) (sz31 S.p), slice_lohi (un23 S.p) (sz31 S.p), slice_nil (un23 S.p) (sz31 S.p), slice_none (un23 S.p), sliceE_lohi (un23 S.p) (sz31 S.p) (by decide), sliceE_hi (un23 S.p) (sz31 S.p) (by decide), slice_mx (un23 S.p), sliceE_mx (un23 S.p) (sz31 S.p) (by decide), hlen, h0]
  · refine ⟨.sl b 0 (min l.length 120) 13, ?_, fun h' H => ?_⟩
    rotate_left
    · rcases H with ⟨e, _⟩ | ⟨b', e, h1, h2⟩
      · cases e
      · simp only [SV.sl.injEq] at e
        obtain ⟨rfl, _⟩ := e
        exact .inr ⟨b, rfl, h1, h2, by omega⟩
    have hm0 : (0 : Int) ≤ ((min l.length 120 : Nat) : Int) := by omega
    have hm1 : ((min l.length 120 : Nat) : Int) ≤ (l.length : Int) := by omega
    have hsl := slice_hi (un23 S.p) (sz31 S.p) b 0 l.length .i64 ((min l.length 120 : Nat) : Int) hm0 hm1
    simp (maxSteps := 1000000) (disch := first | omega | (simp (disch := first | omega | (simp only [EvV.len, MonV.len, ThV.len, EnV.len, List.length_append, List.length_cons, List.length_nil, List.length_set]; first | done | omega)) only [EvV.len, MonV.len, ThV.len, EnV.len, amSide, Int.reduceToNat, Nat.reducePow, Nat.reduceMul]; first | done | omega)) only  [↓amPre, amPost, ↓s_lit', Nat.reduceAdd, Nat.reduceSub, List.replicate, retA, resultsA, resultA, toC, toCL, Nat.reduceEqDiff, len_sl (un23 S.p), len_nils (un23 S.p), slice_lo (un23 S.p) (sz31 S.p), slice_hi (un23 S.p) (sz31 S.p), slice_lohi (un23 S.p) (sz31 S.p), slice_nil (un23 S.p) (sz31 S.p), slice_none (un23 S.p), sliceE_lohi (un23 S.p) (sz31 S.p) (by decide), sliceE_hi (un23 S.p) (sz31 S.p) (by decide), slice_mx (un23 S.p), sliceE_mx (un23 S.p) (sz31 S.p) (by decide), hlen, hmin, hsl, Int.toNat_natCast]
theorem s11f (hd : 4 ≤ d) (n m c : Int) (hb : ¬ ((1 ≤ n ∧ n ≤ 8) ∧ (1 ≤ m ∧ m ≤ 8) ∧ 1 ≤ c ∧ c ≤ 60)) {q : SV} {l : List EnV} {k : Nat} (lk : Nat) (h : List AO) (hq : Rs2 EnV.cells 13 h q l k) :
    ev P T K d 11 [.sc (.int .i64 n), .sc (.int .i64 m), .sc (.int .i64 c), .sc q] lk h = some (.tup [.sc (.int .i64 0), .sc (.bool (decide (k = 0)))], h) := by
  obtain ⟨d, rfl⟩ : ∃ k, d = k + 1 := ⟨d - 1, by omega⟩
  refine ev_pure (at11 S.t) rfl ?_
  unfold i11 Try.f11
  have hlen := fun hh => hq.len (un25 S.p) hh
  have f14 := fun lk h => s14f S (show 3 ≤ d by omega) n m c hb lk h
  simp (maxSteps := 1000000) (disch := first | omega | (simp (disch := first | omega | (simp only [EvV.len, MonV.len, ThV.len, EnV.len, List.length_append, List.length_cons, List.length_nil, List.length_set]; first | done | omega)) only [EvV.len, MonV.len, ThV.len, EnV.len, amSide, Int.reduceToNat, Nat.reducePow, Nat.reduceMul]; first | done | omega)) only  [↓amPre, amPost, ↓s_lit', Nat.reduceAdd, Nat.reduceSub, List.replicate, retA, resultsA, resultA, toC, toCL, Nat.reduceEqDiff, (ze36 S.p), iaddr_sl (un25 S.p) (sz36 S.p), len_sl (un25 S.p), len_nils (un25 S.p), part_all (ag36 S.p) (sz36 S.p), part_at (ag36 S.p) (sz36 S.p), store_last (sz36 S.p), (sz36 S.p), f14, hlen, bneI_t]
  exact Ends.some (by rw [beqZ]; congr 6; simp)
set_option maxHeartbeats 4000000 in
theorem s11 (hd : 7 ≤ d) {n m : Nat} {c : Int} (h1 : 1 ≤ n ∧ n ≤ 8) (h2 : 1 ≤ m ∧ m ≤ 8) (h3 : 1 ≤ c ∧ c ≤ 60) {q : SV} {l : List EnV} {k : Nat} (hk : k ≤ 1000 ∧ k ≤ l.length) (lk : Nat) (h : List AO) (hq : Rs2 EnV.cells 13 h q l k) :
    ev P T K d 11 [.sc (.int .i64 n), .sc (.int .i64 m), .sc (.int .i64 c), .sc q] lk h = some (.tup [.sc (.int .i64 (manyL (newL n m c) (l.take k))), .sc (.bool (decide (manyL (newL n m c) (l.take k) = k)))], h) := by
  obtain ⟨d, rfl⟩ : ∃ k, d = k + 1 := ⟨d - 1, by omega⟩
  refine ev_pure (at11 S.t) rfl ?_
  unfold i11 Try.f11
  have hlen := fun hh => hq.len (un25 S.p) hh
  obtain ⟨v, ha, e14, X1, p, pm, bm, bf, bw, bl, bt, rfl, L0, b0, b1, b2, b3, b4, b5⟩ := s14 S (show 3 ≤ d by omega) h1 h2 h3 h.length h (Nat.le_refl _)
  have hXl := X1.len
  simp (maxSteps := 1000000) (disch := first | omega | (simp (disch := first | omega | (simp only [EvV.len, MonV.len, ThV.len, EnV.len, List.length_append, List.length_cons, List.length_nil, List.length_set]; first | done | omega)) only [EvV.len, MonV.len, ThV.len, EnV.len, amSide, Int.reduceToNat, Nat.reducePow, Nat.reduceMul]; first | done | omega)) only  [↓amPre, amPost, ↓s_lit', Nat.reduceAdd, Nat.reduceSub, List.replicate, retA, resultsA, resultA, toC, toCL, Nat.reduceEqDiff, (ze36 S.p), iaddr_sl (un25 S.p) (sz36 S.p), len_sl (un25 S.p), len_nils (un25 S.p), part_all (ag36 S.p) (sz36 S.p), part_at (ag36 S.p) (sz36 S.p), store_last (sz36 S.p), (sz36 S.p), e14, hlen, bneI_f]
  refine ends_loop (X := RiSt) ⟨0, newL n m c, .nils, ha⟩ [8, 9, 12, 13, 29, 30, 31, 32, 33, 34, 35, 36, 37, 38] (fun x => x.i ≤ k ∧ Ext1 h x.h ∧ LgAt x.h p pm bm bf bw bl bt x.qe x.G ∧ LgI n m c x.G ∧ x.G.ents.length ≤ x.i ∧ addAll (newL n m c) (l.take x.i) = some x.G ∧ ∀ j, j < h.length → NotB j x.qe) (fun x => k - x.i)
    (fun x e => e.set 28 (.v (.sc (.int .i64 x.i)))) (fun x => x.h)
    (by have := S.k; show _ < K; simp only; omega) ⟨by simp only; omega, X1, L0, newL_I h1.2 h2.2 h3, Nat.le_refl _, rfl, fun j _ o n s e => by cases e⟩ rfl rfl ?_
  clear e14 L0 X1
  rintro ⟨i, G, qe, hj⟩ ⟨hi, hx, L, I, hel, hal, hnb⟩ again hag e he
  simp only at hi hx L I hel hal hnb hag he
  simp only [↓amPre, amPost, ↓s_lit', Nat.reduceAdd, Nat.reduceSub, List.replicate, retA, resultsA, resultA, toC, toCL, Nat.reduceEqDiff] at he
  simp only [↓amPre, amPost, ↓s_lit', Nat.reduceAdd, Nat.reduceSub, List.replicate, retA, resultsA, resultA, toC, toCL, Nat.reduceEqDiff, he]
  have htl : (l.take k).length = k := by rw [List.length_take]; omega
  refine ends_cond (fun hc1 => ?_) (fun hc1 => ?_)
  · simp only [decide_eq_true_eq] at hc1
    have hik : i < k := by omega
    have hxl := hx.len
    rcases hq.ext hx with ⟨rfl, hz⟩ | ⟨b, rfl, hbl, hcb, hkl⟩
    · omega
    obtain ⟨y, hy⟩ : ∃ y, l[i]? = some y := ⟨_, List.getElem?_eq_getElem (by omega)⟩
    have hpt := recs_part (ag36 S.p) (sz36 S.p) EnV.len hy
    have hpy := partEn S y
    have hyl := EnV.len y
    have Lb := L.ext ((Ext1.refl hj).push (.rw 36 y.cells))
    have Fb : FrL p bm bf bw bl bt qe hj (hj ++ [.rw 36 y.cells]) := FrL.of_ext ((Ext1.refl hj).push (.rw 36 y.cells))
    obtain ⟨v, h2, e15, rfl, q2, L2, F2, Q2⟩ := s15 S (show 6 ≤ d by omega) h3 Lb I h1.2 (by omega) y h.length (by omega)
    have hyk : (l.take k)[i]? = some y := by rw [List.getElem?_take_of_lt hik]; exact hy
    have htt : (l.take k).take i = l.take i := by rw [List.take_take, Nat.min_eq_left hi]
    cases hA : addL G y with
    | none =>
      rw [hA] at e15
      simp only [Option.isSome_none, Bool.false_eq_true, if_false] at e15
      have hm := many_stop (l.take k) (newL n m c) G i y (by rw [htt]; exact hal) hyk hA
      rw [hm, show decide (i = k) = false from decide_eq_false (by omega)]
      simp (maxSteps := 1000000) (disch := first | omega | (simp (disch := first | omega | (simp only [EvV.len, MonV.len, ThV.len, EnV.len, List.length_append, List.length_cons, List.length_nil, List.length_set]; first | done | omega)) only [EvV.len, MonV.len, ThV.len, EnV.len, amSide, Int.reduceToNat, Nat.reducePow, Nat.reduceMul]; first | done | omega)) only  [↓amPre, amPost, ↓s_lit', Nat.reduceAdd, Nat.reduceSub, List.replicate, retA, resultsA, resultA, toC, toCL, Nat.reduceEqDiff, he, (ze36 S.p), iaddr_sl (un25 S.p) (sz36 S.p), len_sl (un25 S.p), len_nils (un25 S.p), part_all (ag36 S.p) (sz36 S.p), part_at (ag36 S.p) (sz36 S.p), store_last (sz36 S.p), (sz36 S.p), hcb, hpt, hpy, e15, beqI_t, beqI_f, bneI_t, bneI_f, bne_self_eq_false, beq_self_eq_true, dec_t, dec_f, cells_self, cells_other, idx_ok, Int.toNat_natCast, Nat.zero_add, Nat.add_zero, wrap_i64]
      exact Ends.some rfl
    | some G' =>
      rw [hA] at e15 L2
      simp only [Option.isSome_some, if_true, Option.getD_some] at e15 L2
      have hx2 : Ext1 h h2 := (Fb.trans (.inl rfl) F2).ext hx (by omega) (by omega) (by omega) (by omega) (by omega) (by omega) hnb
      have hG' : G'.ents.length = G.ents.length + 1 := by
        obtain ⟨t, W, t', _, _, _, _, rfl⟩ := addL_some hA
        simp
      simp (maxSteps := 1000000) (disch := first | omega | (simp (disch := first | omega | (simp only [EvV.len, MonV.len, ThV.len, EnV.len, List.length_append, List.length_cons, List.length_nil, List.length_set]; first | done | omega)) only [EvV.len, MonV.len, ThV.len, EnV.len, amSide, Int.reduceToNat, Nat.reducePow, Nat.reduceMul]; first | done | omega)) only  [↓amPre, amPost, ↓s_lit', Nat.reduceAdd, Nat.reduceSub, List.replicate, retA, resultsA, resultA, toC, toCL, Nat.reduceEqDiff, he, (ze36 S.p), iaddr_sl (un25 S.p) (sz36 S.p), len_sl (un25 S.p), len_nils (un25 S.p), part_all (ag36 S.p) (sz36 S.p), part_at (ag36 S.p) (sz36 S.p), store_last (sz36 S.p), (sz36 S.p), hcb, hpt, hpy, e15, beqI_t, beqI_f, bneI_t, bneI_f, bne_self_eq_false, beq_self_eq_true, dec_t, dec_f, cells_self, cells_other, idx_ok, Int.toNat_natCast, Nat.zero_add, Nat.add_zero, wrap_i64]
      refine hag ⟨i + 1, G', q2, h2⟩ ⟨by simp only; omega, hx2, L2, I.add h3 hA, by simp only; omega, ?_, fun j hj' => Q2.notB (by simp; omega) (hnb j hj')⟩ (by simp only; omega) _ ?_
      · simp only
        rw [List.take_succ_eq_append_getElem (by omega), addAll_snoc, hal]
        rw [show l[i] = y from by have := List.getElem?_eq_getElem (show i < l.length by omega); rw [this] at hy; exact Option.some.inj hy]
        exact hA
      · simp (maxSteps := 1000000) (disch := first | omega | (simp (disch := first | omega | (simp only [EvV.len, MonV.len, ThV.len, EnV.len, List.length_append, List.length_cons, List.length_nil, List.length_set]; first | done | omega)) only [EvV.len, MonV.len, ThV.len, EnV.len, amSide, Int.reduceToNat, Nat.reducePow, Nat.reduceMul]; first | done | omega)) only [↓amPre, amPost, ↓s_lit', Nat.reduceAdd, Nat.reduceSub, List.replicate, retA, resultsA, resultA, toC, toCL, Nat.reduceEqDiff, Int.natCast_add, Int.cast_ofNat_Int, dec_t, dec_f]
  · simp only [decide_eq_false_iff_not] at hc1
    obtain rfl : i = k := by omega
    have hm := many_all (l.take i) (newL n m c) G hal
    rw [hm, htl, show decide (i = i) = true from decide_eq_true rfl]
    simp (maxSteps := 1000000) (disch := first | omega | (simp (disch := first | omega | (simp only [EvV.len, MonV.len, ThV.len, EnV.len, List.length_append, List.length_cons, List.length_nil, List.length_set]; first | done | omega)) only [EvV.len, MonV.len, ThV.len, EnV.len, amSide, Int.reduceToNat, Nat.reducePow, Nat.reduceMul]; first | done | omega)) only  [↓amPre, amPost, ↓s_lit', Nat.reduceAdd, Nat.reduceSub, List.replicate, retA, resultsA, resultA, toC, toCL, Nat.reduceEqDiff, he, (ze36 S.p), iaddr_sl (un25 S.p) (sz36 S.p), len_sl (un25 S.p), len_nils (un25 S.p), part_all (ag36 S.p) (sz36 S.p), part_at (ag36 S.p) (sz36 S.p), store_last (sz36 S.p), (sz36 S.p), hlen]
    exact Ends.some rfl
set_option maxHeartbeats 4000000 in
/-- The law's probe. -/
theorem s13 (hd : 7 ≤ d) (lk : Nat) (h : List AO) : ev P T K d 13 [] lk h = some (.v (.sc (.bool true)), h) := by
  obtain ⟨d, rfl⟩ : ∃ k, d = k + 1 := ⟨d - 1, by omega⟩
  refine ev_pure (at13 S.t) rfl ?_
  unfold i13 Try.f13
  obtain ⟨v, h0, e14, X1, p, pm, bm, bf, bw, bl, bt, rfl, L0, b0, b1, b2, b3, b4, b5⟩ := s14 S (show 3 ≤ d by omega) (n := 2) (m := 1) (c := 3) (by omega) (by omega) (by omega) h.length h (Nat.le_refl _)
  have I0 : LgI 2 1 3 (newL 2 1 3) := newL_I (by omega) (by omega) (by omega)
  have I1 := I0.add (by omega) al_1
  have I2 := I1.add (by omega) al_3
  have I3 := I2.add (by omega) al_4
  have hn1 : binOpA P .eql 56 (.v (.sc (.ptr p 0))) (.v (.sc .nilp)) = some (.v (.sc (.bool false))) := by simp [binOpA, eqA, un56 S.p]
  obtain ⟨v, ha, e1, rfl, q1, L1, F1, Q1⟩ := s15 S (show 6 ≤ d by omega) (by omega) L0 I0 (by omega) (by simp [newL]) al1 h.length (by omega)
  rw [al_1] at e1 L1
  simp only [Option.isSome_some, if_true, Option.getD_some] at e1 L1
  obtain ⟨v, hb, e2, rfl, q2, L2, F2, Q2⟩ := s15 S (show 6 ≤ d by omega) (by omega) L1 I1 (by omega) (by simp [alG1]) al2 h.length (by omega)
  rw [al_2] at e2 L2
  simp only [Option.isSome_none, Bool.false_eq_true, if_false, Option.getD_none] at e2 L2
  obtain ⟨v, hc, e3, rfl, q3, L3, F3, Q3⟩ := s15 S (show 6 ≤ d by omega) (by omega) L2 I1 (by omega) (by simp [alG1]) al3 h.length (by omega)
  rw [al_3] at e3 L3
  simp only [Option.isSome_some, if_true, Option.getD_some] at e3 L3
  obtain ⟨v, he, e4, rfl, q4, L4, F4, Q4⟩ := s15 S (show 6 ≤ d by omega) (by omega) L3 I2 (by omega) (by simp [alG2]) al2 h.length (by omega)
  rw [al_4] at e4 L4
  simp only [Option.isSome_some, if_true, Option.getD_some] at e4 L4
  have f18 := fun lk => s18 S (show 2 ≤ d by omega) L4 lk
  rw [show alG3.ents.length = 3 from rfl] at f18
  unfold EnV.cells al1 noEv at e1
  unfold EnV.cells al2 noEv at e2 e4
  unfold EnV.cells al3 at e3
  have hz3 : ((3 : Nat) : Int) = 3 := rfl
  rw [show ((2 : Nat) : Int) = 2 from rfl, show ((1 : Nat) : Int) = 1 from rfl] at e14
  simp (maxSteps := 1000000) (disch := first | omega | (simp (disch := first | omega | (simp only [EvV.len, MonV.len, ThV.len, EnV.len, List.length_append, List.length_cons, List.length_nil, List.length_set]; first | done | omega)) only [EvV.len, MonV.len, ThV.len, EnV.len, amSide, Int.reduceToNat, Nat.reducePow, Nat.reduceMul]; first | done | omega)) only  [↓amPre, amPost, ↓s_lit', Nat.reduceAdd, Nat.reduceSub, List.replicate, retA, resultsA, resultA, toC, toCL, Nat.reduceEqDiff, (bu27 S.p), (bu34 S.p), (bu36 S.p), e14, hn1, e1, e2, e3, e4, f18, hz3, splice_def, beqI_t, beqI_f, bneI_t, bneI_f, bne_self_eq_false, beq_self_eq_true, dec_t, dec_f, cells_self, cells_other, idx_ok, Int.toNat_natCast, Nat.zero_add, Nat.add_zero, wrap_i64]
  exact Ends.some rfl
end
end Go.AM
/- Logs: calls, commits and returns in turn; a log that nobody made. Conditions: none. -/
set_option linter.unusedVariables false
set_option linter.unusedSimpArgs false
set_option maxRecDepth 100000
namespace Go.AM
open Go.Proofs
-- LENS: EvV.len, MonV.len, ThV.len, EnV.len
structure TuSt where
  i : Nat
  s : TrV
  h : List AO
section
variable {P : Program} {T : Tab} {K d : Nat} (S : Sd P T K)
include S
theorem partRn (x : EnV) : partA P 31 x.cells 0 = some (.ag x.cells) := part_all (ag31 S.p) (sz31 S.p) _ x.len
end
end Go.AM
