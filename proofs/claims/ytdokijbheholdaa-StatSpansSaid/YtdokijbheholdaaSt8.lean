/- Counts: one thread's spans, and the longest one. Conditions: none. -/
import Derived.Test.YtdokijbheholdaaSt7
set_option linter.unusedVariables false
set_option linter.unusedSimpArgs false
set_option maxRecDepth 100000
namespace Go.AM
open Go.Proofs
def spT (th : Int) (l : List SpV) : List Int := (l.filter fun s => decide (s.t = th)).map SpV.n
theorem spT_snoc (th : Int) (l : List SpV) (s : SpV) : spT th (l ++ [s]) = if s.t = th then spT th l ++ [s.n] else spT th l := by
  unfold spT
  rw [List.filter_append, List.map_append]
  by_cases h : s.t = th <;> simp [h]
theorem spT_len (th : Int) (l : List SpV) : (spT th l).length ≤ l.length := by
  unfold spT; rw [List.length_map]; exact List.length_filter_le _ _
/-- The longest one, the first of those. -/
def lgS (l : List SpV) : SpV := l.foldl (fun b s => if b.n < s.n ∧ 0 ≤ s.t ∧ s.t < 256 then s else b) ⟨-1, 0⟩
theorem lgS_snoc (l : List SpV) (s : SpV) : lgS (l ++ [s]) = if (lgS l).n < s.n ∧ 0 ≤ s.t ∧ s.t < 256 then s else lgS l := by
  unfold lgS; rw [List.foldl_append]; rfl
theorem take_snocP {α : Type} (l : List α) (i : Nat) (x : α) (h : l[i]? = some x) : l.take (i + 1) = l.take i ++ [x] := by
  rw [List.take_add_one, h]; rfl
theorem SpV.c0 (x : SpV) : x.cells[0]? = some (.int .i64 x.t) := nrfl rfl
theorem SpV.c1 (x : SpV) : x.cells[1]? = some (.int .i64 x.n) := nrfl rfl
-- LENS: EnV.len, SpV.len
set_option maxHeartbeats 8000000 in
theorem s39 {P : Program} {T : Tab} {K d : Nat} (S : Sd P T K) (hd : 2 ≤ d) (q : SV) (l : List EnV) (hl : l.length ≤ 300) (th : Int) (lk : Nat) (h : List AO) (hlk : lk ≤ h.length) (hq : Rs EnV.cells 13 h q l) :
    Ends (fun v h' => Ext1 h h' ∧ ∃ q', v = .v (.sc q') ∧ Own 3 1 h.length h' q' (recs I1 (spT th (spansN l l.length)))) (ev P T K d 39 [.sc q, .sc (.int .i64 th)] lk h) := by
  obtain ⟨d, rfl⟩ : ∃ k, d = k + 1 := ⟨d - 1, by omega⟩
  rw [ev_run (at39 S.t)]
  unfold i39 Try.f39
  obtain ⟨v, h1, e55, x1, q1, rfl, ho1⟩ := s55 S (show 1 ≤ d by omega) q l hl lk h hlk hq
  have hr1 := ho1.rs (by omega) SpV.len
  have hlen := hr1.len (un94 S.p)
  have hsl := spansN_len l l.length
  generalize spansN l l.length = L at *
  simp (maxSteps := 1000000) (disch := first | omega | (simp (disch := first | omega | (simp only [EnV.len, SpV.len, List.length_append, List.length_cons, List.length_nil, List.length_set]; first | done | omega)) only [EnV.len, SpV.len, amSide, Int.reduceToNat, Nat.reducePow, Nat.reduceMul]; first | done | omega)) only  [↓amPre, amPost, ↓s_lit', Nat.reduceAdd, Nat.reduceSub, List.replicate, retA, resultsA, resultA, toC, toCL, Nat.reduceEqDiff, (ze97 S.p), append_at (un35 S.p) (sz3 S.p) (by3 S.p) (ze3 S.p) (by decide) (by decide) rfl, sl_cells (sz3 S.p), lit_fill (un35 S.p) (sz3 S.p) (ze3 S.p), (fa97_0 S.p), (fa97_1 S.p), iaddr_sl (un94 S.p) (sz97 S.p), len_sl (un94 S.p), len_nils (un94 S.p), part_sc (ag3 S.p), part_all (ag97 S.p) (sz97 S.p), part_at (ag97 S.p) (sz97 S.p), store_last (sz97 S.p), (sz97 S.p), e55, hlen]
  refine ends_loop (X := SpSt) ⟨0, .nils, h1⟩ [7, 12, 13, 14, 15, 16, 17, 18, 19, 20, 21, 22, 23, 24]
    (fun x => x.i ≤ L.length ∧ Ext1 h1 x.h ∧ Own 3 1 h1.length x.h x.q (recs I1 (spT th (L.take x.i)))) (fun x => L.length - x.i)
    (fun x e => (e.set 5 (.v (.sc x.q))).set 11 (.v (.sc (.int .i64 x.i)))) (fun x => x.h)
    (by have := S.k; show _ < K; simp only; omega) ⟨by simp only; omega, Ext1.refl _, Own.nil _ _ _ _⟩ rfl rfl ?_
  rintro ⟨i, qo, hj⟩ ⟨hi, hx, ho⟩ again hag e he
  simp only at hi hx ho hag he
  simp only [↓amPre, amPost, ↓s_lit', Nat.reduceAdd, Nat.reduceSub, List.replicate, retA, resultsA, resultA, toC, toCL, Nat.reduceEqDiff] at he
  simp only [↓amPre, amPost, ↓s_lit', Nat.reduceAdd, Nat.reduceSub, List.replicate, retA, resultsA, resultA, toC, toCL, Nat.reduceEqDiff, he]
  refine ends_cond (fun hc1 => ?_) (fun hc1 => ?_)
  · simp only [decide_eq_true_eq] at hc1
    have hio : i < L.length := by omega
    obtain ⟨b, rfl, hb, hc⟩ := (hr1.ext hx).at (by omega)
    obtain ⟨x, hxi⟩ : ∃ x, L[i]? = some x := ⟨_, List.getElem?_eq_getElem hio⟩
    have hpt := recs_part (ag97 S.p) (sz97 S.p) SpV.len hxi
    have hle := hx.len
    have hle1 := x1.len
    have htl := List.length_take_le i L
    have hsn := spT_snoc th (L.take i) x
    have hspl := spT_len th (L.take i)
    rw [← take_snocP L i x hxi] at hsn
    have gc0 := SpV.c0 x
    have gc1 := SpV.c1 x
    by_cases k1 : x.t = th
    · rw [if_pos k1] at hsn
      obtain ⟨q2, h2, happ, hown, hl2, _, hx2, _⟩ := grow_own (b := 8) (lk := lk) ((ho.push (.rw 97 x.cells)).push (.rw 3 [.int .i64 x.n])) (I1 x.n) (by omega) (by simp [I1]) (Nat.mod_one _) (by omega) (by simp; omega) (by rw [recs_len I1_len]; simp [I1]; omega)
      have hx3 := hx2 h1 ((hx.push (.rw 97 x.cells)).push (.rw 3 [.int .i64 x.n])) (Nat.le_refl _)
      rw [recs_snoc, ← hsn] at hown
      simp only [I1] at happ
      simp (maxSteps := 1000000) (disch := first | omega | (simp (disch := first | omega | (simp only [EnV.len, SpV.len, List.length_append, List.length_cons, List.length_nil, List.length_set]; first | done | omega)) only [EnV.len, SpV.len, amSide, Int.reduceToNat, Nat.reducePow, Nat.reduceMul]; first | done | omega)) only  [↓amPre, amPost, ↓s_lit', Nat.reduceAdd, Nat.reduceSub, List.replicate, retA, resultsA, resultA, toC, toCL, Nat.reduceEqDiff, he, (ze97 S.p), append_at (un35 S.p) (sz3 S.p) (by3 S.p) (ze3 S.p) (by decide) (by decide) rfl, sl_cells (sz3 S.p), lit_fill (un35 S.p) (sz3 S.p) (ze3 S.p), (fa97_0 S.p), (fa97_1 S.p), iaddr_sl (un94 S.p) (sz97 S.p), len_sl (un94 S.p), len_nils (un94 S.p), part_sc (ag3 S.p), part_all (ag97 S.p) (sz97 S.p), part_at (ag97 S.p) (sz97 S.p), store_last (sz97 S.p), (sz97 S.p), idx_ok, hc, hpt, cells_self, cells_other, gc0, gc1, happ, beqI_t, List.flatten_cons, List.flatten_nil, List.append_nil, Nat.mul_one, Int.toNat_natCast, Nat.zero_add, wrap_i64]
      refine hag ⟨i + 1, q2, h2⟩ ⟨hio, hx3, hown⟩ (by simp only; omega) _ ?_
      simp (maxSteps := 1000000) (disch := first | omega | (simp (disch := first | omega | (simp only [EnV.len, SpV.len, List.length_append, List.length_cons, List.length_nil, List.length_set]; first | done | omega)) only [EnV.len, SpV.len, amSide, Int.reduceToNat, Nat.reducePow, Nat.reduceMul]; first | done | omega)) only [↓amPre, amPost, ↓s_lit', Nat.reduceAdd, Nat.reduceSub, List.replicate, retA, resultsA, resultA, toC, toCL, Nat.reduceEqDiff, Int.natCast_add, Int.cast_ofNat_Int, dec_t, dec_f]
    · rw [if_neg k1] at hsn
      simp (maxSteps := 1000000) (disch := first | omega | (simp (disch := first | omega | (simp only [EnV.len, SpV.len, List.length_append, List.length_cons, List.length_nil, List.length_set]; first | done | omega)) only [EnV.len, SpV.len, amSide, Int.reduceToNat, Nat.reducePow, Nat.reduceMul]; first | done | omega)) only  [↓amPre, amPost, ↓s_lit', Nat.reduceAdd, Nat.reduceSub, List.replicate, retA, resultsA, resultA, toC, toCL, Nat.reduceEqDiff, he, (ze97 S.p), append_at (un35 S.p) (sz3 S.p) (by3 S.p) (ze3 S.p) (by decide) (by decide) rfl, sl_cells (sz3 S.p), lit_fill (un35 S.p) (sz3 S.p) (ze3 S.p), (fa97_0 S.p), (fa97_1 S.p), iaddr_sl (un94 S.p) (sz97 S.p), len_sl (un94 S.p), len_nils (un94 S.p), part_sc (ag3 S.p), part_all (ag97 S.p) (sz97 S.p), part_at (ag97 S.p) (sz97 S.p), store_last (sz97 S.p), (sz97 S.p), idx_ok, hc, hpt, cells_self, cells_other, gc0, gc1, beqI_f, Nat.mul_one, Int.toNat_natCast, Nat.zero_add, wrap_i64]
      refine hag ⟨i + 1, qo, _⟩ ⟨hio, hx.push _, by simp only [hsn]; exact ho.push _⟩ (by simp only; omega) _ ?_
      simp (maxSteps := 1000000) (disch := first | omega | (simp (disch := first | omega | (simp only [EnV.len, SpV.len, List.length_append, List.length_cons, List.length_nil, List.length_set]; first | done | omega)) only [EnV.len, SpV.len, amSide, Int.reduceToNat, Nat.reducePow, Nat.reduceMul]; first | done | omega)) only [↓amPre, amPost, ↓s_lit', Nat.reduceAdd, Nat.reduceSub, List.replicate, retA, resultsA, resultA, toC, toCL, Nat.reduceEqDiff, Int.natCast_add, Int.cast_ofNat_Int, dec_t, dec_f]
  · simp only [decide_eq_false_iff_not] at hc1
    obtain rfl : i = L.length := by omega
    rw [List.take_length] at ho
    simp (maxSteps := 1000000) (disch := first | omega | (simp (disch := first | omega | (simp only [EnV.len, SpV.len, List.length_append, List.length_cons, List.length_nil, List.length_set]; first | done | omega)) only [EnV.len, SpV.len, amSide, Int.reduceToNat, Nat.reducePow, Nat.reduceMul]; first | done | omega)) only  [↓amPre, amPost, ↓s_lit', Nat.reduceAdd, Nat.reduceSub, List.replicate, retA, resultsA, resultA, toC, toCL, Nat.reduceEqDiff, he, (ze97 S.p), append_at (un35 S.p) (sz3 S.p) (by3 S.p) (ze3 S.p) (by decide) (by decide) rfl, sl_cells (sz3 S.p), lit_fill (un35 S.p) (sz3 S.p) (ze3 S.p), (fa97_0 S.p), (fa97_1 S.p), iaddr_sl (un94 S.p) (sz97 S.p), len_sl (un94 S.p), len_nils (un94 S.p), part_sc (ag3 S.p), part_all (ag97 S.p) (sz97 S.p), part_at (ag97 S.p) (sz97 S.p), store_last (sz97 S.p), (sz97 S.p)]
    exact Ends.some ⟨x1.trans hx, qo, rfl, ho.mono x1.len⟩
structure LgSt where
  i : Nat
  h : List AO
set_option maxHeartbeats 8000000 in
theorem s41 {P : Program} {T : Tab} {K d : Nat} (S : Sd P T K) (hd : 2 ≤ d) (q : SV) (l : List EnV) (hl : l.length ≤ 300) (lk : Nat) (h : List AO) (hq : Rs EnV.cells 13 h q l) :
    ev P T K d 41 [.sc q] lk h = some (.tup [.sc (.int .i64 (lgS (spansN l l.length)).t), .sc (.int .i64 (lgS (spansN l l.length)).n)], h) := by
  obtain ⟨d, rfl⟩ : ∃ k, d = k + 1 := ⟨d - 1, by omega⟩
  refine ev_pure (at41 S.t) rfl ?_
  unfold i41 Try.f41
  have x01 : Ext1 h (h ++ [.rw 97 [.int .i64 (-1), .int .i64 0]]) := (Ext1.refl h).push _
  have hlen1 : (h ++ [AO.rw 97 [.int .i64 (-1), .int .i64 0]]).length = h.length + 1 := by simp
  have c4 : (h ++ [AO.rw 97 [.int .i64 (-1), .int .i64 0]])[h.length]? = some (.rw 97 (lgS []).cells) := by simp [lgS, SpV.cells]
  generalize hh1 : h ++ [AO.rw 97 [.int .i64 (-1), .int .i64 0]] = h1 at *
  obtain ⟨v, h2, e55, x1, q1, rfl, ho1⟩ := s55 S (show 1 ≤ d by omega) q l hl h.length h1 (by omega) (hq.ext x01)
  have hr1 := ho1.rs (by omega) SpV.len
  have hlen := hr1.len (un94 S.p)
  have hsl := spansN_len l l.length
  generalize spansN l l.length = L at *
  simp (maxSteps := 1000000) (disch := first | omega | (simp (disch := first | omega | (simp only [EnV.len, SpV.len, List.length_append, List.length_cons, List.length_nil, List.length_set]; first | done | omega)) only [EnV.len, SpV.len, amSide, Int.reduceToNat, Nat.reducePow, Nat.reduceMul]; first | done | omega)) only  [↓amPre, amPost, ↓s_lit', Nat.reduceAdd, Nat.reduceSub, List.replicate, retA, resultsA, resultA, toC, toCL, Nat.reduceEqDiff, (ze97 S.p), (bu97 S.p), (fa97_0 S.p), (fa97_1 S.p), iaddr_sl (un94 S.p) (sz97 S.p), len_sl (un94 S.p), len_nils (un94 S.p), part_sc (ag3 S.p), part_all (ag97 S.p) (sz97 S.p), part_at (ag97 S.p) (sz97 S.p), store_last (sz97 S.p), (sz97 S.p), hh1, e55, hlen]
  refine ends_loop (X := LgSt) ⟨0, h2⟩ [6, 12, 13, 14, 15, 16, 17, 18, 19, 20, 21, 22, 23, 24, 25, 26, 27, 28, 29, 30, 31]
    (fun x => x.i ≤ L.length ∧ h2.length ≤ x.h.length ∧ (∀ j, j < h2.length → j ≠ h.length → x.h[j]? = h2[j]?) ∧ x.h[h.length]? = some (.rw 97 (lgS (L.take x.i)).cells)) (fun x => L.length - x.i)
    (fun x e => e.set 11 (.v (.sc (.int .i64 x.i)))) (fun x => x.h)
    (by have := S.k; show _ < K; simp only; omega) ⟨by simp only; omega, Nat.le_refl _, fun _ _ _ => rfl, by have := x1.get (show h.length < h1.length by omega); rw [this]; exact c4⟩ rfl rfl ?_
  rintro ⟨i, hj⟩ ⟨hi, hle, hold, hbest⟩ again hag e he
  simp only at hi hle hold hbest hag he
  simp only [↓amPre, amPost, ↓s_lit', Nat.reduceAdd, Nat.reduceSub, List.replicate, retA, resultsA, resultA, toC, toCL, Nat.reduceEqDiff] at he
  simp only [↓amPre, amPost, ↓s_lit', Nat.reduceAdd, Nat.reduceSub, List.replicate, retA, resultsA, resultA, toC, toCL, Nat.reduceEqDiff, he]
  have hl1 := x1.len
  have hcb := cells_at hbest
  have gb0 := SpV.c0 (lgS (L.take i))
  have gb1 := SpV.c1 (lgS (L.take i))
  refine ends_cond (fun hc1 => ?_) (fun hc1 => ?_)
  · simp only [decide_eq_true_eq] at hc1
    have hio : i < L.length := by omega
    obtain ⟨b, rfl, hbl, hb, hc⟩ : ∃ b, q1 = .sl b 0 L.length 2 ∧ h1.length ≤ b ∧ b < h2.length ∧ h2[b]? = some (.rw 97 (recs SpV.cells L)) := by
      rcases ho1 with ⟨_, e⟩ | ⟨l, l1, l2, l3, l4, _⟩
      · have e1 := recs_len SpV.len L
        rw [e] at e1; simp at e1; omega
      · refine ⟨l, ?_, l1, l2, l4⟩
        rw [l3, recs_len SpV.len, Nat.mul_div_cancel _ (by omega)]
    have hc := cells_at ((hold b hb (by omega)).trans hc)
    obtain ⟨x, hxi⟩ : ∃ x, L[i]? = some x := ⟨_, List.getElem?_eq_getElem hio⟩
    have hpt := recs_part (ag97 S.p) (sz97 S.p) SpV.len hxi
    have hsn := lgS_snoc (L.take i) x
    rw [← take_snocP L i x hxi] at hsn
    have gc0 := SpV.c0 x
    have gc1 := SpV.c1 x
    generalize lgS (L.take i) = B at *
    have hnx : ∀ j, j < h2.length → j ≠ h.length → (hj ++ [AO.rw 97 x.cells])[j]? = h2[j]? := fun j h1 h2 => by rw [List.getElem?_append_left (by omega)]; exact hold j h1 h2
    have hbx : (hj ++ [AO.rw 97 x.cells])[h.length]? = some (.rw 97 B.cells) := by rw [List.getElem?_append_left (by omega)]; exact hbest
    by_cases k1 : B.n < x.n ∧ 0 ≤ x.t ∧ x.t < 256
    · rw [if_pos k1] at hsn
      obtain ⟨k1, k2, k3⟩ := k1
      have hlx : (hj ++ [AO.rw 97 x.cells]).length = hj.length + 1 := by simp
      have hst : storeA P (hj ++ [AO.rw 97 x.cells]) h.length 97 (.v (.sc (.ptr h.length 0))) (.v (.ag x.cells)) = some ((hj ++ [AO.rw 97 x.cells]).set h.length (.rw 97 x.cells)) := by
        have hsp2 : splice B.cells 0 x.cells = x.cells := nrfl rfl
        rw [store_at (n := 2) hbx (by omega) (sz97 S.p) (by rw [cells_ag, SpV.len]) (by rw [SpV.len]; omega), cells_ag, hsp2]
      simp (maxSteps := 1000000) (disch := first | omega | (simp (disch := first | omega | (simp only [EnV.len, SpV.len, List.length_append, List.length_cons, List.length_nil, List.length_set]; first | done | omega)) only [EnV.len, SpV.len, amSide, Int.reduceToNat, Nat.reducePow, Nat.reduceMul]; first | done | omega)) only  [↓amPre, amPost, ↓s_lit', Nat.reduceAdd, Nat.reduceSub, List.replicate, retA, resultsA, resultA, toC, toCL, Nat.reduceEqDiff, he, (ze97 S.p), (bu97 S.p), (fa97_0 S.p), (fa97_1 S.p), iaddr_sl (un94 S.p) (sz97 S.p), len_sl (un94 S.p), len_nils (un94 S.p), part_sc (ag3 S.p), part_all (ag97 S.p) (sz97 S.p), part_at (ag97 S.p) (sz97 S.p), store_last (sz97 S.p), (sz97 S.p), idx_ok, hc, hpt, hcb, cells_self, cells_other, gb0, gb1, gc0, gc1, hst, dec_t, Int.toNat_natCast, Nat.zero_add, wrap_i64]
      refine hag ⟨i + 1, _⟩ ⟨hio, by simp only [List.length_set, hlx]; omega, fun j h1 h2 => by simp only; rw [List.getElem?_set_ne (Ne.symm h2)]; exact hnx j h1 h2, by simp only [hsn]; rw [List.getElem?_set_self (by rw [hlx]; omega)]⟩ (by simp only; omega) _ ?_
      simp (maxSteps := 1000000) (disch := first | omega | (simp (disch := first | omega | (simp only [EnV.len, SpV.len, List.length_append, List.length_cons, List.length_nil, List.length_set]; first | done | omega)) only [EnV.len, SpV.len, amSide, Int.reduceToNat, Nat.reducePow, Nat.reduceMul]; first | done | omega)) only [↓amPre, amPost, ↓s_lit', Nat.reduceAdd, Nat.reduceSub, List.replicate, retA, resultsA, resultA, toC, toCL, Nat.reduceEqDiff, Int.natCast_add, Int.cast_ofNat_Int, dec_t, dec_f]
    · rw [if_neg k1] at hsn
      by_cases k2 : B.n < x.n
      · by_cases k3 : 0 ≤ x.t
        · have k4 : ¬ x.t < 256 := fun q => k1 ⟨k2, k3, q⟩
          simp (maxSteps := 1000000) (disch := first | omega | (simp (disch := first | omega | (simp only [EnV.len, SpV.len, List.length_append, List.length_cons, List.length_nil, List.length_set]; first | done | omega)) only [EnV.len, SpV.len, amSide, Int.reduceToNat, Nat.reducePow, Nat.reduceMul]; first | done | omega)) only  [↓amPre, amPost, ↓s_lit', Nat.reduceAdd, Nat.reduceSub, List.replicate, retA, resultsA, resultA, toC, toCL, Nat.reduceEqDiff, he, (ze97 S.p), (bu97 S.p), (fa97_0 S.p), (fa97_1 S.p), iaddr_sl (un94 S.p) (sz97 S.p), len_sl (un94 S.p), len_nils (un94 S.p), part_sc (ag3 S.p), part_all (ag97 S.p) (sz97 S.p), part_at (ag97 S.p) (sz97 S.p), store_last (sz97 S.p), (sz97 S.p), idx_ok, hc, hpt, hcb, cells_self, cells_other, gb0, gb1, gc0, gc1, dec_t, dec_f, Int.toNat_natCast, Nat.zero_add, wrap_i64]
          refine hag ⟨i + 1, _⟩ ⟨hio, by simp; omega, hnx, by simp only [hsn]; exact hbx⟩ (by simp only; omega) _ ?_
          simp (maxSteps := 1000000) (disch := first | omega | (simp (disch := first | omega | (simp only [EnV.len, SpV.len, List.length_append, List.length_cons, List.length_nil, List.length_set]; first | done | omega)) only [EnV.len, SpV.len, amSide, Int.reduceToNat, Nat.reducePow, Nat.reduceMul]; first | done | omega)) only [↓amPre, amPost, ↓s_lit', Nat.reduceAdd, Nat.reduceSub, List.replicate, retA, resultsA, resultA, toC, toCL, Nat.reduceEqDiff, Int.natCast_add, Int.cast_ofNat_Int, dec_t, dec_f]
        · simp (maxSteps := 1000000) (disch := first | omega | (simp (disch := first | omega | (simp only [EnV.len, SpV.len, List.length_append, List.length_cons, List.length_nil, List.length_set]; first | done | omega)) only [EnV.len, SpV.len, amSide, Int.reduceToNat, Nat.reducePow, Nat.reduceMul]; first | done | omega)) only  [↓amPre, amPost, ↓s_lit', Nat.reduceAdd, Nat.reduceSub, List.replicate, retA, resultsA, resultA, toC, toCL, Nat.reduceEqDiff, he, (ze97 S.p), (bu97 S.p), (fa97_0 S.p), (fa97_1 S.p), iaddr_sl (un94 S.p) (sz97 S.p), len_sl (un94 S.p), len_nils (un94 S.p), part_sc (ag3 S.p), part_all (ag97 S.p) (sz97 S.p), part_at (ag97 S.p) (sz97 S.p), store_last (sz97 S.p), (sz97 S.p), idx_ok, hc, hpt, hcb, cells_self, cells_other, gb0, gb1, gc0, gc1, dec_t, dec_f, Int.toNat_natCast, Nat.zero_add, wrap_i64]
          refine hag ⟨i + 1, _⟩ ⟨hio, by simp; omega, hnx, by simp only [hsn]; exact hbx⟩ (by simp only; omega) _ ?_
          simp (maxSteps := 1000000) (disch := first | omega | (simp (disch := first | omega | (simp only [EnV.len, SpV.len, List.length_append, List.length_cons, List.length_nil, List.length_set]; first | done | omega)) only [EnV.len, SpV.len, amSide, Int.reduceToNat, Nat.reducePow, Nat.reduceMul]; first | done | omega)) only [↓amPre, amPost, ↓s_lit', Nat.reduceAdd, Nat.reduceSub, List.replicate, retA, resultsA, resultA, toC, toCL, Nat.reduceEqDiff, Int.natCast_add, Int.cast_ofNat_Int, dec_t, dec_f]
      · simp (maxSteps := 1000000) (disch := first | omega | (simp (disch := first | omega | (simp only [EnV.len, SpV.len, List.length_append, List.length_cons, List.length_nil, List.length_set]; first | done | omega)) only [EnV.len, SpV.len, amSide, Int.reduceToNat, Nat.reducePow, Nat.reduceMul]; first | done | omega)) only  [↓amPre, amPost, ↓s_lit', Nat.reduceAdd, Nat.reduceSub, List.replicate, retA, resultsA, resultA, toC, toCL, Nat.reduceEqDiff, he, (ze97 S.p), (bu97 S.p), (fa97_0 S.p), (fa97_1 S.p), iaddr_sl (un94 S.p) (sz97 S.p), len_sl (un94 S.p), len_nils (un94 S.p), part_sc (ag3 S.p), part_all (ag97 S.p) (sz97 S.p), part_at (ag97 S.p) (sz97 S.p), store_last (sz97 S.p), (sz97 S.p), idx_ok, hc, hpt, hcb, cells_self, cells_other, gb0, gb1, gc0, gc1, dec_t, dec_f, Int.toNat_natCast, Nat.zero_add, wrap_i64]
        refine hag ⟨i + 1, _⟩ ⟨hio, by simp; omega, hnx, by simp only [hsn]; exact hbx⟩ (by simp only; omega) _ ?_
        simp (maxSteps := 1000000) (disch := first | omega | (simp (disch := first | omega | (simp only [EnV.len, SpV.len, List.length_append, List.length_cons, List.length_nil, List.length_set]; first | done | omega)) only [EnV.len, SpV.len, amSide, Int.reduceToNat, Nat.reducePow, Nat.reduceMul]; first | done | omega)) only [↓amPre, amPost, ↓s_lit', Nat.reduceAdd, Nat.reduceSub, List.replicate, retA, resultsA, resultA, toC, toCL, Nat.reduceEqDiff, Int.natCast_add, Int.cast_ofNat_Int, dec_t, dec_f]
  · simp only [decide_eq_false_iff_not] at hc1
    obtain rfl : i = L.length := by omega
    rw [List.take_length] at *
    simp (maxSteps := 1000000) (disch := first | omega | (simp (disch := first | omega | (simp only [EnV.len, SpV.len, List.length_append, List.length_cons, List.length_nil, List.length_set]; first | done | omega)) only [EnV.len, SpV.len, amSide, Int.reduceToNat, Nat.reducePow, Nat.reduceMul]; first | done | omega)) only  [↓amPre, amPost, ↓s_lit', Nat.reduceAdd, Nat.reduceSub, List.replicate, retA, resultsA, resultA, toC, toCL, Nat.reduceEqDiff, he, (ze97 S.p), (bu97 S.p), (fa97_0 S.p), (fa97_1 S.p), iaddr_sl (un94 S.p) (sz97 S.p), len_sl (un94 S.p), len_nils (un94 S.p), part_sc (ag3 S.p), part_all (ag97 S.p) (sz97 S.p), part_at (ag97 S.p) (sz97 S.p), store_last (sz97 S.p), (sz97 S.p), hcb, gb0, gb1]
    exact Ends.some rfl
end Go.AM
