/- Counts: the code's spans. Conditions: none. -/
import Derived.Test.YtdokijbheholdaaSt6
import Derived.Test.YtdokijbheholdaaDict
set_option linter.unusedVariables false
set_option linter.unusedSimpArgs false
set_option maxRecDepth 100000
namespace Go.AM
open Go.Proofs
theorem spansN_succ {l : List EnV} {i : Nat} {e : EnV} (h : l[i]? = some e) : spansN l (i + 1) = if e.k = 3 ∧ 0 < scanS e.t (l.take i) then spansN l i ++ [⟨e.t, (i : Int) + 2 - (scanS e.t (l.take i) : Nat)⟩] else spansN l i := by
  simp only [spansN, h]
theorem Own.mono {e s lo lo' : Nat} {h : List AO} {q : SV} {cs : List SV} (H : Own e s lo h q cs) (hl : lo' ≤ lo) : Own e s lo' h q cs := by
  rcases H with H | ⟨l, h1, h2⟩
  · exact .inl H
  · exact .inr ⟨l, by omega, h2⟩
theorem Own.apart {e s lo : Nat} {h : List AO} {q : SV} {cs : List SV} (H : Own e s lo h q cs) {j : Nat} (hj : h.length ≤ j) (o n t : Nat) : Apart (.sl j o n t) q := by
  rcases H with ⟨rfl, _⟩ | ⟨l, h1, h2, rfl, _⟩
  · exact Apart.nil _
  · intro l1 o1 n1 s1 o' n' s' e1 e2
    cases e1; cases e2; omega
theorem spl2 (a b : SV) : splice [.int .i64 0, .int .i64 0] 0 [a, b] = [a, b] := nrfl rfl
structure SpSt where
  i : Nat
  q : SV
  h : List AO
-- LENS: EnV.len, SpV.len
set_option maxHeartbeats 8000000 in
theorem s55 {P : Program} {T : Tab} {K d : Nat} (S : Sd P T K) (hd : 1 ≤ d) (q : SV) (l : List EnV) (hl : l.length ≤ 300) (lk : Nat) (h : List AO) (hlk : lk ≤ h.length) (hq : Rs EnV.cells 13 h q l) :
    Ends (fun v h' => Ext1 h h' ∧ ∃ q', v = .v (.sc q') ∧ Own 97 2 h.length h' q' (recs SpV.cells (spansN l l.length))) (ev P T K d 55 [.sc q] lk h) := by
  obtain ⟨d, rfl⟩ : ∃ k, d = k + 1 := ⟨d - 1, by omega⟩
  rw [ev_run (at55 S.t)]
  unfold i55 Try.f55
  have hlen := hq.len (un65 S.p)
  simp (maxSteps := 1000000) (disch := first | omega | (simp (disch := first | omega | (simp only [EnV.len, SpV.len, List.length_append, List.length_cons, List.length_nil, List.length_set]; first | done | omega)) only [EnV.len, SpV.len, amSide, Int.reduceToNat, Nat.reducePow, Nat.reduceMul]; first | done | omega)) only  [↓amPre, amPost, ↓s_lit', Nat.reduceAdd, Nat.reduceSub, List.replicate, retA, resultsA, resultA, toC, toCL, Nat.reduceEqDiff, (ze101 S.p), append_at (un94 S.p) (sz97 S.p) (by97 S.p) (ze97 S.p) (by decide) (by decide) rfl, sl_cells (sz97 S.p), (bu97 S.p), lit_fill (un94 S.p) (sz97 S.p) (ze97 S.p), (fa101_0 S.p), (fa101_1 S.p), iaddr_sl (un65 S.p) (sz101 S.p), len_sl (un65 S.p), len_nils (un65 S.p), part_all (ag101 S.p) (sz101 S.p), part_at (ag101 S.p) (sz101 S.p), part_sc (ag3 S.p), store_last (sz101 S.p), (sz101 S.p), hlen]
  refine ends_loop (X := SpSt) ⟨0, .nils, h ++ [.map []]⟩ [5, 6, 7, 12, 13, 14, 15, 16, 17, 18, 19, 20, 21, 22, 23, 24, 25, 26, 27, 28, 29, 30, 31, 32, 33, 34, 35, 36, 37, 38, 39, 40, 41, 42, 43, 44, 45, 46]
    (fun x => x.i ≤ l.length ∧ Ext1 h x.h ∧ h.length < x.h.length ∧ Own 97 2 (h.length + 1) x.h x.q (recs SpV.cells (spansN l x.i)) ∧ ∃ M, NdE M ∧ x.h[h.length]? = some (.map (ents M)) ∧ ∀ t, getE t M = ((scanS t (l.take x.i) : Nat) : Int))
    (fun x => l.length - x.i)
    (fun x e => (e.set 3 (.v (.sc x.q))).set 11 (.v (.sc (.int .i64 x.i)))) (fun x => x.h)
    (by have := S.k; show _ < K; simp only; omega) ⟨by simp only; omega, (Ext1.refl h).push _, by simp, Own.nil _ _ _ _, [], trivial, by simp [ents], fun t => by simp [getE, scanS]⟩ rfl rfl ?_
  rintro ⟨i, qo, hj⟩ ⟨hi, hx, hlt, ho, M, hnd, hM, hget⟩ again hag e he
  simp only at hi hx hlt ho hM hget hag he
  simp only [↓amPre, amPost, ↓s_lit', Nat.reduceAdd, Nat.reduceSub, List.replicate, retA, resultsA, resultA, toC, toCL, Nat.reduceEqDiff] at he
  simp only [↓amPre, amPost, ↓s_lit', Nat.reduceAdd, Nat.reduceSub, List.replicate, retA, resultsA, resultA, toC, toCL, Nat.reduceEqDiff, he]
  refine ends_cond (fun hc1 => ?_) (fun hc1 => ?_)
  · simp only [decide_eq_true_eq] at hc1
    have hio : i < l.length := by omega
    obtain ⟨b, rfl, hb, hc⟩ := hq.at (by omega)
    have hcj : cellsAt hj b = some (recs EnV.cells l) := by rw [hx.cells hb]; exact hc
    obtain ⟨x, hxi⟩ : ∃ x, l[i]? = some x := ⟨_, List.getElem?_eq_getElem hio⟩
    have hpt := recs_part (ag101 S.p) (sz101 S.p) EnV.len hxi
    have hle := hx.len
    have hti : (l.take i).length = i := List.length_take_of_le (by omega)
    have hsc : ∀ t, scanS t (l.take (i + 1)) = if x.t = t then (if x.k = 3 then 0 else if x.k = 1 then i + 1 else scanS t (l.take i)) else scanS t (l.take i) := fun t => by rw [take_snocT l i x hxi, scanS_snoc, hti]
    have hsp := spansN_succ hxi
    have hspl := spansN_len l i
    have hsl := scanS_le x.t (l.take i)
    rw [hti] at hsl
    have hM1 : (hj ++ [AO.rw 101 x.cells])[h.length]? = some (.map (ents M)) := by rw [List.getElem?_append_left hlt]; exact hM
    have hx1 : Ext1 h (hj ++ [AO.rw 101 x.cells]) := hx.push _
    have ho1 : Own 97 2 (h.length + 1) (hj ++ [AO.rw 101 x.cells]) qo (recs SpV.cells (spansN l i)) := ho.push _
    have g0 : cellsAt (hj ++ [AO.rw 101 x.cells]) hj.length = some x.cells := cells_self _ _ _ rfl
    have gc0 := EnV.c0 x
    have gc1 := EnV.c1 x
    have hln : (hj ++ [AO.rw 101 x.cells]).length = hj.length + 1 := by simp
    generalize hh1 : hj ++ [AO.rw 101 x.cells] = h1 at *
    have hup := fun v : Int => upd_ents (P := P) (un106 S.p) (un3 S.p) hM1 hlk x.t v
    by_cases k1 : x.k = 1
    · have hne3 : ¬ x.k = 3 := by omega
      rw [if_neg (fun q => hne3 q.1)] at hsp
      have hup1 := hup ((i : Int) + 1)
      simp (maxSteps := 1000000) (disch := first | omega | (simp (disch := first | omega | (simp only [EnV.len, SpV.len, List.length_append, List.length_cons, List.length_nil, List.length_set]; first | done | omega)) only [EnV.len, SpV.len, amSide, Int.reduceToNat, Nat.reducePow, Nat.reduceMul]; first | done | omega)) only  [↓amPre, amPost, ↓s_lit', Nat.reduceAdd, Nat.reduceSub, List.replicate, retA, resultsA, resultA, toC, toCL, Nat.reduceEqDiff, he, (ze101 S.p), append_at (un94 S.p) (sz97 S.p) (by97 S.p) (ze97 S.p) (by decide) (by decide) rfl, sl_cells (sz97 S.p), (bu97 S.p), lit_fill (un94 S.p) (sz97 S.p) (ze97 S.p), (fa101_0 S.p), (fa101_1 S.p), iaddr_sl (un65 S.p) (sz101 S.p), len_sl (un65 S.p), len_nils (un65 S.p), part_all (ag101 S.p) (sz101 S.p), part_at (ag101 S.p) (sz101 S.p), part_sc (ag3 S.p), store_last (sz101 S.p), (sz101 S.p), idx_ok, hcj, hpt, hh1, g0, gc0, gc1, hup1, beqI_t, beqI_f, Int.toNat_natCast, Nat.zero_add, wrap_i64]
      refine hag ⟨i + 1, qo, _⟩ ⟨hio, hx1.set (by omega) _, by simp; omega, by simp only [hsp]; exact ho1.set (by omega) _, _, hnd.upd x.t ((i : Int) + 1), List.getElem?_set_self (by omega), fun t => ?_⟩ (by simp only; omega) _ ?_
      · rw [getE_upd, hsc, hget]
        by_cases ht : t = x.t
        · rw [if_pos ht, if_pos ht.symm, if_neg hne3, if_pos k1]; omega
        · rw [if_neg ht, if_neg (Ne.symm ht)]
      · simp (maxSteps := 1000000) (disch := first | omega | (simp (disch := first | omega | (simp only [EnV.len, SpV.len, List.length_append, List.length_cons, List.length_nil, List.length_set]; first | done | omega)) only [EnV.len, SpV.len, amSide, Int.reduceToNat, Nat.reducePow, Nat.reduceMul]; first | done | omega)) only [↓amPre, amPost, ↓s_lit', Nat.reduceAdd, Nat.reduceSub, List.replicate, retA, resultsA, resultA, toC, toCL, Nat.reduceEqDiff, Int.natCast_add, Int.cast_ofNat_Int, dec_t, dec_f]
    · by_cases k3 : x.k = 3
      · have hlo := lookup_ents (P := P) (un106 S.p) (un3 S.p) (zc3 S.p) hM1 x.t
        rw [hget] at hlo
        have hgd : ∀ t, getE t (delE x.t M) = ((scanS t (l.take (i + 1)) : Nat) : Int) := fun t => by
          rw [getE_del t x.t hnd, hsc, hget]
          by_cases ht : t = x.t
          · rw [if_pos ht, if_pos ht.symm, if_pos k3]; rfl
          · rw [if_neg ht, if_neg (Ne.symm ht)]
        by_cases hp : 0 < scanS x.t (l.take i)
        · rw [if_pos ⟨k3, hp⟩] at hsp
          generalize scanS x.t (l.take i) = s at *
          obtain ⟨q2, h2, happ, hown, hl2, hg2, hx2, _, hap⟩ := grow_own (b := 16) (lk := lk) (ho1.push (.rw 97 [.int .i64 x.t, .int .i64 ((i : Int) + 2 - (s : Nat))])) [.int .i64 x.t, .int .i64 ((i : Int) + 2 - (s : Nat))] (by omega) (by simp) (by simp) (by omega) (by simp; omega) (by rw [recs_len SpV.len]; simp; omega)
          have hM2 : h2[h.length]? = some (.map (ents M)) := by rw [hg2 _ (by omega), List.getElem?_append_left (by omega)]; exact hM1
          have hdl := del_ents (P := P) (un106 S.p) (un3 S.p) hM2 hlk x.t
          have hcs : ([.int .i64 x.t, .int .i64 ((i : Int) + 2 - (s : Nat))] : List SV) = SpV.cells ⟨x.t, (i : Int) + 2 - (s : Nat)⟩ := rfl
          rw [hcs, recs_snoc, ← hsp] at hown
          have g2 : cellsAt h2 hj.length = some x.cells := by
            have e1 := (hap hj.length 0 0 0 (ho.apart (Nat.le_refl _) 0 0 0) (by simp; omega)).1
            have e2 := cells_other (h := h1) hj.length (.rw 97 [.int .i64 x.t, .int .i64 ((i : Int) + 2 - (s : Nat))]) (show hj.length < h1.length by omega)
            unfold cellsAt at e2 g0 ⊢
            rw [e1, e2]; exact g0
          have hx3 := hx2 h (hx1.push (.rw 97 [.int .i64 x.t, .int .i64 ((i : Int) + 2 - (s : Nat))])) (by omega)
          have hl3 := hx3.len
          simp (maxSteps := 1000000) (disch := first | omega | (simp (disch := first | omega | (simp only [EnV.len, SpV.len, List.length_append, List.length_cons, List.length_nil, List.length_set]; first | done | omega)) only [EnV.len, SpV.len, amSide, Int.reduceToNat, Nat.reducePow, Nat.reduceMul]; first | done | omega)) only  [↓amPre, amPost, ↓s_lit', Nat.reduceAdd, Nat.reduceSub, List.replicate, retA, resultsA, resultA, toC, toCL, Nat.reduceEqDiff, he, (ze101 S.p), append_at (un94 S.p) (sz97 S.p) (by97 S.p) (ze97 S.p) (by decide) (by decide) rfl, sl_cells (sz97 S.p), (bu97 S.p), lit_fill (un94 S.p) (sz97 S.p) (ze97 S.p), (fa101_0 S.p), (fa101_1 S.p), iaddr_sl (un65 S.p) (sz101 S.p), len_sl (un65 S.p), len_nils (un65 S.p), part_all (ag101 S.p) (sz101 S.p), part_at (ag101 S.p) (sz101 S.p), part_sc (ag3 S.p), store_last (sz101 S.p), (sz101 S.p), idx_ok, hcj, hpt, hh1, g0, gc0, gc1, hlo, happ, g2, hdl, beqI_t, beqI_f, dec_t, cells_self, cells_other, spl2, Nat.one_mul, Nat.zero_mul, List.flatten_cons, List.flatten_nil, List.append_nil, Int.toNat_natCast, Nat.zero_add, wrap_i64]
          refine hag ⟨i + 1, q2, _⟩ ⟨hio, hx3.set (by omega) _, by simp at hl2; simp; omega, hown.set (by omega) _, _, hnd.del x.t, List.getElem?_set_self (by simp at hl2; omega), hgd⟩ (by simp only; omega) _ ?_
          simp (maxSteps := 1000000) (disch := first | omega | (simp (disch := first | omega | (simp only [EnV.len, SpV.len, List.length_append, List.length_cons, List.length_nil, List.length_set]; first | done | omega)) only [EnV.len, SpV.len, amSide, Int.reduceToNat, Nat.reducePow, Nat.reduceMul]; first | done | omega)) only [↓amPre, amPost, ↓s_lit', Nat.reduceAdd, Nat.reduceSub, List.replicate, retA, resultsA, resultA, toC, toCL, Nat.reduceEqDiff, Int.natCast_add, Int.cast_ofNat_Int, dec_t, dec_f]
        · rw [if_neg (fun q => hp q.2)] at hsp
          have hs0 : scanS x.t (l.take i) = 0 := by omega
          rw [hs0] at hlo
          have hdl := del_ents (P := P) (un106 S.p) (un3 S.p) hM1 hlk x.t
          simp (maxSteps := 1000000) (disch := first | omega | (simp (disch := first | omega | (simp only [EnV.len, SpV.len, List.length_append, List.length_cons, List.length_nil, List.length_set]; first | done | omega)) only [EnV.len, SpV.len, amSide, Int.reduceToNat, Nat.reducePow, Nat.reduceMul]; first | done | omega)) only  [↓amPre, amPost, ↓s_lit', Nat.reduceAdd, Nat.reduceSub, List.replicate, retA, resultsA, resultA, toC, toCL, Nat.reduceEqDiff, he, (ze101 S.p), append_at (un94 S.p) (sz97 S.p) (by97 S.p) (ze97 S.p) (by decide) (by decide) rfl, sl_cells (sz97 S.p), (bu97 S.p), lit_fill (un94 S.p) (sz97 S.p) (ze97 S.p), (fa101_0 S.p), (fa101_1 S.p), iaddr_sl (un65 S.p) (sz101 S.p), len_sl (un65 S.p), len_nils (un65 S.p), part_all (ag101 S.p) (sz101 S.p), part_at (ag101 S.p) (sz101 S.p), part_sc (ag3 S.p), store_last (sz101 S.p), (sz101 S.p), idx_ok, hcj, hpt, hh1, g0, gc0, gc1, hlo, hdl, beqI_t, beqI_f, dec_f, Int.toNat_natCast, Nat.zero_add, wrap_i64]
          refine hag ⟨i + 1, qo, _⟩ ⟨hio, hx1.set (by omega) _, by simp; omega, by simp only [hsp]; exact ho1.set (by omega) _, _, hnd.del x.t, List.getElem?_set_self (by omega), hgd⟩ (by simp only; omega) _ ?_
          simp (maxSteps := 1000000) (disch := first | omega | (simp (disch := first | omega | (simp only [EnV.len, SpV.len, List.length_append, List.length_cons, List.length_nil, List.length_set]; first | done | omega)) only [EnV.len, SpV.len, amSide, Int.reduceToNat, Nat.reducePow, Nat.reduceMul]; first | done | omega)) only [↓amPre, amPost, ↓s_lit', Nat.reduceAdd, Nat.reduceSub, List.replicate, retA, resultsA, resultA, toC, toCL, Nat.reduceEqDiff, Int.natCast_add, Int.cast_ofNat_Int, dec_t, dec_f]
      · rw [if_neg (fun q => k3 q.1)] at hsp
        simp (maxSteps := 1000000) (disch := first | omega | (simp (disch := first | omega | (simp only [EnV.len, SpV.len, List.length_append, List.length_cons, List.length_nil, List.length_set]; first | done | omega)) only [EnV.len, SpV.len, amSide, Int.reduceToNat, Nat.reducePow, Nat.reduceMul]; first | done | omega)) only  [↓amPre, amPost, ↓s_lit', Nat.reduceAdd, Nat.reduceSub, List.replicate, retA, resultsA, resultA, toC, toCL, Nat.reduceEqDiff, he, (ze101 S.p), append_at (un94 S.p) (sz97 S.p) (by97 S.p) (ze97 S.p) (by decide) (by decide) rfl, sl_cells (sz97 S.p), (bu97 S.p), lit_fill (un94 S.p) (sz97 S.p) (ze97 S.p), (fa101_0 S.p), (fa101_1 S.p), iaddr_sl (un65 S.p) (sz101 S.p), len_sl (un65 S.p), len_nils (un65 S.p), part_all (ag101 S.p) (sz101 S.p), part_at (ag101 S.p) (sz101 S.p), part_sc (ag3 S.p), store_last (sz101 S.p), (sz101 S.p), idx_ok, hcj, hpt, hh1, g0, gc0, gc1, beqI_f, Int.toNat_natCast, Nat.zero_add, wrap_i64]
        refine hag ⟨i + 1, qo, _⟩ ⟨hio, hx1, by simp only; omega, by simp only [hsp]; exact ho1, _, hnd, hM1, fun t => ?_⟩ (by simp only; omega) _ ?_
        · rw [hsc, hget]
          by_cases ht : x.t = t
          · rw [if_pos ht, if_neg k3, if_neg k1]
          · rw [if_neg ht]
        · simp (maxSteps := 1000000) (disch := first | omega | (simp (disch := first | omega | (simp only [EnV.len, SpV.len, List.length_append, List.length_cons, List.length_nil, List.length_set]; first | done | omega)) only [EnV.len, SpV.len, amSide, Int.reduceToNat, Nat.reducePow, Nat.reduceMul]; first | done | omega)) only [↓amPre, amPost, ↓s_lit', Nat.reduceAdd, Nat.reduceSub, List.replicate, retA, resultsA, resultA, toC, toCL, Nat.reduceEqDiff, Int.natCast_add, Int.cast_ofNat_Int, dec_t, dec_f]
  · simp only [decide_eq_false_iff_not] at hc1
    obtain rfl : i = l.length := by omega
    simp (maxSteps := 1000000) (disch := first | omega | (simp (disch := first | omega | (simp only [EnV.len, SpV.len, List.length_append, List.length_cons, List.length_nil, List.length_set]; first | done | omega)) only [EnV.len, SpV.len, amSide, Int.reduceToNat, Nat.reducePow, Nat.reduceMul]; first | done | omega)) only  [↓amPre, amPost, ↓s_lit', Nat.reduceAdd, Nat.reduceSub, List.replicate, retA, resultsA, resultA, toC, toCL, Nat.reduceEqDiff, he, (ze101 S.p), append_at (un94 S.p) (sz97 S.p) (by97 S.p) (ze97 S.p) (by decide) (by decide) rfl, sl_cells (sz97 S.p), (bu97 S.p), lit_fill (un94 S.p) (sz97 S.p) (ze97 S.p), (fa101_0 S.p), (fa101_1 S.p), iaddr_sl (un65 S.p) (sz101 S.p), len_sl (un65 S.p), len_nils (un65 S.p), part_all (ag101 S.p) (sz101 S.p), part_at (ag101 S.p) (sz101 S.p), part_sc (ag3 S.p), store_last (sz101 S.p), (sz101 S.p)]
    exact Ends.some ⟨hx, qo, rfl, ho.mono (by omega)⟩
end Go.AM
