/- Waiting graphs: the document's Add and Reach. Conditions: none. -/
import Derived.Test.YtdokijbheholdaaDoorWj1
set_option linter.unusedVariables false
set_option linter.unusedSimpArgs false
set_option maxRecDepth 100000
namespace Go.AM
open Go.Proofs Go.Lib
-- LENS: gC_len, Edg.len, ixC_len, wC_len
def addL (L : List Edg) (a b : Int) : List Edg := if (isN a && isN b) = true ∧ (⟨a, b⟩ : Edg) ∉ L then L ++ [⟨a, b⟩] else L
def AddR (p lo : Nat) (L : List Edg) (a b : Int) (h : List AO) (v : AV) (h' : List AO) : Prop := v = .v (.sc (.int .i64 (addC a b))) ∧ h.length ≤ h'.length ∧ (∀ g, Ext1 g h → g.length ≤ p → Ext1 g h') ∧ (∀ j, j < h.length → j ≠ p → h'[j]? = h[j]?) ∧
  ∃ q', h'[p]? = some (.rw 26 [q']) ∧ Rs Edg.cells 2 h' q' (addL L a b)
theorem spl2 (a b : SV) : splice [.int .i64 0, .int .i64 0] 0 [a, b] = [a, b] := nrfl rfl
theorem sliceCells_rs {P : Program} {e : TypeId} {h : List AO} {q : SV} {L : List Edg} (hq : Rs Edg.cells 2 h q L) (hs : szT P e = some 2) : sliceCells P h e (.v (.sc q)) = some (recs Edg.cells L) := by
  rcases hq with ⟨rfl, rfl⟩ | ⟨b, rfl, hb, hc⟩
  · rfl
  · have hl := recs_len Edg.len L
    simp only [sliceCells, hc, Option.bind_some, hs]
    rw [if_pos ⟨trivial, by omega⟩, List.drop_zero, List.take_of_length_le (by omega)]
set_option maxHeartbeats 8000000 in
theorem s8 {P : Program} {T : Tab} {K d : Nat} (S : Sd P T K) (hd : 2 ≤ d) {p : Nat} {q : SV} {L : List Edg} (hL : L.length ≤ 200) (a b : Int) (lk : Nat) (h : List AO) (hlk : lk ≤ p) (hpl : p < h.length) (hp : h[p]? = some (.rw 26 [q])) (hq : Rs Edg.cells 2 h q L) :
    Ends (AddR p lk L a b h) (ev P T K d 8 [.sc (.ptr p 0), .sc (.int .i64 a), .sc (.int .i64 b)] lk h) := by
  obtain ⟨d, rfl⟩ : ∃ k, d = k + 1 := ⟨d - 1, by omega⟩
  rw [ev_run (at8 S.t)]
  unfold i8 Tryd.f8
  have hpc : cellsAt h p = some [q] := by unfold cellsAt; rw [hp]
  have f17 := fun lk => s17 S (show 1 ≤ d by omega) hL a b lk h hpc hq
  have hbad : (isN a && isN b) = false → AddR p lk L a b h (.v (.sc (.int .i64 1))) h := fun hb => by
    refine ⟨by unfold addC; rw [if_neg (by simp [hb])], Nat.le_refl _, fun g z _ => z, fun j _ _ => rfl, q, hp, ?_⟩
    unfold addL
    rw [if_neg (by simp [hb])]; exact hq
  by_cases a0 : a < 0
  · have hb : (isN a && isN b) = false := by unfold isN; simp; omega
    simp (maxSteps := 1000000) (disch := first | omega | (simp (disch := first | omega | (simp only [gC_len, Edg.len, ixC_len, wC_len, List.length_append, List.length_cons, List.length_nil, List.length_set]; first | done | omega)) only [gC_len, Edg.len, ixC_len, wC_len, amSide, Int.reduceToNat, Nat.reducePow, Nat.reduceMul]; first | done | omega)) only  [↓amPre, amPost, ↓s_lit', Nat.reduceAdd, Nat.reduceSub, List.replicate, retA, resultsA, resultA, toC, toCL, Nat.reduceEqDiff, append_at (un22 S.p) (sz28 S.p) (by28 S.p) (ze28 S.p) (by decide) (by decide) rfl, sl_cells (sz28 S.p), (bu28 S.p), lit_fill (un22 S.p) (sz28 S.p) (ze28 S.p), (fa26_0 S.p), part_sc (ag22 S.p), store_last (sz22 S.p), (sz22 S.p), dec_t]
    exact Ends.some (hbad hb)
  · by_cases a1 : 64 ≤ a
    · have hb : (isN a && isN b) = false := by unfold isN; simp; omega
      simp (maxSteps := 1000000) (disch := first | omega | (simp (disch := first | omega | (simp only [gC_len, Edg.len, ixC_len, wC_len, List.length_append, List.length_cons, List.length_nil, List.length_set]; first | done | omega)) only [gC_len, Edg.len, ixC_len, wC_len, amSide, Int.reduceToNat, Nat.reducePow, Nat.reduceMul]; first | done | omega)) only  [↓amPre, amPost, ↓s_lit', Nat.reduceAdd, Nat.reduceSub, List.replicate, retA, resultsA, resultA, toC, toCL, Nat.reduceEqDiff, append_at (un22 S.p) (sz28 S.p) (by28 S.p) (ze28 S.p) (by decide) (by decide) rfl, sl_cells (sz28 S.p), (bu28 S.p), lit_fill (un22 S.p) (sz28 S.p) (ze28 S.p), (fa26_0 S.p), part_sc (ag22 S.p), store_last (sz22 S.p), (sz22 S.p), dec_t, dec_f]
      exact Ends.some (hbad hb)
    · by_cases b0 : b < 0
      · have hb : (isN a && isN b) = false := by unfold isN; simp; omega
        simp (maxSteps := 1000000) (disch := first | omega | (simp (disch := first | omega | (simp only [gC_len, Edg.len, ixC_len, wC_len, List.length_append, List.length_cons, List.length_nil, List.length_set]; first | done | omega)) only [gC_len, Edg.len, ixC_len, wC_len, amSide, Int.reduceToNat, Nat.reducePow, Nat.reduceMul]; first | done | omega)) only  [↓amPre, amPost, ↓s_lit', Nat.reduceAdd, Nat.reduceSub, List.replicate, retA, resultsA, resultA, toC, toCL, Nat.reduceEqDiff, append_at (un22 S.p) (sz28 S.p) (by28 S.p) (ze28 S.p) (by decide) (by decide) rfl, sl_cells (sz28 S.p), (bu28 S.p), lit_fill (un22 S.p) (sz28 S.p) (ze28 S.p), (fa26_0 S.p), part_sc (ag22 S.p), store_last (sz22 S.p), (sz22 S.p), dec_t, dec_f]
        exact Ends.some (hbad hb)
      · by_cases b1 : 64 ≤ b
        · have hb : (isN a && isN b) = false := by unfold isN; simp; omega
          simp (maxSteps := 1000000) (disch := first | omega | (simp (disch := first | omega | (simp only [gC_len, Edg.len, ixC_len, wC_len, List.length_append, List.length_cons, List.length_nil, List.length_set]; first | done | omega)) only [gC_len, Edg.len, ixC_len, wC_len, amSide, Int.reduceToNat, Nat.reducePow, Nat.reduceMul]; first | done | omega)) only  [↓amPre, amPost, ↓s_lit', Nat.reduceAdd, Nat.reduceSub, List.replicate, retA, resultsA, resultA, toC, toCL, Nat.reduceEqDiff, append_at (un22 S.p) (sz28 S.p) (by28 S.p) (ze28 S.p) (by decide) (by decide) rfl, sl_cells (sz28 S.p), (bu28 S.p), lit_fill (un22 S.p) (sz28 S.p) (ze28 S.p), (fa26_0 S.p), part_sc (ag22 S.p), store_last (sz22 S.p), (sz22 S.p), dec_t, dec_f]
          exact Ends.some (hbad hb)
        · have hok : (isN a && isN b) = true := by unfold isN; simp; omega
          have hc0 : addC a b = 0 := by unfold addC; rw [if_pos hok]
          by_cases hm : (⟨a, b⟩ : Edg) ∈ L
          · rw [dec_t hm] at f17
            have hR : AddR p lk L a b h (.v (.sc (.int .i64 0))) h := by
              refine ⟨by rw [hc0], Nat.le_refl _, fun g z _ => z, fun j _ _ => rfl, q, hp, ?_⟩
              unfold addL
              rw [if_neg (fun z => z.2 hm)]; exact hq
            simp (maxSteps := 1000000) (disch := first | omega | (simp (disch := first | omega | (simp only [gC_len, Edg.len, ixC_len, wC_len, List.length_append, List.length_cons, List.length_nil, List.length_set]; first | done | omega)) only [gC_len, Edg.len, ixC_len, wC_len, amSide, Int.reduceToNat, Nat.reducePow, Nat.reduceMul]; first | done | omega)) only  [↓amPre, amPost, ↓s_lit', Nat.reduceAdd, Nat.reduceSub, List.replicate, retA, resultsA, resultA, toC, toCL, Nat.reduceEqDiff, append_at (un22 S.p) (sz28 S.p) (by28 S.p) (ze28 S.p) (by decide) (by decide) rfl, sl_cells (sz28 S.p), (bu28 S.p), lit_fill (un22 S.p) (sz28 S.p) (ze28 S.p), (fa26_0 S.p), part_sc (ag22 S.p), store_last (sz22 S.p), (sz22 S.p), dec_f, f17]
            exact Ends.some hR
          · rw [dec_f hm] at f17
            have haL : addL L a b = L ++ [⟨a, b⟩] := by unfold addL; rw [if_pos ⟨hok, hm⟩]
            have g0 : ([q] : List SV)[0]? = some q := rfl
            have hsc := sliceCells_rs hq (sz28 S.p)
            have hrl := recs_len Edg.len L
            obtain ⟨q2, h2, happ, hown, hx2⟩ : ∃ q2 h2, (∀ k, appB 28 2 16 lk h (.v (.sc .nils)) (some (recs Edg.cells L)) k = k (.v (.sc q2)) h2) ∧ Own 28 2 h.length h2 q2 (recs Edg.cells L) ∧ Ext1 h h2 := by
              by_cases hL0 : L = []
              · subst hL0
                exact ⟨.nils, h, fun k => appB_nilnil 28 2 16 k, Own.nil _ _ _ _, Ext1.refl h⟩
              · have hpos := List.length_pos_iff.2 hL0
                obtain ⟨q2, h2, r1, r2, r3, r4, r5, _⟩ := grow_own (b := 16) (lk := lk) (Own.nil 28 2 h.length h) (recs Edg.cells L) (by omega) (by omega) (by omega) (by omega) (Nat.le_refl _) (by rw [List.length_nil]; omega)
                exact ⟨q2, h2, r1, by rw [List.nil_append] at r2; exact r2, r5 h (Ext1.refl h) (Nat.le_refl _)⟩
            have hle2 := hx2.len
            obtain ⟨q3, h3, happ3, hown3, hl3, hlow3, hx3, _⟩ := grow_own (b := 16) (lk := lk) (hown.push (.rw 28 [.int .i64 a, .int .i64 b])) [.int .i64 a, .int .i64 b] (by omega) (by simp) (by simp) (by omega) (by simp; omega) (by simp; omega)
            have hx3' := hx3 h (hx2.push _) (Nat.le_refl _)
            have hcs : ([.int .i64 a, .int .i64 b] : List SV) = Edg.cells ⟨a, b⟩ := rfl
            rw [hcs, recs_snoc] at hown3
            have hle3 := hx3'.len
            have gp3 : h3[p]? = some (.rw 26 [q]) := by rw [hx3'.get hpl]; exact hp
            have st := store_cell (sz22 S.p) (lk := lk) gp3 hlk 0 (by simp) q3
            rw [List.set_cons_zero] at st
            have hR : AddR p lk L a b h (.v (.sc (.int .i64 0))) (h3.set p (.rw 26 [q3])) := by
              refine ⟨by rw [hc0], by rw [List.length_set]; exact hle3, fun g z1 z2 => (z1.trans hx3').set z2 _, fun j z1 z2 => by rw [List.getElem?_set_ne (Ne.symm z2)]; exact hx3'.get z1, q3, List.getElem?_set_self (by omega), ?_⟩
              rw [haL]
              exact (hown3.set hpl _).rs (by omega) Edg.len
            clear hbad hx3 hlow3
            simp (maxSteps := 1000000) (disch := first | omega | (simp (disch := first | omega | (simp only [gC_len, Edg.len, ixC_len, wC_len, List.length_append, List.length_cons, List.length_nil, List.length_set]; first | done | omega)) only [gC_len, Edg.len, ixC_len, wC_len, amSide, Int.reduceToNat, Nat.reducePow, Nat.reduceMul]; first | done | omega)) only  [↓amPre, amPost, ↓s_lit', Nat.reduceAdd, Nat.reduceSub, List.replicate, retA, resultsA, resultA, toC, toCL, Nat.reduceEqDiff, append_at (un22 S.p) (sz28 S.p) (by28 S.p) (ze28 S.p) (by decide) (by decide) rfl, sl_cells (sz28 S.p), (bu28 S.p), lit_fill (un22 S.p) (sz28 S.p) (ze28 S.p), (fa26_0 S.p), part_sc (ag22 S.p), store_last (sz22 S.p), (sz22 S.p), dec_f, f17, hpc, g0, hsc, happ, happ3, st, cells_self, spl2, List.flatten_cons, List.flatten_nil, List.append_nil, Nat.one_mul, Nat.zero_mul, Nat.add_zero, Nat.zero_add]
            exact Ends.some hR
end Go.AM
