/- Records: one less, a new stack; the law of pushed and popped. Conditions: none. -/
import Derived.Test.YtgcgbcdgbfeaaaaRe3
set_option linter.unusedVariables false
set_option linter.unusedSimpArgs false
set_option maxRecDepth 100000
namespace Go.AM
open Go.Proofs
-- LENS: Rec.len
theorem s25 {P : Program} {T : Tab} {K d : Nat} (S : Sd P T K) (hd : 1 ≤ d) (n : Int) (h1 : 1 ≤ n) (h2 : n ≤ 512) (lk : Nat) (h : List AO) :
    ev P T K d 25 [.sc (.int .i64 n)] lk h = some (.tup [.sc (.ptr h.length 0), .sc (.int .i64 0)], h ++ [.rw 88 [.int .i64 n, .nils]]) := by
  obtain ⟨d, rfl⟩ : ∃ k, d = k + 1 := ⟨d - 1, by omega⟩
  rw [ev_run (at25 S.t)]
  unfold i25 Try.f25
  simp (maxSteps := 1000000) (disch := first | omega | (simp (disch := first | omega | (simp only [Rec.len, List.length_append, List.length_cons, List.length_nil, List.length_set]; first | done | omega)) only [Rec.len, amSide, Int.reduceToNat, Nat.reducePow, Nat.reduceMul]; first | done | omega)) only  [↓amPre, amPost, ↓s_lit', Nat.reduceAdd, Nat.reduceSub, List.replicate, retA, resultsA, resultA, toC, toCL, Nat.reduceEqDiff, (bu88 S.p), dec_f, splice_def, List.append_nil]
theorem s29 {P : Program} {T : Tab} {K d : Nat} (S : Sd P T K) (hd : 5 ≤ d) {lo p : Nat} {hh : List AO} {qs : SV} {n : Int} {l : List Rec} (H : Stk lo p hh qs n l) (hn : 0 < n) (hl : l.length ≤ 600) (o : Int) (lk : Nat) (hlk : lk ≤ p) (hlo : lo ≤ hh.length) :
    (Last o l none → ∃ h', ev P T K d 29 [.sc (.ptr p 0), .sc (.int .i64 o)] lk hh = some (.tup [.ag [.int .i64 0, .int .u64 0], .sc (.int .i64 6)], h') ∧ Ext1 hh h') ∧
    (∀ i x, l[i]? = some x → Last o l (some i) → ∃ h' qs', ev P T K d 29 [.sc (.ptr p 0), .sc (.int .i64 o)] lk hh = some (.tup [.ag x.cells, .sc (.int .i64 0)], h') ∧ Stk lo p h' qs' n (l.take i ++ l.drop (i + 1)) ∧ Frm p hh qs h' qs') := by
  obtain ⟨d, rfl⟩ : ∃ k, d = k + 1 := ⟨d - 1, by omega⟩
  rw [ev_run (at29 S.t)]
  unfold i29 Try.f29
  have hp := (List.getElem?_eq_some_iff.1 H.pp).1
  have hc := H.cell
  have hlp := H.lt
  have H1 := H.push (.rw 62 [.int .i64 0, .int .u64 0])
  have f65 : ∀ lk, ev P T K d 65 [.sc (.ptr p 0)] lk (hh ++ [.rw 62 [.int .i64 0, .int .u64 0]]) = some (.v (.sc (.bool true)), hh ++ [.rw 62 [.int .i64 0, .int .u64 0]]) := fun lk => by rw [s65 S (by omega) H1 lk, dec_t (show n > 0 by omega)]
  refine ⟨fun hnone => ?_, fun i x hx hlast => ?_⟩
  · have f34 := fun lk => s34 S (show 4 ≤ d by omega) H1 hn hl o none hnone lk
    unfold topV at f34
    refine ⟨_, ?_, (Ext1.refl hh).push (.rw 62 [.int .i64 0, .int .u64 0])⟩
    simp (maxSteps := 1000000) (disch := first | omega | (simp (disch := first | omega | (simp only [Rec.len, List.length_append, List.length_cons, List.length_nil, List.length_set]; first | done | omega)) only [Rec.len, amSide, Int.reduceToNat, Nat.reducePow, Nat.reduceMul]; first | done | omega)) only  [↓amPre, amPost, ↓s_lit', Nat.reduceAdd, Nat.reduceSub, List.replicate, retA, resultsA, resultA, toC, toCL, Nat.reduceEqDiff, (ze62 S.p), (bu62 S.p), (fa88_1 S.p), iaddr_sl (un59 S.p) (sz62 S.p), part_sc (ag59 S.p), part_all (ag62 S.p) (sz62 S.p), part_at (ag62 S.p) (sz62 S.p), store_last (sz59 S.p), (sz59 S.p), store_last (sz62 S.p), (sz62 S.p), f65, f34, cells_self, splice_def, List.append_nil]
  · have f34 := fun lk => s34 S (show 4 ≤ d by omega) H1 hn hl o (some i) hlast lk
    unfold topV at f34
    have hi := (List.getElem?_eq_some_iff.1 hx).1
    obtain ⟨b, g, rfl, hb, hg, hlb, hbl⟩ := H.at hi
    have hpb : p ≠ b := by omega
    have hcb := cells_at hb
    have hpt := recs_gpart (ag62 S.p) (sz62 S.p) Rec.len hx g
    have hb2 : (hh ++ [AO.rw 62 [.int .i64 0, .int .u64 0]] ++ [AO.rw 62 x.cells])[b]? = some (.rw 62 (recs Rec.cells l ++ g)) := by
      rw [List.getElem?_append_left (by simp; omega), List.getElem?_append_left hbl]; exact hb
    have e67 := s67 S (show 1 ≤ d by omega) hx hl (show lk ≤ b by omega) hb2
    have hL : (l.take i ++ l.drop (i + 1)).length = l.length - 1 := by simp; omega
    have hb3 : (hh ++ [AO.rw 62 [.int .i64 0, .int .u64 0]] ++ [AO.rw 62 x.cells]).set b (.rw 62 (recs Rec.cells (l.take i ++ l.drop (i + 1)) ++ ([.int .i64 0, .int .u64 0] ++ g))) =
        hh.set b (.rw 62 (recs Rec.cells (l.take i ++ l.drop (i + 1)) ++ ([.int .i64 0, .int .u64 0] ++ g))) ++ [AO.rw 62 [.int .i64 0, .int .u64 0]] ++ [AO.rw 62 x.cells] := by
      rw [List.set_append_left _ _ (by simp; omega), List.set_append_left _ _ hbl]
    rw [hb3] at e67
    have hpp2 : (hh.set b (.rw 62 (recs Rec.cells (l.take i ++ l.drop (i + 1)) ++ ([.int .i64 0, .int .u64 0] ++ g))))[p]? = some (.rw 88 [.int .i64 n, .sl b 0 l.length 2]) := by
      rw [List.getElem?_set_ne (Ne.symm hpb)]; exact H.pp
    have hbb2 : (hh.set b (.rw 62 (recs Rec.cells (l.take i ++ l.drop (i + 1)) ++ ([.int .i64 0, .int .u64 0] ++ g))))[b]? = some (.rw 62 (recs Rec.cells (l.take i ++ l.drop (i + 1)) ++ ([.int .i64 0, .int .u64 0] ++ g))) := List.getElem?_set_self hbl
    have hfr : ∀ j, j ≠ b → (hh.set b (.rw 62 (recs Rec.cells (l.take i ++ l.drop (i + 1)) ++ ([.int .i64 0, .int .u64 0] ++ g))))[j]? = hh[j]? := fun j hj => List.getElem?_set_ne (Ne.symm hj)
    have hsl : (hh.set b (.rw 62 (recs Rec.cells (l.take i ++ l.drop (i + 1)) ++ ([.int .i64 0, .int .u64 0] ++ g)))).length = hh.length := by simp
    have hg2 : ([SV.int .i64 0, .int .u64 0] ++ g).length % 2 = 0 := by simp; omega
    generalize [SV.int .i64 0, .int .u64 0] ++ g = g2 at *
    generalize l.take i ++ l.drop (i + 1) = l2 at *
    generalize hh.set b (.rw 62 (recs Rec.cells l2 ++ g2)) = h2 at *
    -- behind Delete
    have st1 : storeA P (h2 ++ [.rw 62 [.int .i64 0, .int .u64 0]] ++ [.rw 62 x.cells]) lk 59 (.v (.sc (.ptr p 1))) (.v (.sc (.sl b 0 (l.length - 1) 2))) =
        some (h2.set p (.rw 88 [.int .i64 n, .sl b 0 (l.length - 1) 2]) ++ [.rw 62 [.int .i64 0, .int .u64 0]] ++ [.rw 62 x.cells]) := by
      rw [store_at (el := 88) (cs := [.int .i64 n, .sl b 0 l.length 2]) (by rw [List.getElem?_append_left (by simp; omega), List.getElem?_append_left (by omega)]; exact hpp2) hlk (sz59 S.p) rfl (by simp)]
      rw [List.set_append_left _ _ (by simp; omega), List.set_append_left _ _ (by omega)]; rfl
    have fin : Stk lo p (h2.set p (.rw 88 [.int .i64 n, .sl b 0 (l.length - 1) 2]) ++ [.rw 62 x.cells] ++ [.rw 62 x.cells]) (.sl b 0 (l.length - 1) 2) n l2 := by
      refine Stk.push (Stk.push ⟨List.getElem?_set_self (by omega), .inr ⟨b, g2, by rw [hL], ?_, hg2, hlb⟩, hlp⟩ _) _
      rw [List.getElem?_set_ne hpb]; exact hbb2
    have fin2 : Frm p hh (.sl b 0 l.length 2) (h2.set p (.rw 88 [.int .i64 n, .sl b 0 (l.length - 1) 2]) ++ [.rw 62 x.cells] ++ [.rw 62 x.cells]) (.sl b 0 (l.length - 1) 2) := by
      refine Frm.push (Frm.push ⟨fun j j1 j2 j3 => ?_, fun j j1 j2 j3 o' n' s' he => ?_, by simp; omega⟩ _) _
      · rw [List.getElem?_set_ne (Ne.symm j2)]
        exact hfr j fun e => j3 0 l.length 2 (by rw [e])
      · simp only [SV.sl.injEq] at he
        exact j3 0 l.length 2 (by rw [he.1])
    have hH3 : (h2.set p (.rw 88 [.int .i64 n, .sl b 0 (l.length - 1) 2])).length = hh.length := by simp; omega
    generalize h2.set p (.rw 88 [.int .i64 n, .sl b 0 (l.length - 1) 2]) = h3 at *
    have st2 : storeA P (h3 ++ [.rw 62 [.int .i64 0, .int .u64 0]] ++ [.rw 62 x.cells]) lk 62 (.v (.sc (.ptr hh.length 0))) (.v (.ag x.cells)) = some (h3 ++ [.rw 62 x.cells] ++ [.rw 62 x.cells]) := by
      rw [store_at (el := 62) (cs := [.int .i64 0, .int .u64 0]) (n := 2) (by rw [List.getElem?_append_left (by simp; omega), List.getElem?_append_right (by omega), hH3]; simp) (by omega) (sz62 S.p) (by rw [cells_ag, Rec.len]) (by simp)]
      rw [List.set_append_left _ _ (by simp; omega), List.set_append_right _ _ (by omega), hH3, Nat.sub_self, cells_ag, splice_all _ _ (by rw [Rec.len]; rfl)]; rfl
    have c8 : cellsAt (h3 ++ [.rw 62 [.int .i64 0, .int .u64 0]] ++ [.rw 62 x.cells]) (hh.length + 1) = some x.cells := cells_self _ _ _ (by simp; omega)
    have c4 : cellsAt (h3 ++ [.rw 62 x.cells] ++ [.rw 62 x.cells]) hh.length = some x.cells := by
      rw [cells_other _ _ (by simp; omega)]; exact cells_self _ _ _ (by omega)
    refine ⟨_, _, ?_, fin, fin2⟩
    clear fin fin2 hb3 hfr
    have hi1 : ((i : Nat) : Int) + 1 = ((i + 1 : Nat) : Int) := by omega
    simp (maxSteps := 1000000) (disch := first | omega | (simp (disch := first | omega | (simp only [Rec.len, List.length_append, List.length_cons, List.length_nil, List.length_set]; first | done | omega)) only [Rec.len, amSide, Int.reduceToNat, Nat.reducePow, Nat.reduceMul]; first | done | omega)) only  [↓amPre, amPost, ↓s_lit', Nat.reduceAdd, Nat.reduceSub, List.replicate, retA, resultsA, resultA, toC, toCL, Nat.reduceEqDiff, (ze62 S.p), (bu62 S.p), (fa88_1 S.p), iaddr_sl (un59 S.p) (sz62 S.p), part_sc (ag59 S.p), part_all (ag62 S.p) (sz62 S.p), part_at (ag62 S.p) (sz62 S.p), store_last (sz59 S.p), (sz59 S.p), store_last (sz62 S.p), (sz62 S.p), f65, f34, hc, hcb, hpt, idx_ok, cells_self, cells_other, hi1, e67, st1, c8, st2, c4, Int.toNat_natCast, Nat.zero_add, wrap_i64]
end Go.AM
