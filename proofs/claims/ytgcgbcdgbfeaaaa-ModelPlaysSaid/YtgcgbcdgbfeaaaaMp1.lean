/- Monitors' model: copies, and whether two are the same. Conditions: none. -/
import Derived.Test.YtgcgbcdgbfeaaaaMo9
import Derived.Test.YtgcgbcdgbfeaaaaMn1
set_option linter.unusedVariables false
set_option linter.unusedSimpArgs false
set_option maxRecDepth 100000
namespace Go.AM
open Go.Proofs
-- LENS: EvV.len, MonV.len
theorem ext_lowM {a h h' : List AO} (hx : Ext1 a h) (hx' : Ext1 a h') {b : Nat} (hb : b ≤ a.length) (ws : List Nat) : LowEq ws b h h' := fun l hl _ => by rw [hx'.get (by omega), hx.get (by omega)]
section
variable {P : Program} {T : Tab} {K d : Nat} (S : Sd P T K)
include S
set_option maxHeartbeats 1000000 in
theorem s88 (hd : 1 ≤ d) {b : Nat} {l : List MonV} (hl : 1 ≤ l.length ∧ l.length ≤ 8) {h : List AO} (hb : h[b]? = some (.rw 150 (recs MonV.cells l))) (lk : Nat) (hlk : lk ≤ h.length) :
    Ends (fun v h' => Ext1 h h' ∧ ∃ b', v = .v (.sc (.sl b' 0 l.length 3)) ∧ h.length ≤ b' ∧ h'[b']? = some (.rw 150 (recs MonV.cells l))) (ev P T K d 88 [.sc (.sl b 0 l.length 3)] lk h) := by
  obtain ⟨d, rfl⟩ : ∃ k, d = k + 1 := ⟨d - 1, by omega⟩
  rw [ev_run (at88 S.t)]
  unfold i88 Try.f88
  have hbl := (List.getElem?_eq_some_iff.1 hb).1
  have hn := eqls_sl (un121 S.p) b 0 l.length 3
  have hrl : (recs MonV.cells l).length = l.length * 3 := recs_len MonV.len l
  have O : Own 150 3 h.length (h ++ [.rw 150 []]) (.sl h.length 0 0 3) [] := .inr ⟨h.length, Nat.le_refl _, by simp, rfl, by simp, rfl⟩
  obtain ⟨q2, h2, happ, hown, hl2, _, hx2, hq2, _⟩ := grow_own (b := 24) (lk := lk) O (recs MonV.cells l) (by omega) (by omega) (by rw [hrl]; omega) hlk (by simp) (by rw [hrl]; simp; omega)
  have hsc : cellsB (cellsAt (h ++ [.rw 150 []]) b) 0 (l.length * 3) = some (recs MonV.cells l) := by
    rw [cells_at (show (h ++ [AO.rw 150 []])[b]? = _ from (List.getElem?_append_left hbl).trans hb), cellsB_some _ _ _ (by omega), List.drop_zero, ← hrl, List.take_length]
  simp (maxSteps := 1000000) (disch := first | omega | (simp (disch := first | omega | (simp only [EvV.len, MonV.len, List.length_append, List.length_cons, List.length_nil, List.length_set]; first | done | omega)) only [EvV.len, MonV.len, amSide, Int.reduceToNat, Nat.reducePow, Nat.reduceMul]; first | done | omega)) only  [↓amPre, amPost, ↓s_lit', Nat.reduceAdd, Nat.reduceSub, List.replicate, retA, resultsA, resultA, toC, toCL, Nat.reduceEqDiff, append_at (un121 S.p) (sz150 S.p) (by150 S.p) (ze150 S.p) (by decide) (by decide) rfl, copy_at (un121 S.p) (sz150 S.p) (by150 S.p) (ze150 S.p) (by decide) (by decide) rfl, sl_cells (sz150 S.p), lit_fill (un121 S.p) (sz150 S.p) (ze150 S.p), hn, happ, hsc, List.flatten_nil, Nat.zero_mul]
  rw [List.nil_append] at hown hq2
  have hd3 : (recs MonV.cells l).length / 3 = l.length := by rw [hrl]; omega
  rw [hd3] at hq2
  subst hq2
  refine Ends.some ⟨hx2 h ((Ext1.refl h).push _) (Nat.le_refl _), _, rfl, by simp, ?_⟩
  rcases hown with ⟨e, _⟩ | ⟨b2, _, _, e, e4, _⟩
  · cases e
  · simp only [SV.sl.injEq] at e
    rw [e.1]; exact e4
set_option maxHeartbeats 1000000 in
theorem s89 (hd : 1 ≤ d) {b : Nat} {l : List Bool} (hl : 1 ≤ l.length ∧ l.length ≤ 8) {h : List AO} (hb : h[b]? = some (.rw 4 (l.map SV.bool))) (lk : Nat) (hlk : lk ≤ h.length) :
    Ends (fun v h' => Ext1 h h' ∧ ∃ b', v = .v (.sc (.sl b' 0 l.length 1)) ∧ h.length ≤ b' ∧ h'[b']? = some (.rw 4 (l.map SV.bool))) (ev P T K d 89 [.sc (.sl b 0 l.length 1)] lk h) := by
  obtain ⟨d, rfl⟩ : ∃ k, d = k + 1 := ⟨d - 1, by omega⟩
  rw [ev_run (at89 S.t)]
  unfold i89 Try.f89
  have hbl := (List.getElem?_eq_some_iff.1 hb).1
  have hn := eqls_sl (un122 S.p) b 0 l.length 1
  have hrl : (l.map SV.bool).length = l.length := List.length_map ..
  have O : Own 4 1 h.length (h ++ [.rw 4 []]) (.sl h.length 0 0 1) [] := .inr ⟨h.length, Nat.le_refl _, by simp, rfl, by simp, rfl⟩
  obtain ⟨q2, h2, happ, hown, hl2, _, hx2, hq2, _⟩ := grow_own (b := 1) (lk := lk) O (l.map SV.bool) (by omega) (by omega) (Nat.mod_one _) hlk (by simp) (by rw [hrl]; simp; omega)
  have hsc : cellsB (cellsAt (h ++ [.rw 4 []]) b) 0 (l.length * 1) = some (l.map SV.bool) := by
    rw [cells_at (show (h ++ [AO.rw 4 []])[b]? = _ from (List.getElem?_append_left hbl).trans hb), Nat.mul_one, cellsB_some _ _ _ (by omega), List.drop_zero, ← hrl, List.take_length]
  simp (maxSteps := 1000000) (disch := first | omega | (simp (disch := first | omega | (simp only [EvV.len, MonV.len, List.length_append, List.length_cons, List.length_nil, List.length_set]; first | done | omega)) only [EvV.len, MonV.len, amSide, Int.reduceToNat, Nat.reducePow, Nat.reduceMul]; first | done | omega)) only  [↓amPre, amPost, ↓s_lit', Nat.reduceAdd, Nat.reduceSub, List.replicate, retA, resultsA, resultA, toC, toCL, Nat.reduceEqDiff, append_at (un122 S.p) (sz4 S.p) (by4 S.p) (ze4 S.p) (by decide) (by decide) rfl, copy_at (un122 S.p) (sz4 S.p) (by4 S.p) (ze4 S.p) (by decide) (by decide) rfl, sl_cells (sz4 S.p), lit_fill (un122 S.p) (sz4 S.p) (ze4 S.p), hn, happ, hsc, List.flatten_nil, Nat.zero_mul]
  rw [List.nil_append] at hown hq2
  rw [Nat.div_one, hrl] at hq2
  subst hq2
  refine Ends.some ⟨hx2 h ((Ext1.refl h).push _) (Nat.le_refl _), _, rfl, by simp, ?_⟩
  rcases hown with ⟨e, _⟩ | ⟨b2, _, _, e, e4, _⟩
  · cases e
  · simp only [SV.sl.injEq] at e
    rw [e.1]; exact e4
set_option maxHeartbeats 4000000 in
theorem s54 (hd : 2 ≤ d) {p bm bf bw bl : Nat} {V : MdV} {h : List AO} (M : MdAt h p bm bf bw bl V) (h1 : 1 ≤ V.mons.length ∧ V.mons.length ≤ 8) (h2 : 1 ≤ V.flags.length ∧ V.flags.length ≤ 8) (lk : Nat) (hlk : lk ≤ h.length) :
    Ends (fun v h' => Ext1 h h' ∧ ∃ p' bm' bf' bw' bl', v = .v (.sc (.ptr p' 0)) ∧ MdAt h' p' bm' bf' bw' bl' V ∧ h.length ≤ p' ∧ h.length ≤ bm' ∧ h.length ≤ bf' ∧ h.length ≤ bw' ∧ h.length ≤ bl') (ev P T K d 54 [.sc (.ptr p 0)] lk h) := by
  obtain ⟨d, rfl⟩ : ∃ k, d = k + 1 := ⟨d - 1, by omega⟩
  rw [ev_run (at54 S.t)]
  unfold i54 Try.f54
  have hp := M.cp
  obtain ⟨l1, l2, l3, l4, l5⟩ := M.lts
  have f78 := fun lk => s78 S (show 1 ≤ d by omega) M lk
  obtain ⟨va, ha, ea, xa, ba, rfl, na, ga⟩ := s88 S (show 1 ≤ d by omega) h1 M.pm lk hlk
  have hla := xa.len
  obtain ⟨vb, hb, eb, xb, bb, rfl, nb, gb⟩ := s89 S (show 1 ≤ d by omega) h2 (ext1_get xa M.pf) lk (by omega)
  have hlb := xb.len
  have fw : ev P T K d 90 [.sc (.mp bw)] lk hb = some (.v (.sc (.mp hb.length)), hb ++ [.map (entsP intV V.waits)]) := by
    obtain ⟨d, rfl⟩ : ∃ k, d = k + 1 := ⟨d - 1, by omega⟩
    rw [ev_kn (at90 S.t)]
    unfold clF
    simp only [ext1_get (xa.trans xb) M.pw]
  have fl : ev P T K d 91 [.sc (.mp bl)] lk (hb ++ [.map (entsP intV V.waits)]) = some (.v (.sc (.mp (hb ++ [AO.map (entsP intV V.waits)]).length)), hb ++ [.map (entsP intV V.waits)] ++ [.map (entsP LfV.cv V.left)]) := by
    obtain ⟨d, rfl⟩ : ∃ k, d = k + 1 := ⟨d - 1, by omega⟩
    rw [ev_kn (at91 S.t)]
    unfold clF
    simp only [ext1_get ((xa.trans xb).push (.map (entsP intV V.waits))) M.pl]
  have hpa := (M.ext xa).cp
  have hpb := (M.ext (xa.trans xb)).cp
  have hpc := (M.ext ((xa.trans xb).push (.map (entsP intV V.waits)))).cp
  have x0 : Ext1 h h := Ext1.refl h
  have lo1 : ∀ r, lowIf [] h.length h ha r = r := fun r => lowIf_ok ha r (ext_lowM x0 xa (Nat.le_refl _) [])
  have lo2 : ∀ r, lowIf [] h.length ha hb r = r := fun r => lowIf_ok hb r (ext_lowM xa (xa.trans xb) (Nat.le_refl _) [])
  have lo3 : ∀ r, lowIf [] h.length hb (hb ++ [.map (entsP intV V.waits)]) r = r := fun r => lowIf_ok _ r (ext_lowM (xa.trans xb) ((xa.trans xb).push _) (Nat.le_refl _) [])
  have lo4 : ∀ r, lowIf [] h.length (hb ++ [.map (entsP intV V.waits)]) (hb ++ [.map (entsP intV V.waits)] ++ [.map (entsP LfV.cv V.left)]) r = r := fun r => lowIf_ok _ r (ext_lowM ((xa.trans xb).push _) (((xa.trans xb).push _).push _) (Nat.le_refl _) [])
  simp (maxSteps := 1000000) (disch := first | omega | (simp (disch := first | omega | (simp only [EvV.len, MonV.len, List.length_append, List.length_cons, List.length_nil, List.length_set]; first | done | omega)) only [EvV.len, MonV.len, amSide, Int.reduceToNat, Nat.reducePow, Nat.reduceMul]; first | done | omega)) only  [↓amPre, amPost, ↓s_lit', Nat.reduceAdd, Nat.reduceSub, List.replicate, retA, resultsA, resultA, toC, toCL, Nat.reduceEqDiff, (bu126 S.p), (fa126_0 S.p), (fa126_1 S.p), (fa126_2 S.p), (fa126_3 S.p), (fa126_4 S.p), part_sc (ag121 S.p), part_sc (ag122 S.p), part_sc (ag123 S.p), part_sc (ag124 S.p), part_sc (ag3 S.p), hp, hpa, hpb, hpc, f78, ea, eb, fw, fl, lo1, lo2, lo3, lo4]
  have hlx := (xa.trans xb).len
  refine Ends.some ⟨(((xa.trans xb).push _).push _).push _, _, ba, bb, hb.length, hb.length + 1, rfl, ⟨?_, ?_, ?_, ?_, ?_, by omega⟩, by omega, by omega, by omega, by omega, by omega⟩
  · rw [obj_self _ _ (by simp)]
  · have hba := (List.getElem?_eq_some_iff.1 ga).1
    exact ext1_get ((((xb).push _).push _).push _) ga
  · exact ext1_get ((((Ext1.refl hb).push _).push _).push _) gb
  · rw [List.getElem?_append_left (by simp), List.getElem?_append_left (by simp), obj_self _ _ rfl]
  · rw [List.getElem?_append_left (by simp), obj_self _ _ (by simp)]
structure EqSt where
  i : Nat
set_option maxHeartbeats 1000000 in
theorem s92 (hd : 1 ≤ d) {b b' : Nat} {l : List MonV} (hl : l.length ≤ 8) {h : List AO} (hb : h[b]? = some (.rw 150 (recs MonV.cells l))) (hb' : h[b']? = some (.rw 150 (recs MonV.cells l))) (lk : Nat) :
    ev P T K d 92 [.sc (.sl b 0 l.length 3), .sc (.sl b' 0 l.length 3)] lk h = some (.v (.sc (.bool true)), h) := by
  obtain ⟨d, rfl⟩ : ∃ k, d = k + 1 := ⟨d - 1, by omega⟩
  refine ev_pure (at92 S.t) rfl ?_
  unfold i92 Try.f92
  have c1 := cells_at hb
  have c2 := cells_at hb'
  simp (maxSteps := 1000000) (disch := first | omega | (simp (disch := first | omega | (simp only [EvV.len, MonV.len, List.length_append, List.length_cons, List.length_nil, List.length_set]; first | done | omega)) only [EvV.len, MonV.len, amSide, Int.reduceToNat, Nat.reducePow, Nat.reduceMul]; first | done | omega)) only  [↓amPre, amPost, ↓s_lit', Nat.reduceAdd, Nat.reduceSub, List.replicate, retA, resultsA, resultA, toC, toCL, Nat.reduceEqDiff, eql_ag, neq_ag, (eq150 S.p), iaddr_sl (un121 S.p) (sz150 S.p), len_sl (un121 S.p), len_nils (un121 S.p), part_all (ag150 S.p) (sz150 S.p), part_at (ag150 S.p) (sz150 S.p), bne_self_eq_false]
  refine ends_loop (X := EqSt) ⟨0⟩ [4, 5, 14, 15, 16, 17, 18, 19, 20, 21, 22, 23, 24, 25] (fun x => x.i ≤ l.length) (fun x => l.length - x.i)
    (fun x e => e.set 13 (.v (.sc (.int .i64 x.i)))) (fun x => h)
    (by have := S.k; show _ < K; simp only; omega) (by simp only; omega) rfl rfl ?_
  rintro ⟨i⟩ hi again hag e he
  simp only at hi hag he
  simp only [↓amPre, amPost, ↓s_lit', Nat.reduceAdd, Nat.reduceSub, List.replicate, retA, resultsA, resultA, toC, toCL, Nat.reduceEqDiff] at he
  simp only [↓amPre, amPost, ↓s_lit', Nat.reduceAdd, Nat.reduceSub, List.replicate, retA, resultsA, resultA, toC, toCL, Nat.reduceEqDiff, he]
  refine ends_cond (fun hc1 => ?_) (fun hc1 => ?_)
  · simp only [decide_eq_true_eq] at hc1
    obtain ⟨x, hx⟩ : ∃ x, l[i]? = some x := ⟨_, List.getElem?_eq_getElem (by omega)⟩
    have hpt := recs_part (ag150 S.p) (sz150 S.p) MonV.len hx
    have heq : eqL [1, 1, 1] x.cells x.cells = some true := by simp [MonV.cells, eqL, eqS]
    simp (maxSteps := 1000000) (disch := first | omega | (simp (disch := first | omega | (simp only [EvV.len, MonV.len, List.length_append, List.length_cons, List.length_nil, List.length_set]; first | done | omega)) only [EvV.len, MonV.len, amSide, Int.reduceToNat, Nat.reducePow, Nat.reduceMul]; first | done | omega)) only  [↓amPre, amPost, ↓s_lit', Nat.reduceAdd, Nat.reduceSub, List.replicate, retA, resultsA, resultA, toC, toCL, Nat.reduceEqDiff, he, eql_ag, neq_ag, (eq150 S.p), iaddr_sl (un121 S.p) (sz150 S.p), len_sl (un121 S.p), len_nils (un121 S.p), part_all (ag150 S.p) (sz150 S.p), part_at (ag150 S.p) (sz150 S.p), idx_ok, c1, c2, hpt, heq, Int.toNat_natCast, Nat.zero_add, wrap_i64]
    refine hag ⟨i + 1⟩ (by simp only; omega) (by simp only; omega) _ ?_
    simp (maxSteps := 1000000) (disch := first | omega | (simp (disch := first | omega | (simp only [EvV.len, MonV.len, List.length_append, List.length_cons, List.length_nil, List.length_set]; first | done | omega)) only [EvV.len, MonV.len, amSide, Int.reduceToNat, Nat.reducePow, Nat.reduceMul]; first | done | omega)) only [↓amPre, amPost, ↓s_lit', Nat.reduceAdd, Nat.reduceSub, List.replicate, retA, resultsA, resultA, toC, toCL, Nat.reduceEqDiff, Int.natCast_add, Int.cast_ofNat_Int, dec_t, dec_f]
  · simp (maxSteps := 1000000) (disch := first | omega | (simp (disch := first | omega | (simp only [EvV.len, MonV.len, List.length_append, List.length_cons, List.length_nil, List.length_set]; first | done | omega)) only [EvV.len, MonV.len, amSide, Int.reduceToNat, Nat.reducePow, Nat.reduceMul]; first | done | omega)) only  [↓amPre, amPost, ↓s_lit', Nat.reduceAdd, Nat.reduceSub, List.replicate, retA, resultsA, resultA, toC, toCL, Nat.reduceEqDiff, he, eql_ag, neq_ag, (eq150 S.p), iaddr_sl (un121 S.p) (sz150 S.p), len_sl (un121 S.p), len_nils (un121 S.p), part_all (ag150 S.p) (sz150 S.p), part_at (ag150 S.p) (sz150 S.p)]
    exact Ends.some rfl
set_option maxHeartbeats 1000000 in
theorem s93 (hd : 1 ≤ d) {b b' : Nat} {l : List Bool} (hl : l.length ≤ 8) {h : List AO} (hb : h[b]? = some (.rw 4 (l.map SV.bool))) (hb' : h[b']? = some (.rw 4 (l.map SV.bool))) (lk : Nat) :
    ev P T K d 93 [.sc (.sl b 0 l.length 1), .sc (.sl b' 0 l.length 1)] lk h = some (.v (.sc (.bool true)), h) := by
  obtain ⟨d, rfl⟩ : ∃ k, d = k + 1 := ⟨d - 1, by omega⟩
  refine ev_pure (at93 S.t) rfl ?_
  unfold i93 Try.f93
  have c1 := cells_at hb
  have c2 := cells_at hb'
  simp (maxSteps := 1000000) (disch := first | omega | (simp (disch := first | omega | (simp only [EvV.len, MonV.len, List.length_append, List.length_cons, List.length_nil, List.length_set]; first | done | omega)) only [EvV.len, MonV.len, amSide, Int.reduceToNat, Nat.reducePow, Nat.reduceMul]; first | done | omega)) only  [↓amPre, amPost, ↓s_lit', Nat.reduceAdd, Nat.reduceSub, List.replicate, retA, resultsA, resultA, toC, toCL, Nat.reduceEqDiff, eql_bool (un4 S.p), neq_bool (un4 S.p), iaddr_sl (un122 S.p) (sz4 S.p), len_sl (un122 S.p), len_nils (un122 S.p), part_sc (ag4 S.p), bne_self_eq_false]
  refine ends_loop (X := EqSt) ⟨0⟩ [4, 5, 14, 15, 16, 17, 18, 19, 20, 21, 22, 23, 24, 25] (fun x => x.i ≤ l.length) (fun x => l.length - x.i)
    (fun x e => e.set 13 (.v (.sc (.int .i64 x.i)))) (fun x => h)
    (by have := S.k; show _ < K; simp only; omega) (by simp only; omega) rfl rfl ?_
  rintro ⟨i⟩ hi again hag e he
  simp only at hi hag he
  simp only [↓amPre, amPost, ↓s_lit', Nat.reduceAdd, Nat.reduceSub, List.replicate, retA, resultsA, resultA, toC, toCL, Nat.reduceEqDiff] at he
  simp only [↓amPre, amPost, ↓s_lit', Nat.reduceAdd, Nat.reduceSub, List.replicate, retA, resultsA, resultA, toC, toCL, Nat.reduceEqDiff, he]
  refine ends_cond (fun hc1 => ?_) (fun hc1 => ?_)
  · simp only [decide_eq_true_eq] at hc1
    obtain ⟨x, hx⟩ : ∃ x, l[i]? = some x := ⟨_, List.getElem?_eq_getElem (by omega)⟩
    have hm : (l.map SV.bool)[i]? = some (.bool x) := by rw [List.getElem?_map, hx]; rfl
    simp (maxSteps := 1000000) (disch := first | omega | (simp (disch := first | omega | (simp only [EvV.len, MonV.len, List.length_append, List.length_cons, List.length_nil, List.length_set]; first | done | omega)) only [EvV.len, MonV.len, amSide, Int.reduceToNat, Nat.reducePow, Nat.reduceMul]; first | done | omega)) only  [↓amPre, amPost, ↓s_lit', Nat.reduceAdd, Nat.reduceSub, List.replicate, retA, resultsA, resultA, toC, toCL, Nat.reduceEqDiff, he, eql_bool (un4 S.p), neq_bool (un4 S.p), iaddr_sl (un122 S.p) (sz4 S.p), len_sl (un122 S.p), len_nils (un122 S.p), part_sc (ag4 S.p), idx_ok, c1, c2, hm, bne_self_eq_false, Int.toNat_natCast, Nat.mul_one, Nat.zero_add, wrap_i64]
    refine hag ⟨i + 1⟩ (by simp only; omega) (by simp only; omega) _ ?_
    simp (maxSteps := 1000000) (disch := first | omega | (simp (disch := first | omega | (simp only [EvV.len, MonV.len, List.length_append, List.length_cons, List.length_nil, List.length_set]; first | done | omega)) only [EvV.len, MonV.len, amSide, Int.reduceToNat, Nat.reducePow, Nat.reduceMul]; first | done | omega)) only [↓amPre, amPost, ↓s_lit', Nat.reduceAdd, Nat.reduceSub, List.replicate, retA, resultsA, resultA, toC, toCL, Nat.reduceEqDiff, Int.natCast_add, Int.cast_ofNat_Int, dec_t, dec_f]
  · simp (maxSteps := 1000000) (disch := first | omega | (simp (disch := first | omega | (simp only [EvV.len, MonV.len, List.length_append, List.length_cons, List.length_nil, List.length_set]; first | done | omega)) only [EvV.len, MonV.len, amSide, Int.reduceToNat, Nat.reducePow, Nat.reduceMul]; first | done | omega)) only  [↓amPre, amPost, ↓s_lit', Nat.reduceAdd, Nat.reduceSub, List.replicate, retA, resultsA, resultA, toC, toCL, Nat.reduceEqDiff, he, eql_bool (un4 S.p), neq_bool (un4 S.p), iaddr_sl (un122 S.p) (sz4 S.p), len_sl (un122 S.p), len_nils (un122 S.p), part_sc (ag4 S.p)]
    exact Ends.some rfl
omit S in
theorem eqF_at {α : Type} {enc : α → CV} {h : List AO} {l1 l2 : Nat} {M : List (Pk × α)} (h1 : h[l1]? = some (.map (entsP enc M))) (h2 : h[l2]? = some (.map (entsP enc M))) (hm : ∀ x ∈ M, (0 ≤ x.1.1 ∧ x.1.1 < 8) ∧ 0 ≤ x.1.2 ∧ x.1.2 < 8) (hd : NdP M) (lk : Nat) :
    eqF enc [.sc (.mp l1), .sc (.mp l2)] lk h = some (.v (.sc (.bool true)), h) := by
  unfold eqF
  simp only
  rw [if_pos]
  refine ⟨M, h1, h2, fun x hx => ?_, ?_⟩
  · have := hm x hx
    constructor <;> (simp [Lit.wf, IntKind.min, IntKind.max, IntKind.signed, IntKind.bits]; omega)
  · have := nodup_sub_length (ndP_nodup hd) fun x hx => by
      obtain ⟨y, hy, rfl⟩ := List.mem_map.1 hx
      exact hm y hy
    rw [List.length_map] at this
    omega
set_option maxHeartbeats 2000000 in
theorem s55 (hd : 2 ≤ d) {p bm bf bw bl p' bm' bf' bw' bl' : Nat} {V : MdV} {h : List AO} (M : MdAt h p bm bf bw bl V) (M' : MdAt h p' bm' bf' bw' bl' V) (H : MdOk V) (lk : Nat) :
    ev P T K d 55 [.sc (.ptr p 0), .sc (.ptr p' 0)] lk h = some (.v (.sc (.bool true)), h) := by
  obtain ⟨d, rfl⟩ : ∃ k, d = k + 1 := ⟨d - 1, by omega⟩
  refine ev_pure (at55 S.t) rfl ?_
  unfold i55 Try.f55
  have hp := M.cp
  have hp' := M'.cp
  have f78 := fun lk => s78 S (show 1 ≤ d by omega) M lk
  have f78' := fun lk => s78 S (show 1 ≤ d by omega) M' lk
  have f92 := fun lk => s92 S (show 1 ≤ d by omega) H.m M.pm M'.pm lk
  have f93 := fun lk => s93 S (show 1 ≤ d by omega) H.n M.pf M'.pf lk
  have f94 : ∀ lk, ev P T K d 94 [.sc (.mp bw), .sc (.mp bw')] lk h = some (.v (.sc (.bool true)), h) := fun lk => by
    obtain ⟨d, rfl⟩ : ∃ k, d = k + 1 := ⟨d - 1, by omega⟩
    rw [ev_kn (at94 S.t)]
    exact eqF_at M.pw M'.pw H.w8 H.wd lk
  have f95 : ∀ lk, ev P T K d 95 [.sc (.mp bl), .sc (.mp bl')] lk h = some (.v (.sc (.bool true)), h) := fun lk => by
    obtain ⟨d, rfl⟩ : ∃ k, d = k + 1 := ⟨d - 1, by omega⟩
    rw [ev_kn (at95 S.t)]
    exact eqF_at M.pl M'.pl H.l8 H.ld lk
  simp (maxSteps := 1000000) (disch := first | omega | (simp (disch := first | omega | (simp only [EvV.len, MonV.len, List.length_append, List.length_cons, List.length_nil, List.length_set]; first | done | omega)) only [EvV.len, MonV.len, amSide, Int.reduceToNat, Nat.reducePow, Nat.reduceMul]; first | done | omega)) only  [↓amPre, amPost, ↓s_lit', Nat.reduceAdd, Nat.reduceSub, List.replicate, retA, resultsA, resultA, toC, toCL, Nat.reduceEqDiff, eql_bool (un4 S.p), neq_bool (un4 S.p), (fa126_0 S.p), (fa126_1 S.p), (fa126_2 S.p), (fa126_3 S.p), (fa126_4 S.p), part_sc (ag121 S.p), part_sc (ag122 S.p), part_sc (ag123 S.p), part_sc (ag124 S.p), part_sc (ag3 S.p), hp, hp', f78, f78', f92, f93, f94, f95, beq_self_eq_true]
  exact Ends.some rfl
end
end Go.AM
