/- Monitors' model: copies, and whether two are the same. Conditions: none. -/
import Derived.Test.YtjhhjmngjmflaaaMo9
import Derived.Test.YtjhhjmngjmflaaaMn1
set_option linter.unusedVariables false
set_option linter.unusedSimpArgs false
set_option maxRecDepth 100000
namespace Go.AM
open Go.Proofs
-- LENS: EvV.len, MonV.len
theorem ext_lowM {a h h' : List AO} (hx : Ext1 a h) (hx' : Ext1 a h') {b : Nat} (hb : b ≤ a.length) (ws : List Nat) : LowEq ws b h h' := fun l hl _ => by rw [hx'.get (by omega), hx.get (by omega)]
section
variable {P : Program} {T : Tab} {K d : Nat} (S : Sd P T K)
include S
set_option maxHeartbeats 1000000 in
theorem s65 (hd : 1 ≤ d) {b : Nat} {l : List MonV} (hl : 1 ≤ l.length ∧ l.length ≤ 8) {h : List AO} (hb : h[b]? = some (.rw 116 (recs MonV.cells l))) (lk : Nat) (hlk : lk ≤ h.length) :
    Ends (fun v h' => Ext1 h h' ∧ ∃ b', v = .v (.sc (.sl b' 0 l.length 3)) ∧ h.length ≤ b' ∧ h'[b']? = some (.rw 116 (recs MonV.cells l))) (ev P T K d 65 [.sc (.sl b 0 l.length 3)] lk h) := by
  obtain ⟨d, rfl⟩ : ∃ k, d = k + 1 := ⟨d - 1, by omega⟩
  rw [ev_run (at65 S.t)]
  unfold i65 Try.f65
  have hbl := (List.getElem?_eq_some_iff.1 hb).1
  have hn := eqls_sl (un131 S.p) b 0 l.length 3
  have hrl : (recs MonV.cells l).length = l.length * 3 := recs_len MonV.len l
  have O : Own 116 3 h.length (h ++ [.rw 116 []]) (.sl h.length 0 0 3) [] := .inr ⟨h.length, Nat.le_refl _, by simp, rfl, by simp, rfl⟩
  obtain ⟨q2, h2, happ, hown, hl2, _, hx2, hq2, _⟩ := grow_own (b := 24) (lk := lk) O (recs MonV.cells l) (by omega) (by omega) (by rw [hrl]; omega) hlk (by simp) (by rw [hrl]; simp; omega)
  have hsc : cellsB (cellsAt (h ++ [.rw 116 []]) b) 0 (l.length * 3) = some (recs MonV.cells l) := by
    rw [cells_at (show (h ++ [AO.rw 116 []])[b]? = _ from (List.getElem?_append_left hbl).trans hb), cellsB_some _ _ _ (by omega), List.drop_zero, ← hrl, List.take_length]
  simp (maxSteps := 1000000) (disch := first | omega | (simp (disch := first | omega | (simp only [EvV.len, MonV.len, List.length_append, List.length_cons, List.length_nil, List.length_set]; first | done | omega)) only [EvV.len, MonV.len, amSide, Int.reduceToNat, Nat.reducePow, Nat.reduceMul]; first | done | omega)) only  [↓amPre, amPost, ↓s_lit', Nat.reduceAdd, Nat.reduceSub, List.replicate, retA, resultsA, resultA, toC, toCL, Nat.reduceEqDiff, append_at (un131 S.p) (sz116 S.p) (by116 S.p) (ze116 S.p) (by decide) (by decide) rfl, copy_at (un131 S.p) (sz116 S.p) (by116 S.p) (ze116 S.p) (by decide) (by decide) rfl, sl_cells (sz116 S.p), lit_fill (un131 S.p) (sz116 S.p) (ze116 S.p), hn, happ, hsc, List.flatten_nil, Nat.zero_mul]
  rw [List.nil_append] at hown hq2
  have hd3 : (recs MonV.cells l).length / 3 = l.length := by rw [hrl]; omega
  rw [hd3] at hq2
  subst hq2
  refine Ends.some ⟨hx2 h ((Ext1.refl h).push _) (Nat.le_refl _), _, rfl, by simp, ?_⟩
  rcases hown with ⟨e, _⟩ | ⟨b2, _, _, e, e4, _⟩
  · cases e
  · simp only [SV.sl.injEq] at e
    rw [e.1]; exact e4
set_option maxHeartbeats 1000000 in
theorem s66 (hd : 1 ≤ d) {b : Nat} {l : List Bool} (hl : 1 ≤ l.length ∧ l.length ≤ 8) {h : List AO} (hb : h[b]? = some (.rw 4 (l.map SV.bool))) (lk : Nat) (hlk : lk ≤ h.length) :
    Ends (fun v h' => Ext1 h h' ∧ ∃ b', v = .v (.sc (.sl b' 0 l.length 1)) ∧ h.length ≤ b' ∧ h'[b']? = some (.rw 4 (l.map SV.bool))) (ev P T K d 66 [.sc (.sl b 0 l.length 1)] lk h) := by
  obtain ⟨d, rfl⟩ : ∃ k, d = k + 1 := ⟨d - 1, by omega⟩
  rw [ev_run (at66 S.t)]
  unfold i66 Try.f66
  have hbl := (List.getElem?_eq_some_iff.1 hb).1
  have hn := eqls_sl (un121 S.p) b 0 l.length 1
  have hrl : (l.map SV.bool).length = l.length := List.length_map ..
  have O : Own 4 1 h.length (h ++ [.rw 4 []]) (.sl h.length 0 0 1) [] := .inr ⟨h.length, Nat.le_refl _, by simp, rfl, by simp, rfl⟩
  obtain ⟨q2, h2, happ, hown, hl2, _, hx2, hq2, _⟩ := grow_own (b := 1) (lk := lk) O (l.map SV.bool) (by omega) (by omega) (Nat.mod_one _) hlk (by simp) (by rw [hrl]; simp; omega)
  have hsc : cellsB (cellsAt (h ++ [.rw 4 []]) b) 0 (l.length * 1) = some (l.map SV.bool) := by
    rw [cells_at (show (h ++ [AO.rw 4 []])[b]? = _ from (List.getElem?_append_left hbl).trans hb), Nat.mul_one, cellsB_some _ _ _ (by omega), List.drop_zero, ← hrl, List.take_length]
  simp (maxSteps := 1000000) (disch := first | omega | (simp (disch := first | omega | (simp only [EvV.len, MonV.len, List.length_append, List.length_cons, List.length_nil, List.length_set]; first | done | omega)) only [EvV.len, MonV.len, amSide, Int.reduceToNat, Nat.reducePow, Nat.reduceMul]; first | done | omega)) only  [↓amPre, amPost, ↓s_lit', Nat.reduceAdd, Nat.reduceSub, List.replicate, retA, resultsA, resultA, toC, toCL, Nat.reduceEqDiff, append_at (un121 S.p) (sz4 S.p) (by4 S.p) (ze4 S.p) (by decide) (by decide) rfl, copy_at (un121 S.p) (sz4 S.p) (by4 S.p) (ze4 S.p) (by decide) (by decide) rfl, sl_cells (sz4 S.p), lit_fill (un121 S.p) (sz4 S.p) (ze4 S.p), hn, happ, hsc, List.flatten_nil, Nat.zero_mul]
  rw [List.nil_append] at hown hq2
  rw [Nat.div_one, hrl] at hq2
  subst hq2
  refine Ends.some ⟨hx2 h ((Ext1.refl h).push _) (Nat.le_refl _), _, rfl, by simp, ?_⟩
  rcases hown with ⟨e, _⟩ | ⟨b2, _, _, e, e4, _⟩
  · cases e
  · simp only [SV.sl.injEq] at e
    rw [e.1]; exact e4
set_option maxHeartbeats 4000000 in
theorem s44 (hd : 2 ≤ d) {p bm bf bw bl : Nat} {V : MdV} {h : List AO} (M : MdAt h p bm bf bw bl V) (h1 : 1 ≤ V.mons.length ∧ V.mons.length ≤ 8) (h2 : 1 ≤ V.flags.length ∧ V.flags.length ≤ 8) (lk : Nat) (hlk : lk ≤ h.length) :
    Ends (fun v h' => Ext1 h h' ∧ ∃ p' bm' bf' bw' bl', v = .v (.sc (.ptr p' 0)) ∧ MdAt h' p' bm' bf' bw' bl' V ∧ h.length ≤ p' ∧ h.length ≤ bm' ∧ h.length ≤ bf' ∧ h.length ≤ bw' ∧ h.length ≤ bl') (ev P T K d 44 [.sc (.ptr p 0)] lk h) := by
  obtain ⟨d, rfl⟩ : ∃ k, d = k + 1 := ⟨d - 1, by omega⟩
  rw [ev_run (at44 S.t)]
  unfold i44 Try.f44
  have hp := M.cp
  obtain ⟨l1, l2, l3, l4, l5⟩ := M.lts
  have f78 := fun lk => s64 S (show 1 ≤ d by omega) M lk
  obtain ⟨va, ha, ea, xa, ba, rfl, na, ga⟩ := s65 S (show 1 ≤ d by omega) h1 M.pm lk hlk
  have hla := xa.len
  obtain ⟨vb, hb, eb, xb, bb, rfl, nb, gb⟩ := s66 S (show 1 ≤ d by omega) h2 (ext1_get xa M.pf) lk (by omega)
  have hlb := xb.len
  have fw : ev P T K d 67 [.sc (.mp bw)] lk hb = some (.v (.sc (.mp hb.length)), hb ++ [.map (entsP intV V.waits)]) := by
    obtain ⟨d, rfl⟩ : ∃ k, d = k + 1 := ⟨d - 1, by omega⟩
    rw [ev_kn (at67 S.t)]
    unfold clF
    simp only [ext1_get (xa.trans xb) M.pw]
  have fl : ev P T K d 68 [.sc (.mp bl)] lk (hb ++ [.map (entsP intV V.waits)]) = some (.v (.sc (.mp (hb ++ [AO.map (entsP intV V.waits)]).length)), hb ++ [.map (entsP intV V.waits)] ++ [.map (entsP LfV.cv V.left)]) := by
    obtain ⟨d, rfl⟩ : ∃ k, d = k + 1 := ⟨d - 1, by omega⟩
    rw [ev_kn (at68 S.t)]
    unfold clF
    simp only [ext1_get ((xa.trans xb).push (.map (entsP intV V.waits))) M.pl]
  have hpa := (M.ext xa).cp
  have hpb := (M.ext (xa.trans xb)).cp
  have hpc := (M.ext ((xa.trans xb).push (.map (entsP intV V.waits)))).cp
  have x0 : Ext1 h h := Ext1.refl h
  have lo1 : ∀ r, lowIf [] h.length h ha r = r := fun r => lowIf_ok ha r (ext_lowM x0 xa (Nat.le_refl _) [])
  have lo2 : ∀ r, lowIf [] h.length ha hb r = r := fun r => lowIf_ok hb r (ext_lowM xa (xa.trans xb) (Nat.le_refl _) [])
  have lo3 : ∀ r, lowIf [] h.length hb (hb ++ [.map (entsP intV V.waits)]) r = r := fun r => lowIf_ok _ r (ext_lowM (xa.trans xb) ((xa.trans xb).push _) (Nat.le_refl _) [])
  have lo4 : ∀ r, lowIf [] h.length (hb ++ [.map (entsP intV V.waits)]) (hb ++ [.map (entsP intV V.waits)] ++ [.map (entsP LfV.cv V.left)]) r = r := fun r => lowIf_ok _ r (ext_lowM ((xa.trans xb).push _) (((xa.trans xb).push _).push _) (Nat.le_refl _) [])
  simp (maxSteps := 1000000) (disch := first | omega | (simp (disch := first | omega | (simp only [EvV.len, MonV.len, List.length_append, List.length_cons, List.length_nil, List.length_set]; first | done | omega)) only [EvV.len, MonV.len, amSide, Int.reduceToNat, Nat.reducePow, Nat.reduceMul]; first | done | omega)) only  [↓amPre, amPost, ↓s_lit', Nat.reduceAdd, Nat.reduceSub, List.replicate, retA, resultsA, resultA, toC, toCL, Nat.reduceEqDiff, (bu133 S.p), (fa133_0 S.p), (fa133_1 S.p), (fa133_2 S.p), (fa133_3 S.p), (fa133_4 S.p), part_sc (ag121 S.p), part_sc (ag129 S.p), part_sc (ag130 S.p), part_sc (ag131 S.p), part_sc (ag3 S.p), hp, hpa, hpb, hpc, f78, ea, eb, fw, fl, lo1, lo2, lo3, lo4]
  have hlx := (xa.trans xb).len
  refine Ends.some ⟨(((xa.trans xb).push _).push _).push _, _, ba, bb, hb.length, hb.length + 1, rfl, ⟨?_, ?_, ?_, ?_, ?_, by omega⟩, by omega, by omega, by omega, by omega, by omega⟩
  · rw [obj_self _ _ (by simp)]
  · have hba := (List.getElem?_eq_some_iff.1 ga).1
    exact ext1_get ((((xb).push _).push _).push _) ga
  · exact ext1_get ((((Ext1.refl hb).push _).push _).push _) gb
  · rw [List.getElem?_append_left (by simp), List.getElem?_append_left (by simp), obj_self _ _ rfl]
  · rw [List.getElem?_append_left (by simp), obj_self _ _ (by simp)]
end
end Go.AM
