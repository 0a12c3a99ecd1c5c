/- Waiting graphs: Reach, and the number of edges. Conditions: none. -/
import Derived.Test.YtdokijbheholdaaDoorWh4
set_option linter.unusedVariables false
set_option linter.unusedSimpArgs false
set_option maxRecDepth 100000
namespace Go.AM
open Go.Proofs Go.Lib
-- LENS: gC_len, Edg.len, ixC_len
open Classical in
/-- Those that are reached, rising. -/
noncomputable def rchL (L : List Edg) (s : Int) : List Nat := if isN s = true then (List.range 64).filter fun k => decide (Rch L s.toNat k) else []
theorem s20 {P : Program} {T : Tab} {K d : Nat} (S : Sd P T K) (hd : 4 ≤ d) {E : List Nat} {L : List Edg} (G : GR E L) (a : Int) (lk : Nat) (h : List AO) (hlk : lk ≤ h.length) (hT : tabB 0 h = true) :
    Ends (fun v h' => Ext1 h h' ∧ ∃ q', v = .v (.sc q') ∧ Rs ixC 1 h' q' (rchL L a)) (ev P T K d 20 [.ag (gC E), .sc (.int .i64 a)] lk h) := by
  obtain ⟨d, rfl⟩ : ∃ k, d = k + 1 := ⟨d - 1, by omega⟩
  rw [ev_run (at20 S.t)]
  unfold i20 Tryd.f20
  have f32 := fun n lk h => s32 S (show 1 ≤ d by omega) n lk h
  have hl := gC_len E
  have hl64 := G.len
  unfold rchL
  cases ha : isN a with
  | false =>
    have fa := f32 a; rw [ha] at fa
    simp (maxSteps := 1000000) (disch := first | omega | (simp (disch := first | omega | (simp only [gC_len, Edg.len, ixC_len, List.length_append, List.length_cons, List.length_nil, List.length_set]; first | done | omega)) only [gC_len, Edg.len, ixC_len, amSide, Int.reduceToNat, Nat.reducePow, Nat.reduceMul]; first | done | omega)) only  [↓amPre, amPost, ↓s_lit', Nat.reduceAdd, Nat.reduceSub, List.replicate, retA, resultsA, resultA, toC, toCL, Nat.reduceEqDiff, part_all (ag33 S.p) (sz33 S.p), part_at (ag33 S.p) (sz33 S.p), fa]
    exact Ends.some ⟨(Ext1.refl h).push _, _, rfl, .inl ⟨rfl, rfl⟩⟩
  | true =>
    obtain ⟨m, rfl, hm⟩ := isN_t ha
    have fa := f32 m; rw [ha] at fa
    have hx0 := (Ext1.refl h).push (.rw 33 (gC E))
    have hTj := tabB_ext hT hx0
    obtain ⟨met, m1, m2, m3⟩ := s33 S (show 3 ≤ d by omega) G hm
    have e33 := m3 lk _ hTj
    obtain ⟨v1, h1, e1, hx1, q', rfl, hown⟩ := s23 S (show 2 ≤ d by omega) m1 lk (h ++ [.rw 33 (gC E)]) (by simp; omega) hTj
    have p1 := part_self (ag33 S.p) (sz33 S.p) (gC E) (by rw [gC_len]; exact hl64)
    simp (maxSteps := 1000000) (disch := first | omega | (simp (disch := first | omega | (simp only [gC_len, Edg.len, ixC_len, List.length_append, List.length_cons, List.length_nil, List.length_set]; first | done | omega)) only [gC_len, Edg.len, ixC_len, amSide, Int.reduceToNat, Nat.reducePow, Nat.reduceMul]; first | done | omega)) only  [↓amPre, amPost, ↓s_lit', Nat.reduceAdd, Nat.reduceSub, List.replicate, retA, resultsA, resultA, toC, toCL, Nat.reduceEqDiff, part_all (ag33 S.p) (sz33 S.p), part_at (ag33 S.p) (sz33 S.p), fa, e33, e1, p1, cells_self, cells_other]
    refine Ends.some ⟨hx0.trans hx1, _, rfl, ?_⟩
    rw [Int.toNat_natCast]
    have : bl met = (List.range 64).filter fun k => @decide (Rch L m k) (Classical.propDecidable _) := by
      unfold bl blN
      refine List.filter_congr fun k _ => ?_
      have := m2 k
      by_cases q : Rch L m k
      · rw [this.2 q]; simp [q]
      · have q2 : met.testBit k = false := by
          cases z : met.testBit k
          · rfl
          · exact absurd (this.1 z) q
        rw [q2]; simp [q]
    rw [← this]
    exact hown.rs (by omega) ixC_len
end Go.AM
