/- Monitors' model: one that nobody made. Conditions: none. -/
import Derived.Test.YtgcgbcdgbfeaaaaMp2
set_option linter.unusedVariables false
set_option linter.unusedSimpArgs false
set_option maxRecDepth 100000
namespace Go.AM
open Go.Proofs
-- LENS: EvV.len, MonV.len
/-- A model that nobody made: nil, or empty. -/
def NoMd (x : SV) (h : List AO) : Prop := x = .nilp ∨ ∃ z, x = .ptr z 0 ∧ h[z]? = some (.rw 126 [.int .i64 0, .nils, .nils, .nilm, .nilm])
theorem NoMd.ext {x : SV} {h h' : List AO} (H : NoMd x h) (hx : Ext1 h h') : NoMd x h' := by
  rcases H with H | ⟨z, h1, h2⟩
  · exact .inl H
  · exact .inr ⟨z, h1, ext1_get hx h2⟩
section
variable {P : Program} {T : Tab} {K d : Nat} (S : Sd P T K)
include S
theorem s78x (hd : 1 ≤ d) {x : SV} {h : List AO} (H : NoMd x h) (lk : Nat) : ev P T K d 78 [.sc x] lk h = some (.v (.sc (.bool false)), h) := by
  rcases H with rfl | ⟨z, rfl, hz⟩
  · exact s78n S hd lk h
  · obtain ⟨d, rfl⟩ : ∃ k, d = k + 1 := ⟨d - 1, by omega⟩
    refine ev_pure (at78 S.t) rfl ?_
    unfold i78 Try.f78
    have e1 : binOpA P .neq 92 (.v (.sc (.ptr z 0))) (.v (.sc .nilp)) = some (.v (.sc (.bool true))) := by simp [binOpA, eqA, un92 S.p]
    have e2 : binOpA P .neq 123 (.v (.sc .nilm)) (.v (.sc .nilm)) = some (.v (.sc (.bool false))) := by simp [binOpA, eqA, un123 S.p]
    have hp := cells_at hz
    have pa123 := part_sc (ag123 S.p)
    simp (maxSteps := 1000000) (disch := first | omega | (simp (disch := first | omega | (simp only [EvV.len, MonV.len, List.length_append, List.length_cons, List.length_nil, List.length_set]; first | done | omega)) only [EvV.len, MonV.len, amSide, Int.reduceToNat, Nat.reducePow, Nat.reduceMul]; first | done | omega)) only  [↓amPre, amPost, ↓s_lit', Nat.reduceAdd, Nat.reduceSub, List.replicate, retA, resultsA, resultA, toC, toCL, Nat.reduceEqDiff, (fa126_3 S.p), part_sc (ag123 S.p), e1, e2, hp]
    exact Ends.some rfl
theorem s75x (hd : 2 ≤ d) {x : SV} {h : List AO} (H : NoMd x h) (e : EvV) (lk : Nat) : ev P T K d 75 [.sc x, .ag e.cells] lk h = some (.v (.sc (.bool false)), h) := by
  obtain ⟨d, rfl⟩ : ∃ k, d = k + 1 := ⟨d - 1, by omega⟩
  refine ev_pure (at75 S.t) rfl ?_
  unfold i75 Try.f75
  have f78 := fun lk => s78x S (show 1 ≤ d by omega) (H.ext ((Ext1.refl h).push (.rw 101 e.cells))) lk
  simp (maxSteps := 1000000) (disch := first | omega | (simp (disch := first | omega | (simp only [EvV.len, MonV.len, List.length_append, List.length_cons, List.length_nil, List.length_set]; first | done | omega)) only [EvV.len, MonV.len, amSide, Int.reduceToNat, Nat.reducePow, Nat.reduceMul]; first | done | omega)) only  [↓amPre, amPost, ↓s_lit', Nat.reduceAdd, Nat.reduceSub, List.replicate, retA, resultsA, resultA, toC, toCL, Nat.reduceEqDiff, (fa101_0 S.p), (fa101_1 S.p), (fa101_2 S.p), (fa126_1 S.p), len_sl (un121 S.p), len_nils (un121 S.p), part_sc (ag121 S.p), part_sc (ag3 S.p), f78, cells_self, cells_other, Nat.zero_add, Nat.add_zero]
  exact Ends.some rfl
theorem s43x (hd : 3 ≤ d) {x : SV} {h : List AO} (H : NoMd x h) (e : EvV) (lk : Nat) : ev P T K d 43 [.sc x, .ag e.cells] lk h = some (.v (.sc (.int .i64 15)), h ++ [.rw 101 e.cells]) := by
  obtain ⟨d, rfl⟩ : ∃ k, d = k + 1 := ⟨d - 1, by omega⟩
  rw [ev_run (at43 S.t)]
  unfold i43 Try.f43
  have hpe := partE S e
  have f75 := fun lk => s75x S (show 2 ≤ d by omega) (H.ext ((Ext1.refl h).push (.rw 101 e.cells))) e lk
  simp (maxSteps := 1000000) (disch := first | omega | (simp (disch := first | omega | (simp only [EvV.len, MonV.len, List.length_append, List.length_cons, List.length_nil, List.length_set]; first | done | omega)) only [EvV.len, MonV.len, amSide, Int.reduceToNat, Nat.reducePow, Nat.reduceMul]; first | done | omega)) only  [↓amPre, amPost, ↓s_lit', Nat.reduceAdd, Nat.reduceSub, List.replicate, retA, resultsA, resultA, toC, toCL, Nat.reduceEqDiff, part_all (ag101 S.p) (sz101 S.p), part_at (ag101 S.p) (sz101 S.p), hpe, f75, cells_self, cells_other, Nat.zero_add, Nat.add_zero]
theorem s77x (hd : 2 ≤ d) {x : SV} {h : List AO} (H : NoMd x h) (n : Int) (lk : Nat) : ev P T K d 77 [.sc x, .sc (.int .i64 n)] lk h = some (.v (.ag [.int .i64 (-1), .int .i64 0, .int .i64 0]), h) := by
  obtain ⟨d, rfl⟩ : ∃ k, d = k + 1 := ⟨d - 1, by omega⟩
  refine ev_pure (at77 S.t) rfl ?_
  unfold i77 Try.f77
  have hb : [SV.int .i64 (-1), .int .i64 0, .int .i64 0] = MonV.cells ⟨-1, 0, 0⟩ := rfl
  have hpm := partM S ⟨-1, 0, 0⟩
  have f78 := fun lk => s78x S (show 1 ≤ d by omega) (H.ext ((Ext1.refl h).push (.rw 150 [.int .i64 0, .int .i64 0, .int .i64 0]))) lk
  rw [hb]
  simp (maxSteps := 1000000) (disch := first | omega | (simp (disch := first | omega | (simp only [EvV.len, MonV.len, List.length_append, List.length_cons, List.length_nil, List.length_set]; first | done | omega)) only [EvV.len, MonV.len, amSide, Int.reduceToNat, Nat.reducePow, Nat.reduceMul]; first | done | omega)) only  [↓amPre, amPost, ↓s_lit', Nat.reduceAdd, Nat.reduceSub, List.replicate, retA, resultsA, resultA, toC, toCL, Nat.reduceEqDiff, (ze150 S.p), (bu150 S.p), (fa126_1 S.p), iaddr_sl (un121 S.p) (sz150 S.p), len_sl (un121 S.p), len_nils (un121 S.p), part_sc (ag121 S.p), part_all (ag150 S.p) (sz150 S.p), part_at (ag150 S.p) (sz150 S.p), store_last (sz150 S.p), (sz150 S.p), f78, hb, hpm, cells_self, cells_other, Nat.zero_add, Nat.add_zero]
  exact Ends.some rfl
theorem s45x (hd : 3 ≤ d) {x : SV} {h : List AO} (H : NoMd x h) (n : Int) (lk : Nat) : ev P T K d 45 [.sc x, .sc (.int .i64 n)] lk h = some (.v (.sc (.int .i64 (-1))), h) := by
  obtain ⟨d, rfl⟩ : ∃ k, d = k + 1 := ⟨d - 1, by omega⟩
  refine ev_pure (at45 S.t) rfl ?_
  unfold i45 Try.f45
  have f77 := fun lk => s77x S (show 2 ≤ d by omega) H n lk
  simp (maxSteps := 1000000) (disch := first | omega | (simp (disch := first | omega | (simp only [EvV.len, MonV.len, List.length_append, List.length_cons, List.length_nil, List.length_set]; first | done | omega)) only [EvV.len, MonV.len, amSide, Int.reduceToNat, Nat.reducePow, Nat.reduceMul]; first | done | omega)) only  [↓amPre, amPost, ↓s_lit', Nat.reduceAdd, Nat.reduceSub, List.replicate, retA, resultsA, resultA, toC, toCL, Nat.reduceEqDiff, (fd150_0 S.p), part_sc (ag3 S.p), f77]
  exact Ends.some rfl
theorem s46x (hd : 3 ≤ d) {x : SV} {h : List AO} (H : NoMd x h) (n : Int) (lk : Nat) : ev P T K d 46 [.sc x, .sc (.int .i64 n)] lk h = some (.v (.sc (.int .i64 0)), h) := by
  obtain ⟨d, rfl⟩ : ∃ k, d = k + 1 := ⟨d - 1, by omega⟩
  refine ev_pure (at46 S.t) rfl ?_
  unfold i46 Try.f46
  have f77 := fun lk => s77x S (show 2 ≤ d by omega) H n lk
  simp (maxSteps := 1000000) (disch := first | omega | (simp (disch := first | omega | (simp only [EvV.len, MonV.len, List.length_append, List.length_cons, List.length_nil, List.length_set]; first | done | omega)) only [EvV.len, MonV.len, amSide, Int.reduceToNat, Nat.reducePow, Nat.reduceMul]; first | done | omega)) only  [↓amPre, amPost, ↓s_lit', Nat.reduceAdd, Nat.reduceSub, List.replicate, retA, resultsA, resultA, toC, toCL, Nat.reduceEqDiff, (fd150_1 S.p), part_sc (ag3 S.p), f77]
  exact Ends.some rfl
theorem s47x (hd : 3 ≤ d) {x : SV} {h : List AO} (H : NoMd x h) (n : Int) (lk : Nat) : ev P T K d 47 [.sc x, .sc (.int .i64 n)] lk h = some (.v (.sc (.int .i64 0)), h) := by
  obtain ⟨d, rfl⟩ : ∃ k, d = k + 1 := ⟨d - 1, by omega⟩
  refine ev_pure (at47 S.t) rfl ?_
  unfold i47 Try.f47
  have f77 := fun lk => s77x S (show 2 ≤ d by omega) H n lk
  simp (maxSteps := 1000000) (disch := first | omega | (simp (disch := first | omega | (simp only [EvV.len, MonV.len, List.length_append, List.length_cons, List.length_nil, List.length_set]; first | done | omega)) only [EvV.len, MonV.len, amSide, Int.reduceToNat, Nat.reducePow, Nat.reduceMul]; first | done | omega)) only  [↓amPre, amPost, ↓s_lit', Nat.reduceAdd, Nat.reduceSub, List.replicate, retA, resultsA, resultA, toC, toCL, Nat.reduceEqDiff, (fd150_2 S.p), part_sc (ag3 S.p), f77]
  exact Ends.some rfl
theorem s48x (hd : 2 ≤ d) {x : SV} {h : List AO} (H : NoMd x h) (n : Int) (lk : Nat) : ev P T K d 48 [.sc x, .sc (.int .i64 n)] lk h = some (.v (.sc .nils), h) := by
  obtain ⟨d, rfl⟩ : ∃ k, d = k + 1 := ⟨d - 1, by omega⟩
  rw [ev_run (at48 S.t)]
  unfold i48 Try.f48
  have f78 := fun lk => s78x S (show 1 ≤ d by omega) H lk
  simp (maxSteps := 1000000) (disch := first | omega | (simp (disch := first | omega | (simp only [EvV.len, MonV.len, List.length_append, List.length_cons, List.length_nil, List.length_set]; first | done | omega)) only [EvV.len, MonV.len, amSide, Int.reduceToNat, Nat.reducePow, Nat.reduceMul]; first | done | omega)) only  [↓amPre, amPost, ↓s_lit', Nat.reduceAdd, Nat.reduceSub, List.replicate, retA, resultsA, resultA, toC, toCL, Nat.reduceEqDiff, (fa126_3 S.p), part_sc (ag123 S.p), f78]
theorem s49x (hd : 2 ≤ d) {x : SV} {h : List AO} (H : NoMd x h) (n : Int) (lk : Nat) : ev P T K d 49 [.sc x, .sc (.int .i64 n)] lk h = some (.v (.sc .nils), h) := by
  obtain ⟨d, rfl⟩ : ∃ k, d = k + 1 := ⟨d - 1, by omega⟩
  rw [ev_run (at49 S.t)]
  unfold i49 Try.f49
  have f78 := fun lk => s78x S (show 1 ≤ d by omega) H lk
  simp (maxSteps := 1000000) (disch := first | omega | (simp (disch := first | omega | (simp only [EvV.len, MonV.len, List.length_append, List.length_cons, List.length_nil, List.length_set]; first | done | omega)) only [EvV.len, MonV.len, amSide, Int.reduceToNat, Nat.reducePow, Nat.reduceMul]; first | done | omega)) only  [↓amPre, amPost, ↓s_lit', Nat.reduceAdd, Nat.reduceSub, List.replicate, retA, resultsA, resultA, toC, toCL, Nat.reduceEqDiff, (fa126_4 S.p), part_sc (ag124 S.p), f78]
theorem s56x (hd : 2 ≤ d) {x : SV} {h : List AO} (H : NoMd x h) (n : Int) (lk : Nat) : ev P T K d 56 [.sc x, .sc (.int .i64 n)] lk h = some (.v (.sc (.bool false)), h) := by
  obtain ⟨d, rfl⟩ : ∃ k, d = k + 1 := ⟨d - 1, by omega⟩
  refine ev_pure (at56 S.t) rfl ?_
  unfold i56 Try.f56
  have f78 := fun lk => s78x S (show 1 ≤ d by omega) H lk
  simp (maxSteps := 1000000) (disch := first | omega | (simp (disch := first | omega | (simp only [EvV.len, MonV.len, List.length_append, List.length_cons, List.length_nil, List.length_set]; first | done | omega)) only [EvV.len, MonV.len, amSide, Int.reduceToNat, Nat.reducePow, Nat.reduceMul]; first | done | omega)) only  [↓amPre, amPost, ↓s_lit', Nat.reduceAdd, Nat.reduceSub, List.replicate, retA, resultsA, resultA, toC, toCL, Nat.reduceEqDiff, (fa126_2 S.p), iaddr_sl (un122 S.p) (sz4 S.p), part_sc (ag122 S.p), part_sc (ag4 S.p), f78]
  exact Ends.some rfl
theorem s54x (hd : 2 ≤ d) {x : SV} {h : List AO} (H : NoMd x h) (lk : Nat) : ev P T K d 54 [.sc x] lk h = some (.v (.sc .nilp), h) := by
  obtain ⟨d, rfl⟩ : ∃ k, d = k + 1 := ⟨d - 1, by omega⟩
  rw [ev_run (at54 S.t)]
  unfold i54 Try.f54
  have f78 := fun lk => s78x S (show 1 ≤ d by omega) H lk
  simp (maxSteps := 1000000) (disch := first | omega | (simp (disch := first | omega | (simp only [EvV.len, MonV.len, List.length_append, List.length_cons, List.length_nil, List.length_set]; first | done | omega)) only [EvV.len, MonV.len, amSide, Int.reduceToNat, Nat.reducePow, Nat.reduceMul]; first | done | omega)) only  [↓amPre, amPost, ↓s_lit', Nat.reduceAdd, Nat.reduceSub, List.replicate, retA, resultsA, resultA, toC, toCL, Nat.reduceEqDiff, (bu126 S.p), (fa126_0 S.p), (fa126_1 S.p), (fa126_2 S.p), (fa126_3 S.p), (fa126_4 S.p), part_sc (ag121 S.p), part_sc (ag122 S.p), part_sc (ag123 S.p), part_sc (ag124 S.p), part_sc (ag3 S.p), f78]
theorem s55x (hd : 2 ≤ d) {x : SV} {h : List AO} (H : NoMd x h) (lk : Nat) : ev P T K d 55 [.sc x, .sc .nilp] lk h = some (.v (.sc (.bool true)), h) := by
  obtain ⟨d, rfl⟩ : ∃ k, d = k + 1 := ⟨d - 1, by omega⟩
  refine ev_pure (at55 S.t) rfl ?_
  unfold i55 Try.f55
  have f78 := fun lk => s78x S (show 1 ≤ d by omega) H lk
  have f78' := fun lk => s78n S (show 1 ≤ d by omega) lk h
  simp (maxSteps := 1000000) (disch := first | omega | (simp (disch := first | omega | (simp only [EvV.len, MonV.len, List.length_append, List.length_cons, List.length_nil, List.length_set]; first | done | omega)) only [EvV.len, MonV.len, amSide, Int.reduceToNat, Nat.reducePow, Nat.reduceMul]; first | done | omega)) only  [↓amPre, amPost, ↓s_lit', Nat.reduceAdd, Nat.reduceSub, List.replicate, retA, resultsA, resultA, toC, toCL, Nat.reduceEqDiff, eql_bool (un4 S.p), neq_bool (un4 S.p), (fa126_0 S.p), (fa126_1 S.p), (fa126_2 S.p), (fa126_3 S.p), (fa126_4 S.p), part_sc (ag121 S.p), part_sc (ag122 S.p), part_sc (ag123 S.p), part_sc (ag124 S.p), part_sc (ag3 S.p), f78, f78', beq_self_eq_true]
  exact Ends.some rfl
theorem s55v (hd : 2 ≤ d) {p bm bf bw bl : Nat} {V : MdV} {h : List AO} (M : MdAt h p bm bf bw bl V) (lk : Nat) : ev P T K d 55 [.sc (.ptr p 0), .sc .nilp] lk h = some (.v (.sc (.bool false)), h) := by
  obtain ⟨d, rfl⟩ : ∃ k, d = k + 1 := ⟨d - 1, by omega⟩
  refine ev_pure (at55 S.t) rfl ?_
  unfold i55 Try.f55
  have f78 := fun lk => s78 S (show 1 ≤ d by omega) M lk
  have f78' := fun lk => s78n S (show 1 ≤ d by omega) lk h
  have hb : (true == false) = false := rfl
  simp (maxSteps := 1000000) (disch := first | omega | (simp (disch := first | omega | (simp only [EvV.len, MonV.len, List.length_append, List.length_cons, List.length_nil, List.length_set]; first | done | omega)) only [EvV.len, MonV.len, amSide, Int.reduceToNat, Nat.reducePow, Nat.reduceMul]; first | done | omega)) only  [↓amPre, amPost, ↓s_lit', Nat.reduceAdd, Nat.reduceSub, List.replicate, retA, resultsA, resultA, toC, toCL, Nat.reduceEqDiff, eql_bool (un4 S.p), neq_bool (un4 S.p), (fa126_0 S.p), (fa126_1 S.p), (fa126_2 S.p), (fa126_3 S.p), (fa126_4 S.p), part_sc (ag121 S.p), part_sc (ag122 S.p), part_sc (ag123 S.p), part_sc (ag124 S.p), part_sc (ag3 S.p), f78, f78', hb]
  exact Ends.some rfl
end
end Go.AM
