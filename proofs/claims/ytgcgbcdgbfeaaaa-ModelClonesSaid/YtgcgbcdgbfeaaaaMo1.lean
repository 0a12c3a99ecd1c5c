/- Monitors' model: what is asked of it. Conditions: none. -/
import Derived.Test.YtgcgbcdgbfeaaaaAmTab
import Derived.Test.YtgcgbcdgbfeaaaaMoV
set_option linter.unusedVariables false
set_option linter.unusedSimpArgs false
set_option maxRecDepth 100000
namespace Go.AM
open Go.Proofs
-- LENS: EvV.len, MonV.len
/-- A model's blocks, in this program. -/
structure MdAt (h : List AO) (p bm bf bw bl : Nat) (V : MdV) : Prop where
  pp : h[p]? = some (.rw 126 [.int .i64 V.most, .sl bm 0 V.mons.length 3, .sl bf 0 V.flags.length 1, .mp bw, .mp bl])
  pm : h[bm]? = some (.rw 150 (recs MonV.cells V.mons))
  pf : h[bf]? = some (.rw 4 (V.flags.map SV.bool))
  pw : h[bw]? = some (.map (entsP intV V.waits))
  pl : h[bl]? = some (.map (entsP LfV.cv V.left))
  ne : bw ≠ bl
section
variable {h : List AO} {p bm bf bw bl : Nat} {V : MdV}
theorem MdAt.lts (M : MdAt h p bm bf bw bl V) : p < h.length ∧ bm < h.length ∧ bf < h.length ∧ bw < h.length ∧ bl < h.length :=
  ⟨(List.getElem?_eq_some_iff.1 M.pp).1, (List.getElem?_eq_some_iff.1 M.pm).1, (List.getElem?_eq_some_iff.1 M.pf).1, (List.getElem?_eq_some_iff.1 M.pw).1, (List.getElem?_eq_some_iff.1 M.pl).1⟩
theorem MdAt.cp (M : MdAt h p bm bf bw bl V) : cellsAt h p = some [.int .i64 V.most, .sl bm 0 V.mons.length 3, .sl bf 0 V.flags.length 1, .mp bw, .mp bl] := cells_at M.pp
theorem MdAt.cm (M : MdAt h p bm bf bw bl V) : cellsAt h bm = some (recs MonV.cells V.mons) := cells_at M.pm
theorem MdAt.cf (M : MdAt h p bm bf bw bl V) : cellsAt h bf = some (V.flags.map SV.bool) := cells_at M.pf
theorem MdAt.nes (M : MdAt h p bm bf bw bl V) : p ≠ bm ∧ p ≠ bf ∧ p ≠ bw ∧ p ≠ bl ∧ bm ≠ bf ∧ bm ≠ bw ∧ bm ≠ bl ∧ bf ≠ bw ∧ bf ≠ bl ∧ bw ≠ bl := by
  have h1 := M.pp
  have h2 := M.pm
  have h3 := M.pf
  have h4 := M.pw
  have h5 := M.pl
  refine ⟨?_, ?_, ?_, ?_, ?_, ?_, ?_, ?_, ?_, M.ne⟩ <;> rintro rfl <;> simp_all
theorem MdAt.ext (M : MdAt h p bm bf bw bl V) {h' : List AO} (hx : Ext1 h h') : MdAt h' p bm bf bw bl V := by
  obtain ⟨l1, l2, l3, l4, l5⟩ := M.lts
  exact ⟨(hx.get l1).trans M.pp, (hx.get l2).trans M.pm, (hx.get l3).trans M.pf, (hx.get l4).trans M.pw, (hx.get l5).trans M.pl, M.ne⟩
/-- Other blocks are as they were. -/
def Fr (bm bf bw bl : Nat) (h h' : List AO) : Prop := h.length ≤ h'.length ∧ ∀ l, l < h.length → l ≠ bm → l ≠ bf → l ≠ bw → l ≠ bl → h'[l]? = h[l]?
theorem Fr.refl (bm bf bw bl : Nat) (h : List AO) : Fr bm bf bw bl h h := ⟨Nat.le_refl _, fun _ _ _ _ _ _ => rfl⟩
theorem Fr.trans {h h1 h2 : List AO} (a : Fr bm bf bw bl h h1) (b : Fr bm bf bw bl h1 h2) : Fr bm bf bw bl h h2 :=
  ⟨Nat.le_trans a.1 b.1, fun l hl n1 n2 n3 n4 => (b.2 l (Nat.lt_of_lt_of_le hl a.1) n1 n2 n3 n4).trans (a.2 l hl n1 n2 n3 n4)⟩
theorem Fr.of_ext {h h' : List AO} (hx : Ext1 h h') : Fr bm bf bw bl h h' := ⟨hx.len, fun l hl _ _ _ _ => hx.get hl⟩
end
theorem placeD (P : Program) (hP : P = Try.prog) : DictP P 123 164 3 (.sc (.int .i64 0)) ∧ DictP P 124 164 156 (.ag [.int .i64 0, .int .i64 0]) := by
  subst hP
  exact ⟨⟨un123 rfl, eq164 rfl, fun t => (by kernel_rfl : keyB Try.prog 164 [.int .i64 t.1, .int .i64 t.2] = true), zc3 rfl⟩, ⟨un124 rfl, eq164 rfl, fun t => (by kernel_rfl : keyB Try.prog 164 [.int .i64 t.1, .int .i64 t.2] = true), zc156 rfl⟩⟩
section
variable {P : Program} {T : Tab} {K d : Nat} (S : Sd P T K)
include S
theorem partE (e : EvV) : partA P 101 e.cells 0 = some (.ag e.cells) := by
  have := recs_part (ag101 S.p) (sz101 S.p) EvV.len (l := [e]) (i := 0) rfl
  rw [show recs EvV.cells [e] = e.cells by simp [recs]] at this; exact this
theorem s74 (hd : 1 ≤ d) (n a b : Int) (lk : Nat) (h : List AO) : ev P T K d 74 [.sc (.int .i64 n), .sc (.int .i64 a), .sc (.int .i64 b)] lk h = some (.v (.sc (.bool (decide (a ≤ n ∧ n ≤ b)))), h) := by
  obtain ⟨d, rfl⟩ : ∃ k, d = k + 1 := ⟨d - 1, by omega⟩
  refine ev_pure (at74 S.t) rfl ?_
  unfold i74 Try.f74
  by_cases c1 : a ≤ n
  · by_cases c2 : n ≤ b
    · simp (maxSteps := 1000000) (disch := first | omega | (simp (disch := first | omega | (simp only [EvV.len, MonV.len, List.length_append, List.length_cons, List.length_nil, List.length_set]; first | done | omega)) only [EvV.len, MonV.len, amSide, Int.reduceToNat, Nat.reducePow, Nat.reduceMul]; first | done | omega)) only  [↓amPre, amPost, ↓s_lit', Nat.reduceAdd, Nat.reduceSub, List.replicate, retA, resultsA, resultA, toC, toCL, Nat.reduceEqDiff, if_true, dec_t, dec_f]
      exact Ends.some (by simp [c1, c2])
    · simp (maxSteps := 1000000) (disch := first | omega | (simp (disch := first | omega | (simp only [EvV.len, MonV.len, List.length_append, List.length_cons, List.length_nil, List.length_set]; first | done | omega)) only [EvV.len, MonV.len, amSide, Int.reduceToNat, Nat.reducePow, Nat.reduceMul]; first | done | omega)) only  [↓amPre, amPost, ↓s_lit', Nat.reduceAdd, Nat.reduceSub, List.replicate, retA, resultsA, resultA, toC, toCL, Nat.reduceEqDiff, if_true, dec_t, dec_f]
      exact Ends.some (by simp [c1, c2])
  · simp (maxSteps := 1000000) (disch := first | omega | (simp (disch := first | omega | (simp only [EvV.len, MonV.len, List.length_append, List.length_cons, List.length_nil, List.length_set]; first | done | omega)) only [EvV.len, MonV.len, amSide, Int.reduceToNat, Nat.reducePow, Nat.reduceMul]; first | done | omega)) only  [↓amPre, amPost, ↓s_lit', Nat.reduceAdd, Nat.reduceSub, List.replicate, retA, resultsA, resultA, toC, toCL, Nat.reduceEqDiff, if_true, dec_t, dec_f]
    exact Ends.some (by simp [c1])
theorem s78n (hd : 1 ≤ d) (lk : Nat) (h : List AO) : ev P T K d 78 [.sc .nilp] lk h = some (.v (.sc (.bool false)), h) := by
  obtain ⟨d, rfl⟩ : ∃ k, d = k + 1 := ⟨d - 1, by omega⟩
  refine ev_pure (at78 S.t) rfl ?_
  unfold i78 Try.f78
  have e1 : binOpA P .neq 92 (.v (.sc .nilp)) (.v (.sc .nilp)) = some (.v (.sc (.bool false))) := by simp [binOpA, eqA, un92 S.p]
  simp (maxSteps := 1000000) (disch := first | omega | (simp (disch := first | omega | (simp only [EvV.len, MonV.len, List.length_append, List.length_cons, List.length_nil, List.length_set]; first | done | omega)) only [EvV.len, MonV.len, amSide, Int.reduceToNat, Nat.reducePow, Nat.reduceMul]; first | done | omega)) only  [↓amPre, amPost, ↓s_lit', Nat.reduceAdd, Nat.reduceSub, List.replicate, retA, resultsA, resultA, toC, toCL, Nat.reduceEqDiff, (fa126_3 S.p), part_sc (ag123 S.p), e1]
  exact Ends.some rfl
theorem s78 (hd : 1 ≤ d) {p bm bf bw bl : Nat} {V : MdV} {h : List AO} (M : MdAt h p bm bf bw bl V) (lk : Nat) : ev P T K d 78 [.sc (.ptr p 0)] lk h = some (.v (.sc (.bool true)), h) := by
  obtain ⟨d, rfl⟩ : ∃ k, d = k + 1 := ⟨d - 1, by omega⟩
  refine ev_pure (at78 S.t) rfl ?_
  unfold i78 Try.f78
  have e1 : binOpA P .neq 92 (.v (.sc (.ptr p 0))) (.v (.sc .nilp)) = some (.v (.sc (.bool true))) := by simp [binOpA, eqA, un92 S.p]
  have e2 : binOpA P .neq 123 (.v (.sc (.mp bw))) (.v (.sc .nilm)) = some (.v (.sc (.bool true))) := by simp [binOpA, eqA, un123 S.p]
  have hp := M.cp
  have pa123 := part_sc (ag123 S.p)
  simp (maxSteps := 1000000) (disch := first | omega | (simp (disch := first | omega | (simp only [EvV.len, MonV.len, List.length_append, List.length_cons, List.length_nil, List.length_set]; first | done | omega)) only [EvV.len, MonV.len, amSide, Int.reduceToNat, Nat.reducePow, Nat.reduceMul]; first | done | omega)) only  [↓amPre, amPost, ↓s_lit', Nat.reduceAdd, Nat.reduceSub, List.replicate, retA, resultsA, resultA, toC, toCL, Nat.reduceEqDiff, (fa126_3 S.p), part_sc (ag123 S.p), e1, e2, hp]
  exact Ends.some rfl
theorem s96 (hd : 2 ≤ d) {p bm bf bw bl : Nat} {V : MdV} {h : List AO} (M : MdAt h p bm bf bw bl V) (hn : V.flags.length ≤ 100) (t : Int) (lk : Nat) : ev P T K d 96 [.sc (.ptr p 0), .sc (.int .i64 t)] lk h = some (.v (.sc (.bool (decide (0 ≤ t ∧ t < V.flags.length)))), h) := by
  obtain ⟨d, rfl⟩ : ∃ k, d = k + 1 := ⟨d - 1, by omega⟩
  refine ev_pure (at96 S.t) rfl ?_
  unfold i96 Try.f96
  have hp := M.cp
  have f74 := fun a b c lk h => s74 S (show 1 ≤ d by omega) a b c lk h
  have hd : decide (0 ≤ t ∧ t ≤ (V.flags.length : Int) - 1) = decide (0 ≤ t ∧ t < V.flags.length) := by
    by_cases c : 0 ≤ t ∧ t < V.flags.length
    · rw [decide_eq_true c, decide_eq_true ⟨c.1, by omega⟩]
    · rw [decide_eq_false c, decide_eq_false (fun q => c ⟨q.1, by omega⟩)]
  rw [← hd]
  simp (maxSteps := 1000000) (disch := first | omega | (simp (disch := first | omega | (simp only [EvV.len, MonV.len, List.length_append, List.length_cons, List.length_nil, List.length_set]; first | done | omega)) only [EvV.len, MonV.len, amSide, Int.reduceToNat, Nat.reducePow, Nat.reduceMul]; first | done | omega)) only  [↓amPre, amPost, ↓s_lit', Nat.reduceAdd, Nat.reduceSub, List.replicate, retA, resultsA, resultA, toC, toCL, Nat.reduceEqDiff, (fa126_2 S.p), len_sl (un122 S.p), len_nils (un122 S.p), part_sc (ag122 S.p), hp, f74, wrap_i64]
  exact Ends.some rfl
theorem s133 (hd : 1 ≤ d) {p bm bf bw bl : Nat} {V : MdV} {h : List AO} (M : MdAt h p bm bf bw bl V) (e : EvV) {ob : Nat} {o : MonV} (ho : e.o = (ob : Int)) (hx : V.mons[ob]? = some o) (lk : Nat) : ev P T K d 133 [.sc (.ptr p 0), .ag e.cells] lk h = some (.v (.sc (.bool (o.own == e.t))), h) := by
  obtain ⟨d, rfl⟩ : ∃ k, d = k + 1 := ⟨d - 1, by omega⟩
  refine ev_pure (at133 S.t) rfl ?_
  unfold i133 Try.f133
  have hp := M.cp
  have hm := M.cm
  obtain ⟨l1, l2, l3, l4, l5⟩ := M.lts
  have e1 := e.c1
  have e2 := e.c2
  rw [ho] at e2
  have hob := (List.getElem?_eq_some_iff.1 hx).1
  have r0 : (recs MonV.cells V.mons)[ob * 3 + 0]? = some (.int .i64 o.own) := by rw [recs_get MonV.len hx 0 (by omega)]; exact o.c0
  rw [Nat.add_zero] at r0
  simp (maxSteps := 1000000) (disch := first | omega | (simp (disch := first | omega | (simp only [EvV.len, MonV.len, List.length_append, List.length_cons, List.length_nil, List.length_set]; first | done | omega)) only [EvV.len, MonV.len, amSide, Int.reduceToNat, Nat.reducePow, Nat.reduceMul]; first | done | omega)) only  [↓amPre, amPost, ↓s_lit', Nat.reduceAdd, Nat.reduceSub, List.replicate, retA, resultsA, resultA, toC, toCL, Nat.reduceEqDiff, (fa101_1 S.p), (fa101_2 S.p), (fa126_1 S.p), (fa150_0 S.p), iaddr_sl (un121 S.p) (sz150 S.p), part_sc (ag121 S.p), part_sc (ag3 S.p), hp, hm, e1, e2, r0, idx_ok, cells_self, cells_other, Int.toNat_natCast, Nat.zero_add, Nat.add_zero]
  exact Ends.some rfl
theorem s132 (hd : 2 ≤ d) {p bm bf bw bl : Nat} {V : MdV} {h : List AO} (M : MdAt h p bm bf bw bl V) (e : EvV) {ob : Nat} {o : MonV} (ho : e.o = (ob : Int)) (hx : V.mons[ob]? = some o) (lk : Nat) : ev P T K d 132 [.sc (.ptr p 0), .ag e.cells] lk h = some (.v (.sc (.bool (decide (o.own ≠ e.t ∧ o.own ≠ -1)))), h) := by
  obtain ⟨d, rfl⟩ : ∃ k, d = k + 1 := ⟨d - 1, by omega⟩
  refine ev_pure (at132 S.t) rfl ?_
  unfold i132 Try.f132
  have hp := M.cp
  have hm := M.cm
  obtain ⟨l1, l2, l3, l4, l5⟩ := M.lts
  have e1 := e.c1
  have e2 := e.c2
  rw [ho] at e2
  have hob := (List.getElem?_eq_some_iff.1 hx).1
  have r0 : (recs MonV.cells V.mons)[ob * 3 + 0]? = some (.int .i64 o.own) := by rw [recs_get MonV.len hx 0 (by omega)]; exact o.c0
  rw [Nat.add_zero] at r0
  have hpe := partE S e
  have f133 := fun lk => s133 S (show 1 ≤ d by omega) (M.ext ((Ext1.refl h).push (.rw 101 e.cells))) e ho hx lk
  by_cases c1 : o.own = e.t
  · have hq : (o.own == e.t) = true := by simpa using c1
    rw [hq] at f133
    simp (maxSteps := 1000000) (disch := first | omega | (simp (disch := first | omega | (simp only [EvV.len, MonV.len, List.length_append, List.length_cons, List.length_nil, List.length_set]; first | done | omega)) only [EvV.len, MonV.len, amSide, Int.reduceToNat, Nat.reducePow, Nat.reduceMul]; first | done | omega)) only  [↓amPre, amPost, ↓s_lit', Nat.reduceAdd, Nat.reduceSub, List.replicate, retA, resultsA, resultA, toC, toCL, Nat.reduceEqDiff, (fa101_2 S.p), (fa126_1 S.p), (fa150_0 S.p), iaddr_sl (un121 S.p) (sz150 S.p), part_all (ag101 S.p) (sz101 S.p), part_at (ag101 S.p) (sz101 S.p), part_sc (ag121 S.p), part_sc (ag3 S.p), hp, hm, e1, e2, r0, hpe, f133, idx_ok, cells_self, cells_other, Int.toNat_natCast, Nat.zero_add, Nat.add_zero]
    exact Ends.some (by simp [c1])
  · have hq : (o.own == e.t) = false := by simpa using c1
    rw [hq] at f133
    simp (maxSteps := 1000000) (disch := first | omega | (simp (disch := first | omega | (simp only [EvV.len, MonV.len, List.length_append, List.length_cons, List.length_nil, List.length_set]; first | done | omega)) only [EvV.len, MonV.len, amSide, Int.reduceToNat, Nat.reducePow, Nat.reduceMul]; first | done | omega)) only  [↓amPre, amPost, ↓s_lit', Nat.reduceAdd, Nat.reduceSub, List.replicate, retA, resultsA, resultA, toC, toCL, Nat.reduceEqDiff, (fa101_2 S.p), (fa126_1 S.p), (fa150_0 S.p), iaddr_sl (un121 S.p) (sz150 S.p), part_all (ag101 S.p) (sz101 S.p), part_at (ag101 S.p) (sz101 S.p), part_sc (ag121 S.p), part_sc (ag3 S.p), hp, hm, e1, e2, r0, hpe, f133, idx_ok, cells_self, cells_other, Int.toNat_natCast, Nat.zero_add, Nat.add_zero]
    exact Ends.some (by by_cases c2 : o.own = -1 <;> simp [c1, c2, bne])
end
end Go.AM
