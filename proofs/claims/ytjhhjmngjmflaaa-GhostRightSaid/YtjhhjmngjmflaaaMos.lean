/- Monitors' model: what is asked of it. Conditions: none. -/
import Derived.Test.YtjhhjmngjmflaaaAmTab
import Derived.Test.YtjhhjmngjmflaaaMoV
set_option linter.unusedVariables false
set_option linter.unusedSimpArgs false
set_option maxRecDepth 100000
namespace Go.AM
open Go.Proofs
-- LENS: EvV.len, MonV.len
/-- A model's blocks, in this program. -/
structure MdAt (h : List AO) (p bm bf bw bl : Nat) (V : MdV) : Prop where
  pp : h[p]? = some (.rw 133 [.int .i64 V.most, .sl bm 0 V.mons.length 3, .sl bf 0 V.flags.length 1, .mp bw, .mp bl])
  pm : h[bm]? = some (.rw 116 (recs MonV.cells V.mons))
  pf : h[bf]? = some (.rw 4 (V.flags.map SV.bool))
  pw : h[bw]? = some (.map (entsP intV V.waits))
  pl : h[bl]? = some (.map (entsP LfV.cv V.left))
  ne : bw ≠ bl
section
variable {h : List AO} {p bm bf bw bl : Nat} {V : MdV}
theorem MdAt.lts (M : MdAt h p bm bf bw bl V) : p < h.length ∧ bm < h.length ∧ bf < h.length ∧ bw < h.length ∧ bl < h.length :=
  ⟨(List.getElem?_eq_some_iff.1 M.pp).1, (List.getElem?_eq_some_iff.1 M.pm).1, (List.getElem?_eq_some_iff.1 M.pf).1, (List.getElem?_eq_some_iff.1 M.pw).1, (List.getElem?_eq_some_iff.1 M.pl).1⟩
theorem MdAt.cp (M : MdAt h p bm bf bw bl V) : cellsAt h p = some [.int .i64 V.most, .sl bm 0 V.mons.length 3, .sl bf 0 V.flags.length 1, .mp bw, .mp bl] := cells_at M.pp
theorem MdAt.cm (M : MdAt h p bm bf bw bl V) : cellsAt h bm = some (recs MonV.cells V.mons) := cells_at M.pm
theorem MdAt.cf (M : MdAt h p bm bf bw bl V) : cellsAt h bf = some (V.flags.map SV.bool) := cells_at M.pf
theorem MdAt.nes (M : MdAt h p bm bf bw bl V) : p ≠ bm ∧ p ≠ bf ∧ p ≠ bw ∧ p ≠ bl ∧ bm ≠ bf ∧ bm ≠ bw ∧ bm ≠ bl ∧ bf ≠ bw ∧ bf ≠ bl ∧ bw ≠ bl := by
  have h1 := M.pp
  have h2 := M.pm
  have h3 := M.pf
  have h4 := M.pw
  have h5 := M.pl
  refine ⟨?_, ?_, ?_, ?_, ?_, ?_, ?_, ?_, ?_, M.ne⟩ <;> rintro rfl <;> simp_all
theorem MdAt.ext (M : MdAt h p bm bf bw bl V) {h' : List AO} (hx : Ext1 h h') : MdAt h' p bm bf bw bl V := by
  obtain ⟨l1, l2, l3, l4, l5⟩ := M.lts
  exact ⟨(hx.get l1).trans M.pp, (hx.get l2).trans M.pm, (hx.get l3).trans M.pf, (hx.get l4).trans M.pw, (hx.get l5).trans M.pl, M.ne⟩
/-- Other blocks are as they were. -/
def Fr (bm bf bw bl : Nat) (h h' : List AO) : Prop := h.length ≤ h'.length ∧ ∀ l, l < h.length → l ≠ bm → l ≠ bf → l ≠ bw → l ≠ bl → h'[l]? = h[l]?
theorem Fr.refl (bm bf bw bl : Nat) (h : List AO) : Fr bm bf bw bl h h := ⟨Nat.le_refl _, fun _ _ _ _ _ _ => rfl⟩
theorem Fr.trans {h h1 h2 : List AO} (a : Fr bm bf bw bl h h1) (b : Fr bm bf bw bl h1 h2) : Fr bm bf bw bl h h2 :=
  ⟨Nat.le_trans a.1 b.1, fun l hl n1 n2 n3 n4 => (b.2 l (Nat.lt_of_lt_of_le hl a.1) n1 n2 n3 n4).trans (a.2 l hl n1 n2 n3 n4)⟩
theorem Fr.of_ext {h h' : List AO} (hx : Ext1 h h') : Fr bm bf bw bl h h' := ⟨hx.len, fun l hl _ _ _ _ => hx.get hl⟩
end
theorem placeD (P : Program) (hP : P = Try.prog) : DictP P 129 138 3 (.sc (.int .i64 0)) ∧ DictP P 130 138 141 (.ag [.int .i64 0, .int .i64 0]) := by
  subst hP
  exact ⟨⟨un129 rfl, eq138 rfl, fun t => (by kernel_rfl : keyB Try.prog 138 [.int .i64 t.1, .int .i64 t.2] = true), zc3 rfl⟩, ⟨un130 rfl, eq138 rfl, fun t => (by kernel_rfl : keyB Try.prog 138 [.int .i64 t.1, .int .i64 t.2] = true), zc141 rfl⟩⟩
section
variable {P : Program} {T : Tab} {K d : Nat} (S : Sd P T K)
include S
theorem partE (e : EvV) : partA P 34 e.cells 0 = some (.ag e.cells) := by
  have := recs_part (ag34 S.p) (sz34 S.p) EvV.len (l := [e]) (i := 0) rfl
  rw [show recs EvV.cells [e] = e.cells by simp [recs]] at this; exact this
theorem s59 (hd : 1 ≤ d) (n a b : Int) (lk : Nat) (h : List AO) : ev P T K d 59 [.sc (.int .i64 n), .sc (.int .i64 a), .sc (.int .i64 b)] lk h = some (.v (.sc (.bool (decide (a ≤ n ∧ n ≤ b)))), h) := by
  obtain ⟨d, rfl⟩ : ∃ k, d = k + 1 := ⟨d - 1, by omega⟩
  refine ev_pure (at59 S.t) rfl ?_
  unfold i59 Try.f59
  by_cases c1 : a ≤ n
  · by_cases c2 : n ≤ b
    · simp (maxSteps := 1000000) (disch := first | omega | (simp (disch := first | omega | (simp only [EvV.len, MonV.len, List.length_append, List.length_cons, List.length_nil, List.length_set]; first | done | omega)) only [EvV.len, MonV.len, amSide, Int.reduceToNat, Nat.reducePow, Nat.reduceMul]; first | done | omega)) only  [↓amPre, amPost, ↓s_lit', Nat.reduceAdd, Nat.reduceSub, List.replicate, retA, resultsA, resultA, toC, toCL, Nat.reduceEqDiff, if_true, dec_t, dec_f]
      exact Ends.some (by simp [c1, c2])
    · simp (maxSteps := 1000000) (disch := first | omega | (simp (disch := first | omega | (simp only [EvV.len, MonV.len, List.length_append, List.length_cons, List.length_nil, List.length_set]; first | done | omega)) only [EvV.len, MonV.len, amSide, Int.reduceToNat, Nat.reducePow, Nat.reduceMul]; first | done | omega)) only  [↓amPre, amPost, ↓s_lit', Nat.reduceAdd, Nat.reduceSub, List.replicate, retA, resultsA, resultA, toC, toCL, Nat.reduceEqDiff, if_true, dec_t, dec_f]
      exact Ends.some (by simp [c1, c2])
  · simp (maxSteps := 1000000) (disch := first | omega | (simp (disch := first | omega | (simp only [EvV.len, MonV.len, List.length_append, List.length_cons, List.length_nil, List.length_set]; first | done | omega)) only [EvV.len, MonV.len, amSide, Int.reduceToNat, Nat.reducePow, Nat.reduceMul]; first | done | omega)) only  [↓amPre, amPost, ↓s_lit', Nat.reduceAdd, Nat.reduceSub, List.replicate, retA, resultsA, resultA, toC, toCL, Nat.reduceEqDiff, if_true, dec_t, dec_f]
    exact Ends.some (by simp [c1])
theorem s64 (hd : 1 ≤ d) {p bm bf bw bl : Nat} {V : MdV} {h : List AO} (M : MdAt h p bm bf bw bl V) (lk : Nat) : ev P T K d 64 [.sc (.ptr p 0)] lk h = some (.v (.sc (.bool true)), h) := by
  obtain ⟨d, rfl⟩ : ∃ k, d = k + 1 := ⟨d - 1, by omega⟩
  refine ev_pure (at64 S.t) rfl ?_
  unfold i64 Try.f64
  have e1 : binOpA P .neq 64 (.v (.sc (.ptr p 0))) (.v (.sc .nilp)) = some (.v (.sc (.bool true))) := by simp [binOpA, eqA, un64 S.p]
  have e2 : binOpA P .neq 129 (.v (.sc (.mp bw))) (.v (.sc .nilm)) = some (.v (.sc (.bool true))) := by simp [binOpA, eqA, un129 S.p]
  have hp := M.cp
  have pa123 := part_sc (ag129 S.p)
  simp (maxSteps := 1000000) (disch := first | omega | (simp (disch := first | omega | (simp only [EvV.len, MonV.len, List.length_append, List.length_cons, List.length_nil, List.length_set]; first | done | omega)) only [EvV.len, MonV.len, amSide, Int.reduceToNat, Nat.reducePow, Nat.reduceMul]; first | done | omega)) only  [↓amPre, amPost, ↓s_lit', Nat.reduceAdd, Nat.reduceSub, List.replicate, retA, resultsA, resultA, toC, toCL, Nat.reduceEqDiff, (fa133_3 S.p), part_sc (ag129 S.p), e1, e2, hp]
  exact Ends.some rfl
theorem s69 (hd : 2 ≤ d) {p bm bf bw bl : Nat} {V : MdV} {h : List AO} (M : MdAt h p bm bf bw bl V) (hn : V.flags.length ≤ 100) (t : Int) (lk : Nat) : ev P T K d 69 [.sc (.ptr p 0), .sc (.int .i64 t)] lk h = some (.v (.sc (.bool (decide (0 ≤ t ∧ t < V.flags.length)))), h) := by
  obtain ⟨d, rfl⟩ : ∃ k, d = k + 1 := ⟨d - 1, by omega⟩
  refine ev_pure (at69 S.t) rfl ?_
  unfold i69 Try.f69
  have hp := M.cp
  have f74 := fun a b c lk h => s59 S (show 1 ≤ d by omega) a b c lk h
  have hd : decide (0 ≤ t ∧ t ≤ (V.flags.length : Int) - 1) = decide (0 ≤ t ∧ t < V.flags.length) := by
    by_cases c : 0 ≤ t ∧ t < V.flags.length
    · rw [decide_eq_true c, decide_eq_true ⟨c.1, by omega⟩]
    · rw [decide_eq_false c, decide_eq_false (fun q => c ⟨q.1, by omega⟩)]
  rw [← hd]
  simp (maxSteps := 1000000) (disch := first | omega | (simp (disch := first | omega | (simp only [EvV.len, MonV.len, List.length_append, List.length_cons, List.length_nil, List.length_set]; first | done | omega)) only [EvV.len, MonV.len, amSide, Int.reduceToNat, Nat.reducePow, Nat.reduceMul]; first | done | omega)) only  [↓amPre, amPost, ↓s_lit', Nat.reduceAdd, Nat.reduceSub, List.replicate, retA, resultsA, resultA, toC, toCL, Nat.reduceEqDiff, (fa133_2 S.p), len_sl (un121 S.p), len_nils (un121 S.p), part_sc (ag121 S.p), hp, f74, wrap_i64]
  exact Ends.some rfl
theorem s85 (hd : 1 ≤ d) {p bm bf bw bl : Nat} {V : MdV} {h : List AO} (M : MdAt h p bm bf bw bl V) (e : EvV) {ob : Nat} {o : MonV} (ho : e.o = (ob : Int)) (hx : V.mons[ob]? = some o) (lk : Nat) : ev P T K d 85 [.sc (.ptr p 0), .ag e.cells] lk h = some (.v (.sc (.bool (o.own == e.t))), h) := by
  obtain ⟨d, rfl⟩ : ∃ k, d = k + 1 := ⟨d - 1, by omega⟩
  refine ev_pure (at85 S.t) rfl ?_
  unfold i85 Try.f85
  have hp := M.cp
  have hm := M.cm
  obtain ⟨l1, l2, l3, l4, l5⟩ := M.lts
  have e1 := e.c1
  have e2 := e.c2
  rw [ho] at e2
  have hob := (List.getElem?_eq_some_iff.1 hx).1
  have r0 : (recs MonV.cells V.mons)[ob * 3 + 0]? = some (.int .i64 o.own) := by rw [recs_get MonV.len hx 0 (by omega)]; exact o.c0
  rw [Nat.add_zero] at r0
  simp (maxSteps := 1000000) (disch := first | omega | (simp (disch := first | omega | (simp only [EvV.len, MonV.len, List.length_append, List.length_cons, List.length_nil, List.length_set]; first | done | omega)) only [EvV.len, MonV.len, amSide, Int.reduceToNat, Nat.reducePow, Nat.reduceMul]; first | done | omega)) only  [↓amPre, amPost, ↓s_lit', Nat.reduceAdd, Nat.reduceSub, List.replicate, retA, resultsA, resultA, toC, toCL, Nat.reduceEqDiff, (fa116_0 S.p), (fa133_1 S.p), (fa34_1 S.p), (fa34_2 S.p), iaddr_sl (un131 S.p) (sz116 S.p), part_sc (ag131 S.p), part_sc (ag3 S.p), hp, hm, e1, e2, r0, idx_ok, cells_self, cells_other, Int.toNat_natCast, Nat.zero_add, Nat.add_zero]
  exact Ends.some rfl
theorem s84 (hd : 2 ≤ d) {p bm bf bw bl : Nat} {V : MdV} {h : List AO} (M : MdAt h p bm bf bw bl V) (e : EvV) {ob : Nat} {o : MonV} (ho : e.o = (ob : Int)) (hx : V.mons[ob]? = some o) (lk : Nat) : ev P T K d 84 [.sc (.ptr p 0), .ag e.cells] lk h = some (.v (.sc (.bool (decide (o.own ≠ e.t ∧ o.own ≠ -1)))), h) := by
  obtain ⟨d, rfl⟩ : ∃ k, d = k + 1 := ⟨d - 1, by omega⟩
  refine ev_pure (at84 S.t) rfl ?_
  unfold i84 Try.f84
  have hp := M.cp
  have hm := M.cm
  obtain ⟨l1, l2, l3, l4, l5⟩ := M.lts
  have e1 := e.c1
  have e2 := e.c2
  rw [ho] at e2
  have hob := (List.getElem?_eq_some_iff.1 hx).1
  have r0 : (recs MonV.cells V.mons)[ob * 3 + 0]? = some (.int .i64 o.own) := by rw [recs_get MonV.len hx 0 (by omega)]; exact o.c0
  rw [Nat.add_zero] at r0
  have hpe := partE S e
  have f133 := fun lk => s85 S (show 1 ≤ d by omega) (M.ext ((Ext1.refl h).push (.rw 34 e.cells))) e ho hx lk
  by_cases c1 : o.own = e.t
  · have hq : (o.own == e.t) = true := by simpa using c1
    rw [hq] at f133
    simp (maxSteps := 1000000) (disch := first | omega | (simp (disch := first | omega | (simp only [EvV.len, MonV.len, List.length_append, List.length_cons, List.length_nil, List.length_set]; first | done | omega)) only [EvV.len, MonV.len, amSide, Int.reduceToNat, Nat.reducePow, Nat.reduceMul]; first | done | omega)) only  [↓amPre, amPost, ↓s_lit', Nat.reduceAdd, Nat.reduceSub, List.replicate, retA, resultsA, resultA, toC, toCL, Nat.reduceEqDiff, (fa116_0 S.p), (fa133_1 S.p), (fa34_2 S.p), iaddr_sl (un131 S.p) (sz116 S.p), part_sc (ag131 S.p), part_sc (ag3 S.p), part_all (ag34 S.p) (sz34 S.p), part_at (ag34 S.p) (sz34 S.p), hp, hm, e1, e2, r0, hpe, f133, idx_ok, cells_self, cells_other, Int.toNat_natCast, Nat.zero_add, Nat.add_zero]
    exact Ends.some (by simp [c1])
  · have hq : (o.own == e.t) = false := by simpa using c1
    rw [hq] at f133
    simp (maxSteps := 1000000) (disch := first | omega | (simp (disch := first | omega | (simp only [EvV.len, MonV.len, List.length_append, List.length_cons, List.length_nil, List.length_set]; first | done | omega)) only [EvV.len, MonV.len, amSide, Int.reduceToNat, Nat.reducePow, Nat.reduceMul]; first | done | omega)) only  [↓amPre, amPost, ↓s_lit', Nat.reduceAdd, Nat.reduceSub, List.replicate, retA, resultsA, resultA, toC, toCL, Nat.reduceEqDiff, (fa116_0 S.p), (fa133_1 S.p), (fa34_2 S.p), iaddr_sl (un131 S.p) (sz116 S.p), part_sc (ag131 S.p), part_sc (ag3 S.p), part_all (ag34 S.p) (sz34 S.p), part_at (ag34 S.p) (sz34 S.p), hp, hm, e1, e2, r0, hpe, f133, idx_ok, cells_self, cells_other, Int.toNat_natCast, Nat.zero_add, Nat.add_zero]
    exact Ends.some (by by_cases c2 : o.own = -1 <;> simp [c1, c2, bne])
end
end Go.AM
/- Monitors' model: what is asked of it, continued. Conditions: none. -/
set_option linter.unusedVariables false
set_option linter.unusedSimpArgs false
set_option maxRecDepth 100000
namespace Go.AM
open Go.Proofs
-- LENS: EvV.len, MonV.len
section
variable {P : Program} {T : Tab} {K d : Nat} (S : Sd P T K)
include S
theorem s78 (hd : 2 ≤ d) {p bm bf bw bl : Nat} {V : MdV} {h : List AO} (M : MdAt h p bm bf bw bl V) (e : EvV) {ob : Nat} {o : MonV} (ho : e.o = (ob : Int)) (hx : V.mons[ob]? = some o) (lk : Nat) : ev P T K d 78 [.sc (.ptr p 0), .ag e.cells] lk h = some (.v (.sc (.bool (holdsV V e o).isSome)), h) := by
  obtain ⟨d, rfl⟩ : ∃ k, d = k + 1 := ⟨d - 1, by omega⟩
  refine ev_pure (at78 S.t) rfl ?_
  unfold i78 Try.f78
  have e3 := e.c3
  have e4 := e.c4
  have hpe := partE S e
  have f133 := fun lk => s85 S (show 1 ≤ d by omega) (M.ext ((Ext1.refl h).push (.rw 34 e.cells))) e ho hx lk
  unfold holdsV
  by_cases c1 : e.e = 0
  · by_cases c2 : e.a = 1
    · by_cases c3 : o.own = e.t
      · have hq : (o.own == e.t) = true := by simpa using c3
        rw [hq] at f133
        simp (maxSteps := 1000000) (disch := first | omega | (simp (disch := first | omega | (simp only [EvV.len, MonV.len, List.length_append, List.length_cons, List.length_nil, List.length_set]; first | done | omega)) only [EvV.len, MonV.len, amSide, Int.reduceToNat, Nat.reducePow, Nat.reduceMul]; first | done | omega)) only  [↓amPre, amPost, ↓s_lit', Nat.reduceAdd, Nat.reduceSub, List.replicate, retA, resultsA, resultA, toC, toCL, Nat.reduceEqDiff, (fa34_3 S.p), (fa34_4 S.p), part_sc (ag3 S.p), part_sc (ag32 S.p), part_all (ag34 S.p) (sz34 S.p), part_at (ag34 S.p) (sz34 S.p), e3, e4, hpe, f133, beqI_t, beqI_f, cells_self, cells_other, Nat.zero_add, Nat.add_zero]
        exact Ends.some (by simp [c1, c2, c3])
      · have hq : (o.own == e.t) = false := by simpa using c3
        rw [hq] at f133
        simp (maxSteps := 1000000) (disch := first | omega | (simp (disch := first | omega | (simp only [EvV.len, MonV.len, List.length_append, List.length_cons, List.length_nil, List.length_set]; first | done | omega)) only [EvV.len, MonV.len, amSide, Int.reduceToNat, Nat.reducePow, Nat.reduceMul]; first | done | omega)) only  [↓amPre, amPost, ↓s_lit', Nat.reduceAdd, Nat.reduceSub, List.replicate, retA, resultsA, resultA, toC, toCL, Nat.reduceEqDiff, (fa34_3 S.p), (fa34_4 S.p), part_sc (ag3 S.p), part_sc (ag32 S.p), part_all (ag34 S.p) (sz34 S.p), part_at (ag34 S.p) (sz34 S.p), e3, e4, hpe, f133, beqI_t, beqI_f, cells_self, cells_other, Nat.zero_add, Nat.add_zero]
        exact Ends.some (by simp [c1, c2, c3])
    · by_cases c3 : e.a = 0
      · by_cases c4 : o.own = e.t
        · have hq : (o.own == e.t) = true := by simpa using c4
          rw [hq] at f133
          simp (maxSteps := 1000000) (disch := first | omega | (simp (disch := first | omega | (simp only [EvV.len, MonV.len, List.length_append, List.length_cons, List.length_nil, List.length_set]; first | done | omega)) only [EvV.len, MonV.len, amSide, Int.reduceToNat, Nat.reducePow, Nat.reduceMul]; first | done | omega)) only  [↓amPre, amPost, ↓s_lit', Nat.reduceAdd, Nat.reduceSub, List.replicate, retA, resultsA, resultA, toC, toCL, Nat.reduceEqDiff, (fa34_3 S.p), (fa34_4 S.p), part_sc (ag3 S.p), part_sc (ag32 S.p), part_all (ag34 S.p) (sz34 S.p), part_at (ag34 S.p) (sz34 S.p), e3, e4, hpe, f133, beqI_t, beqI_f, cells_self, cells_other, Nat.zero_add, Nat.add_zero]
          exact Ends.some (by simp [c1, c2, c3, c4])
        · have hq : (o.own == e.t) = false := by simpa using c4
          rw [hq] at f133
          simp (maxSteps := 1000000) (disch := first | omega | (simp (disch := first | omega | (simp only [EvV.len, MonV.len, List.length_append, List.length_cons, List.length_nil, List.length_set]; first | done | omega)) only [EvV.len, MonV.len, amSide, Int.reduceToNat, Nat.reducePow, Nat.reduceMul]; first | done | omega)) only  [↓amPre, amPost, ↓s_lit', Nat.reduceAdd, Nat.reduceSub, List.replicate, retA, resultsA, resultA, toC, toCL, Nat.reduceEqDiff, (fa34_3 S.p), (fa34_4 S.p), part_sc (ag3 S.p), part_sc (ag32 S.p), part_all (ag34 S.p) (sz34 S.p), part_at (ag34 S.p) (sz34 S.p), e3, e4, hpe, f133, beqI_t, beqI_f, cells_self, cells_other, Nat.zero_add, Nat.add_zero]
          exact Ends.some (by simp [c1, c2, c3, c4])
      · simp (maxSteps := 1000000) (disch := first | omega | (simp (disch := first | omega | (simp only [EvV.len, MonV.len, List.length_append, List.length_cons, List.length_nil, List.length_set]; first | done | omega)) only [EvV.len, MonV.len, amSide, Int.reduceToNat, Nat.reducePow, Nat.reduceMul]; first | done | omega)) only  [↓amPre, amPost, ↓s_lit', Nat.reduceAdd, Nat.reduceSub, List.replicate, retA, resultsA, resultA, toC, toCL, Nat.reduceEqDiff, (fa34_3 S.p), (fa34_4 S.p), part_sc (ag3 S.p), part_sc (ag32 S.p), part_all (ag34 S.p) (sz34 S.p), part_at (ag34 S.p) (sz34 S.p), e3, e4, hpe, f133, beqI_t, beqI_f, cells_self, cells_other, Nat.zero_add, Nat.add_zero]
        exact Ends.some (by simp [c1, c2, c3])
  · simp (maxSteps := 1000000) (disch := first | omega | (simp (disch := first | omega | (simp only [EvV.len, MonV.len, List.length_append, List.length_cons, List.length_nil, List.length_set]; first | done | omega)) only [EvV.len, MonV.len, amSide, Int.reduceToNat, Nat.reducePow, Nat.reduceMul]; first | done | omega)) only  [↓amPre, amPost, ↓s_lit', Nat.reduceAdd, Nat.reduceSub, List.replicate, retA, resultsA, resultA, toC, toCL, Nat.reduceEqDiff, (fa34_3 S.p), (fa34_4 S.p), part_sc (ag3 S.p), part_sc (ag32 S.p), part_all (ag34 S.p) (sz34 S.p), part_at (ag34 S.p) (sz34 S.p), e3, e4, hpe, f133, beqI_t, beqI_f, cells_self, cells_other, Nat.zero_add, Nat.add_zero]
    exact Ends.some (by simp [c1])
structure GoSt where
  i : Nat
  h : List AO
set_option maxHeartbeats 2000000 in
theorem s70 (hd : 1 ≤ d) {p bm bf bw bl : Nat} {V : MdV} {h : List AO} (M : MdAt h p bm bf bw bl V) (hn : V.mons.length ≤ 100) (t : Int) (lk : Nat) : ev P T K d 70 [.sc (.ptr p 0), .sc (.int .i64 t)] lk h = some (.v (.sc (.bool (goneV V t))), h) := by
  obtain ⟨d, rfl⟩ : ∃ k, d = k + 1 := ⟨d - 1, by omega⟩
  refine ev_pure (at70 S.t) rfl ?_
  unfold i70 Try.f70
  have hp := M.cp
  obtain ⟨D1, D2⟩ := placeD P S.p
  simp (maxSteps := 1000000) (disch := first | omega | (simp (disch := first | omega | (simp only [EvV.len, MonV.len, List.length_append, List.length_cons, List.length_nil, List.length_set]; first | done | omega)) only [EvV.len, MonV.len, amSide, Int.reduceToNat, Nat.reducePow, Nat.reduceMul]; first | done | omega)) only  [↓amPre, amPost, ↓s_lit', Nat.reduceAdd, Nat.reduceSub, List.replicate, retA, resultsA, resultA, toC, toCL, Nat.reduceEqDiff, (ze141 S.p), (bu138 S.p), (fa133_1 S.p), (fa133_3 S.p), (fa133_4 S.p), len_sl (un131 S.p), len_nils (un131 S.p), part_sc (ag129 S.p), part_sc (ag130 S.p), part_sc (ag131 S.p), store_last (sz141 S.p), (sz141 S.p), hp]
  refine ends_loop (X := GoSt) ⟨0, h⟩ [4, 5, 6, 7, 8, 9, 16, 17, 18, 19, 20, 21, 22, 23, 24, 25, 26, 27, 28, 29, 30, 31, 32, 33, 34, 35, 36, 37, 38, 39, 40, 41, 42, 43, 44] (fun x => x.i ≤ V.mons.length ∧ Ext1 h x.h ∧ ∀ k : Nat, k < x.i → getP ((k : Int), t) V.waits = none ∧ getP ((k : Int), t) V.left = none) (fun x => V.mons.length - x.i)
    (fun x e => e.set 15 (.v (.sc (.int .i64 x.i)))) (fun x => x.h)
    (by have := S.k; show _ < K; simp only; omega) ⟨by simp only; omega, Ext1.refl _, fun k hk => (by simp only at hk; omega)⟩ rfl rfl ?_
  rintro ⟨i, hj⟩ ⟨hi, hx, hall⟩ again hag e he
  simp only at hi hx hall hag he
  simp only [↓amPre, amPost, ↓s_lit', Nat.reduceAdd, Nat.reduceSub, List.replicate, retA, resultsA, resultA, toC, toCL, Nat.reduceEqDiff] at he
  simp only [↓amPre, amPost, ↓s_lit', Nat.reduceAdd, Nat.reduceSub, List.replicate, retA, resultsA, resultA, toC, toCL, Nat.reduceEqDiff, he]
  have M1 := M.ext hx
  have hp1 := M1.cp
  have hle := hx.len
  obtain ⟨l1, l2, l3, l4, l5⟩ := M1.lts
  refine ends_cond (fun hc1 => ?_) (fun hc1 => ?_)
  · simp only [decide_eq_true_eq] at hc1
    have q1 := lookP D1 intV M1.pw ((i : Int), t) true
    have q2 := lookP D2 LfV.cv M1.pl ((i : Int), t) true
    unfold pk at q1 q2
    have hgt : (∃ v, getP ((i : Int), t) V.waits = some v) ∨ (∃ v, getP ((i : Int), t) V.left = some v) → goneV V t = true := fun hq => by
      rw [goneV_iff]
      rcases hq with ⟨v, hq⟩ | ⟨v, hq⟩
      · exact ⟨i, by omega, .inl (by rw [hq]; rfl)⟩
      · exact ⟨i, by omega, .inr (by rw [hq]; rfl)⟩
    cases g1 : getP ((i : Int), t) V.waits with
    | some v1 =>
      rw [g1] at q1
      have hg := hgt (.inl ⟨v1, g1⟩)
      rw [hg]
      cases g2 : getP ((i : Int), t) V.left with
      | some v2 =>
        rw [g2] at q2
        simp only [if_true, intV, LfV.cv] at q1 q2
        simp (maxSteps := 1000000) (disch := first | omega | (simp (disch := first | omega | (simp only [EvV.len, MonV.len, List.length_append, List.length_cons, List.length_nil, List.length_set]; first | done | omega)) only [EvV.len, MonV.len, amSide, Int.reduceToNat, Nat.reducePow, Nat.reduceMul]; first | done | omega)) only  [↓amPre, amPost, ↓s_lit', Nat.reduceAdd, Nat.reduceSub, List.replicate, retA, resultsA, resultA, toC, toCL, Nat.reduceEqDiff, he, (ze141 S.p), (bu138 S.p), (fa133_1 S.p), (fa133_3 S.p), (fa133_4 S.p), len_sl (un131 S.p), len_nils (un131 S.p), part_sc (ag129 S.p), part_sc (ag130 S.p), part_sc (ag131 S.p), store_last (sz141 S.p), (sz141 S.p), hp1, q1, q2, dec_t, cells_self, cells_other, Nat.zero_add, wrap_i64]
        exact Ends.some rfl
      | none =>
        rw [g2] at q2
        simp only [if_true, intV, LfV.cv] at q1 q2
        simp (maxSteps := 1000000) (disch := first | omega | (simp (disch := first | omega | (simp only [EvV.len, MonV.len, List.length_append, List.length_cons, List.length_nil, List.length_set]; first | done | omega)) only [EvV.len, MonV.len, amSide, Int.reduceToNat, Nat.reducePow, Nat.reduceMul]; first | done | omega)) only  [↓amPre, amPost, ↓s_lit', Nat.reduceAdd, Nat.reduceSub, List.replicate, retA, resultsA, resultA, toC, toCL, Nat.reduceEqDiff, he, (ze141 S.p), (bu138 S.p), (fa133_1 S.p), (fa133_3 S.p), (fa133_4 S.p), len_sl (un131 S.p), len_nils (un131 S.p), part_sc (ag129 S.p), part_sc (ag130 S.p), part_sc (ag131 S.p), store_last (sz141 S.p), (sz141 S.p), hp1, q1, q2, dec_t, cells_self, cells_other, Nat.zero_add, wrap_i64]
        exact Ends.some rfl
    | none =>
      rw [g1] at q1
      cases g2 : getP ((i : Int), t) V.left with
      | some v2 =>
        have hg := hgt (.inr ⟨v2, g2⟩)
        rw [hg]
        rw [g2] at q2
        simp only [if_true, intV, LfV.cv] at q1 q2
        simp (maxSteps := 1000000) (disch := first | omega | (simp (disch := first | omega | (simp only [EvV.len, MonV.len, List.length_append, List.length_cons, List.length_nil, List.length_set]; first | done | omega)) only [EvV.len, MonV.len, amSide, Int.reduceToNat, Nat.reducePow, Nat.reduceMul]; first | done | omega)) only  [↓amPre, amPost, ↓s_lit', Nat.reduceAdd, Nat.reduceSub, List.replicate, retA, resultsA, resultA, toC, toCL, Nat.reduceEqDiff, he, (ze141 S.p), (bu138 S.p), (fa133_1 S.p), (fa133_3 S.p), (fa133_4 S.p), len_sl (un131 S.p), len_nils (un131 S.p), part_sc (ag129 S.p), part_sc (ag130 S.p), part_sc (ag131 S.p), store_last (sz141 S.p), (sz141 S.p), hp1, q1, q2, dec_t, cells_self, cells_other, Nat.zero_add, wrap_i64]
        exact Ends.some rfl
      | none =>
        rw [g2] at q2
        simp only [if_true, intV, LfV.cv] at q1 q2
        simp (maxSteps := 1000000) (disch := first | omega | (simp (disch := first | omega | (simp only [EvV.len, MonV.len, List.length_append, List.length_cons, List.length_nil, List.length_set]; first | done | omega)) only [EvV.len, MonV.len, amSide, Int.reduceToNat, Nat.reducePow, Nat.reduceMul]; first | done | omega)) only  [↓amPre, amPost, ↓s_lit', Nat.reduceAdd, Nat.reduceSub, List.replicate, retA, resultsA, resultA, toC, toCL, Nat.reduceEqDiff, he, (ze141 S.p), (bu138 S.p), (fa133_1 S.p), (fa133_3 S.p), (fa133_4 S.p), len_sl (un131 S.p), len_nils (un131 S.p), part_sc (ag129 S.p), part_sc (ag130 S.p), part_sc (ag131 S.p), store_last (sz141 S.p), (sz141 S.p), hp1, q1, q2, dec_t, cells_self, cells_other, Nat.zero_add, wrap_i64]
        refine hag ⟨i + 1, _⟩ ⟨by simp only; omega, (hx.push _), fun k hk => ?_⟩ (by simp only; omega) _ ?_
        · simp only at hk
          rcases Nat.lt_succ_iff_lt_or_eq.1 hk with hk | rfl
          · exact hall k hk
          · exact ⟨g1, g2⟩
        · simp (maxSteps := 1000000) (disch := first | omega | (simp (disch := first | omega | (simp only [EvV.len, MonV.len, List.length_append, List.length_cons, List.length_nil, List.length_set]; first | done | omega)) only [EvV.len, MonV.len, amSide, Int.reduceToNat, Nat.reducePow, Nat.reduceMul]; first | done | omega)) only [↓amPre, amPost, ↓s_lit', Nat.reduceAdd, Nat.reduceSub, List.replicate, retA, resultsA, resultA, toC, toCL, Nat.reduceEqDiff, Int.natCast_add, Int.cast_ofNat_Int, dec_t, dec_f]
  · simp only [decide_eq_false_iff_not] at hc1
    obtain rfl : i = V.mons.length := by omega
    have hg : goneV V t = false := (goneV_false V t).2 hall
    rw [hg]
    simp (maxSteps := 1000000) (disch := first | omega | (simp (disch := first | omega | (simp only [EvV.len, MonV.len, List.length_append, List.length_cons, List.length_nil, List.length_set]; first | done | omega)) only [EvV.len, MonV.len, amSide, Int.reduceToNat, Nat.reducePow, Nat.reduceMul]; first | done | omega)) only  [↓amPre, amPost, ↓s_lit', Nat.reduceAdd, Nat.reduceSub, List.replicate, retA, resultsA, resultA, toC, toCL, Nat.reduceEqDiff, he, (ze141 S.p), (bu138 S.p), (fa133_1 S.p), (fa133_3 S.p), (fa133_4 S.p), len_sl (un131 S.p), len_nils (un131 S.p), part_sc (ag129 S.p), part_sc (ag130 S.p), part_sc (ag131 S.p), store_last (sz141 S.p), (sz141 S.p)]
    exact Ends.some rfl
theorem s45 (hd : 3 ≤ d) {p bm bf bw bl : Nat} {V : MdV} {h : List AO} (M : MdAt h p bm bf bw bl V) (hn : V.mons.length ≤ 100) (hm : V.flags.length ≤ 100) (e : EvV) (lk : Nat) : ev P T K d 45 [.sc (.ptr p 0), .ag e.cells] lk h = some (.v (.sc (.bool (mayV V e))), h) := by
  obtain ⟨d, rfl⟩ : ∃ k, d = k + 1 := ⟨d - 1, by omega⟩
  refine ev_pure (at45 S.t) rfl ?_
  unfold i45 Try.f45
  have M1 := M.ext ((Ext1.refl h).push (.rw 34 e.cells))
  have hp := M1.cp
  have e0 := e.c0
  have e1 := e.c1
  have e2 := e.c2
  have f78 := fun lk => s64 S (show 1 ≤ d by omega) M1 lk
  have f96 := fun lk => s69 S (show 2 ≤ d by omega) M1 hm e.t lk
  have f74 := fun a b c lk h => s59 S (show 1 ≤ d by omega) a b c lk h
  have f106 := fun lk => s70 S (show 1 ≤ d by omega) M1 hn e.t lk
  have hD : decide ((0 : Int) ≤ e.o ∧ e.o ≤ (V.mons.length : Int) - 1) = decide (0 ≤ e.o ∧ e.o < V.mons.length) := by
    by_cases c : 0 ≤ e.o ∧ e.o < V.mons.length
    · rw [decide_eq_true c, decide_eq_true ⟨c.1, by omega⟩]
    · rw [decide_eq_false c, decide_eq_false (fun q => c ⟨q.1, by omega⟩)]
  unfold mayV
  generalize goneV V e.t = gn at *
  by_cases c1 : 0 ≤ e.t ∧ e.t < V.flags.length
  · rw [decide_eq_true c1] at f96 ⊢
    by_cases c2 : 0 ≤ e.o ∧ e.o < V.mons.length
    · rw [decide_eq_true c2] at hD ⊢
      by_cases c3 : e.k = 5
      · simp (maxSteps := 1000000) (disch := first | omega | (simp (disch := first | omega | (simp only [EvV.len, MonV.len, List.length_append, List.length_cons, List.length_nil, List.length_set]; first | done | omega)) only [EvV.len, MonV.len, amSide, Int.reduceToNat, Nat.reducePow, Nat.reduceMul]; first | done | omega)) only  [↓amPre, amPost, ↓s_lit', Nat.reduceAdd, Nat.reduceSub, List.replicate, retA, resultsA, resultA, toC, toCL, Nat.reduceEqDiff, (fa133_1 S.p), (fa34_0 S.p), (fa34_1 S.p), (fa34_2 S.p), len_sl (un131 S.p), len_nils (un131 S.p), part_sc (ag131 S.p), part_sc (ag3 S.p), hp, e0, e1, e2, f78, f96, f74, f106, hD, beqI_t, beqI_f, cells_self, cells_other, Nat.zero_add, Nat.add_zero, wrap_i64]
        exact Ends.some (by simp [c3])
      · by_cases c4 : e.k = 6
        · simp (maxSteps := 1000000) (disch := first | omega | (simp (disch := first | omega | (simp only [EvV.len, MonV.len, List.length_append, List.length_cons, List.length_nil, List.length_set]; first | done | omega)) only [EvV.len, MonV.len, amSide, Int.reduceToNat, Nat.reducePow, Nat.reduceMul]; first | done | omega)) only  [↓amPre, amPost, ↓s_lit', Nat.reduceAdd, Nat.reduceSub, List.replicate, retA, resultsA, resultA, toC, toCL, Nat.reduceEqDiff, (fa133_1 S.p), (fa34_0 S.p), (fa34_1 S.p), (fa34_2 S.p), len_sl (un131 S.p), len_nils (un131 S.p), part_sc (ag131 S.p), part_sc (ag3 S.p), hp, e0, e1, e2, f78, f96, f74, f106, hD, beqI_t, beqI_f, cells_self, cells_other, Nat.zero_add, Nat.add_zero, wrap_i64]
          exact Ends.some (by simp [c4])
        · simp (maxSteps := 1000000) (disch := first | omega | (simp (disch := first | omega | (simp only [EvV.len, MonV.len, List.length_append, List.length_cons, List.length_nil, List.length_set]; first | done | omega)) only [EvV.len, MonV.len, amSide, Int.reduceToNat, Nat.reducePow, Nat.reduceMul]; first | done | omega)) only  [↓amPre, amPost, ↓s_lit', Nat.reduceAdd, Nat.reduceSub, List.replicate, retA, resultsA, resultA, toC, toCL, Nat.reduceEqDiff, (fa133_1 S.p), (fa34_0 S.p), (fa34_1 S.p), (fa34_2 S.p), len_sl (un131 S.p), len_nils (un131 S.p), part_sc (ag131 S.p), part_sc (ag3 S.p), hp, e0, e1, e2, f78, f96, f74, f106, hD, beqI_t, beqI_f, cells_self, cells_other, Nat.zero_add, Nat.add_zero, wrap_i64]
          exact Ends.some (by simp [c3, c4])
    · rw [decide_eq_false c2] at hD ⊢
      simp (maxSteps := 1000000) (disch := first | omega | (simp (disch := first | omega | (simp only [EvV.len, MonV.len, List.length_append, List.length_cons, List.length_nil, List.length_set]; first | done | omega)) only [EvV.len, MonV.len, amSide, Int.reduceToNat, Nat.reducePow, Nat.reduceMul]; first | done | omega)) only  [↓amPre, amPost, ↓s_lit', Nat.reduceAdd, Nat.reduceSub, List.replicate, retA, resultsA, resultA, toC, toCL, Nat.reduceEqDiff, (fa133_1 S.p), (fa34_0 S.p), (fa34_1 S.p), (fa34_2 S.p), len_sl (un131 S.p), len_nils (un131 S.p), part_sc (ag131 S.p), part_sc (ag3 S.p), hp, e0, e1, e2, f78, f96, f74, f106, hD, beqI_t, beqI_f, cells_self, cells_other, Nat.zero_add, Nat.add_zero, wrap_i64]
      exact Ends.some (by simp)
  · rw [decide_eq_false c1] at f96 ⊢
    simp (maxSteps := 1000000) (disch := first | omega | (simp (disch := first | omega | (simp only [EvV.len, MonV.len, List.length_append, List.length_cons, List.length_nil, List.length_set]; first | done | omega)) only [EvV.len, MonV.len, amSide, Int.reduceToNat, Nat.reducePow, Nat.reduceMul]; first | done | omega)) only  [↓amPre, amPost, ↓s_lit', Nat.reduceAdd, Nat.reduceSub, List.replicate, retA, resultsA, resultA, toC, toCL, Nat.reduceEqDiff, (fa133_1 S.p), (fa34_0 S.p), (fa34_1 S.p), (fa34_2 S.p), len_sl (un131 S.p), len_nils (un131 S.p), part_sc (ag131 S.p), part_sc (ag3 S.p), hp, e0, e1, e2, f78, f96, f74, f106, beqI_t, beqI_f, cells_self, cells_other, Nat.zero_add, Nat.add_zero, wrap_i64]
    exact Ends.some (by simp)
end
end Go.AM
/- Monitors' model: what is written: Enter and Exit. Conditions: none. -/
set_option linter.unusedVariables false
set_option linter.unusedSimpArgs false
set_option maxRecDepth 100000
namespace Go.AM
open Go.Proofs
-- LENS: EvV.len, MonV.len
section
variable {h : List AO} {p bm bf bw bl : Nat} {V : MdV}
theorem Fr.push {h' : List AO} (H : Fr bm bf bw bl h h') (o : AO) : Fr bm bf bw bl h (h' ++ [o]) := H.trans (Fr.of_ext ((Ext1.refl h').push o))
theorem Fr.set {h' : List AO} (H : Fr bm bf bw bl h h') {l : Nat} (o : AO) (hl : l = bm ∨ l = bf ∨ l = bw ∨ l = bl) : Fr bm bf bw bl h (h'.set l o) := by
  refine H.trans ⟨by simp, fun k hk n1 n2 n3 n4 => ?_⟩
  rw [List.getElem?_set_ne]
  rintro rfl
  rcases hl with rfl | rfl | rfl | rfl
  · exact n1 rfl
  · exact n2 rfl
  · exact n3 rfl
  · exact n4 rfl
theorem MdAt.frame (M : MdAt h p bm bf bw bl V) {l : Nat} (o : AO) (n0 : l ≠ p) (n1 : l ≠ bm) (n2 : l ≠ bf) (n3 : l ≠ bw) (n4 : l ≠ bl) : MdAt (h.set l o) p bm bf bw bl V :=
  ⟨by rw [List.getElem?_set_ne n0]; exact M.pp, by rw [List.getElem?_set_ne n1]; exact M.pm, by rw [List.getElem?_set_ne n2]; exact M.pf, by rw [List.getElem?_set_ne n3]; exact M.pw, by rw [List.getElem?_set_ne n4]; exact M.pl, M.ne⟩
theorem MdAt.setM (M : MdAt h p bm bf bw bl V) (i : Nat) (y : MonV) : MdAt (h.set bm (.rw 116 (recs MonV.cells (V.mons.set i y)))) p bm bf bw bl (V.setM i y) := by
  obtain ⟨a1, a2, a3, a4, a5, a6, a7, a8, a9, a10⟩ := M.nes
  obtain ⟨l1, l2, l3, l4, l5⟩ := M.lts
  refine ⟨?_, List.getElem?_set_self l2, ?_, ?_, ?_, M.ne⟩
  · rw [List.getElem?_set_ne (Ne.symm a1)]
    show _ = some (AO.rw 133 [_, .sl bm 0 (V.mons.set i y).length 3, _, _, _])
    rw [List.length_set]; exact M.pp
  · rw [List.getElem?_set_ne a5]; exact M.pf
  · rw [List.getElem?_set_ne a6]; exact M.pw
  · rw [List.getElem?_set_ne a7]; exact M.pl
theorem MdAt.setF (M : MdAt h p bm bf bw bl V) (i : Nat) (b : Bool) : MdAt (h.set bf (.rw 4 ((V.flags.set i b).map SV.bool))) p bm bf bw bl (V.setF i b) := by
  obtain ⟨a1, a2, a3, a4, a5, a6, a7, a8, a9, a10⟩ := M.nes
  obtain ⟨l1, l2, l3, l4, l5⟩ := M.lts
  refine ⟨?_, ?_, List.getElem?_set_self l3, ?_, ?_, M.ne⟩
  · rw [List.getElem?_set_ne (Ne.symm a2)]
    show _ = some (AO.rw 133 [_, _, .sl bf 0 (V.flags.set i b).length 1, _, _])
    rw [List.length_set]; exact M.pp
  · rw [List.getElem?_set_ne (Ne.symm a5)]; exact M.pm
  · rw [List.getElem?_set_ne a8]; exact M.pw
  · rw [List.getElem?_set_ne a9]; exact M.pl
theorem MdAt.setW (M : MdAt h p bm bf bw bl V) (W : List (Pk × Int)) : MdAt (h.set bw (.map (entsP intV W))) p bm bf bw bl { V with waits := W } := by
  obtain ⟨a1, a2, a3, a4, a5, a6, a7, a8, a9, a10⟩ := M.nes
  obtain ⟨l1, l2, l3, l4, l5⟩ := M.lts
  refine ⟨?_, ?_, ?_, List.getElem?_set_self l4, ?_, M.ne⟩
  · rw [List.getElem?_set_ne (Ne.symm a3)]; exact M.pp
  · rw [List.getElem?_set_ne (Ne.symm a6)]; exact M.pm
  · rw [List.getElem?_set_ne (Ne.symm a8)]; exact M.pf
  · rw [List.getElem?_set_ne a10]; exact M.pl
theorem MdAt.setL (M : MdAt h p bm bf bw bl V) (W : List (Pk × LfV)) : MdAt (h.set bl (.map (entsP LfV.cv W))) p bm bf bw bl { V with left := W } := by
  obtain ⟨a1, a2, a3, a4, a5, a6, a7, a8, a9, a10⟩ := M.nes
  obtain ⟨l1, l2, l3, l4, l5⟩ := M.lts
  refine ⟨?_, ?_, ?_, ?_, List.getElem?_set_self l5, M.ne⟩
  · rw [List.getElem?_set_ne (Ne.symm a4)]; exact M.pp
  · rw [List.getElem?_set_ne (Ne.symm a7)]; exact M.pm
  · rw [List.getElem?_set_ne (Ne.symm a9)]; exact M.pf
  · rw [List.getElem?_set_ne (Ne.symm a10)]; exact M.pw
/-- One cell of an object's monitor. -/
theorem MdAt.store (M : MdAt h p bm bf bw bl V) {P : Program} (hs : szT P 3 = some 1) {ob : Nat} {o : MonV} (hx : V.mons[ob]? = some o) {lk : Nat} (hlk : lk ≤ bm) (off : Nat) (ho : off < 3) (v : SV) (y : MonV) (hy : o.cells.set off v = y.cells) :
    storeA P h lk 3 (.v (.sc (.ptr bm (ob * 3 + off)))) (.v (.sc v)) = some (h.set bm (.rw 116 (recs MonV.cells (V.mons.set ob y)))) := by
  have hle := recs_le MonV.len hx
  rw [store_at M.pm hlk hs (c := .sc v) rfl (by omega)]
  have : splice (recs MonV.cells V.mons) (ob * 3 + off) (CV.sc v).cells = (recs MonV.cells V.mons).set (ob * 3 + off) v := splice_one _ _ _ (by omega)
  rw [this, recs_put MonV.len hx off ho v y hy]
/-- All of an object's monitor. -/
theorem MdAt.storeAll (M : MdAt h p bm bf bw bl V) {P : Program} (hs : szT P 116 = some 3) {ob : Nat} {o : MonV} (hx : V.mons[ob]? = some o) {lk : Nat} (hlk : lk ≤ bm) (y : MonV) :
    storeA P h lk 116 (.v (.sc (.ptr bm (ob * 3)))) (.v (.ag y.cells)) = some (h.set bm (.rw 116 (recs MonV.cells (V.mons.set ob y)))) := by
  have hle := recs_le MonV.len hx
  rw [store_at M.pm hlk hs (c := .ag y.cells) (MonV.len y) (by omega)]
  have : splice (recs MonV.cells V.mons) (ob * 3) (CV.ag y.cells).cells = recs MonV.cells (V.mons.set ob y) := recs_set MonV.len (List.getElem?_eq_some_iff.1 hx).1 y
  rw [this]
theorem MdAt.storeF (M : MdAt h p bm bf bw bl V) {P : Program} (hs : szT P 4 = some 1) {t : Nat} (ht : t < V.flags.length) {lk : Nat} (hlk : lk ≤ bf) (b : Bool) :
    storeA P h lk 4 (.v (.sc (.ptr bf t))) (.v (.sc (.bool b))) = some (h.set bf (.rw 4 ((V.flags.set t b).map SV.bool))) := by
  rw [store_at M.pf hlk hs (c := .sc (.bool b)) rfl (by rw [List.length_map]; omega)]
  have : splice (V.flags.map SV.bool) t (CV.sc (SV.bool b)).cells = (V.flags.map SV.bool).set t (.bool b) := splice_one _ _ _ (by rw [List.length_map]; omega)
  rw [this, List.map_set]
end
section
variable {P : Program} {T : Tab} {K d : Nat} (S : Sd P T K)
include S
/-- What a transition's part comes to. -/
def Tr (p bm bf bw bl : Nat) (h : List AO) (V : MdV) (X : Option MdV) : AV → List AO → Prop := fun v h' => v = .v (.sc (.bool X.isSome)) ∧ MdAt h' p bm bf bw bl (X.getD V) ∧ Fr bm bf bw bl h h'
omit S in
theorem Tr.none {p bm bf bw bl : Nat} {h h' : List AO} {V : MdV} (M : MdAt h' p bm bf bw bl V) (F : Fr bm bf bw bl h h') : Tr p bm bf bw bl h V none (.v (.sc (.bool false))) h' := ⟨rfl, M, F⟩
omit S in
theorem Tr.some {p bm bf bw bl : Nat} {h h' : List AO} {V W : MdV} (M : MdAt h' p bm bf bw bl W) (F : Fr bm bf bw bl h h') : Tr p bm bf bw bl h V (some W) (.v (.sc (.bool true))) h' := ⟨rfl, M, F⟩
set_option maxHeartbeats 2000000 in
theorem s71 (hd : 3 ≤ d) {p bm bf bw bl : Nat} {V : MdV} {h : List AO} (M : MdAt h p bm bf bw bl V) (e : EvV) {ob : Nat} {o : MonV} (ho : e.o = (ob : Int)) (hx : V.mons[ob]? = some o) (hc : -100 ≤ o.cnt ∧ o.cnt ≤ 100) (lk : Nat) (hlk : lk ≤ bm) :
    Ends (Tr p bm bf bw bl h V (enterV V e o)) (ev P T K d 71 [.sc (.ptr p 0), .ag e.cells] lk h) := by
  obtain ⟨d, rfl⟩ : ∃ k, d = k + 1 := ⟨d - 1, by omega⟩
  rw [ev_run (at71 S.t)]
  unfold i71 Try.f71
  have hto : e.o.toNat = ob := by rw [ho]; rfl
  have M1 := M.ext ((Ext1.refl h).push (.rw 34 e.cells))
  have F1 := (Fr.refl bm bf bw bl h).push (.rw 34 e.cells)
  have hp := M.cp
  have hm := M.cm
  obtain ⟨l1, l2, l3, l4, l5⟩ := M.lts
  have e0 := e.c0
  have e1 := e.c1
  have e2 := e.c2
  have e4 := e.c4
  rw [ho] at e2
  have hob := (List.getElem?_eq_some_iff.1 hx).1
  have r1 : (recs MonV.cells V.mons)[ob * 3 + 1]? = some (.int .i64 o.cnt) := by rw [recs_get MonV.len hx 1 (by omega)]; exact o.c1
  have hpe := partE S e
  have f133 := fun lk => s85 S (show 1 ≤ d by omega) M1 e ho hx lk
  have f132 := fun lk => s84 S (show 2 ≤ d by omega) M1 e ho hx lk
  unfold enterV
  by_cases c0 : e.e = 0
  · rw [if_pos c0]
    by_cases co : o.own ≠ e.t ∧ o.own ≠ -1
    · rw [if_pos (Or.inl co)]
      rw [decide_eq_true co] at f132
      simp (maxSteps := 1000000) (disch := first | omega | (simp (disch := first | omega | (simp only [EvV.len, MonV.len, List.length_append, List.length_cons, List.length_nil, List.length_set]; first | done | omega)) only [EvV.len, MonV.len, amSide, Int.reduceToNat, Nat.reducePow, Nat.reduceMul]; first | done | omega)) only  [↓amPre, amPost, ↓s_lit', Nat.reduceAdd, Nat.reduceSub, List.replicate, retA, resultsA, resultA, toC, toCL, Nat.reduceEqDiff, (fa116_0 S.p), (fa116_1 S.p), (fa133_0 S.p), (fa133_1 S.p), (fa34_0 S.p), (fa34_1 S.p), (fa34_2 S.p), (fa34_4 S.p), iaddr_sl (un131 S.p) (sz116 S.p), part_sc (ag131 S.p), part_sc (ag3 S.p), part_sc (ag32 S.p), part_all (ag34 S.p) (sz34 S.p), part_at (ag34 S.p) (sz34 S.p), store_last (sz3 S.p), (sz3 S.p), hp, hm, e1, e2, e4, r1, hpe, f132, beqI_t, beqI_f, idx_ok, cells_self, cells_other, Int.toNat_natCast, Nat.zero_add, Nat.add_zero]
      exact Ends.some (Tr.none M1 F1)
    · rw [decide_eq_false co] at f132
      by_cases cc : o.cnt = V.most
      · rw [if_pos (Or.inr cc)]
        simp (maxSteps := 1000000) (disch := first | omega | (simp (disch := first | omega | (simp only [EvV.len, MonV.len, List.length_append, List.length_cons, List.length_nil, List.length_set]; first | done | omega)) only [EvV.len, MonV.len, amSide, Int.reduceToNat, Nat.reducePow, Nat.reduceMul]; first | done | omega)) only  [↓amPre, amPost, ↓s_lit', Nat.reduceAdd, Nat.reduceSub, List.replicate, retA, resultsA, resultA, toC, toCL, Nat.reduceEqDiff, (fa116_0 S.p), (fa116_1 S.p), (fa133_0 S.p), (fa133_1 S.p), (fa34_0 S.p), (fa34_1 S.p), (fa34_2 S.p), (fa34_4 S.p), iaddr_sl (un131 S.p) (sz116 S.p), part_sc (ag131 S.p), part_sc (ag3 S.p), part_sc (ag32 S.p), part_all (ag34 S.p) (sz34 S.p), part_at (ag34 S.p) (sz34 S.p), store_last (sz3 S.p), (sz3 S.p), hp, hm, e1, e2, e4, r1, hpe, f132, beqI_t, beqI_f, idx_ok, cells_self, cells_other, Int.toNat_natCast, Nat.zero_add, Nat.add_zero]
        exact Ends.some (Tr.none M1 F1)
      · rw [if_neg (fun q => q.elim co cc), hto]
        have st1 := M.store (sz3 S.p) hx hlk 0 (by omega) (.int .i64 e.t) ⟨e.t, o.cnt, o.hsh⟩ rfl
        rw [Nat.add_zero] at st1
        have M2 := M.setM ob ⟨e.t, o.cnt, o.hsh⟩
        have hx2 : (V.setM ob ⟨e.t, o.cnt, o.hsh⟩).mons[ob]? = some ⟨e.t, o.cnt, o.hsh⟩ := List.getElem?_set_self hob
        have st2 := M2.store (sz3 S.p) hx2 hlk 1 (by omega) (.int .i64 (o.cnt + 1)) ⟨e.t, o.cnt + 1, o.hsh⟩ rfl
        have hm2 := M2.cm
        have r2 : (recs MonV.cells (V.setM ob ⟨e.t, o.cnt, o.hsh⟩).mons)[ob * 3 + 1]? = some (.int .i64 o.cnt) := by rw [recs_get MonV.len hx2 1 (by omega)]; rfl
        have M3 := (M2.setM ob ⟨e.t, o.cnt + 1, o.hsh⟩).ext ((Ext1.refl _).push (.rw 34 e.cells))
        have hV : (V.setM ob ⟨e.t, o.cnt, o.hsh⟩).setM ob ⟨e.t, o.cnt + 1, o.hsh⟩ = V.setM ob ⟨e.t, o.cnt + 1, o.hsh⟩ := by simp [MdV.setM]
        rw [hV] at M3
        simp only [MdV.setM] at st2 hm2 r2 M3
        simp only [List.set_set] at st2 M3
        simp (maxSteps := 1000000) (disch := first | omega | (simp (disch := first | omega | (simp only [EvV.len, MonV.len, List.length_append, List.length_cons, List.length_nil, List.length_set]; first | done | omega)) only [EvV.len, MonV.len, amSide, Int.reduceToNat, Nat.reducePow, Nat.reduceMul]; first | done | omega)) only  [↓amPre, amPost, ↓s_lit', Nat.reduceAdd, Nat.reduceSub, List.replicate, retA, resultsA, resultA, toC, toCL, Nat.reduceEqDiff, (fa116_0 S.p), (fa116_1 S.p), (fa133_0 S.p), (fa133_1 S.p), (fa34_0 S.p), (fa34_1 S.p), (fa34_2 S.p), (fa34_4 S.p), iaddr_sl (un131 S.p) (sz116 S.p), part_sc (ag131 S.p), part_sc (ag3 S.p), part_sc (ag32 S.p), part_all (ag34 S.p) (sz34 S.p), part_at (ag34 S.p) (sz34 S.p), store_last (sz3 S.p), (sz3 S.p), hp, hm, hm2, e1, e2, e4, r1, r2, hpe, f132, st1, st2, store_skip, beqI_t, beqI_f, idx_ok, cells_self, cells_other, Int.toNat_natCast, Nat.zero_add, Nat.add_zero, wrap_i64]
        refine Ends.some (Tr.some ?_ ?_)
        · simp only [MdV.setM]; exact M3
        · exact ((Fr.refl bm bf bw bl h).set _ (.inl rfl)).push _
  · rw [if_neg c0]
    by_cases c10 : e.e = 10
    · rw [if_pos c10]
      by_cases co : o.own = e.t
      · have hq : (o.own == e.t) = true := by simpa using co
        rw [hq] at f133
        by_cases cc : o.cnt = V.most
        · rw [if_pos ⟨co, cc⟩]
          simp (maxSteps := 1000000) (disch := first | omega | (simp (disch := first | omega | (simp only [EvV.len, MonV.len, List.length_append, List.length_cons, List.length_nil, List.length_set]; first | done | omega)) only [EvV.len, MonV.len, amSide, Int.reduceToNat, Nat.reducePow, Nat.reduceMul]; first | done | omega)) only  [↓amPre, amPost, ↓s_lit', Nat.reduceAdd, Nat.reduceSub, List.replicate, retA, resultsA, resultA, toC, toCL, Nat.reduceEqDiff, (fa116_0 S.p), (fa116_1 S.p), (fa133_0 S.p), (fa133_1 S.p), (fa34_0 S.p), (fa34_1 S.p), (fa34_2 S.p), (fa34_4 S.p), iaddr_sl (un131 S.p) (sz116 S.p), part_sc (ag131 S.p), part_sc (ag3 S.p), part_sc (ag32 S.p), part_all (ag34 S.p) (sz34 S.p), part_at (ag34 S.p) (sz34 S.p), store_last (sz3 S.p), (sz3 S.p), hp, hm, e1, e2, e4, r1, hpe, f133, beqI_t, beqI_f, idx_ok, cells_self, cells_other, Int.toNat_natCast, Nat.zero_add, Nat.add_zero]
          exact Ends.some (Tr.some M1 F1)
        · rw [if_neg (fun q => cc q.2)]
          simp (maxSteps := 1000000) (disch := first | omega | (simp (disch := first | omega | (simp only [EvV.len, MonV.len, List.length_append, List.length_cons, List.length_nil, List.length_set]; first | done | omega)) only [EvV.len, MonV.len, amSide, Int.reduceToNat, Nat.reducePow, Nat.reduceMul]; first | done | omega)) only  [↓amPre, amPost, ↓s_lit', Nat.reduceAdd, Nat.reduceSub, List.replicate, retA, resultsA, resultA, toC, toCL, Nat.reduceEqDiff, (fa116_0 S.p), (fa116_1 S.p), (fa133_0 S.p), (fa133_1 S.p), (fa34_0 S.p), (fa34_1 S.p), (fa34_2 S.p), (fa34_4 S.p), iaddr_sl (un131 S.p) (sz116 S.p), part_sc (ag131 S.p), part_sc (ag3 S.p), part_sc (ag32 S.p), part_all (ag34 S.p) (sz34 S.p), part_at (ag34 S.p) (sz34 S.p), store_last (sz3 S.p), (sz3 S.p), hp, hm, e1, e2, e4, r1, hpe, f133, beqI_t, beqI_f, idx_ok, cells_self, cells_other, Int.toNat_natCast, Nat.zero_add, Nat.add_zero]
          exact Ends.some (Tr.none M1 F1)
      · have hq : (o.own == e.t) = false := by simpa using co
        rw [hq] at f133
        rw [if_neg (fun q => co q.1)]
        simp (maxSteps := 1000000) (disch := first | omega | (simp (disch := first | omega | (simp only [EvV.len, MonV.len, List.length_append, List.length_cons, List.length_nil, List.length_set]; first | done | omega)) only [EvV.len, MonV.len, amSide, Int.reduceToNat, Nat.reducePow, Nat.reduceMul]; first | done | omega)) only  [↓amPre, amPost, ↓s_lit', Nat.reduceAdd, Nat.reduceSub, List.replicate, retA, resultsA, resultA, toC, toCL, Nat.reduceEqDiff, (fa116_0 S.p), (fa116_1 S.p), (fa133_0 S.p), (fa133_1 S.p), (fa34_0 S.p), (fa34_1 S.p), (fa34_2 S.p), (fa34_4 S.p), iaddr_sl (un131 S.p) (sz116 S.p), part_sc (ag131 S.p), part_sc (ag3 S.p), part_sc (ag32 S.p), part_all (ag34 S.p) (sz34 S.p), part_at (ag34 S.p) (sz34 S.p), store_last (sz3 S.p), (sz3 S.p), hp, hm, e1, e2, e4, r1, hpe, f133, beqI_t, beqI_f, idx_ok, cells_self, cells_other, Int.toNat_natCast, Nat.zero_add, Nat.add_zero]
        exact Ends.some (Tr.none M1 F1)
    · rw [if_neg c10]
      by_cases c11 : e.e = 11
      · rw [if_pos c11]
        by_cases ck : e.k = 1
        · by_cases co : o.own ≠ e.t ∧ o.own ≠ -1
          · rw [if_pos ⟨ck, co⟩]
            rw [decide_eq_true co] at f132
            simp (maxSteps := 1000000) (disch := first | omega | (simp (disch := first | omega | (simp only [EvV.len, MonV.len, List.length_append, List.length_cons, List.length_nil, List.length_set]; first | done | omega)) only [EvV.len, MonV.len, amSide, Int.reduceToNat, Nat.reducePow, Nat.reduceMul]; first | done | omega)) only  [↓amPre, amPost, ↓s_lit', Nat.reduceAdd, Nat.reduceSub, List.replicate, retA, resultsA, resultA, toC, toCL, Nat.reduceEqDiff, (fa116_0 S.p), (fa116_1 S.p), (fa133_0 S.p), (fa133_1 S.p), (fa34_0 S.p), (fa34_1 S.p), (fa34_2 S.p), (fa34_4 S.p), iaddr_sl (un131 S.p) (sz116 S.p), part_sc (ag131 S.p), part_sc (ag3 S.p), part_sc (ag32 S.p), part_all (ag34 S.p) (sz34 S.p), part_at (ag34 S.p) (sz34 S.p), store_last (sz3 S.p), (sz3 S.p), hp, hm, e0, e1, e2, e4, r1, hpe, f132, beqI_t, beqI_f, idx_ok, cells_self, cells_other, Int.toNat_natCast, Nat.zero_add, Nat.add_zero]
            exact Ends.some (Tr.some M1 F1)
          · rw [if_neg (fun q => co q.2)]
            rw [decide_eq_false co] at f132
            simp (maxSteps := 1000000) (disch := first | omega | (simp (disch := first | omega | (simp only [EvV.len, MonV.len, List.length_append, List.length_cons, List.length_nil, List.length_set]; first | done | omega)) only [EvV.len, MonV.len, amSide, Int.reduceToNat, Nat.reducePow, Nat.reduceMul]; first | done | omega)) only  [↓amPre, amPost, ↓s_lit', Nat.reduceAdd, Nat.reduceSub, List.replicate, retA, resultsA, resultA, toC, toCL, Nat.reduceEqDiff, (fa116_0 S.p), (fa116_1 S.p), (fa133_0 S.p), (fa133_1 S.p), (fa34_0 S.p), (fa34_1 S.p), (fa34_2 S.p), (fa34_4 S.p), iaddr_sl (un131 S.p) (sz116 S.p), part_sc (ag131 S.p), part_sc (ag3 S.p), part_sc (ag32 S.p), part_all (ag34 S.p) (sz34 S.p), part_at (ag34 S.p) (sz34 S.p), store_last (sz3 S.p), (sz3 S.p), hp, hm, e0, e1, e2, e4, r1, hpe, f132, beqI_t, beqI_f, idx_ok, cells_self, cells_other, Int.toNat_natCast, Nat.zero_add, Nat.add_zero]
            exact Ends.some (Tr.none M1 F1)
        · rw [if_neg (fun q => ck q.1)]
          simp (maxSteps := 1000000) (disch := first | omega | (simp (disch := first | omega | (simp only [EvV.len, MonV.len, List.length_append, List.length_cons, List.length_nil, List.length_set]; first | done | omega)) only [EvV.len, MonV.len, amSide, Int.reduceToNat, Nat.reducePow, Nat.reduceMul]; first | done | omega)) only  [↓amPre, amPost, ↓s_lit', Nat.reduceAdd, Nat.reduceSub, List.replicate, retA, resultsA, resultA, toC, toCL, Nat.reduceEqDiff, (fa116_0 S.p), (fa116_1 S.p), (fa133_0 S.p), (fa133_1 S.p), (fa34_0 S.p), (fa34_1 S.p), (fa34_2 S.p), (fa34_4 S.p), iaddr_sl (un131 S.p) (sz116 S.p), part_sc (ag131 S.p), part_sc (ag3 S.p), part_sc (ag32 S.p), part_all (ag34 S.p) (sz34 S.p), part_at (ag34 S.p) (sz34 S.p), store_last (sz3 S.p), (sz3 S.p), hp, hm, e0, e1, e2, e4, r1, hpe, f132, beqI_t, beqI_f, idx_ok, cells_self, cells_other, Int.toNat_natCast, Nat.zero_add, Nat.add_zero]
          exact Ends.some (Tr.none M1 F1)
      · rw [if_neg c11]
        by_cases c14 : e.e = 14
        · rw [if_pos c14]
          by_cases ck : e.k = 2
          · by_cases co : o.own ≠ e.t ∧ o.own ≠ -1
            · rw [if_pos ⟨ck, co⟩]
              rw [decide_eq_true co] at f132
              simp (maxSteps := 1000000) (disch := first | omega | (simp (disch := first | omega | (simp only [EvV.len, MonV.len, List.length_append, List.length_cons, List.length_nil, List.length_set]; first | done | omega)) only [EvV.len, MonV.len, amSide, Int.reduceToNat, Nat.reducePow, Nat.reduceMul]; first | done | omega)) only  [↓amPre, amPost, ↓s_lit', Nat.reduceAdd, Nat.reduceSub, List.replicate, retA, resultsA, resultA, toC, toCL, Nat.reduceEqDiff, (fa116_0 S.p), (fa116_1 S.p), (fa133_0 S.p), (fa133_1 S.p), (fa34_0 S.p), (fa34_1 S.p), (fa34_2 S.p), (fa34_4 S.p), iaddr_sl (un131 S.p) (sz116 S.p), part_sc (ag131 S.p), part_sc (ag3 S.p), part_sc (ag32 S.p), part_all (ag34 S.p) (sz34 S.p), part_at (ag34 S.p) (sz34 S.p), store_last (sz3 S.p), (sz3 S.p), hp, hm, e0, e1, e2, e4, r1, hpe, f132, beqI_t, beqI_f, idx_ok, cells_self, cells_other, Int.toNat_natCast, Nat.zero_add, Nat.add_zero]
              exact Ends.some (Tr.some M1 F1)
            · rw [if_neg (fun q => co q.2)]
              rw [decide_eq_false co] at f132
              simp (maxSteps := 1000000) (disch := first | omega | (simp (disch := first | omega | (simp only [EvV.len, MonV.len, List.length_append, List.length_cons, List.length_nil, List.length_set]; first | done | omega)) only [EvV.len, MonV.len, amSide, Int.reduceToNat, Nat.reducePow, Nat.reduceMul]; first | done | omega)) only  [↓amPre, amPost, ↓s_lit', Nat.reduceAdd, Nat.reduceSub, List.replicate, retA, resultsA, resultA, toC, toCL, Nat.reduceEqDiff, (fa116_0 S.p), (fa116_1 S.p), (fa133_0 S.p), (fa133_1 S.p), (fa34_0 S.p), (fa34_1 S.p), (fa34_2 S.p), (fa34_4 S.p), iaddr_sl (un131 S.p) (sz116 S.p), part_sc (ag131 S.p), part_sc (ag3 S.p), part_sc (ag32 S.p), part_all (ag34 S.p) (sz34 S.p), part_at (ag34 S.p) (sz34 S.p), store_last (sz3 S.p), (sz3 S.p), hp, hm, e0, e1, e2, e4, r1, hpe, f132, beqI_t, beqI_f, idx_ok, cells_self, cells_other, Int.toNat_natCast, Nat.zero_add, Nat.add_zero]
              exact Ends.some (Tr.none M1 F1)
          · rw [if_neg (fun q => ck q.1)]
            simp (maxSteps := 1000000) (disch := first | omega | (simp (disch := first | omega | (simp only [EvV.len, MonV.len, List.length_append, List.length_cons, List.length_nil, List.length_set]; first | done | omega)) only [EvV.len, MonV.len, amSide, Int.reduceToNat, Nat.reducePow, Nat.reduceMul]; first | done | omega)) only  [↓amPre, amPost, ↓s_lit', Nat.reduceAdd, Nat.reduceSub, List.replicate, retA, resultsA, resultA, toC, toCL, Nat.reduceEqDiff, (fa116_0 S.p), (fa116_1 S.p), (fa133_0 S.p), (fa133_1 S.p), (fa34_0 S.p), (fa34_1 S.p), (fa34_2 S.p), (fa34_4 S.p), iaddr_sl (un131 S.p) (sz116 S.p), part_sc (ag131 S.p), part_sc (ag3 S.p), part_sc (ag32 S.p), part_all (ag34 S.p) (sz34 S.p), part_at (ag34 S.p) (sz34 S.p), store_last (sz3 S.p), (sz3 S.p), hp, hm, e0, e1, e2, e4, r1, hpe, f132, beqI_t, beqI_f, idx_ok, cells_self, cells_other, Int.toNat_natCast, Nat.zero_add, Nat.add_zero]
            exact Ends.some (Tr.none M1 F1)
        · rw [if_neg c14]
          simp (maxSteps := 1000000) (disch := first | omega | (simp (disch := first | omega | (simp only [EvV.len, MonV.len, List.length_append, List.length_cons, List.length_nil, List.length_set]; first | done | omega)) only [EvV.len, MonV.len, amSide, Int.reduceToNat, Nat.reducePow, Nat.reduceMul]; first | done | omega)) only  [↓amPre, amPost, ↓s_lit', Nat.reduceAdd, Nat.reduceSub, List.replicate, retA, resultsA, resultA, toC, toCL, Nat.reduceEqDiff, (fa116_0 S.p), (fa116_1 S.p), (fa133_0 S.p), (fa133_1 S.p), (fa34_0 S.p), (fa34_1 S.p), (fa34_2 S.p), (fa34_4 S.p), iaddr_sl (un131 S.p) (sz116 S.p), part_sc (ag131 S.p), part_sc (ag3 S.p), part_sc (ag32 S.p), part_all (ag34 S.p) (sz34 S.p), part_at (ag34 S.p) (sz34 S.p), store_last (sz3 S.p), (sz3 S.p), hp, hm, e0, e1, e2, e4, r1, hpe, f132, beqI_t, beqI_f, idx_ok, cells_self, cells_other, Int.toNat_natCast, Nat.zero_add, Nat.add_zero]
          exact Ends.some (Tr.none M1 F1)
end
end Go.AM
