/- Monitors' model: what is asked of it, continued. Conditions: none. -/
import Derived.Test.YtgcgbcdgbfeaaaaMo1
set_option linter.unusedVariables false
set_option linter.unusedSimpArgs false
set_option maxRecDepth 100000
namespace Go.AM
open Go.Proofs
-- LENS: EvV.len, MonV.len
section
variable {P : Program} {T : Tab} {K d : Nat} (S : Sd P T K)
include S
theorem partM (o : MonV) : partA P 150 o.cells 0 = some (.ag o.cells) := by
  have := recs_part (ag150 S.p) (sz150 S.p) MonV.len (l := [o]) (i := 0) rfl
  rw [show recs MonV.cells [o] = o.cells by simp [recs]] at this; exact this
theorem s77 (hd : 2 ≤ d) {p bm bf bw bl : Nat} {V : MdV} {h : List AO} (M : MdAt h p bm bf bw bl V) (hn : V.mons.length ≤ 100) (n : Int) (lk : Nat) : ev P T K d 77 [.sc (.ptr p 0), .sc (.int .i64 n)] lk h = some (.v (.ag (atV V n).cells), h) := by
  obtain ⟨d, rfl⟩ : ∃ k, d = k + 1 := ⟨d - 1, by omega⟩
  refine ev_pure (at77 S.t) rfl ?_
  unfold i77 Try.f77
  have hb : [SV.int .i64 (-1), .int .i64 0, .int .i64 0] = MonV.cells ⟨-1, 0, 0⟩ := rfl
  have M1 := M.ext ((Ext1.refl h).push (.rw 150 [.int .i64 0, .int .i64 0, .int .i64 0]))
  have hp := M1.cp
  have hm := M1.cm
  obtain ⟨l1, l2, l3, l4, l5⟩ := M.lts
  have f78 := fun lk => s78 S (show 1 ≤ d by omega) M1 lk
  have f74 := fun a b c lk h => s74 S (show 1 ≤ d by omega) a b c lk h
  by_cases c : 0 ≤ n ∧ n < V.mons.length
  · obtain ⟨i, rfl⟩ := Int.eq_ofNat_of_zero_le c.1
    obtain ⟨o, ho⟩ : ∃ o, V.mons[i]? = some o := ⟨_, List.getElem?_eq_getElem (by omega)⟩
    have hD : decide ((0 : Int) ≤ (i : Int) ∧ (i : Int) ≤ (V.mons.length : Int) - 1) = true := decide_eq_true ⟨by omega, by omega⟩
    have hpt := recs_part (ag150 S.p) (sz150 S.p) MonV.len ho
    have ha : atV V (i : Int) = o := by
      unfold atV
      rw [if_pos c, Int.toNat_natCast, List.getD_eq_getElem?_getD, ho]; rfl
    have hpm := partM S o
    rw [ha]
    simp (maxSteps := 1000000) (disch := first | omega | (simp (disch := first | omega | (simp only [EvV.len, MonV.len, List.length_append, List.length_cons, List.length_nil, List.length_set]; first | done | omega)) only [EvV.len, MonV.len, amSide, Int.reduceToNat, Nat.reducePow, Nat.reduceMul]; first | done | omega)) only  [↓amPre, amPost, ↓s_lit', Nat.reduceAdd, Nat.reduceSub, List.replicate, retA, resultsA, resultA, toC, toCL, Nat.reduceEqDiff, (ze150 S.p), (bu150 S.p), (fa126_1 S.p), iaddr_sl (un121 S.p) (sz150 S.p), len_sl (un121 S.p), len_nils (un121 S.p), part_sc (ag121 S.p), part_all (ag150 S.p) (sz150 S.p), part_at (ag150 S.p) (sz150 S.p), store_last (sz150 S.p), (sz150 S.p), hp, hm, f78, f74, hD, hpt, hpm, idx_ok, cells_self, cells_other, Int.toNat_natCast, Nat.zero_add, Nat.add_zero, wrap_i64]
    exact Ends.some rfl
  · have hD : decide ((0 : Int) ≤ n ∧ n ≤ (V.mons.length : Int) - 1) = false := decide_eq_false (fun q => c ⟨q.1, by omega⟩)
    have ha : atV V n = ⟨-1, 0, 0⟩ := by unfold atV; rw [if_neg c]
    have hpm := partM S ⟨-1, 0, 0⟩
    rw [ha]
    simp (maxSteps := 1000000) (disch := first | omega | (simp (disch := first | omega | (simp only [EvV.len, MonV.len, List.length_append, List.length_cons, List.length_nil, List.length_set]; first | done | omega)) only [EvV.len, MonV.len, amSide, Int.reduceToNat, Nat.reducePow, Nat.reduceMul]; first | done | omega)) only  [↓amPre, amPost, ↓s_lit', Nat.reduceAdd, Nat.reduceSub, List.replicate, retA, resultsA, resultA, toC, toCL, Nat.reduceEqDiff, (ze150 S.p), (bu150 S.p), (fa126_1 S.p), iaddr_sl (un121 S.p) (sz150 S.p), len_sl (un121 S.p), len_nils (un121 S.p), part_sc (ag121 S.p), part_all (ag150 S.p) (sz150 S.p), part_at (ag150 S.p) (sz150 S.p), store_last (sz150 S.p), (sz150 S.p), hp, hm, f78, f74, hD, hb, hpm, idx_ok, cells_self, cells_other, Int.toNat_natCast, Nat.zero_add, Nat.add_zero, wrap_i64]
    exact Ends.some rfl
theorem s45 (hd : 3 ≤ d) {p bm bf bw bl : Nat} {V : MdV} {h : List AO} (M : MdAt h p bm bf bw bl V) (hn : V.mons.length ≤ 100) (n : Int) (lk : Nat) : ev P T K d 45 [.sc (.ptr p 0), .sc (.int .i64 n)] lk h = some (.v (.sc (.int .i64 (atV V n).own)), h) := by
  obtain ⟨d, rfl⟩ : ∃ k, d = k + 1 := ⟨d - 1, by omega⟩
  refine ev_pure (at45 S.t) rfl ?_
  unfold i45 Try.f45
  have f77 := fun lk => s77 S (show 2 ≤ d by omega) M hn n lk
  have c0 := (atV V n).c0
  simp (maxSteps := 1000000) (disch := first | omega | (simp (disch := first | omega | (simp only [EvV.len, MonV.len, List.length_append, List.length_cons, List.length_nil, List.length_set]; first | done | omega)) only [EvV.len, MonV.len, amSide, Int.reduceToNat, Nat.reducePow, Nat.reduceMul]; first | done | omega)) only  [↓amPre, amPost, ↓s_lit', Nat.reduceAdd, Nat.reduceSub, List.replicate, retA, resultsA, resultA, toC, toCL, Nat.reduceEqDiff, (fd150_0 S.p), part_sc (ag3 S.p), f77, c0]
  exact Ends.some rfl
theorem s46 (hd : 3 ≤ d) {p bm bf bw bl : Nat} {V : MdV} {h : List AO} (M : MdAt h p bm bf bw bl V) (hn : V.mons.length ≤ 100) (n : Int) (lk : Nat) : ev P T K d 46 [.sc (.ptr p 0), .sc (.int .i64 n)] lk h = some (.v (.sc (.int .i64 (atV V n).cnt)), h) := by
  obtain ⟨d, rfl⟩ : ∃ k, d = k + 1 := ⟨d - 1, by omega⟩
  refine ev_pure (at46 S.t) rfl ?_
  unfold i46 Try.f46
  have f77 := fun lk => s77 S (show 2 ≤ d by omega) M hn n lk
  have c0 := (atV V n).c1
  simp (maxSteps := 1000000) (disch := first | omega | (simp (disch := first | omega | (simp only [EvV.len, MonV.len, List.length_append, List.length_cons, List.length_nil, List.length_set]; first | done | omega)) only [EvV.len, MonV.len, amSide, Int.reduceToNat, Nat.reducePow, Nat.reduceMul]; first | done | omega)) only  [↓amPre, amPost, ↓s_lit', Nat.reduceAdd, Nat.reduceSub, List.replicate, retA, resultsA, resultA, toC, toCL, Nat.reduceEqDiff, (fd150_1 S.p), part_sc (ag3 S.p), f77, c0]
  exact Ends.some rfl
theorem s47 (hd : 3 ≤ d) {p bm bf bw bl : Nat} {V : MdV} {h : List AO} (M : MdAt h p bm bf bw bl V) (hn : V.mons.length ≤ 100) (n : Int) (lk : Nat) : ev P T K d 47 [.sc (.ptr p 0), .sc (.int .i64 n)] lk h = some (.v (.sc (.int .i64 (atV V n).hsh)), h) := by
  obtain ⟨d, rfl⟩ : ∃ k, d = k + 1 := ⟨d - 1, by omega⟩
  refine ev_pure (at47 S.t) rfl ?_
  unfold i47 Try.f47
  have f77 := fun lk => s77 S (show 2 ≤ d by omega) M hn n lk
  have c0 := (atV V n).c2
  simp (maxSteps := 1000000) (disch := first | omega | (simp (disch := first | omega | (simp only [EvV.len, MonV.len, List.length_append, List.length_cons, List.length_nil, List.length_set]; first | done | omega)) only [EvV.len, MonV.len, amSide, Int.reduceToNat, Nat.reducePow, Nat.reduceMul]; first | done | omega)) only  [↓amPre, amPost, ↓s_lit', Nat.reduceAdd, Nat.reduceSub, List.replicate, retA, resultsA, resultA, toC, toCL, Nat.reduceEqDiff, (fd150_2 S.p), part_sc (ag3 S.p), f77, c0]
  exact Ends.some rfl
theorem s56 (hd : 3 ≤ d) {p bm bf bw bl : Nat} {V : MdV} {h : List AO} (M : MdAt h p bm bf bw bl V) (hn : V.flags.length ≤ 100) (t : Int) (lk : Nat) : ev P T K d 56 [.sc (.ptr p 0), .sc (.int .i64 t)] lk h = some (.v (.sc (.bool (flagV V t))), h) := by
  obtain ⟨d, rfl⟩ : ∃ k, d = k + 1 := ⟨d - 1, by omega⟩
  refine ev_pure (at56 S.t) rfl ?_
  unfold i56 Try.f56
  have hp := M.cp
  have hf := M.cf
  have f78 := fun lk => s78 S (show 1 ≤ d by omega) M lk
  have f96 := fun lk => s96 S (show 2 ≤ d by omega) M hn t lk
  by_cases c : 0 ≤ t ∧ t < V.flags.length
  · obtain ⟨i, rfl⟩ := Int.eq_ofNat_of_zero_le c.1
    obtain ⟨b, hb⟩ : ∃ b, V.flags[i]? = some b := ⟨_, List.getElem?_eq_getElem (by omega)⟩
    have hm : (V.flags.map SV.bool)[i]? = some (.bool b) := by rw [List.getElem?_map, hb]; rfl
    have ha : flagV V (i : Int) = b := by
      unfold flagV
      rw [if_pos c, Int.toNat_natCast, List.getD_eq_getElem?_getD, hb]; rfl
    rw [ha]
    rw [decide_eq_true c] at f96
    simp (maxSteps := 1000000) (disch := first | omega | (simp (disch := first | omega | (simp only [EvV.len, MonV.len, List.length_append, List.length_cons, List.length_nil, List.length_set]; first | done | omega)) only [EvV.len, MonV.len, amSide, Int.reduceToNat, Nat.reducePow, Nat.reduceMul]; first | done | omega)) only  [↓amPre, amPost, ↓s_lit', Nat.reduceAdd, Nat.reduceSub, List.replicate, retA, resultsA, resultA, toC, toCL, Nat.reduceEqDiff, (fa126_2 S.p), iaddr_sl (un122 S.p) (sz4 S.p), part_sc (ag122 S.p), part_sc (ag4 S.p), hp, hf, f78, f96, hm, idx_ok, Int.toNat_natCast, Nat.zero_add, Nat.add_zero, Nat.mul_one]
    exact Ends.some rfl
  · have ha : flagV V t = false := by unfold flagV; rw [if_neg c]
    rw [ha]
    rw [decide_eq_false c] at f96
    simp (maxSteps := 1000000) (disch := first | omega | (simp (disch := first | omega | (simp only [EvV.len, MonV.len, List.length_append, List.length_cons, List.length_nil, List.length_set]; first | done | omega)) only [EvV.len, MonV.len, amSide, Int.reduceToNat, Nat.reducePow, Nat.reduceMul]; first | done | omega)) only  [↓amPre, amPost, ↓s_lit', Nat.reduceAdd, Nat.reduceSub, List.replicate, retA, resultsA, resultA, toC, toCL, Nat.reduceEqDiff, (fa126_2 S.p), iaddr_sl (un122 S.p) (sz4 S.p), part_sc (ag122 S.p), part_sc (ag4 S.p), hp, hf, f78, f96, idx_ok, Int.toNat_natCast, Nat.zero_add, Nat.add_zero]
    exact Ends.some rfl
theorem s114 (hd : 2 ≤ d) {p bm bf bw bl : Nat} {V : MdV} {h : List AO} (M : MdAt h p bm bf bw bl V) (e : EvV) {ob : Nat} {o : MonV} (ho : e.o = (ob : Int)) (hx : V.mons[ob]? = some o) (lk : Nat) : ev P T K d 114 [.sc (.ptr p 0), .ag e.cells] lk h = some (.v (.sc (.bool (holdsV V e o).isSome)), h) := by
  obtain ⟨d, rfl⟩ : ∃ k, d = k + 1 := ⟨d - 1, by omega⟩
  refine ev_pure (at114 S.t) rfl ?_
  unfold i114 Try.f114
  have e3 := e.c3
  have e4 := e.c4
  have hpe := partE S e
  have f133 := fun lk => s133 S (show 1 ≤ d by omega) (M.ext ((Ext1.refl h).push (.rw 101 e.cells))) e ho hx lk
  unfold holdsV
  by_cases c1 : e.e = 0
  · by_cases c2 : e.a = 1
    · by_cases c3 : o.own = e.t
      · have hq : (o.own == e.t) = true := by simpa using c3
        rw [hq] at f133
        simp (maxSteps := 1000000) (disch := first | omega | (simp (disch := first | omega | (simp only [EvV.len, MonV.len, List.length_append, List.length_cons, List.length_nil, List.length_set]; first | done | omega)) only [EvV.len, MonV.len, amSide, Int.reduceToNat, Nat.reducePow, Nat.reduceMul]; first | done | omega)) only  [↓amPre, amPost, ↓s_lit', Nat.reduceAdd, Nat.reduceSub, List.replicate, retA, resultsA, resultA, toC, toCL, Nat.reduceEqDiff, (fa101_3 S.p), (fa101_4 S.p), part_all (ag101 S.p) (sz101 S.p), part_at (ag101 S.p) (sz101 S.p), part_sc (ag3 S.p), part_sc (ag52 S.p), e3, e4, hpe, f133, beqI_t, beqI_f, cells_self, cells_other, Nat.zero_add, Nat.add_zero]
        exact Ends.some (by simp [c1, c2, c3])
      · have hq : (o.own == e.t) = false := by simpa using c3
        rw [hq] at f133
        simp (maxSteps := 1000000) (disch := first | omega | (simp (disch := first | omega | (simp only [EvV.len, MonV.len, List.length_append, List.length_cons, List.length_nil, List.length_set]; first | done | omega)) only [EvV.len, MonV.len, amSide, Int.reduceToNat, Nat.reducePow, Nat.reduceMul]; first | done | omega)) only  [↓amPre, amPost, ↓s_lit', Nat.reduceAdd, Nat.reduceSub, List.replicate, retA, resultsA, resultA, toC, toCL, Nat.reduceEqDiff, (fa101_3 S.p), (fa101_4 S.p), part_all (ag101 S.p) (sz101 S.p), part_at (ag101 S.p) (sz101 S.p), part_sc (ag3 S.p), part_sc (ag52 S.p), e3, e4, hpe, f133, beqI_t, beqI_f, cells_self, cells_other, Nat.zero_add, Nat.add_zero]
        exact Ends.some (by simp [c1, c2, c3])
    · by_cases c3 : e.a = 0
      · by_cases c4 : o.own = e.t
        · have hq : (o.own == e.t) = true := by simpa using c4
          rw [hq] at f133
          simp (maxSteps := 1000000) (disch := first | omega | (simp (disch := first | omega | (simp only [EvV.len, MonV.len, List.length_append, List.length_cons, List.length_nil, List.length_set]; first | done | omega)) only [EvV.len, MonV.len, amSide, Int.reduceToNat, Nat.reducePow, Nat.reduceMul]; first | done | omega)) only  [↓amPre, amPost, ↓s_lit', Nat.reduceAdd, Nat.reduceSub, List.replicate, retA, resultsA, resultA, toC, toCL, Nat.reduceEqDiff, (fa101_3 S.p), (fa101_4 S.p), part_all (ag101 S.p) (sz101 S.p), part_at (ag101 S.p) (sz101 S.p), part_sc (ag3 S.p), part_sc (ag52 S.p), e3, e4, hpe, f133, beqI_t, beqI_f, cells_self, cells_other, Nat.zero_add, Nat.add_zero]
          exact Ends.some (by simp [c1, c2, c3, c4])
        · have hq : (o.own == e.t) = false := by simpa using c4
          rw [hq] at f133
          simp (maxSteps := 1000000) (disch := first | omega | (simp (disch := first | omega | (simp only [EvV.len, MonV.len, List.length_append, List.length_cons, List.length_nil, List.length_set]; first | done | omega)) only [EvV.len, MonV.len, amSide, Int.reduceToNat, Nat.reducePow, Nat.reduceMul]; first | done | omega)) only  [↓amPre, amPost, ↓s_lit', Nat.reduceAdd, Nat.reduceSub, List.replicate, retA, resultsA, resultA, toC, toCL, Nat.reduceEqDiff, (fa101_3 S.p), (fa101_4 S.p), part_all (ag101 S.p) (sz101 S.p), part_at (ag101 S.p) (sz101 S.p), part_sc (ag3 S.p), part_sc (ag52 S.p), e3, e4, hpe, f133, beqI_t, beqI_f, cells_self, cells_other, Nat.zero_add, Nat.add_zero]
          exact Ends.some (by simp [c1, c2, c3, c4])
      · simp (maxSteps := 1000000) (disch := first | omega | (simp (disch := first | omega | (simp only [EvV.len, MonV.len, List.length_append, List.length_cons, List.length_nil, List.length_set]; first | done | omega)) only [EvV.len, MonV.len, amSide, Int.reduceToNat, Nat.reducePow, Nat.reduceMul]; first | done | omega)) only  [↓amPre, amPost, ↓s_lit', Nat.reduceAdd, Nat.reduceSub, List.replicate, retA, resultsA, resultA, toC, toCL, Nat.reduceEqDiff, (fa101_3 S.p), (fa101_4 S.p), part_all (ag101 S.p) (sz101 S.p), part_at (ag101 S.p) (sz101 S.p), part_sc (ag3 S.p), part_sc (ag52 S.p), e3, e4, hpe, f133, beqI_t, beqI_f, cells_self, cells_other, Nat.zero_add, Nat.add_zero]
        exact Ends.some (by simp [c1, c2, c3])
  · simp (maxSteps := 1000000) (disch := first | omega | (simp (disch := first | omega | (simp only [EvV.len, MonV.len, List.length_append, List.length_cons, List.length_nil, List.length_set]; first | done | omega)) only [EvV.len, MonV.len, amSide, Int.reduceToNat, Nat.reducePow, Nat.reduceMul]; first | done | omega)) only  [↓amPre, amPost, ↓s_lit', Nat.reduceAdd, Nat.reduceSub, List.replicate, retA, resultsA, resultA, toC, toCL, Nat.reduceEqDiff, (fa101_3 S.p), (fa101_4 S.p), part_all (ag101 S.p) (sz101 S.p), part_at (ag101 S.p) (sz101 S.p), part_sc (ag3 S.p), part_sc (ag52 S.p), e3, e4, hpe, f133, beqI_t, beqI_f, cells_self, cells_other, Nat.zero_add, Nat.add_zero]
    exact Ends.some (by simp [c1])
structure GoSt where
  i : Nat
  h : List AO
set_option maxHeartbeats 2000000 in
theorem s106 (hd : 1 ≤ d) {p bm bf bw bl : Nat} {V : MdV} {h : List AO} (M : MdAt h p bm bf bw bl V) (hn : V.mons.length ≤ 100) (t : Int) (lk : Nat) : ev P T K d 106 [.sc (.ptr p 0), .sc (.int .i64 t)] lk h = some (.v (.sc (.bool (goneV V t))), h) := by
  obtain ⟨d, rfl⟩ : ∃ k, d = k + 1 := ⟨d - 1, by omega⟩
  refine ev_pure (at106 S.t) rfl ?_
  unfold i106 Try.f106
  have hp := M.cp
  obtain ⟨D1, D2⟩ := placeD P S.p
  simp (maxSteps := 1000000) (disch := first | omega | (simp (disch := first | omega | (simp only [EvV.len, MonV.len, List.length_append, List.length_cons, List.length_nil, List.length_set]; first | done | omega)) only [EvV.len, MonV.len, amSide, Int.reduceToNat, Nat.reducePow, Nat.reduceMul]; first | done | omega)) only  [↓amPre, amPost, ↓s_lit', Nat.reduceAdd, Nat.reduceSub, List.replicate, retA, resultsA, resultA, toC, toCL, Nat.reduceEqDiff, (ze156 S.p), (bu164 S.p), (fa126_1 S.p), (fa126_3 S.p), (fa126_4 S.p), len_sl (un121 S.p), len_nils (un121 S.p), part_sc (ag121 S.p), part_sc (ag123 S.p), part_sc (ag124 S.p), store_last (sz156 S.p), (sz156 S.p), hp]
  refine ends_loop (X := GoSt) ⟨0, h⟩ [4, 5, 6, 7, 8, 9, 16, 17, 18, 19, 20, 21, 22, 23, 24, 25, 26, 27, 28, 29, 30, 31, 32, 33, 34, 35, 36, 37, 38, 39, 40, 41, 42, 43, 44] (fun x => x.i ≤ V.mons.length ∧ Ext1 h x.h ∧ ∀ k : Nat, k < x.i → getP ((k : Int), t) V.waits = none ∧ getP ((k : Int), t) V.left = none) (fun x => V.mons.length - x.i)
    (fun x e => e.set 15 (.v (.sc (.int .i64 x.i)))) (fun x => x.h)
    (by have := S.k; show _ < K; simp only; omega) ⟨by simp only; omega, Ext1.refl _, fun k hk => (by simp only at hk; omega)⟩ rfl rfl ?_
  rintro ⟨i, hj⟩ ⟨hi, hx, hall⟩ again hag e he
  simp only at hi hx hall hag he
  simp only [↓amPre, amPost, ↓s_lit', Nat.reduceAdd, Nat.reduceSub, List.replicate, retA, resultsA, resultA, toC, toCL, Nat.reduceEqDiff] at he
  simp only [↓amPre, amPost, ↓s_lit', Nat.reduceAdd, Nat.reduceSub, List.replicate, retA, resultsA, resultA, toC, toCL, Nat.reduceEqDiff, he]
  have M1 := M.ext hx
  have hp1 := M1.cp
  have hle := hx.len
  obtain ⟨l1, l2, l3, l4, l5⟩ := M1.lts
  refine ends_cond (fun hc1 => ?_) (fun hc1 => ?_)
  · simp only [decide_eq_true_eq] at hc1
    have q1 := lookP D1 intV M1.pw ((i : Int), t) true
    have q2 := lookP D2 LfV.cv M1.pl ((i : Int), t) true
    unfold pk at q1 q2
    have hgt : (∃ v, getP ((i : Int), t) V.waits = some v) ∨ (∃ v, getP ((i : Int), t) V.left = some v) → goneV V t = true := fun hq => by
      rw [goneV_iff]
      rcases hq with ⟨v, hq⟩ | ⟨v, hq⟩
      · exact ⟨i, by omega, .inl (by rw [hq]; rfl)⟩
      · exact ⟨i, by omega, .inr (by rw [hq]; rfl)⟩
    cases g1 : getP ((i : Int), t) V.waits with
    | some v1 =>
      rw [g1] at q1
      have hg := hgt (.inl ⟨v1, g1⟩)
      rw [hg]
      cases g2 : getP ((i : Int), t) V.left with
      | some v2 =>
        rw [g2] at q2
        simp only [if_true, intV, LfV.cv] at q1 q2
        simp (maxSteps := 1000000) (disch := first | omega | (simp (disch := first | omega | (simp only [EvV.len, MonV.len, List.length_append, List.length_cons, List.length_nil, List.length_set]; first | done | omega)) only [EvV.len, MonV.len, amSide, Int.reduceToNat, Nat.reducePow, Nat.reduceMul]; first | done | omega)) only  [↓amPre, amPost, ↓s_lit', Nat.reduceAdd, Nat.reduceSub, List.replicate, retA, resultsA, resultA, toC, toCL, Nat.reduceEqDiff, he, (ze156 S.p), (bu164 S.p), (fa126_1 S.p), (fa126_3 S.p), (fa126_4 S.p), len_sl (un121 S.p), len_nils (un121 S.p), part_sc (ag121 S.p), part_sc (ag123 S.p), part_sc (ag124 S.p), store_last (sz156 S.p), (sz156 S.p), hp1, q1, q2, dec_t, cells_self, cells_other, Nat.zero_add, wrap_i64]
        exact Ends.some rfl
      | none =>
        rw [g2] at q2
        simp only [if_true, intV, LfV.cv] at q1 q2
        simp (maxSteps := 1000000) (disch := first | omega | (simp (disch := first | omega | (simp only [EvV.len, MonV.len, List.length_append, List.length_cons, List.length_nil, List.length_set]; first | done | omega)) only [EvV.len, MonV.len, amSide, Int.reduceToNat, Nat.reducePow, Nat.reduceMul]; first | done | omega)) only  [↓amPre, amPost, ↓s_lit', Nat.reduceAdd, Nat.reduceSub, List.replicate, retA, resultsA, resultA, toC, toCL, Nat.reduceEqDiff, he, (ze156 S.p), (bu164 S.p), (fa126_1 S.p), (fa126_3 S.p), (fa126_4 S.p), len_sl (un121 S.p), len_nils (un121 S.p), part_sc (ag121 S.p), part_sc (ag123 S.p), part_sc (ag124 S.p), store_last (sz156 S.p), (sz156 S.p), hp1, q1, q2, dec_t, cells_self, cells_other, Nat.zero_add, wrap_i64]
        exact Ends.some rfl
    | none =>
      rw [g1] at q1
      cases g2 : getP ((i : Int), t) V.left with
      | some v2 =>
        have hg := hgt (.inr ⟨v2, g2⟩)
        rw [hg]
        rw [g2] at q2
        simp only [if_true, intV, LfV.cv] at q1 q2
        simp (maxSteps := 1000000) (disch := first | omega | (simp (disch := first | omega | (simp only [EvV.len, MonV.len, List.length_append, List.length_cons, List.length_nil, List.length_set]; first | done | omega)) only [EvV.len, MonV.len, amSide, Int.reduceToNat, Nat.reducePow, Nat.reduceMul]; first | done | omega)) only  [↓amPre, amPost, ↓s_lit', Nat.reduceAdd, Nat.reduceSub, List.replicate, retA, resultsA, resultA, toC, toCL, Nat.reduceEqDiff, he, (ze156 S.p), (bu164 S.p), (fa126_1 S.p), (fa126_3 S.p), (fa126_4 S.p), len_sl (un121 S.p), len_nils (un121 S.p), part_sc (ag121 S.p), part_sc (ag123 S.p), part_sc (ag124 S.p), store_last (sz156 S.p), (sz156 S.p), hp1, q1, q2, dec_t, cells_self, cells_other, Nat.zero_add, wrap_i64]
        exact Ends.some rfl
      | none =>
        rw [g2] at q2
        simp only [if_true, intV, LfV.cv] at q1 q2
        simp (maxSteps := 1000000) (disch := first | omega | (simp (disch := first | omega | (simp only [EvV.len, MonV.len, List.length_append, List.length_cons, List.length_nil, List.length_set]; first | done | omega)) only [EvV.len, MonV.len, amSide, Int.reduceToNat, Nat.reducePow, Nat.reduceMul]; first | done | omega)) only  [↓amPre, amPost, ↓s_lit', Nat.reduceAdd, Nat.reduceSub, List.replicate, retA, resultsA, resultA, toC, toCL, Nat.reduceEqDiff, he, (ze156 S.p), (bu164 S.p), (fa126_1 S.p), (fa126_3 S.p), (fa126_4 S.p), len_sl (un121 S.p), len_nils (un121 S.p), part_sc (ag121 S.p), part_sc (ag123 S.p), part_sc (ag124 S.p), store_last (sz156 S.p), (sz156 S.p), hp1, q1, q2, dec_t, cells_self, cells_other, Nat.zero_add, wrap_i64]
        refine hag ⟨i + 1, _⟩ ⟨by simp only; omega, (hx.push _), fun k hk => ?_⟩ (by simp only; omega) _ ?_
        · simp only at hk
          rcases Nat.lt_succ_iff_lt_or_eq.1 hk with hk | rfl
          · exact hall k hk
          · exact ⟨g1, g2⟩
        · simp (maxSteps := 1000000) (disch := first | omega | (simp (disch := first | omega | (simp only [EvV.len, MonV.len, List.length_append, List.length_cons, List.length_nil, List.length_set]; first | done | omega)) only [EvV.len, MonV.len, amSide, Int.reduceToNat, Nat.reducePow, Nat.reduceMul]; first | done | omega)) only [↓amPre, amPost, ↓s_lit', Nat.reduceAdd, Nat.reduceSub, List.replicate, retA, resultsA, resultA, toC, toCL, Nat.reduceEqDiff, Int.natCast_add, Int.cast_ofNat_Int, dec_t, dec_f]
  · simp only [decide_eq_false_iff_not] at hc1
    obtain rfl : i = V.mons.length := by omega
    have hg : goneV V t = false := (goneV_false V t).2 hall
    rw [hg]
    simp (maxSteps := 1000000) (disch := first | omega | (simp (disch := first | omega | (simp only [EvV.len, MonV.len, List.length_append, List.length_cons, List.length_nil, List.length_set]; first | done | omega)) only [EvV.len, MonV.len, amSide, Int.reduceToNat, Nat.reducePow, Nat.reduceMul]; first | done | omega)) only  [↓amPre, amPost, ↓s_lit', Nat.reduceAdd, Nat.reduceSub, List.replicate, retA, resultsA, resultA, toC, toCL, Nat.reduceEqDiff, he, (ze156 S.p), (bu164 S.p), (fa126_1 S.p), (fa126_3 S.p), (fa126_4 S.p), len_sl (un121 S.p), len_nils (un121 S.p), part_sc (ag121 S.p), part_sc (ag123 S.p), part_sc (ag124 S.p), store_last (sz156 S.p), (sz156 S.p)]
    exact Ends.some rfl
theorem s75 (hd : 3 ≤ d) {p bm bf bw bl : Nat} {V : MdV} {h : List AO} (M : MdAt h p bm bf bw bl V) (hn : V.mons.length ≤ 100) (hm : V.flags.length ≤ 100) (e : EvV) (lk : Nat) : ev P T K d 75 [.sc (.ptr p 0), .ag e.cells] lk h = some (.v (.sc (.bool (mayV V e))), h) := by
  obtain ⟨d, rfl⟩ : ∃ k, d = k + 1 := ⟨d - 1, by omega⟩
  refine ev_pure (at75 S.t) rfl ?_
  unfold i75 Try.f75
  have M1 := M.ext ((Ext1.refl h).push (.rw 101 e.cells))
  have hp := M1.cp
  have e0 := e.c0
  have e1 := e.c1
  have e2 := e.c2
  have f78 := fun lk => s78 S (show 1 ≤ d by omega) M1 lk
  have f96 := fun lk => s96 S (show 2 ≤ d by omega) M1 hm e.t lk
  have f74 := fun a b c lk h => s74 S (show 1 ≤ d by omega) a b c lk h
  have f106 := fun lk => s106 S (show 1 ≤ d by omega) M1 hn e.t lk
  have hD : decide ((0 : Int) ≤ e.o ∧ e.o ≤ (V.mons.length : Int) - 1) = decide (0 ≤ e.o ∧ e.o < V.mons.length) := by
    by_cases c : 0 ≤ e.o ∧ e.o < V.mons.length
    · rw [decide_eq_true c, decide_eq_true ⟨c.1, by omega⟩]
    · rw [decide_eq_false c, decide_eq_false (fun q => c ⟨q.1, by omega⟩)]
  unfold mayV
  generalize goneV V e.t = gn at *
  by_cases c1 : 0 ≤ e.t ∧ e.t < V.flags.length
  · rw [decide_eq_true c1] at f96 ⊢
    by_cases c2 : 0 ≤ e.o ∧ e.o < V.mons.length
    · rw [decide_eq_true c2] at hD ⊢
      by_cases c3 : e.k = 5
      · simp (maxSteps := 1000000) (disch := first | omega | (simp (disch := first | omega | (simp only [EvV.len, MonV.len, List.length_append, List.length_cons, List.length_nil, List.length_set]; first | done | omega)) only [EvV.len, MonV.len, amSide, Int.reduceToNat, Nat.reducePow, Nat.reduceMul]; first | done | omega)) only  [↓amPre, amPost, ↓s_lit', Nat.reduceAdd, Nat.reduceSub, List.replicate, retA, resultsA, resultA, toC, toCL, Nat.reduceEqDiff, (fa101_0 S.p), (fa101_1 S.p), (fa101_2 S.p), (fa126_1 S.p), len_sl (un121 S.p), len_nils (un121 S.p), part_sc (ag121 S.p), part_sc (ag3 S.p), hp, e0, e1, e2, f78, f96, f74, f106, hD, beqI_t, beqI_f, cells_self, cells_other, Nat.zero_add, Nat.add_zero, wrap_i64]
        exact Ends.some (by simp [c3])
      · by_cases c4 : e.k = 6
        · simp (maxSteps := 1000000) (disch := first | omega | (simp (disch := first | omega | (simp only [EvV.len, MonV.len, List.length_append, List.length_cons, List.length_nil, List.length_set]; first | done | omega)) only [EvV.len, MonV.len, amSide, Int.reduceToNat, Nat.reducePow, Nat.reduceMul]; first | done | omega)) only  [↓amPre, amPost, ↓s_lit', Nat.reduceAdd, Nat.reduceSub, List.replicate, retA, resultsA, resultA, toC, toCL, Nat.reduceEqDiff, (fa101_0 S.p), (fa101_1 S.p), (fa101_2 S.p), (fa126_1 S.p), len_sl (un121 S.p), len_nils (un121 S.p), part_sc (ag121 S.p), part_sc (ag3 S.p), hp, e0, e1, e2, f78, f96, f74, f106, hD, beqI_t, beqI_f, cells_self, cells_other, Nat.zero_add, Nat.add_zero, wrap_i64]
          exact Ends.some (by simp [c4])
        · simp (maxSteps := 1000000) (disch := first | omega | (simp (disch := first | omega | (simp only [EvV.len, MonV.len, List.length_append, List.length_cons, List.length_nil, List.length_set]; first | done | omega)) only [EvV.len, MonV.len, amSide, Int.reduceToNat, Nat.reducePow, Nat.reduceMul]; first | done | omega)) only  [↓amPre, amPost, ↓s_lit', Nat.reduceAdd, Nat.reduceSub, List.replicate, retA, resultsA, resultA, toC, toCL, Nat.reduceEqDiff, (fa101_0 S.p), (fa101_1 S.p), (fa101_2 S.p), (fa126_1 S.p), len_sl (un121 S.p), len_nils (un121 S.p), part_sc (ag121 S.p), part_sc (ag3 S.p), hp, e0, e1, e2, f78, f96, f74, f106, hD, beqI_t, beqI_f, cells_self, cells_other, Nat.zero_add, Nat.add_zero, wrap_i64]
          exact Ends.some (by simp [c3, c4])
    · rw [decide_eq_false c2] at hD ⊢
      simp (maxSteps := 1000000) (disch := first | omega | (simp (disch := first | omega | (simp only [EvV.len, MonV.len, List.length_append, List.length_cons, List.length_nil, List.length_set]; first | done | omega)) only [EvV.len, MonV.len, amSide, Int.reduceToNat, Nat.reducePow, Nat.reduceMul]; first | done | omega)) only  [↓amPre, amPost, ↓s_lit', Nat.reduceAdd, Nat.reduceSub, List.replicate, retA, resultsA, resultA, toC, toCL, Nat.reduceEqDiff, (fa101_0 S.p), (fa101_1 S.p), (fa101_2 S.p), (fa126_1 S.p), len_sl (un121 S.p), len_nils (un121 S.p), part_sc (ag121 S.p), part_sc (ag3 S.p), hp, e0, e1, e2, f78, f96, f74, f106, hD, beqI_t, beqI_f, cells_self, cells_other, Nat.zero_add, Nat.add_zero, wrap_i64]
      exact Ends.some (by simp)
  · rw [decide_eq_false c1] at f96 ⊢
    simp (maxSteps := 1000000) (disch := first | omega | (simp (disch := first | omega | (simp only [EvV.len, MonV.len, List.length_append, List.length_cons, List.length_nil, List.length_set]; first | done | omega)) only [EvV.len, MonV.len, amSide, Int.reduceToNat, Nat.reducePow, Nat.reduceMul]; first | done | omega)) only  [↓amPre, amPost, ↓s_lit', Nat.reduceAdd, Nat.reduceSub, List.replicate, retA, resultsA, resultA, toC, toCL, Nat.reduceEqDiff, (fa101_0 S.p), (fa101_1 S.p), (fa101_2 S.p), (fa126_1 S.p), len_sl (un121 S.p), len_nils (un121 S.p), part_sc (ag121 S.p), part_sc (ag3 S.p), hp, e0, e1, e2, f78, f96, f74, f106, beqI_t, beqI_f, cells_self, cells_other, Nat.zero_add, Nat.add_zero, wrap_i64]
    exact Ends.some (by simp)
end
end Go.AM
