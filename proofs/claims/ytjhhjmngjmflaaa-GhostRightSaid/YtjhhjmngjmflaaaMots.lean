/- Monitors' model: what is written: Exit, Begin, and who leaves. Conditions: none. -/
import Derived.Test.YtjhhjmngjmflaaaMos
set_option linter.unusedVariables false
set_option linter.unusedSimpArgs false
set_option maxRecDepth 100000
namespace Go.AM
open Go.Proofs
-- LENS: EvV.len, MonV.len
section
variable {P : Program} {T : Tab} {K d : Nat} (S : Sd P T K)
include S
set_option maxHeartbeats 2000000 in
theorem s72 (hd : 3 ≤ d) {p bm bf bw bl : Nat} {V : MdV} {h : List AO} (M : MdAt h p bm bf bw bl V) (e : EvV) {ob : Nat} {o : MonV} (ho : e.o = (ob : Int)) (hx : V.mons[ob]? = some o) (hc : -100 ≤ o.cnt ∧ o.cnt ≤ 100) (lk : Nat) (hlk : lk ≤ bm) :
    Ends (Tr p bm bf bw bl h V (exitV V e o)) (ev P T K d 72 [.sc (.ptr p 0), .ag e.cells] lk h) := by
  obtain ⟨d, rfl⟩ : ∃ k, d = k + 1 := ⟨d - 1, by omega⟩
  rw [ev_run (at72 S.t)]
  unfold i72 Try.f72
  have hto : e.o.toNat = ob := by rw [ho]; rfl
  have M1 := M.ext ((Ext1.refl h).push (.rw 34 e.cells))
  have F1 := (Fr.refl bm bf bw bl h).push (.rw 34 e.cells)
  have hp := M.cp
  have hm := M.cm
  obtain ⟨l1, l2, l3, l4, l5⟩ := M.lts
  have e2 := e.c2
  have e4 := e.c4
  rw [ho] at e2
  have hob := (List.getElem?_eq_some_iff.1 hx).1
  have r1 : (recs MonV.cells V.mons)[ob * 3 + 1]? = some (.int .i64 o.cnt) := by rw [recs_get MonV.len hx 1 (by omega)]; exact o.c1
  have hpe := partE S e
  have f133 := fun lk => s85 S (show 1 ≤ d by omega) M1 e ho hx lk
  unfold exitV
  by_cases c9 : e.e = 9
  · rw [if_pos c9]
    by_cases co : o.own = e.t
    · have hq : (o.own == e.t) = true := by simpa using co
      rw [hq] at f133
      rw [if_neg (fun q => q co)]
      simp (maxSteps := 1000000) (disch := first | omega | (simp (disch := first | omega | (simp only [EvV.len, MonV.len, List.length_append, List.length_cons, List.length_nil, List.length_set]; first | done | omega)) only [EvV.len, MonV.len, amSide, Int.reduceToNat, Nat.reducePow, Nat.reduceMul]; first | done | omega)) only  [↓amPre, amPost, ↓s_lit', Nat.reduceAdd, Nat.reduceSub, List.replicate, retA, resultsA, resultA, toC, toCL, Nat.reduceEqDiff, (fa116_0 S.p), (fa116_1 S.p), (fa133_1 S.p), (fa34_2 S.p), (fa34_4 S.p), iaddr_sl (un131 S.p) (sz116 S.p), part_sc (ag131 S.p), part_sc (ag3 S.p), part_sc (ag32 S.p), part_all (ag34 S.p) (sz34 S.p), part_at (ag34 S.p) (sz34 S.p), store_last (sz3 S.p), (sz3 S.p), hp, hm, e2, e4, r1, hpe, f133, beqI_t, beqI_f, idx_ok, cells_self, cells_other, Int.toNat_natCast, Nat.zero_add, Nat.add_zero]
      exact Ends.some (Tr.none M1 F1)
    · have hq : (o.own == e.t) = false := by simpa using co
      rw [hq] at f133
      rw [if_pos co]
      simp (maxSteps := 1000000) (disch := first | omega | (simp (disch := first | omega | (simp only [EvV.len, MonV.len, List.length_append, List.length_cons, List.length_nil, List.length_set]; first | done | omega)) only [EvV.len, MonV.len, amSide, Int.reduceToNat, Nat.reducePow, Nat.reduceMul]; first | done | omega)) only  [↓amPre, amPost, ↓s_lit', Nat.reduceAdd, Nat.reduceSub, List.replicate, retA, resultsA, resultA, toC, toCL, Nat.reduceEqDiff, (fa116_0 S.p), (fa116_1 S.p), (fa133_1 S.p), (fa34_2 S.p), (fa34_4 S.p), iaddr_sl (un131 S.p) (sz116 S.p), part_sc (ag131 S.p), part_sc (ag3 S.p), part_sc (ag32 S.p), part_all (ag34 S.p) (sz34 S.p), part_at (ag34 S.p) (sz34 S.p), store_last (sz3 S.p), (sz3 S.p), hp, hm, e2, e4, r1, hpe, f133, beqI_t, beqI_f, idx_ok, cells_self, cells_other, Int.toNat_natCast, Nat.zero_add, Nat.add_zero]
      exact Ends.some (Tr.some M1 F1)
  · rw [if_neg c9]
    by_cases c0 : e.e = 0
    · by_cases co : o.own = e.t
      · have hq : (o.own == e.t) = true := by simpa using co
        rw [hq] at f133
        rw [if_neg (fun q => q.elim (fun q => q c0) (fun q => q co)), hto]
        have st1 := M.store (sz3 S.p) hx hlk 1 (by omega) (.int .i64 (o.cnt - 1)) ⟨o.own, o.cnt - 1, o.hsh⟩ rfl
        have M2 := M.setM ob ⟨o.own, o.cnt - 1, o.hsh⟩
        have hx2 : (V.setM ob ⟨o.own, o.cnt - 1, o.hsh⟩).mons[ob]? = some ⟨o.own, o.cnt - 1, o.hsh⟩ := List.getElem?_set_self hob
        have hm2 := M2.cm
        have r2 : (recs MonV.cells (V.setM ob ⟨o.own, o.cnt - 1, o.hsh⟩).mons)[ob * 3 + 1]? = some (.int .i64 (o.cnt - 1)) := by rw [recs_get MonV.len hx2 1 (by omega)]; rfl
        have M2' := M2.ext ((Ext1.refl _).push (.rw 34 e.cells))
        have st2 := M2.store (sz3 S.p) hx2 hlk 0 (by omega) (.int .i64 (-1)) ⟨-1, o.cnt - 1, o.hsh⟩ rfl
        rw [Nat.add_zero] at st2
        have M3 := (M2.setM ob ⟨-1, o.cnt - 1, o.hsh⟩).ext ((Ext1.refl _).push (.rw 34 e.cells))
        have hV : (V.setM ob ⟨o.own, o.cnt - 1, o.hsh⟩).setM ob ⟨-1, o.cnt - 1, o.hsh⟩ = V.setM ob ⟨-1, o.cnt - 1, o.hsh⟩ := by simp [MdV.setM]
        rw [hV] at M3
        simp only [MdV.setM] at st2 hm2 r2 M3 M2'
        simp only [List.set_set] at st2 M3
        by_cases cz : o.cnt - 1 = 0
        · rw [if_pos cz]
          simp (maxSteps := 1000000) (disch := first | omega | (simp (disch := first | omega | (simp only [EvV.len, MonV.len, List.length_append, List.length_cons, List.length_nil, List.length_set]; first | done | omega)) only [EvV.len, MonV.len, amSide, Int.reduceToNat, Nat.reducePow, Nat.reduceMul]; first | done | omega)) only  [↓amPre, amPost, ↓s_lit', Nat.reduceAdd, Nat.reduceSub, List.replicate, retA, resultsA, resultA, toC, toCL, Nat.reduceEqDiff, (fa116_0 S.p), (fa116_1 S.p), (fa133_1 S.p), (fa34_2 S.p), (fa34_4 S.p), iaddr_sl (un131 S.p) (sz116 S.p), part_sc (ag131 S.p), part_sc (ag3 S.p), part_sc (ag32 S.p), part_all (ag34 S.p) (sz34 S.p), part_at (ag34 S.p) (sz34 S.p), store_last (sz3 S.p), (sz3 S.p), hp, hm, hm2, e2, e4, r1, r2, hpe, f133, st1, st2, store_skip, beqI_t, beqI_f, bneI_f, bne_self_eq_false, idx_ok, cells_self, cells_other, Int.toNat_natCast, Nat.zero_add, Nat.add_zero, wrap_i64]
          refine Ends.some (Tr.some ?_ ?_)
          · simp only [MdV.setM]; exact M3
          · exact ((Fr.refl bm bf bw bl h).set _ (.inl rfl)).push _
        · rw [if_neg cz]
          simp (maxSteps := 1000000) (disch := first | omega | (simp (disch := first | omega | (simp only [EvV.len, MonV.len, List.length_append, List.length_cons, List.length_nil, List.length_set]; first | done | omega)) only [EvV.len, MonV.len, amSide, Int.reduceToNat, Nat.reducePow, Nat.reduceMul]; first | done | omega)) only  [↓amPre, amPost, ↓s_lit', Nat.reduceAdd, Nat.reduceSub, List.replicate, retA, resultsA, resultA, toC, toCL, Nat.reduceEqDiff, (fa116_0 S.p), (fa116_1 S.p), (fa133_1 S.p), (fa34_2 S.p), (fa34_4 S.p), iaddr_sl (un131 S.p) (sz116 S.p), part_sc (ag131 S.p), part_sc (ag3 S.p), part_sc (ag32 S.p), part_all (ag34 S.p) (sz34 S.p), part_at (ag34 S.p) (sz34 S.p), store_last (sz3 S.p), (sz3 S.p), hp, hm, hm2, e2, e4, r1, r2, hpe, f133, st1, st2, store_skip, beqI_t, beqI_f, bneI_f, bne_self_eq_false, idx_ok, cells_self, cells_other, Int.toNat_natCast, Nat.zero_add, Nat.add_zero, wrap_i64]
          refine Ends.some (Tr.some ?_ ?_)
          · simp only [MdV.setM]; exact M2'
          · exact ((Fr.refl bm bf bw bl h).set _ (.inl rfl)).push _
      · have hq : (o.own == e.t) = false := by simpa using co
        rw [hq] at f133
        rw [if_pos (Or.inr co)]
        simp (maxSteps := 1000000) (disch := first | omega | (simp (disch := first | omega | (simp only [EvV.len, MonV.len, List.length_append, List.length_cons, List.length_nil, List.length_set]; first | done | omega)) only [EvV.len, MonV.len, amSide, Int.reduceToNat, Nat.reducePow, Nat.reduceMul]; first | done | omega)) only  [↓amPre, amPost, ↓s_lit', Nat.reduceAdd, Nat.reduceSub, List.replicate, retA, resultsA, resultA, toC, toCL, Nat.reduceEqDiff, (fa116_0 S.p), (fa116_1 S.p), (fa133_1 S.p), (fa34_2 S.p), (fa34_4 S.p), iaddr_sl (un131 S.p) (sz116 S.p), part_sc (ag131 S.p), part_sc (ag3 S.p), part_sc (ag32 S.p), part_all (ag34 S.p) (sz34 S.p), part_at (ag34 S.p) (sz34 S.p), store_last (sz3 S.p), (sz3 S.p), hp, hm, e2, e4, r1, hpe, f133, beqI_t, beqI_f, bneI_f, bne_self_eq_false, idx_ok, cells_self, cells_other, Int.toNat_natCast, Nat.zero_add, Nat.add_zero]
        exact Ends.some (Tr.none M1 F1)
    · rw [if_pos (Or.inl c0)]
      simp (maxSteps := 1000000) (disch := first | omega | (simp (disch := first | omega | (simp only [EvV.len, MonV.len, List.length_append, List.length_cons, List.length_nil, List.length_set]; first | done | omega)) only [EvV.len, MonV.len, amSide, Int.reduceToNat, Nat.reducePow, Nat.reduceMul]; first | done | omega)) only  [↓amPre, amPost, ↓s_lit', Nat.reduceAdd, Nat.reduceSub, List.replicate, retA, resultsA, resultA, toC, toCL, Nat.reduceEqDiff, (fa116_0 S.p), (fa116_1 S.p), (fa133_1 S.p), (fa34_2 S.p), (fa34_4 S.p), iaddr_sl (un131 S.p) (sz116 S.p), part_sc (ag131 S.p), part_sc (ag3 S.p), part_sc (ag32 S.p), part_all (ag34 S.p) (sz34 S.p), part_at (ag34 S.p) (sz34 S.p), store_last (sz3 S.p), (sz3 S.p), hp, hm, e2, e4, r1, hpe, f133, beqI_t, beqI_f, bneI_t, idx_ok, cells_self, cells_other, Int.toNat_natCast, Nat.zero_add, Nat.add_zero]
      exact Ends.some (Tr.none M1 F1)
set_option maxHeartbeats 2000000 in
theorem s73 (hd : 3 ≤ d) {p bm bf bw bl : Nat} {V : MdV} {h : List AO} (M : MdAt h p bm bf bw bl V) (e : EvV) {ob : Nat} {o : MonV} (ho : e.o = (ob : Int)) (hx : V.mons[ob]? = some o) {th : Nat} {f : Bool} (ht : e.t = (th : Int)) (hf : V.flags[th]? = some f) (lk : Nat) (hlk : lk ≤ bm ∧ lk ≤ bf ∧ lk ≤ bw) :
    Ends (Tr p bm bf bw bl h V (beginV V e o f)) (ev P T K d 73 [.sc (.ptr p 0), .ag e.cells] lk h) := by
  obtain ⟨d, rfl⟩ : ∃ k, d = k + 1 := ⟨d - 1, by omega⟩
  rw [ev_run (at73 S.t)]
  unfold i73 Try.f73
  have hto : e.o.toNat = ob := by rw [ho]; rfl
  have hto2 : e.t.toNat = th := by rw [ht]; rfl
  have M1 := M.ext ((Ext1.refl h).push (.rw 34 e.cells))
  have F1 := (Fr.refl bm bf bw bl h).push (.rw 34 e.cells)
  have hp := M.cp
  have hm := M.cm
  have hcf := M.cf
  obtain ⟨l1, l2, l3, l4, l5⟩ := M.lts
  obtain ⟨a1, a2, a3, a4, a5, a6, a7, a8, a9, a10⟩ := M.nes
  have e1 := e.c1
  have e2 := e.c2
  have e4 := e.c4
  rw [ho] at e2
  rw [ht] at e1
  have hob := (List.getElem?_eq_some_iff.1 hx).1
  have hth := (List.getElem?_eq_some_iff.1 hf).1
  have rf : (V.flags.map SV.bool)[th]? = some (.bool f) := by rw [List.getElem?_map, hf]; rfl
  have r1 : (recs MonV.cells V.mons)[ob * 3 + 1]? = some (.int .i64 o.cnt) := by rw [recs_get MonV.len hx 1 (by omega)]; exact o.c1
  have r2 : (recs MonV.cells V.mons)[ob * 3 + 2]? = some (.int .i64 o.hsh) := by rw [recs_get MonV.len hx 2 (by omega)]; exact o.c2
  have hpe := partE S e
  have f133 := fun lk => s85 S (show 1 ≤ d by omega) M1 e ho hx lk
  unfold beginV
  by_cases c9 : e.e = 9
  · rw [if_pos c9]
    by_cases co : o.own = e.t
    · have hq : (o.own == e.t) = true := by simpa using co
      rw [hq] at f133
      rw [if_neg (fun q => q co)]
      simp (maxSteps := 1000000) (disch := first | omega | (simp (disch := first | omega | (simp only [EvV.len, MonV.len, List.length_append, List.length_cons, List.length_nil, List.length_set]; first | done | omega)) only [EvV.len, MonV.len, amSide, Int.reduceToNat, Nat.reducePow, Nat.reduceMul]; first | done | omega)) only  [↓amPre, amPost, ↓s_lit', Nat.reduceAdd, Nat.reduceSub, List.replicate, retA, resultsA, resultA, toC, toCL, Nat.reduceEqDiff, (bu116 S.p), (bu138 S.p), (fa116_1 S.p), (fa116_2 S.p), (fa133_1 S.p), (fa133_2 S.p), (fa133_3 S.p), (fa34_1 S.p), (fa34_2 S.p), (fa34_4 S.p), iaddr_sl (un121 S.p) (sz4 S.p), iaddr_sl (un131 S.p) (sz116 S.p), part_sc (ag121 S.p), part_sc (ag129 S.p), part_sc (ag131 S.p), part_sc (ag3 S.p), part_sc (ag32 S.p), part_all (ag34 S.p) (sz34 S.p), part_at (ag34 S.p) (sz34 S.p), part_sc (ag4 S.p), store_last (sz116 S.p), (sz116 S.p), store_last (sz4 S.p), (sz4 S.p), hp, hm, hcf, e1, e2, e4, rf, r1, hpe, f133, beqI_t, beqI_f, idx_ok, cells_self, cells_other, Int.toNat_natCast, Nat.zero_add, Nat.add_zero, Nat.mul_one]
      exact Ends.some (Tr.none M1 F1)
    · have hq : (o.own == e.t) = false := by simpa using co
      rw [hq] at f133
      rw [if_pos co]
      simp (maxSteps := 1000000) (disch := first | omega | (simp (disch := first | omega | (simp only [EvV.len, MonV.len, List.length_append, List.length_cons, List.length_nil, List.length_set]; first | done | omega)) only [EvV.len, MonV.len, amSide, Int.reduceToNat, Nat.reducePow, Nat.reduceMul]; first | done | omega)) only  [↓amPre, amPost, ↓s_lit', Nat.reduceAdd, Nat.reduceSub, List.replicate, retA, resultsA, resultA, toC, toCL, Nat.reduceEqDiff, (bu116 S.p), (bu138 S.p), (fa116_1 S.p), (fa116_2 S.p), (fa133_1 S.p), (fa133_2 S.p), (fa133_3 S.p), (fa34_1 S.p), (fa34_2 S.p), (fa34_4 S.p), iaddr_sl (un121 S.p) (sz4 S.p), iaddr_sl (un131 S.p) (sz116 S.p), part_sc (ag121 S.p), part_sc (ag129 S.p), part_sc (ag131 S.p), part_sc (ag3 S.p), part_sc (ag32 S.p), part_all (ag34 S.p) (sz34 S.p), part_at (ag34 S.p) (sz34 S.p), part_sc (ag4 S.p), store_last (sz116 S.p), (sz116 S.p), store_last (sz4 S.p), (sz4 S.p), hp, hm, hcf, e1, e2, e4, rf, r1, hpe, f133, beqI_t, beqI_f, idx_ok, cells_self, cells_other, Int.toNat_natCast, Nat.zero_add, Nat.add_zero, Nat.mul_one]
      exact Ends.some (Tr.some M1 F1)
  · rw [if_neg c9]
    by_cases c11 : e.e = 11
    · rw [if_pos c11]
      by_cases co : o.own = e.t
      · have hq : (o.own == e.t) = true := by simpa using co
        rw [hq] at f133
        rw [if_pos co]
        simp (maxSteps := 1000000) (disch := first | omega | (simp (disch := first | omega | (simp only [EvV.len, MonV.len, List.length_append, List.length_cons, List.length_nil, List.length_set]; first | done | omega)) only [EvV.len, MonV.len, amSide, Int.reduceToNat, Nat.reducePow, Nat.reduceMul]; first | done | omega)) only  [↓amPre, amPost, ↓s_lit', Nat.reduceAdd, Nat.reduceSub, List.replicate, retA, resultsA, resultA, toC, toCL, Nat.reduceEqDiff, (bu116 S.p), (bu138 S.p), (fa116_1 S.p), (fa116_2 S.p), (fa133_1 S.p), (fa133_2 S.p), (fa133_3 S.p), (fa34_1 S.p), (fa34_2 S.p), (fa34_4 S.p), iaddr_sl (un121 S.p) (sz4 S.p), iaddr_sl (un131 S.p) (sz116 S.p), part_sc (ag121 S.p), part_sc (ag129 S.p), part_sc (ag131 S.p), part_sc (ag3 S.p), part_sc (ag32 S.p), part_all (ag34 S.p) (sz34 S.p), part_at (ag34 S.p) (sz34 S.p), part_sc (ag4 S.p), store_last (sz116 S.p), (sz116 S.p), store_last (sz4 S.p), (sz4 S.p), hp, hm, hcf, e1, e2, e4, rf, r1, hpe, f133, beqI_t, beqI_f, idx_ok, cells_self, cells_other, Int.toNat_natCast, Nat.zero_add, Nat.add_zero, Nat.mul_one]
        exact Ends.some (Tr.some M1 F1)
      · have hq : (o.own == e.t) = false := by simpa using co
        rw [hq] at f133
        rw [if_neg co]
        simp (maxSteps := 1000000) (disch := first | omega | (simp (disch := first | omega | (simp only [EvV.len, MonV.len, List.length_append, List.length_cons, List.length_nil, List.length_set]; first | done | omega)) only [EvV.len, MonV.len, amSide, Int.reduceToNat, Nat.reducePow, Nat.reduceMul]; first | done | omega)) only  [↓amPre, amPost, ↓s_lit', Nat.reduceAdd, Nat.reduceSub, List.replicate, retA, resultsA, resultA, toC, toCL, Nat.reduceEqDiff, (bu116 S.p), (bu138 S.p), (fa116_1 S.p), (fa116_2 S.p), (fa133_1 S.p), (fa133_2 S.p), (fa133_3 S.p), (fa34_1 S.p), (fa34_2 S.p), (fa34_4 S.p), iaddr_sl (un121 S.p) (sz4 S.p), iaddr_sl (un131 S.p) (sz116 S.p), part_sc (ag121 S.p), part_sc (ag129 S.p), part_sc (ag131 S.p), part_sc (ag3 S.p), part_sc (ag32 S.p), part_all (ag34 S.p) (sz34 S.p), part_at (ag34 S.p) (sz34 S.p), part_sc (ag4 S.p), store_last (sz116 S.p), (sz116 S.p), store_last (sz4 S.p), (sz4 S.p), hp, hm, hcf, e1, e2, e4, rf, r1, hpe, f133, beqI_t, beqI_f, idx_ok, cells_self, cells_other, Int.toNat_natCast, Nat.zero_add, Nat.add_zero, Nat.mul_one]
        exact Ends.some (Tr.none M1 F1)
    · rw [if_neg c11]
      by_cases c12 : e.e = 12
      · rw [if_pos c12]
        by_cases co : o.own = e.t
        · have hq : (o.own == e.t) = true := by simpa using co
          rw [hq] at f133
          cases f with
          | false =>
            rw [if_neg (fun q => by cases q.2)]
            simp (maxSteps := 1000000) (disch := first | omega | (simp (disch := first | omega | (simp only [EvV.len, MonV.len, List.length_append, List.length_cons, List.length_nil, List.length_set]; first | done | omega)) only [EvV.len, MonV.len, amSide, Int.reduceToNat, Nat.reducePow, Nat.reduceMul]; first | done | omega)) only  [↓amPre, amPost, ↓s_lit', Nat.reduceAdd, Nat.reduceSub, List.replicate, retA, resultsA, resultA, toC, toCL, Nat.reduceEqDiff, (bu116 S.p), (bu138 S.p), (fa116_1 S.p), (fa116_2 S.p), (fa133_1 S.p), (fa133_2 S.p), (fa133_3 S.p), (fa34_1 S.p), (fa34_2 S.p), (fa34_4 S.p), iaddr_sl (un121 S.p) (sz4 S.p), iaddr_sl (un131 S.p) (sz116 S.p), part_sc (ag121 S.p), part_sc (ag129 S.p), part_sc (ag131 S.p), part_sc (ag3 S.p), part_sc (ag32 S.p), part_all (ag34 S.p) (sz34 S.p), part_at (ag34 S.p) (sz34 S.p), part_sc (ag4 S.p), store_last (sz116 S.p), (sz116 S.p), store_last (sz4 S.p), (sz4 S.p), hp, hm, hcf, e1, e2, e4, rf, r1, hpe, f133, beqI_t, beqI_f, idx_ok, cells_self, cells_other, Int.toNat_natCast, Nat.zero_add, Nat.add_zero, Nat.mul_one]
            exact Ends.some (Tr.none M1 F1)
          | true =>
            rw [if_pos ⟨co, rfl⟩, hto2]
            have st := M.storeF (sz4 S.p) hth hlk.2.1 false
            have M2 := (M.setF th false).ext ((Ext1.refl _).push (.rw 34 e.cells))
            simp (maxSteps := 1000000) (disch := first | omega | (simp (disch := first | omega | (simp only [EvV.len, MonV.len, List.length_append, List.length_cons, List.length_nil, List.length_set]; first | done | omega)) only [EvV.len, MonV.len, amSide, Int.reduceToNat, Nat.reducePow, Nat.reduceMul]; first | done | omega)) only  [↓amPre, amPost, ↓s_lit', Nat.reduceAdd, Nat.reduceSub, List.replicate, retA, resultsA, resultA, toC, toCL, Nat.reduceEqDiff, (bu116 S.p), (bu138 S.p), (fa116_1 S.p), (fa116_2 S.p), (fa133_1 S.p), (fa133_2 S.p), (fa133_3 S.p), (fa34_1 S.p), (fa34_2 S.p), (fa34_4 S.p), iaddr_sl (un121 S.p) (sz4 S.p), iaddr_sl (un131 S.p) (sz116 S.p), part_sc (ag121 S.p), part_sc (ag129 S.p), part_sc (ag131 S.p), part_sc (ag3 S.p), part_sc (ag32 S.p), part_all (ag34 S.p) (sz34 S.p), part_at (ag34 S.p) (sz34 S.p), part_sc (ag4 S.p), store_last (sz116 S.p), (sz116 S.p), store_last (sz4 S.p), (sz4 S.p), hp, hm, hcf, e1, e2, e4, rf, r1, hpe, f133, st, store_skip, beqI_t, beqI_f, idx_ok, cells_self, cells_other, Int.toNat_natCast, Nat.zero_add, Nat.add_zero, Nat.mul_one]
            refine Ends.some (Tr.some M2 ?_)
            exact ((Fr.refl bm bf bw bl h).set _ (.inr (.inl rfl))).push _
        · have hq : (o.own == e.t) = false := by simpa using co
          rw [hq] at f133
          rw [if_neg (fun q => co q.1)]
          simp (maxSteps := 1000000) (disch := first | omega | (simp (disch := first | omega | (simp only [EvV.len, MonV.len, List.length_append, List.length_cons, List.length_nil, List.length_set]; first | done | omega)) only [EvV.len, MonV.len, amSide, Int.reduceToNat, Nat.reducePow, Nat.reduceMul]; first | done | omega)) only  [↓amPre, amPost, ↓s_lit', Nat.reduceAdd, Nat.reduceSub, List.replicate, retA, resultsA, resultA, toC, toCL, Nat.reduceEqDiff, (bu116 S.p), (bu138 S.p), (fa116_1 S.p), (fa116_2 S.p), (fa133_1 S.p), (fa133_2 S.p), (fa133_3 S.p), (fa34_1 S.p), (fa34_2 S.p), (fa34_4 S.p), iaddr_sl (un121 S.p) (sz4 S.p), iaddr_sl (un131 S.p) (sz116 S.p), part_sc (ag121 S.p), part_sc (ag129 S.p), part_sc (ag131 S.p), part_sc (ag3 S.p), part_sc (ag32 S.p), part_all (ag34 S.p) (sz34 S.p), part_at (ag34 S.p) (sz34 S.p), part_sc (ag4 S.p), store_last (sz116 S.p), (sz116 S.p), store_last (sz4 S.p), (sz4 S.p), hp, hm, hcf, e1, e2, e4, rf, r1, hpe, f133, beqI_t, beqI_f, idx_ok, cells_self, cells_other, Int.toNat_natCast, Nat.zero_add, Nat.add_zero, Nat.mul_one]
          exact Ends.some (Tr.none M1 F1)
      · rw [if_neg c12]
        by_cases c0 : e.e = 0
        · rw [if_pos c0]
          by_cases co : o.own = e.t
          · have hq : (o.own == e.t) = true := by simpa using co
            rw [hq] at f133
            rw [if_pos co, hto]
            obtain ⟨D1, D2⟩ := placeD P S.p
            have up := upd_entsP D1 intV M1.pw (e.o, e.t) (lk := lk) hlk.2.2 o.cnt
            unfold pk at up
            simp only [ho, ht, intV] at up
            rw [List.set_append_left _ _ l4] at up
            have M2 := M.setW (updP (e.o, e.t) o.cnt V.waits)
            have hm2 := M2.cm
            have hp2 := M2.cp
            have st := M2.storeAll (sz116 S.p) hx hlk.1 ⟨-1, 0, o.hsh⟩
            have hbc : [SV.int .i64 (-1), .int .i64 0, .int .i64 o.hsh] = MonV.cells ⟨-1, 0, o.hsh⟩ := rfl
            have M3 := (M2.setM ob ⟨-1, 0, o.hsh⟩).ext ((Ext1.refl _).push (.rw 34 e.cells))
            simp only [ho, ht] at hm2 hp2 st
            simp (maxSteps := 1000000) (disch := first | omega | (simp (disch := first | omega | (simp only [EvV.len, MonV.len, List.length_append, List.length_cons, List.length_nil, List.length_set]; first | done | omega)) only [EvV.len, MonV.len, amSide, Int.reduceToNat, Nat.reducePow, Nat.reduceMul]; first | done | omega)) only  [↓amPre, amPost, ↓s_lit', Nat.reduceAdd, Nat.reduceSub, List.replicate, retA, resultsA, resultA, toC, toCL, Nat.reduceEqDiff, (bu116 S.p), (bu138 S.p), (fa116_1 S.p), (fa116_2 S.p), (fa133_1 S.p), (fa133_2 S.p), (fa133_3 S.p), (fa34_1 S.p), (fa34_2 S.p), (fa34_4 S.p), iaddr_sl (un121 S.p) (sz4 S.p), iaddr_sl (un131 S.p) (sz116 S.p), part_sc (ag121 S.p), part_sc (ag129 S.p), part_sc (ag131 S.p), part_sc (ag3 S.p), part_sc (ag32 S.p), part_all (ag34 S.p) (sz34 S.p), part_at (ag34 S.p) (sz34 S.p), part_sc (ag4 S.p), store_last (sz116 S.p), (sz116 S.p), store_last (sz4 S.p), (sz4 S.p), hp, hp2, hm, hm2, hcf, e1, e2, e4, rf, r1, r2, hpe, f133, up, st, hbc, store_skip, beqI_t, beqI_f, idx_ok, cells_self, cells_other, Int.toNat_natCast, Nat.zero_add, Nat.add_zero, Nat.mul_one]
            refine Ends.some (Tr.some ?_ ?_)
            · simp only [MdV.setM] at M3 ⊢; simp only [ho, ht] at M3 ⊢; exact M3
            · exact (((Fr.refl bm bf bw bl h).set _ (.inr (.inr (.inl rfl)))).set _ (.inl rfl)).push _
          · have hq : (o.own == e.t) = false := by simpa using co
            rw [hq] at f133
            rw [if_neg co]
            simp (maxSteps := 1000000) (disch := first | omega | (simp (disch := first | omega | (simp only [EvV.len, MonV.len, List.length_append, List.length_cons, List.length_nil, List.length_set]; first | done | omega)) only [EvV.len, MonV.len, amSide, Int.reduceToNat, Nat.reducePow, Nat.reduceMul]; first | done | omega)) only  [↓amPre, amPost, ↓s_lit', Nat.reduceAdd, Nat.reduceSub, List.replicate, retA, resultsA, resultA, toC, toCL, Nat.reduceEqDiff, (bu116 S.p), (bu138 S.p), (fa116_1 S.p), (fa116_2 S.p), (fa133_1 S.p), (fa133_2 S.p), (fa133_3 S.p), (fa34_1 S.p), (fa34_2 S.p), (fa34_4 S.p), iaddr_sl (un121 S.p) (sz4 S.p), iaddr_sl (un131 S.p) (sz116 S.p), part_sc (ag121 S.p), part_sc (ag129 S.p), part_sc (ag131 S.p), part_sc (ag3 S.p), part_sc (ag32 S.p), part_all (ag34 S.p) (sz34 S.p), part_at (ag34 S.p) (sz34 S.p), part_sc (ag4 S.p), store_last (sz116 S.p), (sz116 S.p), store_last (sz4 S.p), (sz4 S.p), hp, hm, hcf, e1, e2, e4, rf, r1, hpe, f133, beqI_t, beqI_f, idx_ok, cells_self, cells_other, Int.toNat_natCast, Nat.zero_add, Nat.add_zero, Nat.mul_one]
            exact Ends.some (Tr.none M1 F1)
        · rw [if_neg c0]
          simp (maxSteps := 1000000) (disch := first | omega | (simp (disch := first | omega | (simp only [EvV.len, MonV.len, List.length_append, List.length_cons, List.length_nil, List.length_set]; first | done | omega)) only [EvV.len, MonV.len, amSide, Int.reduceToNat, Nat.reducePow, Nat.reduceMul]; first | done | omega)) only  [↓amPre, amPost, ↓s_lit', Nat.reduceAdd, Nat.reduceSub, List.replicate, retA, resultsA, resultA, toC, toCL, Nat.reduceEqDiff, (bu116 S.p), (bu138 S.p), (fa116_1 S.p), (fa116_2 S.p), (fa133_1 S.p), (fa133_2 S.p), (fa133_3 S.p), (fa34_1 S.p), (fa34_2 S.p), (fa34_4 S.p), iaddr_sl (un121 S.p) (sz4 S.p), iaddr_sl (un131 S.p) (sz116 S.p), part_sc (ag121 S.p), part_sc (ag129 S.p), part_sc (ag131 S.p), part_sc (ag3 S.p), part_sc (ag32 S.p), part_all (ag34 S.p) (sz34 S.p), part_at (ag34 S.p) (sz34 S.p), part_sc (ag4 S.p), store_last (sz116 S.p), (sz116 S.p), store_last (sz4 S.p), (sz4 S.p), hp, hm, hcf, e1, e2, e4, rf, r1, hpe, f133, beqI_t, beqI_f, idx_ok, cells_self, cells_other, Int.toNat_natCast, Nat.zero_add, Nat.add_zero, Nat.mul_one]
          exact Ends.some (Tr.none M1 F1)
set_option maxHeartbeats 2000000 in
theorem s74 (hd : 1 ≤ d) {p bm bf bw bl : Nat} {V : MdV} {h : List AO} (M : MdAt h p bm bf bw bl V) (k : Pk) (w : Int) (lk : Nat) (hlk : lk ≤ bw ∧ lk ≤ bl) :
    Ends (Tr p bm bf bw bl h V (leaveV V k w)) (ev P T K d 74 [.sc (.ptr p 0), .ag (pk k), .sc (.int .i64 w)] lk h) := by
  obtain ⟨d, rfl⟩ : ∃ k, d = k + 1 := ⟨d - 1, by omega⟩
  rw [ev_run (at74 S.t)]
  unfold i74 Try.f74
  have M1 := M.ext ((Ext1.refl h).push (.rw 138 (pk k)))
  have F1 := (Fr.refl bm bf bw bl h).push (.rw 138 (pk k))
  have hp := M.cp
  obtain ⟨l1, l2, l3, l4, l5⟩ := M.lts
  obtain ⟨a1, a2, a3, a4, a5, a6, a7, a8, a9, a10⟩ := M.nes
  obtain ⟨D1, D2⟩ := placeD P S.p
  have hpk : partA P 138 (pk k) 0 = some (.ag (pk k)) := by
    have := recs_part (f := pk) (ag138 S.p) (sz138 S.p) (fun _ => rfl) (l := [k]) (i := 0) rfl
    rw [show recs pk [k] = pk k by simp [recs]] at this; exact this
  have hpl : (pk k).length = 2 := rfl
  have lw := lookP D1 intV M1.pw k true
  unfold leaveV
  cases g : getP k V.waits with
  | none =>
    rw [g] at lw
    simp only [if_true] at lw
    simp (maxSteps := 1000000) (disch := first | omega | (simp (disch := first | omega | (simp only [EvV.len, MonV.len, List.length_append, List.length_cons, List.length_nil, List.length_set]; first | done | omega)) only [EvV.len, MonV.len, amSide, Int.reduceToNat, Nat.reducePow, Nat.reduceMul]; first | done | omega)) only  [↓amPre, amPost, ↓s_lit', Nat.reduceAdd, Nat.reduceSub, List.replicate, retA, resultsA, resultA, toC, toCL, Nat.reduceEqDiff, (bu141 S.p), (fa133_3 S.p), (fa133_4 S.p), part_sc (ag129 S.p), part_sc (ag130 S.p), part_all (ag138 S.p) (sz138 S.p), part_at (ag138 S.p) (sz138 S.p), hp, hpk, hpl, lw, cells_self, cells_other, Nat.zero_add, Nat.add_zero]
    exact Ends.some (Tr.none M1 F1)
  | some n =>
    rw [g] at lw
    simp only [if_true, intV] at lw
    have dl := del_entsP D1 intV M1.pw k (lk := lk) hlk.1
    rw [List.set_append_left _ _ l4] at dl
    have M2 := M.setW (delP k V.waits)
    have M2' := M2.ext ((Ext1.refl _).push (.rw 138 (pk k)))
    have hp2 := M2.cp
    have up := upd_entsP D2 LfV.cv M2'.pl k (lk := lk) hlk.2 ⟨n, w⟩
    rw [List.set_append_left _ _ (by rw [List.length_set]; exact l5)] at up
    simp only [LfV.cv] at up
    have M3 := (M2.setL (updP k ⟨n, w⟩ V.left)).ext ((Ext1.refl _).push (.rw 138 (pk k)))
    simp (maxSteps := 1000000) (disch := first | omega | (simp (disch := first | omega | (simp only [EvV.len, MonV.len, List.length_append, List.length_cons, List.length_nil, List.length_set]; first | done | omega)) only [EvV.len, MonV.len, amSide, Int.reduceToNat, Nat.reducePow, Nat.reduceMul]; first | done | omega)) only  [↓amPre, amPost, ↓s_lit', Nat.reduceAdd, Nat.reduceSub, List.replicate, retA, resultsA, resultA, toC, toCL, Nat.reduceEqDiff, (bu141 S.p), (fa133_3 S.p), (fa133_4 S.p), part_sc (ag129 S.p), part_sc (ag130 S.p), part_all (ag138 S.p) (sz138 S.p), part_at (ag138 S.p) (sz138 S.p), hp, hp2, hpk, hpl, lw, dl, up, cells_self, cells_other, Nat.zero_add, Nat.add_zero]
    refine Ends.some (Tr.some M3 ?_)
    exact (((Fr.refl bm bf bw bl h).set _ (.inr (.inr (.inl rfl)))).set _ (.inr (.inr (.inr rfl)))).push _
end
end Go.AM
/- Monitors' model: what is written: End, Hash; who waits. Conditions: none. -/
set_option linter.unusedVariables false
set_option linter.unusedSimpArgs false
set_option maxRecDepth 100000
namespace Go.AM
open Go.Proofs
-- LENS: EvV.len, MonV.len
/-- What holds of a model's numbers. -/
structure MdOk (V : MdV) : Prop where
  n : V.flags.length ≤ 8
  m : V.mons.length ≤ 8
  cnt : ∀ (i : Nat) o, V.mons[i]? = some o → 0 ≤ o.cnt ∧ o.cnt ≤ 60
  wk : ∀ x ∈ V.waits, (0 ≤ x.1.1 ∧ x.1.1 < V.mons.length) ∧ 0 ≤ x.1.2 ∧ x.1.2 < V.flags.length
  lk : ∀ x ∈ V.left, (0 ≤ x.1.1 ∧ x.1.1 < V.mons.length) ∧ 0 ≤ x.1.2 ∧ x.1.2 < V.flags.length
  wd : NdP V.waits
  ld : NdP V.left
theorem ndP_nodup {α : Type} : ∀ {M : List (Pk × α)}, NdP M → (M.map (·.1)).Nodup
  | [], _ => List.nodup_nil
  | (a, v) :: M, h => by
    rw [List.map_cons, List.nodup_cons]
    refine ⟨fun q => ?_, ndP_nodup h.2⟩
    obtain ⟨x, hx, e⟩ := List.mem_map.1 q
    exact h.1 x hx e
theorem keysOf_entsP {α : Type} (enc : α → CV) : ∀ {M : List (Pk × α)}, (∀ x ∈ M, (0 ≤ x.1.1 ∧ x.1.1 < 100) ∧ 0 ≤ x.1.2 ∧ x.1.2 < 100) → keysOf (entsP enc M) = some (M.map (·.1))
  | [], _ => rfl
  | ((a, b), v) :: M, h => by
    have hm := h _ List.mem_cons_self
    have ih := keysOf_entsP enc (M := M) fun x hx => h x (List.mem_cons_of_mem _ hx)
    have hw : (Lit.int .i64 a).wf = true ∧ (Lit.int .i64 b).wf = true := by
      simp only at hm
      constructor <;> (simp [Lit.wf, IntKind.min, IntKind.max, IntKind.signed, IntKind.bits]; omega)
    show (if (Lit.int .i64 a).wf = true ∧ (Lit.int .i64 b).wf = true then (keysOf (entsP enc M)).map ((a, b) :: ·) else none) = _
    rw [if_pos hw, ih]; rfl
theorem pick_thr {α : Type} (o : Int) (M : List (Pk × α)) : Go.Proofs.pickT o (M.map (·.1)) = thrV M o := by
  unfold Go.Proofs.pickT thrV
  rw [List.filter_map, List.map_map]; rfl
theorem nodup_sub_length {l : List Pk} (hd : l.Nodup) (hm : ∀ x ∈ l, (0 ≤ x.1 ∧ x.1 < 8) ∧ 0 ≤ x.2 ∧ x.2 < 8) : l.length ≤ 64 := by
  have hinj : (l.map fun x : Pk => (x.1 * 8 + x.2).toNat).Nodup := by
    rw [List.Nodup, List.pairwise_map]
    refine hd.imp_of_mem fun {a b} ha hb hab e => hab ?_
    have h1 := hm a ha
    have h2 := hm b hb
    obtain ⟨a1, a2⟩ := a
    obtain ⟨b1, b2⟩ := b
    simp only at h1 h2 e
    have : a1 = b1 ∧ a2 = b2 := by omega
    rw [this.1, this.2]
  have hsub : (l.map fun x : Pk => (x.1 * 8 + x.2).toNat) ⊆ List.range 64 := fun y hy => by
    obtain ⟨x, hx, rfl⟩ := List.mem_map.1 hy
    have h1 := hm x hx
    rw [List.mem_range]; omega
  have := hinj.length_le_of_subset hsub
  rw [List.length_map, List.length_range] at this
  exact this
/-- Threads, told by the contract. -/
theorem thrF_at {α : Type} {enc : α → CV} {h : List AO} {l : Nat} {M : List (Pk × α)} (hl : h[l]? = some (.map (entsP enc M))) (hm : ∀ x ∈ M, (0 ≤ x.1.1 ∧ x.1.1 < 8) ∧ 0 ≤ x.1.2 ∧ x.1.2 < 8) (hd : NdP M) (o : Int) (lk : Nat) :
    thrF [.sc (.mp l), .sc (.int .i64 o)] lk h = if thrV M o = [] then some (.v (.sc .nils), h) else some (.v (.sc (.sl h.length 0 (thrV M o).length 1)), h ++ [.rw 3 ((sortL (thrV M o)).map (SV.int .i64))]) := by
  have hk := keysOf_entsP enc (M := M) fun x hx => by have := hm x hx; omega
  have hnd := ndP_nodup hd
  have hlen : (M.map (·.1)).length ≤ 1000 := by
    have := nodup_sub_length hnd fun x hx => by
      obtain ⟨y, hy, rfl⟩ := List.mem_map.1 hx
      exact hm y hy
    omega
  unfold thrF
  simp only [hl, hk]
  rw [if_pos ⟨hlen, hnd⟩, pick_thr]
theorem MdOk.w8 {V : MdV} (H : MdOk V) : ∀ x ∈ V.waits, (0 ≤ x.1.1 ∧ x.1.1 < 8) ∧ 0 ≤ x.1.2 ∧ x.1.2 < 8 := fun x hx => by
  have := H.wk x hx; have := H.n; have := H.m; omega
theorem own_lenM {P : Program} {t el : TypeId} (hu : P.underlying t = some (.slice el)) {e lo : Nat} {h : List AO} {q : SV} {cs : List SV} (H : Own e 1 lo h q cs) (hh : List AO) : lenA P hh t (.v (.sc q)) = some (.v (.sc (.int .i64 (cs.length : Int)))) := by
  rcases H with ⟨rfl, rfl⟩ | ⟨b, _, _, rfl, _⟩
  · exact len_nils hu
  · rw [Nat.div_one]; exact len_sl hu _ _ _ _
theorem sortL_len (l : List Int) : (sortL l).length = l.length := List.length_mergeSort _
theorem own_new (h : List AO) (l : List Int) (hl : l ≠ []) : Own 3 1 h.length (h ++ [.rw 3 (l.map (SV.int .i64))]) (.sl h.length 0 l.length 1) (l.map (SV.int .i64)) :=
  .inr ⟨h.length, Nat.le_refl _, by simp, by simp, by simp, by simp [Nat.mod_one]⟩
section
variable {P : Program} {T : Tab} {K d : Nat} (S : Sd P T K)
include S
set_option maxHeartbeats 1000000 in
theorem s86 (hd : 2 ≤ d) {p bm bf bw bl : Nat} {V : MdV} {h : List AO} (M : MdAt h p bm bf bw bl V) (H : MdOk V) (o : Int) (lk : Nat) :
    Ends (fun v h' => Ext1 h h' ∧ ∃ q, v = .v (.sc q) ∧ Own 3 1 h.length h' q ((sortL (thrV V.waits o)).map (SV.int .i64))) (ev P T K d 86 [.sc (.ptr p 0), .sc (.int .i64 o)] lk h) := by
  obtain ⟨d, rfl⟩ : ∃ k, d = k + 1 := ⟨d - 1, by omega⟩
  rw [ev_run (at86 S.t)]
  unfold i86 Try.f86
  have hp := M.cp
  have f78 := fun lk => s64 S (show 1 ≤ d by omega) M lk
  have f79 : ∀ lk, ev P T K d 88 [.sc (.mp bw), .sc (.int .i64 o)] lk h = _ := fun lk => by
    obtain ⟨d, rfl⟩ : ∃ k, d = k + 1 := ⟨d - 1, by omega⟩
    rw [ev_kn (at88 S.t)]
    exact thrF_at M.pw H.w8 H.wd o lk
  by_cases c : thrV V.waits o = []
  · simp only [if_pos c] at f79
    simp (maxSteps := 1000000) (disch := first | omega | (simp (disch := first | omega | (simp only [EvV.len, MonV.len, List.length_append, List.length_cons, List.length_nil, List.length_set]; first | done | omega)) only [EvV.len, MonV.len, amSide, Int.reduceToNat, Nat.reducePow, Nat.reduceMul]; first | done | omega)) only  [↓amPre, amPost, ↓s_lit', Nat.reduceAdd, Nat.reduceSub, List.replicate, retA, resultsA, resultA, toC, toCL, Nat.reduceEqDiff, (fa133_3 S.p), part_sc (ag129 S.p), hp, f78, f79]
    refine Ends.some ⟨Ext1.refl _, .nils, rfl, .inl ⟨rfl, ?_⟩⟩
    rw [c]
    show (List.mergeSort [] _).map _ = _
    rw [List.mergeSort_nil]; rfl
  · simp only [if_neg c] at f79
    simp (maxSteps := 1000000) (disch := first | omega | (simp (disch := first | omega | (simp only [EvV.len, MonV.len, List.length_append, List.length_cons, List.length_nil, List.length_set]; first | done | omega)) only [EvV.len, MonV.len, amSide, Int.reduceToNat, Nat.reducePow, Nat.reduceMul]; first | done | omega)) only  [↓amPre, amPost, ↓s_lit', Nat.reduceAdd, Nat.reduceSub, List.replicate, retA, resultsA, resultA, toC, toCL, Nat.reduceEqDiff, (fa133_3 S.p), part_sc (ag129 S.p), hp, f78, f79]
    refine Ends.some ⟨(Ext1.refl _).push _, _, rfl, ?_⟩
    have := own_new h (sortL (thrV V.waits o)) (fun q => c (List.eq_nil_of_length_eq_zero (by rw [← sortL_len, q]; rfl)))
    rw [sortL_len] at this
    exact this
end
end Go.AM
/- Monitors' model: what is written: End and Hash. Conditions: none. -/
set_option linter.unusedVariables false
set_option linter.unusedSimpArgs false
set_option maxRecDepth 100000
namespace Go.AM
open Go.Proofs
-- LENS: EvV.len, MonV.len
section
variable {P : Program} {T : Tab} {K d : Nat} (S : Sd P T K)
include S
set_option maxHeartbeats 4000000 in
theorem s75 (hd : 1 ≤ d) {p bm bf bw bl : Nat} {V : MdV} {h : List AO} (M : MdAt h p bm bf bw bl V) (e : EvV) {ob : Nat} {o : MonV} (ho : e.o = (ob : Int)) (hx : V.mons[ob]? = some o) {th : Nat} {f : Bool} (ht : e.t = (th : Int)) (hf : V.flags[th]? = some f) (lk : Nat) (hlk : lk ≤ bm ∧ lk ≤ bf ∧ lk ≤ bl) :
    Ends (Tr p bm bf bw bl h V (endV V e o)) (ev P T K d 75 [.sc (.ptr p 0), .ag e.cells] lk h) := by
  obtain ⟨d, rfl⟩ : ∃ k, d = k + 1 := ⟨d - 1, by omega⟩
  rw [ev_run (at75 S.t)]
  unfold i75 Try.f75
  have hto : e.o.toNat = ob := by rw [ho]; rfl
  have hto2 : e.t.toNat = th := by rw [ht]; rfl
  have M1 := M.ext (((Ext1.refl h).push (.rw 34 e.cells)).push (.rw 138 [.int .i64 e.o, .int .i64 e.t]))
  have hp := M.cp
  have hm := M.cm
  have hcf := M.cf
  obtain ⟨l1, l2, l3, l4, l5⟩ := M.lts
  obtain ⟨a1, a2, a3, a4, a5, a6, a7, a8, a9, a10⟩ := M.nes
  have e1 := e.c1
  have e2 := e.c2
  have e4 := e.c4
  rw [ho] at e2
  rw [ht] at e1
  have hob := (List.getElem?_eq_some_iff.1 hx).1
  have hth := (List.getElem?_eq_some_iff.1 hf).1
  have r0 : (recs MonV.cells V.mons)[ob * 3]? = some (.int .i64 o.own) := recs_get MonV.len hx 0 (by omega)
  obtain ⟨D1, D2⟩ := placeD P S.p
  have Mm := M1.ext ((Ext1.refl _).push .dead)
  have lw := lookP D2 LfV.cv Mm.pl (e.o, e.t) true
  have hpm := Mm.cp
  unfold pk at lw
  simp only [ho, ht] at hpm
  cases g : getP (e.o, e.t) V.left with
  | none =>
    rw [show endV V e o = none by unfold endV; rw [g]]
    rw [g] at lw
    simp only [if_true, ho, ht] at lw
    have M2 := M1.ext ((Ext1.refl _).push (.rw 141 [.int .i64 0, .int .i64 0]))
    simp only [ho, ht] at M2
    simp (maxSteps := 1000000) (disch := first | omega | (simp (disch := first | omega | (simp only [EvV.len, MonV.len, List.length_append, List.length_cons, List.length_nil, List.length_set]; first | done | omega)) only [EvV.len, MonV.len, amSide, Int.reduceToNat, Nat.reducePow, Nat.reduceMul]; first | done | omega)) only  [↓amPre, amPost, ↓s_lit', Nat.reduceAdd, Nat.reduceSub, List.replicate, retA, resultsA, resultA, toC, toCL, Nat.reduceEqDiff, (ze138 S.p), (ze141 S.p), (bu138 S.p), (fa116_0 S.p), (fa116_1 S.p), (fa133_1 S.p), (fa133_2 S.p), (fa133_4 S.p), (fa141_0 S.p), (fa141_1 S.p), (fa34_1 S.p), (fa34_2 S.p), (fa34_4 S.p), iaddr_sl (un121 S.p) (sz4 S.p), iaddr_sl (un131 S.p) (sz116 S.p), part_sc (ag121 S.p), part_sc (ag130 S.p), part_sc (ag131 S.p), part_all (ag138 S.p) (sz138 S.p), part_at (ag138 S.p) (sz138 S.p), part_sc (ag3 S.p), part_sc (ag32 S.p), store_last (sz138 S.p), (sz138 S.p), store_last (sz141 S.p), (sz141 S.p), store_last (sz3 S.p), (sz3 S.p), store_last (sz4 S.p), (sz4 S.p), hp, hpm, hm, e1, e2, e4, r0, lw, idx_ok, cells_self, cells_other, obj_self, set_self, Int.toNat_natCast, Nat.zero_add, Nat.add_zero]
    exact Ends.some (Tr.none M2 ((((Fr.refl bm bf bw bl h).push _).push _).push _))
  | some l =>
    rw [show endV V e o = if o.own ≠ -1 ∨ l.why ≠ e.e then none else some { (if e.e = 12 then V.setF th false else V).setM ob ⟨e.t, l.cnt, o.hsh⟩ with left := delP (e.o, e.t) V.left } by unfold endV; rw [g, hto, hto2]]
    rw [g] at lw
    simp only [if_true, LfV.cv, ho, ht] at lw
    have M2 := M1.ext ((Ext1.refl _).push (.rw 141 [.int .i64 l.cnt, .int .i64 l.why]))
    simp only [ho, ht] at M2
    by_cases co : o.own = -1
    · by_cases cw : l.why = e.e
      · rw [if_neg (fun q => q.elim (fun q => q co) (fun q => q cw))]
        have dl := del_entsP D2 LfV.cv M2.pl (e.o, e.t) (lk := lk) hlk.2.2
        rw [List.set_append_left _ _ (by simp; omega), List.set_append_left _ _ (by simp; omega), List.set_append_left _ _ l5] at dl
        unfold pk at dl
        simp only [ho, ht] at dl
        have N1 := M.setL (delP ((ob : Int), (th : Int)) V.left)
        have hx1 : ({ V with left := delP ((ob : Int), (th : Int)) V.left } : MdV).mons[ob]? = some o := hx
        have st1 := N1.store (sz3 S.p) hx1 hlk.1 0 (by omega) (.int .i64 e.t) ⟨e.t, o.cnt, o.hsh⟩ rfl
        rw [Nat.add_zero] at st1
        have N2 := N1.setM ob ⟨e.t, o.cnt, o.hsh⟩
        have hx2 : (MdV.setM { V with left := delP ((ob : Int), (th : Int)) V.left } ob ⟨e.t, o.cnt, o.hsh⟩).mons[ob]? = some ⟨e.t, o.cnt, o.hsh⟩ := List.getElem?_set_self hob
        have st2 := N2.store (sz3 S.p) hx2 hlk.1 1 (by omega) (.int .i64 l.cnt) ⟨e.t, l.cnt, o.hsh⟩ rfl
        have N3 := N2.setM ob ⟨e.t, l.cnt, o.hsh⟩
        have N3p := N3.cp
        have N3f := N3.cf
        have N1p := N1.cp
        have hth3 : th < ((MdV.setM { V with left := delP ((ob : Int), (th : Int)) V.left } ob ⟨e.t, o.cnt, o.hsh⟩).setM ob ⟨e.t, l.cnt, o.hsh⟩).flags.length := hth
        have stf := N3.storeF (sz4 S.p) hth3 hlk.2.1 false
        have N3' := ((N3.ext ((Ext1.refl _).push (.rw 34 e.cells))).ext ((Ext1.refl _).push (.rw 138 [.int .i64 (ob : Int), .int .i64 (th : Int)]))).ext ((Ext1.refl _).push (.rw 141 [.int .i64 l.cnt, .int .i64 l.why]))
        have N4 := (((N3.setF th false).ext ((Ext1.refl _).push (.rw 34 e.cells))).ext ((Ext1.refl _).push (.rw 138 [.int .i64 (ob : Int), .int .i64 (th : Int)]))).ext ((Ext1.refl _).push (.rw 141 [.int .i64 l.cnt, .int .i64 l.why]))
        simp only [MdV.setM, MdV.setF, ht] at st1 st2 stf N3p N3f N1p N3' N4
        simp only [List.set_set] at st2 stf N3p N3f N3' N4
        by_cases c12 : e.e = 12
        · rw [if_pos c12]
          simp (maxSteps := 1000000) (disch := first | omega | (simp (disch := first | omega | (simp only [EvV.len, MonV.len, List.length_append, List.length_cons, List.length_nil, List.length_set]; first | done | omega)) only [EvV.len, MonV.len, amSide, Int.reduceToNat, Nat.reducePow, Nat.reduceMul]; first | done | omega)) only  [↓amPre, amPost, ↓s_lit', Nat.reduceAdd, Nat.reduceSub, List.replicate, retA, resultsA, resultA, toC, toCL, Nat.reduceEqDiff, (ze138 S.p), (ze141 S.p), (bu138 S.p), (fa116_0 S.p), (fa116_1 S.p), (fa133_1 S.p), (fa133_2 S.p), (fa133_4 S.p), (fa141_0 S.p), (fa141_1 S.p), (fa34_1 S.p), (fa34_2 S.p), (fa34_4 S.p), iaddr_sl (un121 S.p) (sz4 S.p), iaddr_sl (un131 S.p) (sz116 S.p), part_sc (ag121 S.p), part_sc (ag130 S.p), part_sc (ag131 S.p), part_all (ag138 S.p) (sz138 S.p), part_at (ag138 S.p) (sz138 S.p), part_sc (ag3 S.p), part_sc (ag32 S.p), store_last (sz138 S.p), (sz138 S.p), store_last (sz141 S.p), (sz141 S.p), store_last (sz3 S.p), (sz3 S.p), store_last (sz4 S.p), (sz4 S.p), hp, hpm, hm, e1, e2, e4, r0, lw, dl, st1, st2, stf, N3p, N3f, N1p, store_skip, bneI_f, bne_self_eq_false, beqI_t, beqI_f, idx_ok, cells_self, cells_other, obj_self, set_self, Int.toNat_natCast, Nat.zero_add, Nat.add_zero, Nat.mul_one]
          refine Ends.some (Tr.some ?_ ?_)
          · simp only [MdV.setM, MdV.setF, ho, ht]; exact N4
          · exact ((((((Fr.refl bm bf bw bl h).set _ (.inr (.inr (.inr rfl)))).set _ (.inl rfl)).set _ (.inr (.inl rfl))).push _).push _).push _
        · rw [if_neg c12]
          simp (maxSteps := 1000000) (disch := first | omega | (simp (disch := first | omega | (simp only [EvV.len, MonV.len, List.length_append, List.length_cons, List.length_nil, List.length_set]; first | done | omega)) only [EvV.len, MonV.len, amSide, Int.reduceToNat, Nat.reducePow, Nat.reduceMul]; first | done | omega)) only  [↓amPre, amPost, ↓s_lit', Nat.reduceAdd, Nat.reduceSub, List.replicate, retA, resultsA, resultA, toC, toCL, Nat.reduceEqDiff, (ze138 S.p), (ze141 S.p), (bu138 S.p), (fa116_0 S.p), (fa116_1 S.p), (fa133_1 S.p), (fa133_2 S.p), (fa133_4 S.p), (fa141_0 S.p), (fa141_1 S.p), (fa34_1 S.p), (fa34_2 S.p), (fa34_4 S.p), iaddr_sl (un121 S.p) (sz4 S.p), iaddr_sl (un131 S.p) (sz116 S.p), part_sc (ag121 S.p), part_sc (ag130 S.p), part_sc (ag131 S.p), part_all (ag138 S.p) (sz138 S.p), part_at (ag138 S.p) (sz138 S.p), part_sc (ag3 S.p), part_sc (ag32 S.p), store_last (sz138 S.p), (sz138 S.p), store_last (sz141 S.p), (sz141 S.p), store_last (sz3 S.p), (sz3 S.p), store_last (sz4 S.p), (sz4 S.p), hp, hpm, hm, e1, e2, e4, r0, lw, dl, st1, st2, stf, N3p, N3f, N1p, store_skip, bneI_f, bne_self_eq_false, beqI_t, beqI_f, idx_ok, cells_self, cells_other, obj_self, set_self, Int.toNat_natCast, Nat.zero_add, Nat.add_zero, Nat.mul_one]
          refine Ends.some (Tr.some ?_ ?_)
          · simp only [MdV.setM, MdV.setF, ho, ht]; exact N3'
          · exact (((((Fr.refl bm bf bw bl h).set _ (.inr (.inr (.inr rfl)))).set _ (.inl rfl)).push _).push _).push _
      · rw [if_pos (Or.inr cw)]
        simp (maxSteps := 1000000) (disch := first | omega | (simp (disch := first | omega | (simp only [EvV.len, MonV.len, List.length_append, List.length_cons, List.length_nil, List.length_set]; first | done | omega)) only [EvV.len, MonV.len, amSide, Int.reduceToNat, Nat.reducePow, Nat.reduceMul]; first | done | omega)) only  [↓amPre, amPost, ↓s_lit', Nat.reduceAdd, Nat.reduceSub, List.replicate, retA, resultsA, resultA, toC, toCL, Nat.reduceEqDiff, (ze138 S.p), (ze141 S.p), (bu138 S.p), (fa116_0 S.p), (fa116_1 S.p), (fa133_1 S.p), (fa133_2 S.p), (fa133_4 S.p), (fa141_0 S.p), (fa141_1 S.p), (fa34_1 S.p), (fa34_2 S.p), (fa34_4 S.p), iaddr_sl (un121 S.p) (sz4 S.p), iaddr_sl (un131 S.p) (sz116 S.p), part_sc (ag121 S.p), part_sc (ag130 S.p), part_sc (ag131 S.p), part_all (ag138 S.p) (sz138 S.p), part_at (ag138 S.p) (sz138 S.p), part_sc (ag3 S.p), part_sc (ag32 S.p), store_last (sz138 S.p), (sz138 S.p), store_last (sz141 S.p), (sz141 S.p), store_last (sz3 S.p), (sz3 S.p), store_last (sz4 S.p), (sz4 S.p), hp, hpm, hm, e1, e2, e4, r0, lw, bneI_t, bneI_f, bne_self_eq_false, idx_ok, cells_self, cells_other, obj_self, set_self, Int.toNat_natCast, Nat.zero_add, Nat.add_zero]
        exact Ends.some (Tr.none M2 ((((Fr.refl bm bf bw bl h).push _).push _).push _))
    · rw [if_pos (Or.inl co)]
      simp (maxSteps := 1000000) (disch := first | omega | (simp (disch := first | omega | (simp only [EvV.len, MonV.len, List.length_append, List.length_cons, List.length_nil, List.length_set]; first | done | omega)) only [EvV.len, MonV.len, amSide, Int.reduceToNat, Nat.reducePow, Nat.reduceMul]; first | done | omega)) only  [↓amPre, amPost, ↓s_lit', Nat.reduceAdd, Nat.reduceSub, List.replicate, retA, resultsA, resultA, toC, toCL, Nat.reduceEqDiff, (ze138 S.p), (ze141 S.p), (bu138 S.p), (fa116_0 S.p), (fa116_1 S.p), (fa133_1 S.p), (fa133_2 S.p), (fa133_4 S.p), (fa141_0 S.p), (fa141_1 S.p), (fa34_1 S.p), (fa34_2 S.p), (fa34_4 S.p), iaddr_sl (un121 S.p) (sz4 S.p), iaddr_sl (un131 S.p) (sz116 S.p), part_sc (ag121 S.p), part_sc (ag130 S.p), part_sc (ag131 S.p), part_all (ag138 S.p) (sz138 S.p), part_at (ag138 S.p) (sz138 S.p), part_sc (ag3 S.p), part_sc (ag32 S.p), store_last (sz138 S.p), (sz138 S.p), store_last (sz141 S.p), (sz141 S.p), store_last (sz3 S.p), (sz3 S.p), store_last (sz4 S.p), (sz4 S.p), hp, hpm, hm, e1, e2, e4, r0, lw, bneI_t, bneI_f, bne_self_eq_false, idx_ok, cells_self, cells_other, obj_self, set_self, Int.toNat_natCast, Nat.zero_add, Nat.add_zero]
      exact Ends.some (Tr.none M2 ((((Fr.refl bm bf bw bl h).push _).push _).push _))
set_option maxHeartbeats 4000000 in
theorem s77 (hd : 2 ≤ d) {p bm bf bw bl : Nat} {V : MdV} {h : List AO} (M : MdAt h p bm bf bw bl V) (e : EvV) {ob : Nat} {o : MonV} (ho : e.o = (ob : Int)) (hx : V.mons[ob]? = some o) (lk : Nat) (hlk : lk ≤ bm) :
    Ends (Tr p bm bf bw bl h V (hashV V e o)) (ev P T K d 77 [.sc (.ptr p 0), .ag e.cells] lk h) := by
  obtain ⟨d, rfl⟩ : ∃ k, d = k + 1 := ⟨d - 1, by omega⟩
  rw [ev_run (at77 S.t)]
  unfold i77 Try.f77
  have hto : e.o.toNat = ob := by rw [ho]; rfl
  have M1 := M.ext ((Ext1.refl h).push (.rw 34 e.cells))
  have F1 := (Fr.refl bm bf bw bl h).push (.rw 34 e.cells)
  have hp := M.cp
  have hm := M.cm
  obtain ⟨l1, l2, l3, l4, l5⟩ := M.lts
  have e2 := e.c2
  have e3 := e.c3
  have e4 := e.c4
  rw [ho] at e2
  have hob := (List.getElem?_eq_some_iff.1 hx).1
  have r0 : (recs MonV.cells V.mons)[ob * 3]? = some (.int .i64 o.own) := recs_get MonV.len hx 0 (by omega)
  have r2 : (recs MonV.cells V.mons)[ob * 3 + 2]? = some (.int .i64 o.hsh) := by rw [recs_get MonV.len hx 2 (by omega)]; exact o.c2
  have f74 := fun a b c lk h => s59 S (show 1 ≤ d by omega) a b c lk h
  unfold hashV
  rw [hto]
  by_cases c11 : e.e = 11
  · rw [if_pos c11]
    by_cases ca : e.a = 0
    · by_cases co : o.own = -1
      · rw [if_neg (fun q => q.2 co)]
        simp (maxSteps := 1000000) (disch := first | omega | (simp (disch := first | omega | (simp only [EvV.len, MonV.len, List.length_append, List.length_cons, List.length_nil, List.length_set]; first | done | omega)) only [EvV.len, MonV.len, amSide, Int.reduceToNat, Nat.reducePow, Nat.reduceMul]; first | done | omega)) only  [↓amPre, amPost, ↓s_lit', Nat.reduceAdd, Nat.reduceSub, List.replicate, retA, resultsA, resultA, toC, toCL, Nat.reduceEqDiff, (fa116_0 S.p), (fa116_2 S.p), (fa133_1 S.p), (fa34_2 S.p), (fa34_3 S.p), (fa34_4 S.p), iaddr_sl (un131 S.p) (sz116 S.p), part_sc (ag131 S.p), part_sc (ag3 S.p), part_sc (ag32 S.p), store_last (sz3 S.p), (sz3 S.p), hp, hm, e2, e3, e4, r0, r2, bneI_t, bneI_f, bne_self_eq_false, beqI_t, beqI_f, idx_ok, cells_self, cells_other, Int.toNat_natCast, Nat.zero_add, Nat.add_zero]
        exact Ends.some (Tr.none M1 F1)
      · rw [if_pos ⟨ca, co⟩]
        simp (maxSteps := 1000000) (disch := first | omega | (simp (disch := first | omega | (simp only [EvV.len, MonV.len, List.length_append, List.length_cons, List.length_nil, List.length_set]; first | done | omega)) only [EvV.len, MonV.len, amSide, Int.reduceToNat, Nat.reducePow, Nat.reduceMul]; first | done | omega)) only  [↓amPre, amPost, ↓s_lit', Nat.reduceAdd, Nat.reduceSub, List.replicate, retA, resultsA, resultA, toC, toCL, Nat.reduceEqDiff, (fa116_0 S.p), (fa116_2 S.p), (fa133_1 S.p), (fa34_2 S.p), (fa34_3 S.p), (fa34_4 S.p), iaddr_sl (un131 S.p) (sz116 S.p), part_sc (ag131 S.p), part_sc (ag3 S.p), part_sc (ag32 S.p), store_last (sz3 S.p), (sz3 S.p), hp, hm, e2, e3, e4, r0, r2, bneI_t, bneI_f, bne_self_eq_false, beqI_t, beqI_f, idx_ok, cells_self, cells_other, Int.toNat_natCast, Nat.zero_add, Nat.add_zero]
        exact Ends.some (Tr.some M1 F1)
    · rw [if_neg (fun q => ca q.1)]
      simp (maxSteps := 1000000) (disch := first | omega | (simp (disch := first | omega | (simp only [EvV.len, MonV.len, List.length_append, List.length_cons, List.length_nil, List.length_set]; first | done | omega)) only [EvV.len, MonV.len, amSide, Int.reduceToNat, Nat.reducePow, Nat.reduceMul]; first | done | omega)) only  [↓amPre, amPost, ↓s_lit', Nat.reduceAdd, Nat.reduceSub, List.replicate, retA, resultsA, resultA, toC, toCL, Nat.reduceEqDiff, (fa116_0 S.p), (fa116_2 S.p), (fa133_1 S.p), (fa34_2 S.p), (fa34_3 S.p), (fa34_4 S.p), iaddr_sl (un131 S.p) (sz116 S.p), part_sc (ag131 S.p), part_sc (ag3 S.p), part_sc (ag32 S.p), store_last (sz3 S.p), (sz3 S.p), hp, hm, e2, e3, e4, r0, r2, bneI_t, bneI_f, bne_self_eq_false, beqI_t, beqI_f, idx_ok, cells_self, cells_other, Int.toNat_natCast, Nat.zero_add, Nat.add_zero]
      exact Ends.some (Tr.none M1 F1)
  · rw [if_neg c11]
    by_cases c0 : e.e = 0
    · by_cases ca : 1 ≤ e.a ∧ e.a ≤ 2147483647
      · have hD := decide_eq_true ca
        by_cases ch : o.hsh = 0
        · rw [if_neg (fun q => q.elim (fun q => q c0) (fun q => q.elim (fun q => q ca) (fun q => q.1 ch)))]
          have st1 := M.store (sz3 S.p) hx hlk 2 (by omega) (.int .i64 e.a) ⟨o.own, o.cnt, e.a⟩ rfl
          have N1 := (M.setM ob ⟨o.own, o.cnt, e.a⟩).ext ((Ext1.refl _).push (.rw 34 e.cells))
          simp (maxSteps := 1000000) (disch := first | omega | (simp (disch := first | omega | (simp only [EvV.len, MonV.len, List.length_append, List.length_cons, List.length_nil, List.length_set]; first | done | omega)) only [EvV.len, MonV.len, amSide, Int.reduceToNat, Nat.reducePow, Nat.reduceMul]; first | done | omega)) only  [↓amPre, amPost, ↓s_lit', Nat.reduceAdd, Nat.reduceSub, List.replicate, retA, resultsA, resultA, toC, toCL, Nat.reduceEqDiff, (fa116_0 S.p), (fa116_2 S.p), (fa133_1 S.p), (fa34_2 S.p), (fa34_3 S.p), (fa34_4 S.p), iaddr_sl (un131 S.p) (sz116 S.p), part_sc (ag131 S.p), part_sc (ag3 S.p), part_sc (ag32 S.p), store_last (sz3 S.p), (sz3 S.p), hp, hm, e2, e3, e4, r0, r2, f74, hD, st1, store_skip, bneI_t, bneI_f, bne_self_eq_false, beqI_t, beqI_f, idx_ok, cells_self, cells_other, Int.toNat_natCast, Nat.zero_add, Nat.add_zero]
          exact Ends.some (Tr.some N1 (((Fr.refl bm bf bw bl h).set _ (.inl rfl)).push _))
        · by_cases ch2 : o.hsh = e.a
          · rw [if_neg (fun q => q.elim (fun q => q c0) (fun q => q.elim (fun q => q ca) (fun q => q.2 ch2)))]
            have st1 := M.store (sz3 S.p) hx hlk 2 (by omega) (.int .i64 e.a) ⟨o.own, o.cnt, e.a⟩ rfl
            have N1 := (M.setM ob ⟨o.own, o.cnt, e.a⟩).ext ((Ext1.refl _).push (.rw 34 e.cells))
            simp (maxSteps := 1000000) (disch := first | omega | (simp (disch := first | omega | (simp only [EvV.len, MonV.len, List.length_append, List.length_cons, List.length_nil, List.length_set]; first | done | omega)) only [EvV.len, MonV.len, amSide, Int.reduceToNat, Nat.reducePow, Nat.reduceMul]; first | done | omega)) only  [↓amPre, amPost, ↓s_lit', Nat.reduceAdd, Nat.reduceSub, List.replicate, retA, resultsA, resultA, toC, toCL, Nat.reduceEqDiff, (fa116_0 S.p), (fa116_2 S.p), (fa133_1 S.p), (fa34_2 S.p), (fa34_3 S.p), (fa34_4 S.p), iaddr_sl (un131 S.p) (sz116 S.p), part_sc (ag131 S.p), part_sc (ag3 S.p), part_sc (ag32 S.p), store_last (sz3 S.p), (sz3 S.p), hp, hm, e2, e3, e4, r0, r2, f74, hD, st1, store_skip, bneI_t, bneI_f, bne_self_eq_false, beqI_t, beqI_f, idx_ok, cells_self, cells_other, Int.toNat_natCast, Nat.zero_add, Nat.add_zero]
            exact Ends.some (Tr.some N1 (((Fr.refl bm bf bw bl h).set _ (.inl rfl)).push _))
          · rw [if_pos (Or.inr (Or.inr ⟨ch, ch2⟩))]
            simp (maxSteps := 1000000) (disch := first | omega | (simp (disch := first | omega | (simp only [EvV.len, MonV.len, List.length_append, List.length_cons, List.length_nil, List.length_set]; first | done | omega)) only [EvV.len, MonV.len, amSide, Int.reduceToNat, Nat.reducePow, Nat.reduceMul]; first | done | omega)) only  [↓amPre, amPost, ↓s_lit', Nat.reduceAdd, Nat.reduceSub, List.replicate, retA, resultsA, resultA, toC, toCL, Nat.reduceEqDiff, (fa116_0 S.p), (fa116_2 S.p), (fa133_1 S.p), (fa34_2 S.p), (fa34_3 S.p), (fa34_4 S.p), iaddr_sl (un131 S.p) (sz116 S.p), part_sc (ag131 S.p), part_sc (ag3 S.p), part_sc (ag32 S.p), store_last (sz3 S.p), (sz3 S.p), hp, hm, e2, e3, e4, r0, r2, f74, hD, bneI_t, bneI_f, bne_self_eq_false, beqI_t, beqI_f, idx_ok, cells_self, cells_other, Int.toNat_natCast, Nat.zero_add, Nat.add_zero]
            exact Ends.some (Tr.none M1 F1)
      · have hD := decide_eq_false ca
        rw [if_pos (Or.inr (Or.inl ca))]
        simp (maxSteps := 1000000) (disch := first | omega | (simp (disch := first | omega | (simp only [EvV.len, MonV.len, List.length_append, List.length_cons, List.length_nil, List.length_set]; first | done | omega)) only [EvV.len, MonV.len, amSide, Int.reduceToNat, Nat.reducePow, Nat.reduceMul]; first | done | omega)) only  [↓amPre, amPost, ↓s_lit', Nat.reduceAdd, Nat.reduceSub, List.replicate, retA, resultsA, resultA, toC, toCL, Nat.reduceEqDiff, (fa116_0 S.p), (fa116_2 S.p), (fa133_1 S.p), (fa34_2 S.p), (fa34_3 S.p), (fa34_4 S.p), iaddr_sl (un131 S.p) (sz116 S.p), part_sc (ag131 S.p), part_sc (ag3 S.p), part_sc (ag32 S.p), store_last (sz3 S.p), (sz3 S.p), hp, hm, e2, e3, e4, r0, r2, f74, hD, bneI_t, bneI_f, bne_self_eq_false, beqI_t, beqI_f, idx_ok, cells_self, cells_other, Int.toNat_natCast, Nat.zero_add, Nat.add_zero]
        exact Ends.some (Tr.none M1 F1)
    · rw [if_pos (Or.inl c0)]
      simp (maxSteps := 1000000) (disch := first | omega | (simp (disch := first | omega | (simp only [EvV.len, MonV.len, List.length_append, List.length_cons, List.length_nil, List.length_set]; first | done | omega)) only [EvV.len, MonV.len, amSide, Int.reduceToNat, Nat.reducePow, Nat.reduceMul]; first | done | omega)) only  [↓amPre, amPost, ↓s_lit', Nat.reduceAdd, Nat.reduceSub, List.replicate, retA, resultsA, resultA, toC, toCL, Nat.reduceEqDiff, (fa116_0 S.p), (fa116_2 S.p), (fa133_1 S.p), (fa34_2 S.p), (fa34_3 S.p), (fa34_4 S.p), iaddr_sl (un131 S.p) (sz116 S.p), part_sc (ag131 S.p), part_sc (ag3 S.p), part_sc (ag32 S.p), store_last (sz3 S.p), (sz3 S.p), hp, hm, e2, e3, e4, r0, r2, f74, bneI_t, bneI_f, bne_self_eq_false, beqI_t, beqI_f, idx_ok, cells_self, cells_other, Int.toNat_natCast, Nat.zero_add, Nat.add_zero]
      exact Ends.some (Tr.none M1 F1)
end
end Go.AM
/- Monitors' model: what is written: Wake, Notify and All; a transition. Conditions: none. -/
set_option linter.unusedVariables false
set_option linter.unusedSimpArgs false
set_option maxRecDepth 100000
namespace Go.AM
open Go.Proofs
-- LENS: EvV.len, MonV.len
section
variable {P : Program} {T : Tab} {K d : Nat} (S : Sd P T K)
include S
omit S in
theorem Tr.from {p bm bf bw bl : Nat} {h h1 : List AO} {V : MdV} {X : Option MdV} (F : Fr bm bf bw bl h h1) {v : AV} {h2 : List AO} (H : Tr p bm bf bw bl h1 V X v h2) : Tr p bm bf bw bl h V X v h2 := ⟨H.1, H.2.1, F.trans H.2.2⟩
set_option maxHeartbeats 4000000 in
theorem s76 (hd : 3 ≤ d) {p bm bf bw bl : Nat} {V : MdV} {h : List AO} (M : MdAt h p bm bf bw bl V) (H : MdOk V) (e : EvV) {ob : Nat} {o : MonV} (ho : e.o = (ob : Int)) (hx : V.mons[ob]? = some o) (lk : Nat) (hlk : lk ≤ bw ∧ lk ≤ bl) :
    Ends (Tr p bm bf bw bl h V (tellV V e o)) (ev P T K d 76 [.sc (.ptr p 0), .ag e.cells] lk h) := by
  obtain ⟨d, rfl⟩ : ∃ k, d = k + 1 := ⟨d - 1, by omega⟩
  rw [ev_run (at76 S.t)]
  unfold i76 Try.f76
  have hn8 := H.n
  have M1 := M.ext ((Ext1.refl h).push (.rw 34 e.cells))
  have F1 := (Fr.refl bm bf bw bl h).push (.rw 34 e.cells)
  obtain ⟨l1, l2, l3, l4, l5⟩ := M.lts
  have e0 := e.c0
  have e1 := e.c1
  have e2 := e.c2
  have e3 := e.c3
  have e4 := e.c4
  have hpe := partE S e
  have f133 := fun lk => s85 S (show 1 ≤ d by omega) M1 e ho hx lk
  obtain ⟨v, h2, e48, x2, q, rfl, hq⟩ := s86 S (show 2 ≤ d by omega) M1 H e.o lk
  have hlen := own_lenM (un81 S.p) hq
  rw [List.length_map, sortL_len] at hlen
  have M2 := M1.ext x2
  have F2 := F1.trans (Fr.of_ext x2)
  have hxl := x2.len
  have hbx : cellsAt h2 h.length = some e.cells := by rw [x2.cells (by simp)]; exact cells_self _ _ _ rfl
  have f96 := fun lk => s69 S (show 2 ≤ d by omega) M2 (by omega) e.a lk
  obtain ⟨v3, h3, e110, M3⟩ := s74 S (show 1 ≤ d by omega) M2 (e.o, e.a) 0 lk hlk
  unfold pk at e110
  simp only at e110
  have hth : (((thrV V.waits e.o).length : Int) == 0) = decide (thrV V.waits e.o = []) := by
    cases thrV V.waits e.o with
    | nil => rfl
    | cons a l => rw [decide_eq_false (by simp)]; simp; omega
  unfold tellV
  by_cases k7 : e.k = 7
  · rw [if_pos k7]
    by_cases c0 : e.e = 0
    · by_cases co : o.own = e.t
      · have hqo : (o.own == e.t) = true := by simpa using co
        rw [hqo] at f133
        rw [if_pos ⟨c0, co⟩]
        obtain ⟨rfl, M3a, M3b⟩ := M3
        simp (maxSteps := 1000000) (disch := first | omega | (simp (disch := first | omega | (simp only [EvV.len, MonV.len, List.length_append, List.length_cons, List.length_nil, List.length_set]; first | done | omega)) only [EvV.len, MonV.len, amSide, Int.reduceToNat, Nat.reducePow, Nat.reduceMul]; first | done | omega)) only  [↓amPre, amPost, ↓s_lit', Nat.reduceAdd, Nat.reduceSub, List.replicate, retA, resultsA, resultA, toC, toCL, Nat.reduceEqDiff, (bu138 S.p), (fa34_0 S.p), (fa34_2 S.p), (fa34_3 S.p), (fa34_4 S.p), len_sl (un81 S.p), len_nils (un81 S.p), part_sc (ag3 S.p), part_sc (ag32 S.p), part_all (ag34 S.p) (sz34 S.p), part_at (ag34 S.p) (sz34 S.p), e0, e1, e2, e3, e4, hpe, hbx, f133, e48, hlen, hth, e110, bneI_t, bneI_f, bne_self_eq_false, beqI_t, beqI_f, cells_self, cells_other, Int.toNat_natCast, Nat.zero_add, Nat.add_zero]
        exact Ends.some (Tr.from F2 ⟨rfl, M3a, M3b⟩)
      · have hqo : (o.own == e.t) = false := by simpa using co
        rw [hqo] at f133
        rw [if_neg (fun q => co q.2)]
        simp (maxSteps := 1000000) (disch := first | omega | (simp (disch := first | omega | (simp only [EvV.len, MonV.len, List.length_append, List.length_cons, List.length_nil, List.length_set]; first | done | omega)) only [EvV.len, MonV.len, amSide, Int.reduceToNat, Nat.reducePow, Nat.reduceMul]; first | done | omega)) only  [↓amPre, amPost, ↓s_lit', Nat.reduceAdd, Nat.reduceSub, List.replicate, retA, resultsA, resultA, toC, toCL, Nat.reduceEqDiff, (bu138 S.p), (fa34_0 S.p), (fa34_2 S.p), (fa34_3 S.p), (fa34_4 S.p), len_sl (un81 S.p), len_nils (un81 S.p), part_sc (ag3 S.p), part_sc (ag32 S.p), part_all (ag34 S.p) (sz34 S.p), part_at (ag34 S.p) (sz34 S.p), e0, e1, e2, e3, e4, hpe, hbx, f133, e48, hlen, hth, bneI_t, bneI_f, bne_self_eq_false, beqI_t, beqI_f, cells_self, cells_other, Int.toNat_natCast, Nat.zero_add, Nat.add_zero]
        exact Ends.some (Tr.none M2 F2)
    · rw [if_neg (fun q => c0 q.1)]
      simp (maxSteps := 1000000) (disch := first | omega | (simp (disch := first | omega | (simp only [EvV.len, MonV.len, List.length_append, List.length_cons, List.length_nil, List.length_set]; first | done | omega)) only [EvV.len, MonV.len, amSide, Int.reduceToNat, Nat.reducePow, Nat.reduceMul]; first | done | omega)) only  [↓amPre, amPost, ↓s_lit', Nat.reduceAdd, Nat.reduceSub, List.replicate, retA, resultsA, resultA, toC, toCL, Nat.reduceEqDiff, (bu138 S.p), (fa34_0 S.p), (fa34_2 S.p), (fa34_3 S.p), (fa34_4 S.p), len_sl (un81 S.p), len_nils (un81 S.p), part_sc (ag3 S.p), part_sc (ag32 S.p), part_all (ag34 S.p) (sz34 S.p), part_at (ag34 S.p) (sz34 S.p), e0, e1, e2, e3, e4, hpe, hbx, f133, e48, hlen, hth, bneI_t, bneI_f, bne_self_eq_false, beqI_t, beqI_f, cells_self, cells_other, Int.toNat_natCast, Nat.zero_add, Nat.add_zero]
      exact Ends.some (Tr.none M2 F2)
  · rw [if_neg k7]
    clear e110 M3
    by_cases c9 : e.e = 9
    · rw [if_pos c9]
      by_cases co : o.own = e.t
      · have hqo : (o.own == e.t) = true := by simpa using co
        rw [hqo] at f133
        rw [if_neg (fun q => q.1 co)]
        simp (maxSteps := 1000000) (disch := first | omega | (simp (disch := first | omega | (simp only [EvV.len, MonV.len, List.length_append, List.length_cons, List.length_nil, List.length_set]; first | done | omega)) only [EvV.len, MonV.len, amSide, Int.reduceToNat, Nat.reducePow, Nat.reduceMul]; first | done | omega)) only  [↓amPre, amPost, ↓s_lit', Nat.reduceAdd, Nat.reduceSub, List.replicate, retA, resultsA, resultA, toC, toCL, Nat.reduceEqDiff, (bu138 S.p), (fa34_0 S.p), (fa34_2 S.p), (fa34_3 S.p), (fa34_4 S.p), len_sl (un81 S.p), len_nils (un81 S.p), part_sc (ag3 S.p), part_sc (ag32 S.p), part_all (ag34 S.p) (sz34 S.p), part_at (ag34 S.p) (sz34 S.p), e0, e1, e2, e3, e4, hpe, hbx, f133, e48, hlen, hth, bneI_t, bneI_f, bne_self_eq_false, beqI_t, beqI_f, cells_self, cells_other, Int.toNat_natCast, Nat.zero_add, Nat.add_zero]
        exact Ends.some (Tr.none M2 F2)
      · have hqo : (o.own == e.t) = false := by simpa using co
        rw [hqo] at f133
        by_cases k9 : e.k = 9
        · by_cases a0 : e.a = 0
          · rw [if_pos ⟨co, Or.inl ⟨k9, a0⟩⟩]
            simp (maxSteps := 1000000) (disch := first | omega | (simp (disch := first | omega | (simp only [EvV.len, MonV.len, List.length_append, List.length_cons, List.length_nil, List.length_set]; first | done | omega)) only [EvV.len, MonV.len, amSide, Int.reduceToNat, Nat.reducePow, Nat.reduceMul]; first | done | omega)) only  [↓amPre, amPost, ↓s_lit', Nat.reduceAdd, Nat.reduceSub, List.replicate, retA, resultsA, resultA, toC, toCL, Nat.reduceEqDiff, (bu138 S.p), (fa34_0 S.p), (fa34_2 S.p), (fa34_3 S.p), (fa34_4 S.p), len_sl (un81 S.p), len_nils (un81 S.p), part_sc (ag3 S.p), part_sc (ag32 S.p), part_all (ag34 S.p) (sz34 S.p), part_at (ag34 S.p) (sz34 S.p), e0, e1, e2, e3, e4, hpe, hbx, f133, e48, hlen, hth, bneI_t, bneI_f, bne_self_eq_false, beqI_t, beqI_f, cells_self, cells_other, Int.toNat_natCast, Nat.zero_add, Nat.add_zero]
            exact Ends.some (Tr.some M2 F2)
          · rw [if_neg (fun q => q.2.elim (fun q => a0 q.2) (fun q => by have := q.1; omega))]
            simp (maxSteps := 1000000) (disch := first | omega | (simp (disch := first | omega | (simp only [EvV.len, MonV.len, List.length_append, List.length_cons, List.length_nil, List.length_set]; first | done | omega)) only [EvV.len, MonV.len, amSide, Int.reduceToNat, Nat.reducePow, Nat.reduceMul]; first | done | omega)) only  [↓amPre, amPost, ↓s_lit', Nat.reduceAdd, Nat.reduceSub, List.replicate, retA, resultsA, resultA, toC, toCL, Nat.reduceEqDiff, (bu138 S.p), (fa34_0 S.p), (fa34_2 S.p), (fa34_3 S.p), (fa34_4 S.p), len_sl (un81 S.p), len_nils (un81 S.p), part_sc (ag3 S.p), part_sc (ag32 S.p), part_all (ag34 S.p) (sz34 S.p), part_at (ag34 S.p) (sz34 S.p), e0, e1, e2, e3, e4, hpe, hbx, f133, e48, hlen, hth, bneI_t, bneI_f, bne_self_eq_false, beqI_t, beqI_f, cells_self, cells_other, Int.toNat_natCast, Nat.zero_add, Nat.add_zero]
            exact Ends.some (Tr.none M2 F2)
        · by_cases k8 : e.k = 8
          · by_cases a1 : e.a = -1
            · rw [if_pos ⟨co, Or.inr ⟨k8, a1⟩⟩]
              simp (maxSteps := 1000000) (disch := first | omega | (simp (disch := first | omega | (simp only [EvV.len, MonV.len, List.length_append, List.length_cons, List.length_nil, List.length_set]; first | done | omega)) only [EvV.len, MonV.len, amSide, Int.reduceToNat, Nat.reducePow, Nat.reduceMul]; first | done | omega)) only  [↓amPre, amPost, ↓s_lit', Nat.reduceAdd, Nat.reduceSub, List.replicate, retA, resultsA, resultA, toC, toCL, Nat.reduceEqDiff, (bu138 S.p), (fa34_0 S.p), (fa34_2 S.p), (fa34_3 S.p), (fa34_4 S.p), len_sl (un81 S.p), len_nils (un81 S.p), part_sc (ag3 S.p), part_sc (ag32 S.p), part_all (ag34 S.p) (sz34 S.p), part_at (ag34 S.p) (sz34 S.p), e0, e1, e2, e3, e4, hpe, hbx, f133, e48, hlen, hth, bneI_t, bneI_f, bne_self_eq_false, beqI_t, beqI_f, cells_self, cells_other, Int.toNat_natCast, Nat.zero_add, Nat.add_zero]
              exact Ends.some (Tr.some M2 F2)
            · rw [if_neg (fun q => q.2.elim (fun q => k9 q.1) (fun q => a1 q.2))]
              simp (maxSteps := 1000000) (disch := first | omega | (simp (disch := first | omega | (simp only [EvV.len, MonV.len, List.length_append, List.length_cons, List.length_nil, List.length_set]; first | done | omega)) only [EvV.len, MonV.len, amSide, Int.reduceToNat, Nat.reducePow, Nat.reduceMul]; first | done | omega)) only  [↓amPre, amPost, ↓s_lit', Nat.reduceAdd, Nat.reduceSub, List.replicate, retA, resultsA, resultA, toC, toCL, Nat.reduceEqDiff, (bu138 S.p), (fa34_0 S.p), (fa34_2 S.p), (fa34_3 S.p), (fa34_4 S.p), len_sl (un81 S.p), len_nils (un81 S.p), part_sc (ag3 S.p), part_sc (ag32 S.p), part_all (ag34 S.p) (sz34 S.p), part_at (ag34 S.p) (sz34 S.p), e0, e1, e2, e3, e4, hpe, hbx, f133, e48, hlen, hth, bneI_t, bneI_f, bne_self_eq_false, beqI_t, beqI_f, cells_self, cells_other, Int.toNat_natCast, Nat.zero_add, Nat.add_zero]
              exact Ends.some (Tr.none M2 F2)
          · rw [if_neg (fun q => q.2.elim (fun q => k9 q.1) (fun q => k8 q.1))]
            simp (maxSteps := 1000000) (disch := first | omega | (simp (disch := first | omega | (simp only [EvV.len, MonV.len, List.length_append, List.length_cons, List.length_nil, List.length_set]; first | done | omega)) only [EvV.len, MonV.len, amSide, Int.reduceToNat, Nat.reducePow, Nat.reduceMul]; first | done | omega)) only  [↓amPre, amPost, ↓s_lit', Nat.reduceAdd, Nat.reduceSub, List.replicate, retA, resultsA, resultA, toC, toCL, Nat.reduceEqDiff, (bu138 S.p), (fa34_0 S.p), (fa34_2 S.p), (fa34_3 S.p), (fa34_4 S.p), len_sl (un81 S.p), len_nils (un81 S.p), part_sc (ag3 S.p), part_sc (ag32 S.p), part_all (ag34 S.p) (sz34 S.p), part_at (ag34 S.p) (sz34 S.p), e0, e1, e2, e3, e4, hpe, hbx, f133, e48, hlen, hth, bneI_t, bneI_f, bne_self_eq_false, beqI_t, beqI_f, cells_self, cells_other, Int.toNat_natCast, Nat.zero_add, Nat.add_zero]
            exact Ends.some (Tr.none M2 F2)
    · rw [if_neg c9]
      by_cases c0 : e.e = 0
      · by_cases co : o.own = e.t
        · have hqo : (o.own == e.t) = true := by simpa using co
          rw [hqo] at f133
          rw [if_neg (fun q => q.elim (fun q => q c0) (fun q => q co))]
          by_cases k9 : e.k = 9
          · rw [if_pos k9]
            by_cases a0 : e.a = 0
            · by_cases cn : thrV V.waits e.o = []
              · rw [if_pos ⟨a0, cn⟩]
                rw [decide_eq_true cn] at hth
                simp (maxSteps := 1000000) (disch := first | omega | (simp (disch := first | omega | (simp only [EvV.len, MonV.len, List.length_append, List.length_cons, List.length_nil, List.length_set]; first | done | omega)) only [EvV.len, MonV.len, amSide, Int.reduceToNat, Nat.reducePow, Nat.reduceMul]; first | done | omega)) only  [↓amPre, amPost, ↓s_lit', Nat.reduceAdd, Nat.reduceSub, List.replicate, retA, resultsA, resultA, toC, toCL, Nat.reduceEqDiff, (bu138 S.p), (fa34_0 S.p), (fa34_2 S.p), (fa34_3 S.p), (fa34_4 S.p), len_sl (un81 S.p), len_nils (un81 S.p), part_sc (ag3 S.p), part_sc (ag32 S.p), part_all (ag34 S.p) (sz34 S.p), part_at (ag34 S.p) (sz34 S.p), e0, e1, e2, e3, e4, hpe, hbx, f133, e48, hlen, hth, bneI_t, bneI_f, bne_self_eq_false, beqI_t, beqI_f, cells_self, cells_other, Int.toNat_natCast, Nat.zero_add, Nat.add_zero]
                exact Ends.some (Tr.some M2 F2)
              · rw [if_neg (fun q => cn q.2)]
                rw [decide_eq_false cn] at hth
                simp (maxSteps := 1000000) (disch := first | omega | (simp (disch := first | omega | (simp only [EvV.len, MonV.len, List.length_append, List.length_cons, List.length_nil, List.length_set]; first | done | omega)) only [EvV.len, MonV.len, amSide, Int.reduceToNat, Nat.reducePow, Nat.reduceMul]; first | done | omega)) only  [↓amPre, amPost, ↓s_lit', Nat.reduceAdd, Nat.reduceSub, List.replicate, retA, resultsA, resultA, toC, toCL, Nat.reduceEqDiff, (bu138 S.p), (fa34_0 S.p), (fa34_2 S.p), (fa34_3 S.p), (fa34_4 S.p), len_sl (un81 S.p), len_nils (un81 S.p), part_sc (ag3 S.p), part_sc (ag32 S.p), part_all (ag34 S.p) (sz34 S.p), part_at (ag34 S.p) (sz34 S.p), e0, e1, e2, e3, e4, hpe, hbx, f133, e48, hlen, hth, bneI_t, bneI_f, bne_self_eq_false, beqI_t, beqI_f, cells_self, cells_other, Int.toNat_natCast, Nat.zero_add, Nat.add_zero]
                exact Ends.some (Tr.none M2 F2)
            · rw [if_neg (fun q => a0 q.1)]
              simp (maxSteps := 1000000) (disch := first | omega | (simp (disch := first | omega | (simp only [EvV.len, MonV.len, List.length_append, List.length_cons, List.length_nil, List.length_set]; first | done | omega)) only [EvV.len, MonV.len, amSide, Int.reduceToNat, Nat.reducePow, Nat.reduceMul]; first | done | omega)) only  [↓amPre, amPost, ↓s_lit', Nat.reduceAdd, Nat.reduceSub, List.replicate, retA, resultsA, resultA, toC, toCL, Nat.reduceEqDiff, (bu138 S.p), (fa34_0 S.p), (fa34_2 S.p), (fa34_3 S.p), (fa34_4 S.p), len_sl (un81 S.p), len_nils (un81 S.p), part_sc (ag3 S.p), part_sc (ag32 S.p), part_all (ag34 S.p) (sz34 S.p), part_at (ag34 S.p) (sz34 S.p), e0, e1, e2, e3, e4, hpe, hbx, f133, e48, hlen, hth, bneI_t, bneI_f, bne_self_eq_false, beqI_t, beqI_f, cells_self, cells_other, Int.toNat_natCast, Nat.zero_add, Nat.add_zero]
              exact Ends.some (Tr.none M2 F2)
          · rw [if_neg k9]
            by_cases ca : 0 ≤ e.a ∧ e.a < V.flags.length
            · rw [if_pos (Or.inl ca)]
              rw [decide_eq_true ca] at f96
              simp (maxSteps := 1000000) (disch := first | omega | (simp (disch := first | omega | (simp only [EvV.len, MonV.len, List.length_append, List.length_cons, List.length_nil, List.length_set]; first | done | omega)) only [EvV.len, MonV.len, amSide, Int.reduceToNat, Nat.reducePow, Nat.reduceMul]; first | done | omega)) only  [↓amPre, amPost, ↓s_lit', Nat.reduceAdd, Nat.reduceSub, List.replicate, retA, resultsA, resultA, toC, toCL, Nat.reduceEqDiff, (bu138 S.p), (fa34_0 S.p), (fa34_2 S.p), (fa34_3 S.p), (fa34_4 S.p), len_sl (un81 S.p), len_nils (un81 S.p), part_sc (ag3 S.p), part_sc (ag32 S.p), part_all (ag34 S.p) (sz34 S.p), part_at (ag34 S.p) (sz34 S.p), e0, e1, e2, e3, e4, hpe, hbx, f133, f96, e48, hlen, hth, bneI_t, bneI_f, bne_self_eq_false, beqI_t, beqI_f, cells_self, cells_other, Int.toNat_natCast, Nat.zero_add, Nat.add_zero]
              exact Ends.some (Tr.some M2 F2)
            · rw [decide_eq_false ca] at f96
              by_cases a1 : e.a = -1
              · by_cases cn : thrV V.waits e.o = []
                · rw [if_pos (Or.inr ⟨a1, cn⟩)]
                  rw [decide_eq_true cn] at hth
                  simp (maxSteps := 1000000) (disch := first | omega | (simp (disch := first | omega | (simp only [EvV.len, MonV.len, List.length_append, List.length_cons, List.length_nil, List.length_set]; first | done | omega)) only [EvV.len, MonV.len, amSide, Int.reduceToNat, Nat.reducePow, Nat.reduceMul]; first | done | omega)) only  [↓amPre, amPost, ↓s_lit', Nat.reduceAdd, Nat.reduceSub, List.replicate, retA, resultsA, resultA, toC, toCL, Nat.reduceEqDiff, (bu138 S.p), (fa34_0 S.p), (fa34_2 S.p), (fa34_3 S.p), (fa34_4 S.p), len_sl (un81 S.p), len_nils (un81 S.p), part_sc (ag3 S.p), part_sc (ag32 S.p), part_all (ag34 S.p) (sz34 S.p), part_at (ag34 S.p) (sz34 S.p), e0, e1, e2, e3, e4, hpe, hbx, f133, f96, e48, hlen, hth, bneI_t, bneI_f, bne_self_eq_false, beqI_t, beqI_f, cells_self, cells_other, Int.toNat_natCast, Nat.zero_add, Nat.add_zero]
                  exact Ends.some (Tr.some M2 F2)
                · rw [if_neg (fun q => q.elim (fun q => ca q) (fun q => cn q.2))]
                  rw [decide_eq_false cn] at hth
                  simp (maxSteps := 1000000) (disch := first | omega | (simp (disch := first | omega | (simp only [EvV.len, MonV.len, List.length_append, List.length_cons, List.length_nil, List.length_set]; first | done | omega)) only [EvV.len, MonV.len, amSide, Int.reduceToNat, Nat.reducePow, Nat.reduceMul]; first | done | omega)) only  [↓amPre, amPost, ↓s_lit', Nat.reduceAdd, Nat.reduceSub, List.replicate, retA, resultsA, resultA, toC, toCL, Nat.reduceEqDiff, (bu138 S.p), (fa34_0 S.p), (fa34_2 S.p), (fa34_3 S.p), (fa34_4 S.p), len_sl (un81 S.p), len_nils (un81 S.p), part_sc (ag3 S.p), part_sc (ag32 S.p), part_all (ag34 S.p) (sz34 S.p), part_at (ag34 S.p) (sz34 S.p), e0, e1, e2, e3, e4, hpe, hbx, f133, f96, e48, hlen, hth, bneI_t, bneI_f, bne_self_eq_false, beqI_t, beqI_f, cells_self, cells_other, Int.toNat_natCast, Nat.zero_add, Nat.add_zero]
                  exact Ends.some (Tr.none M2 F2)
              · rw [if_neg (fun q => q.elim (fun q => ca q) (fun q => a1 q.1))]
                simp (maxSteps := 1000000) (disch := first | omega | (simp (disch := first | omega | (simp only [EvV.len, MonV.len, List.length_append, List.length_cons, List.length_nil, List.length_set]; first | done | omega)) only [EvV.len, MonV.len, amSide, Int.reduceToNat, Nat.reducePow, Nat.reduceMul]; first | done | omega)) only  [↓amPre, amPost, ↓s_lit', Nat.reduceAdd, Nat.reduceSub, List.replicate, retA, resultsA, resultA, toC, toCL, Nat.reduceEqDiff, (bu138 S.p), (fa34_0 S.p), (fa34_2 S.p), (fa34_3 S.p), (fa34_4 S.p), len_sl (un81 S.p), len_nils (un81 S.p), part_sc (ag3 S.p), part_sc (ag32 S.p), part_all (ag34 S.p) (sz34 S.p), part_at (ag34 S.p) (sz34 S.p), e0, e1, e2, e3, e4, hpe, hbx, f133, f96, e48, hlen, hth, bneI_t, bneI_f, bne_self_eq_false, beqI_t, beqI_f, cells_self, cells_other, Int.toNat_natCast, Nat.zero_add, Nat.add_zero]
                exact Ends.some (Tr.none M2 F2)
        · have hqo : (o.own == e.t) = false := by simpa using co
          rw [hqo] at f133
          rw [if_pos (Or.inr co)]
          simp (maxSteps := 1000000) (disch := first | omega | (simp (disch := first | omega | (simp only [EvV.len, MonV.len, List.length_append, List.length_cons, List.length_nil, List.length_set]; first | done | omega)) only [EvV.len, MonV.len, amSide, Int.reduceToNat, Nat.reducePow, Nat.reduceMul]; first | done | omega)) only  [↓amPre, amPost, ↓s_lit', Nat.reduceAdd, Nat.reduceSub, List.replicate, retA, resultsA, resultA, toC, toCL, Nat.reduceEqDiff, (bu138 S.p), (fa34_0 S.p), (fa34_2 S.p), (fa34_3 S.p), (fa34_4 S.p), len_sl (un81 S.p), len_nils (un81 S.p), part_sc (ag3 S.p), part_sc (ag32 S.p), part_all (ag34 S.p) (sz34 S.p), part_at (ag34 S.p) (sz34 S.p), e0, e1, e2, e3, e4, hpe, hbx, f133, e48, hlen, hth, bneI_t, bneI_f, bne_self_eq_false, beqI_t, beqI_f, cells_self, cells_other, Int.toNat_natCast, Nat.zero_add, Nat.add_zero]
          exact Ends.some (Tr.none M2 F2)
      · rw [if_pos (Or.inl c0)]
        simp (maxSteps := 1000000) (disch := first | omega | (simp (disch := first | omega | (simp only [EvV.len, MonV.len, List.length_append, List.length_cons, List.length_nil, List.length_set]; first | done | omega)) only [EvV.len, MonV.len, amSide, Int.reduceToNat, Nat.reducePow, Nat.reduceMul]; first | done | omega)) only  [↓amPre, amPost, ↓s_lit', Nat.reduceAdd, Nat.reduceSub, List.replicate, retA, resultsA, resultA, toC, toCL, Nat.reduceEqDiff, (bu138 S.p), (fa34_0 S.p), (fa34_2 S.p), (fa34_3 S.p), (fa34_4 S.p), len_sl (un81 S.p), len_nils (un81 S.p), part_sc (ag3 S.p), part_sc (ag32 S.p), part_all (ag34 S.p) (sz34 S.p), part_at (ag34 S.p) (sz34 S.p), e0, e1, e2, e3, e4, hpe, hbx, f133, e48, hlen, hth, bneI_t, bneI_f, bne_self_eq_false, beqI_t, beqI_f, cells_self, cells_other, Int.toNat_natCast, Nat.zero_add, Nat.add_zero]
        exact Ends.some (Tr.none M2 F2)
end
end Go.AM
