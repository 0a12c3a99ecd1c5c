/- Monitors' model: what is written: Exit, Begin, and who leaves. Conditions: none. -/
import Derived.Test.YtgcgbcdgbfeaaaaMo3
set_option linter.unusedVariables false
set_option linter.unusedSimpArgs false
set_option maxRecDepth 100000
namespace Go.AM
open Go.Proofs
-- LENS: EvV.len, MonV.len
section
variable {P : Program} {T : Tab} {K d : Nat} (S : Sd P T K)
include S
set_option maxHeartbeats 2000000 in
theorem s108 (hd : 3 ≤ d) {p bm bf bw bl : Nat} {V : MdV} {h : List AO} (M : MdAt h p bm bf bw bl V) (e : EvV) {ob : Nat} {o : MonV} (ho : e.o = (ob : Int)) (hx : V.mons[ob]? = some o) (hc : -100 ≤ o.cnt ∧ o.cnt ≤ 100) (lk : Nat) (hlk : lk ≤ bm) :
    Ends (Tr p bm bf bw bl h V (exitV V e o)) (ev P T K d 108 [.sc (.ptr p 0), .ag e.cells] lk h) := by
  obtain ⟨d, rfl⟩ : ∃ k, d = k + 1 := ⟨d - 1, by omega⟩
  rw [ev_run (at108 S.t)]
  unfold i108 Try.f108
  have hto : e.o.toNat = ob := by rw [ho]; rfl
  have M1 := M.ext ((Ext1.refl h).push (.rw 101 e.cells))
  have F1 := (Fr.refl bm bf bw bl h).push (.rw 101 e.cells)
  have hp := M.cp
  have hm := M.cm
  obtain ⟨l1, l2, l3, l4, l5⟩ := M.lts
  have e2 := e.c2
  have e4 := e.c4
  rw [ho] at e2
  have hob := (List.getElem?_eq_some_iff.1 hx).1
  have r1 : (recs MonV.cells V.mons)[ob * 3 + 1]? = some (.int .i64 o.cnt) := by rw [recs_get MonV.len hx 1 (by omega)]; exact o.c1
  have hpe := partE S e
  have f133 := fun lk => s133 S (show 1 ≤ d by omega) M1 e ho hx lk
  unfold exitV
  by_cases c9 : e.e = 9
  · rw [if_pos c9]
    by_cases co : o.own = e.t
    · have hq : (o.own == e.t) = true := by simpa using co
      rw [hq] at f133
      rw [if_neg (fun q => q co)]
      simp (maxSteps := 1000000) (disch := first | omega | (simp (disch := first | omega | (simp only [EvV.len, MonV.len, List.length_append, List.length_cons, List.length_nil, List.length_set]; first | done | omega)) only [EvV.len, MonV.len, amSide, Int.reduceToNat, Nat.reducePow, Nat.reduceMul]; first | done | omega)) only  [↓amPre, amPost, ↓s_lit', Nat.reduceAdd, Nat.reduceSub, List.replicate, retA, resultsA, resultA, toC, toCL, Nat.reduceEqDiff, (fa101_2 S.p), (fa101_4 S.p), (fa126_1 S.p), (fa150_0 S.p), (fa150_1 S.p), iaddr_sl (un121 S.p) (sz150 S.p), part_all (ag101 S.p) (sz101 S.p), part_at (ag101 S.p) (sz101 S.p), part_sc (ag121 S.p), part_sc (ag3 S.p), part_sc (ag52 S.p), store_last (sz3 S.p), (sz3 S.p), hp, hm, e2, e4, r1, hpe, f133, beqI_t, beqI_f, idx_ok, cells_self, cells_other, Int.toNat_natCast, Nat.zero_add, Nat.add_zero]
      exact Ends.some (Tr.none M1 F1)
    · have hq : (o.own == e.t) = false := by simpa using co
      rw [hq] at f133
      rw [if_pos co]
      simp (maxSteps := 1000000) (disch := first | omega | (simp (disch := first | omega | (simp only [EvV.len, MonV.len, List.length_append, List.length_cons, List.length_nil, List.length_set]; first | done | omega)) only [EvV.len, MonV.len, amSide, Int.reduceToNat, Nat.reducePow, Nat.reduceMul]; first | done | omega)) only  [↓amPre, amPost, ↓s_lit', Nat.reduceAdd, Nat.reduceSub, List.replicate, retA, resultsA, resultA, toC, toCL, Nat.reduceEqDiff, (fa101_2 S.p), (fa101_4 S.p), (fa126_1 S.p), (fa150_0 S.p), (fa150_1 S.p), iaddr_sl (un121 S.p) (sz150 S.p), part_all (ag101 S.p) (sz101 S.p), part_at (ag101 S.p) (sz101 S.p), part_sc (ag121 S.p), part_sc (ag3 S.p), part_sc (ag52 S.p), store_last (sz3 S.p), (sz3 S.p), hp, hm, e2, e4, r1, hpe, f133, beqI_t, beqI_f, idx_ok, cells_self, cells_other, Int.toNat_natCast, Nat.zero_add, Nat.add_zero]
      exact Ends.some (Tr.some M1 F1)
  · rw [if_neg c9]
    by_cases c0 : e.e = 0
    · by_cases co : o.own = e.t
      · have hq : (o.own == e.t) = true := by simpa using co
        rw [hq] at f133
        rw [if_neg (fun q => q.elim (fun q => q c0) (fun q => q co)), hto]
        have st1 := M.store (sz3 S.p) hx hlk 1 (by omega) (.int .i64 (o.cnt - 1)) ⟨o.own, o.cnt - 1, o.hsh⟩ rfl
        have M2 := M.setM ob ⟨o.own, o.cnt - 1, o.hsh⟩
        have hx2 : (V.setM ob ⟨o.own, o.cnt - 1, o.hsh⟩).mons[ob]? = some ⟨o.own, o.cnt - 1, o.hsh⟩ := List.getElem?_set_self hob
        have hm2 := M2.cm
        have r2 : (recs MonV.cells (V.setM ob ⟨o.own, o.cnt - 1, o.hsh⟩).mons)[ob * 3 + 1]? = some (.int .i64 (o.cnt - 1)) := by rw [recs_get MonV.len hx2 1 (by omega)]; rfl
        have M2' := M2.ext ((Ext1.refl _).push (.rw 101 e.cells))
        have st2 := M2.store (sz3 S.p) hx2 hlk 0 (by omega) (.int .i64 (-1)) ⟨-1, o.cnt - 1, o.hsh⟩ rfl
        rw [Nat.add_zero] at st2
        have M3 := (M2.setM ob ⟨-1, o.cnt - 1, o.hsh⟩).ext ((Ext1.refl _).push (.rw 101 e.cells))
        have hV : (V.setM ob ⟨o.own, o.cnt - 1, o.hsh⟩).setM ob ⟨-1, o.cnt - 1, o.hsh⟩ = V.setM ob ⟨-1, o.cnt - 1, o.hsh⟩ := by simp [MdV.setM]
        rw [hV] at M3
        simp only [MdV.setM] at st2 hm2 r2 M3 M2'
        simp only [List.set_set] at st2 M3
        by_cases cz : o.cnt - 1 = 0
        · rw [if_pos cz]
          simp (maxSteps := 1000000) (disch := first | omega | (simp (disch := first | omega | (simp only [EvV.len, MonV.len, List.length_append, List.length_cons, List.length_nil, List.length_set]; first | done | omega)) only [EvV.len, MonV.len, amSide, Int.reduceToNat, Nat.reducePow, Nat.reduceMul]; first | done | omega)) only  [↓amPre, amPost, ↓s_lit', Nat.reduceAdd, Nat.reduceSub, List.replicate, retA, resultsA, resultA, toC, toCL, Nat.reduceEqDiff, (fa101_2 S.p), (fa101_4 S.p), (fa126_1 S.p), (fa150_0 S.p), (fa150_1 S.p), iaddr_sl (un121 S.p) (sz150 S.p), part_all (ag101 S.p) (sz101 S.p), part_at (ag101 S.p) (sz101 S.p), part_sc (ag121 S.p), part_sc (ag3 S.p), part_sc (ag52 S.p), store_last (sz3 S.p), (sz3 S.p), hp, hm, hm2, e2, e4, r1, r2, hpe, f133, st1, st2, store_skip, beqI_t, beqI_f, bneI_f, bne_self_eq_false, idx_ok, cells_self, cells_other, Int.toNat_natCast, Nat.zero_add, Nat.add_zero, wrap_i64]
          refine Ends.some (Tr.some ?_ ?_)
          · simp only [MdV.setM]; exact M3
          · exact ((Fr.refl bm bf bw bl h).set _ (.inl rfl)).push _
        · rw [if_neg cz]
          simp (maxSteps := 1000000) (disch := first | omega | (simp (disch := first | omega | (simp only [EvV.len, MonV.len, List.length_append, List.length_cons, List.length_nil, List.length_set]; first | done | omega)) only [EvV.len, MonV.len, amSide, Int.reduceToNat, Nat.reducePow, Nat.reduceMul]; first | done | omega)) only  [↓amPre, amPost, ↓s_lit', Nat.reduceAdd, Nat.reduceSub, List.replicate, retA, resultsA, resultA, toC, toCL, Nat.reduceEqDiff, (fa101_2 S.p), (fa101_4 S.p), (fa126_1 S.p), (fa150_0 S.p), (fa150_1 S.p), iaddr_sl (un121 S.p) (sz150 S.p), part_all (ag101 S.p) (sz101 S.p), part_at (ag101 S.p) (sz101 S.p), part_sc (ag121 S.p), part_sc (ag3 S.p), part_sc (ag52 S.p), store_last (sz3 S.p), (sz3 S.p), hp, hm, hm2, e2, e4, r1, r2, hpe, f133, st1, st2, store_skip, beqI_t, beqI_f, bneI_f, bne_self_eq_false, idx_ok, cells_self, cells_other, Int.toNat_natCast, Nat.zero_add, Nat.add_zero, wrap_i64]
          refine Ends.some (Tr.some ?_ ?_)
          · simp only [MdV.setM]; exact M2'
          · exact ((Fr.refl bm bf bw bl h).set _ (.inl rfl)).push _
      · have hq : (o.own == e.t) = false := by simpa using co
        rw [hq] at f133
        rw [if_pos (Or.inr co)]
        simp (maxSteps := 1000000) (disch := first | omega | (simp (disch := first | omega | (simp only [EvV.len, MonV.len, List.length_append, List.length_cons, List.length_nil, List.length_set]; first | done | omega)) only [EvV.len, MonV.len, amSide, Int.reduceToNat, Nat.reducePow, Nat.reduceMul]; first | done | omega)) only  [↓amPre, amPost, ↓s_lit', Nat.reduceAdd, Nat.reduceSub, List.replicate, retA, resultsA, resultA, toC, toCL, Nat.reduceEqDiff, (fa101_2 S.p), (fa101_4 S.p), (fa126_1 S.p), (fa150_0 S.p), (fa150_1 S.p), iaddr_sl (un121 S.p) (sz150 S.p), part_all (ag101 S.p) (sz101 S.p), part_at (ag101 S.p) (sz101 S.p), part_sc (ag121 S.p), part_sc (ag3 S.p), part_sc (ag52 S.p), store_last (sz3 S.p), (sz3 S.p), hp, hm, e2, e4, r1, hpe, f133, beqI_t, beqI_f, bneI_f, bne_self_eq_false, idx_ok, cells_self, cells_other, Int.toNat_natCast, Nat.zero_add, Nat.add_zero]
        exact Ends.some (Tr.none M1 F1)
    · rw [if_pos (Or.inl c0)]
      simp (maxSteps := 1000000) (disch := first | omega | (simp (disch := first | omega | (simp only [EvV.len, MonV.len, List.length_append, List.length_cons, List.length_nil, List.length_set]; first | done | omega)) only [EvV.len, MonV.len, amSide, Int.reduceToNat, Nat.reducePow, Nat.reduceMul]; first | done | omega)) only  [↓amPre, amPost, ↓s_lit', Nat.reduceAdd, Nat.reduceSub, List.replicate, retA, resultsA, resultA, toC, toCL, Nat.reduceEqDiff, (fa101_2 S.p), (fa101_4 S.p), (fa126_1 S.p), (fa150_0 S.p), (fa150_1 S.p), iaddr_sl (un121 S.p) (sz150 S.p), part_all (ag101 S.p) (sz101 S.p), part_at (ag101 S.p) (sz101 S.p), part_sc (ag121 S.p), part_sc (ag3 S.p), part_sc (ag52 S.p), store_last (sz3 S.p), (sz3 S.p), hp, hm, e2, e4, r1, hpe, f133, beqI_t, beqI_f, bneI_t, idx_ok, cells_self, cells_other, Int.toNat_natCast, Nat.zero_add, Nat.add_zero]
      exact Ends.some (Tr.none M1 F1)
set_option maxHeartbeats 2000000 in
theorem s109 (hd : 3 ≤ d) {p bm bf bw bl : Nat} {V : MdV} {h : List AO} (M : MdAt h p bm bf bw bl V) (e : EvV) {ob : Nat} {o : MonV} (ho : e.o = (ob : Int)) (hx : V.mons[ob]? = some o) {th : Nat} {f : Bool} (ht : e.t = (th : Int)) (hf : V.flags[th]? = some f) (lk : Nat) (hlk : lk ≤ bm ∧ lk ≤ bf ∧ lk ≤ bw) :
    Ends (Tr p bm bf bw bl h V (beginV V e o f)) (ev P T K d 109 [.sc (.ptr p 0), .ag e.cells] lk h) := by
  obtain ⟨d, rfl⟩ : ∃ k, d = k + 1 := ⟨d - 1, by omega⟩
  rw [ev_run (at109 S.t)]
  unfold i109 Try.f109
  have hto : e.o.toNat = ob := by rw [ho]; rfl
  have hto2 : e.t.toNat = th := by rw [ht]; rfl
  have M1 := M.ext ((Ext1.refl h).push (.rw 101 e.cells))
  have F1 := (Fr.refl bm bf bw bl h).push (.rw 101 e.cells)
  have hp := M.cp
  have hm := M.cm
  have hcf := M.cf
  obtain ⟨l1, l2, l3, l4, l5⟩ := M.lts
  obtain ⟨a1, a2, a3, a4, a5, a6, a7, a8, a9, a10⟩ := M.nes
  have e1 := e.c1
  have e2 := e.c2
  have e4 := e.c4
  rw [ho] at e2
  rw [ht] at e1
  have hob := (List.getElem?_eq_some_iff.1 hx).1
  have hth := (List.getElem?_eq_some_iff.1 hf).1
  have rf : (V.flags.map SV.bool)[th]? = some (.bool f) := by rw [List.getElem?_map, hf]; rfl
  have r1 : (recs MonV.cells V.mons)[ob * 3 + 1]? = some (.int .i64 o.cnt) := by rw [recs_get MonV.len hx 1 (by omega)]; exact o.c1
  have r2 : (recs MonV.cells V.mons)[ob * 3 + 2]? = some (.int .i64 o.hsh) := by rw [recs_get MonV.len hx 2 (by omega)]; exact o.c2
  have hpe := partE S e
  have f133 := fun lk => s133 S (show 1 ≤ d by omega) M1 e ho hx lk
  unfold beginV
  by_cases c9 : e.e = 9
  · rw [if_pos c9]
    by_cases co : o.own = e.t
    · have hq : (o.own == e.t) = true := by simpa using co
      rw [hq] at f133
      rw [if_neg (fun q => q co)]
      simp (maxSteps := 1000000) (disch := first | omega | (simp (disch := first | omega | (simp only [EvV.len, MonV.len, List.length_append, List.length_cons, List.length_nil, List.length_set]; first | done | omega)) only [EvV.len, MonV.len, amSide, Int.reduceToNat, Nat.reducePow, Nat.reduceMul]; first | done | omega)) only  [↓amPre, amPost, ↓s_lit', Nat.reduceAdd, Nat.reduceSub, List.replicate, retA, resultsA, resultA, toC, toCL, Nat.reduceEqDiff, (bu150 S.p), (bu164 S.p), (fa101_1 S.p), (fa101_2 S.p), (fa101_4 S.p), (fa126_1 S.p), (fa126_2 S.p), (fa126_3 S.p), (fa150_1 S.p), (fa150_2 S.p), iaddr_sl (un121 S.p) (sz150 S.p), iaddr_sl (un122 S.p) (sz4 S.p), part_all (ag101 S.p) (sz101 S.p), part_at (ag101 S.p) (sz101 S.p), part_sc (ag121 S.p), part_sc (ag122 S.p), part_sc (ag123 S.p), part_sc (ag3 S.p), part_sc (ag4 S.p), part_sc (ag52 S.p), store_last (sz150 S.p), (sz150 S.p), store_last (sz4 S.p), (sz4 S.p), hp, hm, hcf, e1, e2, e4, rf, r1, hpe, f133, beqI_t, beqI_f, idx_ok, cells_self, cells_other, Int.toNat_natCast, Nat.zero_add, Nat.add_zero, Nat.mul_one]
      exact Ends.some (Tr.none M1 F1)
    · have hq : (o.own == e.t) = false := by simpa using co
      rw [hq] at f133
      rw [if_pos co]
      simp (maxSteps := 1000000) (disch := first | omega | (simp (disch := first | omega | (simp only [EvV.len, MonV.len, List.length_append, List.length_cons, List.length_nil, List.length_set]; first | done | omega)) only [EvV.len, MonV.len, amSide, Int.reduceToNat, Nat.reducePow, Nat.reduceMul]; first | done | omega)) only  [↓amPre, amPost, ↓s_lit', Nat.reduceAdd, Nat.reduceSub, List.replicate, retA, resultsA, resultA, toC, toCL, Nat.reduceEqDiff, (bu150 S.p), (bu164 S.p), (fa101_1 S.p), (fa101_2 S.p), (fa101_4 S.p), (fa126_1 S.p), (fa126_2 S.p), (fa126_3 S.p), (fa150_1 S.p), (fa150_2 S.p), iaddr_sl (un121 S.p) (sz150 S.p), iaddr_sl (un122 S.p) (sz4 S.p), part_all (ag101 S.p) (sz101 S.p), part_at (ag101 S.p) (sz101 S.p), part_sc (ag121 S.p), part_sc (ag122 S.p), part_sc (ag123 S.p), part_sc (ag3 S.p), part_sc (ag4 S.p), part_sc (ag52 S.p), store_last (sz150 S.p), (sz150 S.p), store_last (sz4 S.p), (sz4 S.p), hp, hm, hcf, e1, e2, e4, rf, r1, hpe, f133, beqI_t, beqI_f, idx_ok, cells_self, cells_other, Int.toNat_natCast, Nat.zero_add, Nat.add_zero, Nat.mul_one]
      exact Ends.some (Tr.some M1 F1)
  · rw [if_neg c9]
    by_cases c11 : e.e = 11
    · rw [if_pos c11]
      by_cases co : o.own = e.t
      · have hq : (o.own == e.t) = true := by simpa using co
        rw [hq] at f133
        rw [if_pos co]
        simp (maxSteps := 1000000) (disch := first | omega | (simp (disch := first | omega | (simp only [EvV.len, MonV.len, List.length_append, List.length_cons, List.length_nil, List.length_set]; first | done | omega)) only [EvV.len, MonV.len, amSide, Int.reduceToNat, Nat.reducePow, Nat.reduceMul]; first | done | omega)) only  [↓amPre, amPost, ↓s_lit', Nat.reduceAdd, Nat.reduceSub, List.replicate, retA, resultsA, resultA, toC, toCL, Nat.reduceEqDiff, (bu150 S.p), (bu164 S.p), (fa101_1 S.p), (fa101_2 S.p), (fa101_4 S.p), (fa126_1 S.p), (fa126_2 S.p), (fa126_3 S.p), (fa150_1 S.p), (fa150_2 S.p), iaddr_sl (un121 S.p) (sz150 S.p), iaddr_sl (un122 S.p) (sz4 S.p), part_all (ag101 S.p) (sz101 S.p), part_at (ag101 S.p) (sz101 S.p), part_sc (ag121 S.p), part_sc (ag122 S.p), part_sc (ag123 S.p), part_sc (ag3 S.p), part_sc (ag4 S.p), part_sc (ag52 S.p), store_last (sz150 S.p), (sz150 S.p), store_last (sz4 S.p), (sz4 S.p), hp, hm, hcf, e1, e2, e4, rf, r1, hpe, f133, beqI_t, beqI_f, idx_ok, cells_self, cells_other, Int.toNat_natCast, Nat.zero_add, Nat.add_zero, Nat.mul_one]
        exact Ends.some (Tr.some M1 F1)
      · have hq : (o.own == e.t) = false := by simpa using co
        rw [hq] at f133
        rw [if_neg co]
        simp (maxSteps := 1000000) (disch := first | omega | (simp (disch := first | omega | (simp only [EvV.len, MonV.len, List.length_append, List.length_cons, List.length_nil, List.length_set]; first | done | omega)) only [EvV.len, MonV.len, amSide, Int.reduceToNat, Nat.reducePow, Nat.reduceMul]; first | done | omega)) only  [↓amPre, amPost, ↓s_lit', Nat.reduceAdd, Nat.reduceSub, List.replicate, retA, resultsA, resultA, toC, toCL, Nat.reduceEqDiff, (bu150 S.p), (bu164 S.p), (fa101_1 S.p), (fa101_2 S.p), (fa101_4 S.p), (fa126_1 S.p), (fa126_2 S.p), (fa126_3 S.p), (fa150_1 S.p), (fa150_2 S.p), iaddr_sl (un121 S.p) (sz150 S.p), iaddr_sl (un122 S.p) (sz4 S.p), part_all (ag101 S.p) (sz101 S.p), part_at (ag101 S.p) (sz101 S.p), part_sc (ag121 S.p), part_sc (ag122 S.p), part_sc (ag123 S.p), part_sc (ag3 S.p), part_sc (ag4 S.p), part_sc (ag52 S.p), store_last (sz150 S.p), (sz150 S.p), store_last (sz4 S.p), (sz4 S.p), hp, hm, hcf, e1, e2, e4, rf, r1, hpe, f133, beqI_t, beqI_f, idx_ok, cells_self, cells_other, Int.toNat_natCast, Nat.zero_add, Nat.add_zero, Nat.mul_one]
        exact Ends.some (Tr.none M1 F1)
    · rw [if_neg c11]
      by_cases c12 : e.e = 12
      · rw [if_pos c12]
        by_cases co : o.own = e.t
        · have hq : (o.own == e.t) = true := by simpa using co
          rw [hq] at f133
          cases f with
          | false =>
            rw [if_neg (fun q => by cases q.2)]
            simp (maxSteps := 1000000) (disch := first | omega | (simp (disch := first | omega | (simp only [EvV.len, MonV.len, List.length_append, List.length_cons, List.length_nil, List.length_set]; first | done | omega)) only [EvV.len, MonV.len, amSide, Int.reduceToNat, Nat.reducePow, Nat.reduceMul]; first | done | omega)) only  [↓amPre, amPost, ↓s_lit', Nat.reduceAdd, Nat.reduceSub, List.replicate, retA, resultsA, resultA, toC, toCL, Nat.reduceEqDiff, (bu150 S.p), (bu164 S.p), (fa101_1 S.p), (fa101_2 S.p), (fa101_4 S.p), (fa126_1 S.p), (fa126_2 S.p), (fa126_3 S.p), (fa150_1 S.p), (fa150_2 S.p), iaddr_sl (un121 S.p) (sz150 S.p), iaddr_sl (un122 S.p) (sz4 S.p), part_all (ag101 S.p) (sz101 S.p), part_at (ag101 S.p) (sz101 S.p), part_sc (ag121 S.p), part_sc (ag122 S.p), part_sc (ag123 S.p), part_sc (ag3 S.p), part_sc (ag4 S.p), part_sc (ag52 S.p), store_last (sz150 S.p), (sz150 S.p), store_last (sz4 S.p), (sz4 S.p), hp, hm, hcf, e1, e2, e4, rf, r1, hpe, f133, beqI_t, beqI_f, idx_ok, cells_self, cells_other, Int.toNat_natCast, Nat.zero_add, Nat.add_zero, Nat.mul_one]
            exact Ends.some (Tr.none M1 F1)
          | true =>
            rw [if_pos ⟨co, rfl⟩, hto2]
            have st := M.storeF (sz4 S.p) hth hlk.2.1 false
            have M2 := (M.setF th false).ext ((Ext1.refl _).push (.rw 101 e.cells))
            simp (maxSteps := 1000000) (disch := first | omega | (simp (disch := first | omega | (simp only [EvV.len, MonV.len, List.length_append, List.length_cons, List.length_nil, List.length_set]; first | done | omega)) only [EvV.len, MonV.len, amSide, Int.reduceToNat, Nat.reducePow, Nat.reduceMul]; first | done | omega)) only  [↓amPre, amPost, ↓s_lit', Nat.reduceAdd, Nat.reduceSub, List.replicate, retA, resultsA, resultA, toC, toCL, Nat.reduceEqDiff, (bu150 S.p), (bu164 S.p), (fa101_1 S.p), (fa101_2 S.p), (fa101_4 S.p), (fa126_1 S.p), (fa126_2 S.p), (fa126_3 S.p), (fa150_1 S.p), (fa150_2 S.p), iaddr_sl (un121 S.p) (sz150 S.p), iaddr_sl (un122 S.p) (sz4 S.p), part_all (ag101 S.p) (sz101 S.p), part_at (ag101 S.p) (sz101 S.p), part_sc (ag121 S.p), part_sc (ag122 S.p), part_sc (ag123 S.p), part_sc (ag3 S.p), part_sc (ag4 S.p), part_sc (ag52 S.p), store_last (sz150 S.p), (sz150 S.p), store_last (sz4 S.p), (sz4 S.p), hp, hm, hcf, e1, e2, e4, rf, r1, hpe, f133, st, store_skip, beqI_t, beqI_f, idx_ok, cells_self, cells_other, Int.toNat_natCast, Nat.zero_add, Nat.add_zero, Nat.mul_one]
            refine Ends.some (Tr.some M2 ?_)
            exact ((Fr.refl bm bf bw bl h).set _ (.inr (.inl rfl))).push _
        · have hq : (o.own == e.t) = false := by simpa using co
          rw [hq] at f133
          rw [if_neg (fun q => co q.1)]
          simp (maxSteps := 1000000) (disch := first | omega | (simp (disch := first | omega | (simp only [EvV.len, MonV.len, List.length_append, List.length_cons, List.length_nil, List.length_set]; first | done | omega)) only [EvV.len, MonV.len, amSide, Int.reduceToNat, Nat.reducePow, Nat.reduceMul]; first | done | omega)) only  [↓amPre, amPost, ↓s_lit', Nat.reduceAdd, Nat.reduceSub, List.replicate, retA, resultsA, resultA, toC, toCL, Nat.reduceEqDiff, (bu150 S.p), (bu164 S.p), (fa101_1 S.p), (fa101_2 S.p), (fa101_4 S.p), (fa126_1 S.p), (fa126_2 S.p), (fa126_3 S.p), (fa150_1 S.p), (fa150_2 S.p), iaddr_sl (un121 S.p) (sz150 S.p), iaddr_sl (un122 S.p) (sz4 S.p), part_all (ag101 S.p) (sz101 S.p), part_at (ag101 S.p) (sz101 S.p), part_sc (ag121 S.p), part_sc (ag122 S.p), part_sc (ag123 S.p), part_sc (ag3 S.p), part_sc (ag4 S.p), part_sc (ag52 S.p), store_last (sz150 S.p), (sz150 S.p), store_last (sz4 S.p), (sz4 S.p), hp, hm, hcf, e1, e2, e4, rf, r1, hpe, f133, beqI_t, beqI_f, idx_ok, cells_self, cells_other, Int.toNat_natCast, Nat.zero_add, Nat.add_zero, Nat.mul_one]
          exact Ends.some (Tr.none M1 F1)
      · rw [if_neg c12]
        by_cases c0 : e.e = 0
        · rw [if_pos c0]
          by_cases co : o.own = e.t
          · have hq : (o.own == e.t) = true := by simpa using co
            rw [hq] at f133
            rw [if_pos co, hto]
            obtain ⟨D1, D2⟩ := placeD P S.p
            have up := upd_entsP D1 intV M1.pw (e.o, e.t) (lk := lk) hlk.2.2 o.cnt
            unfold pk at up
            simp only [ho, ht, intV] at up
            rw [List.set_append_left _ _ l4] at up
            have M2 := M.setW (updP (e.o, e.t) o.cnt V.waits)
            have hm2 := M2.cm
            have hp2 := M2.cp
            have st := M2.storeAll (sz150 S.p) hx hlk.1 ⟨-1, 0, o.hsh⟩
            have hbc : [SV.int .i64 (-1), .int .i64 0, .int .i64 o.hsh] = MonV.cells ⟨-1, 0, o.hsh⟩ := rfl
            have M3 := (M2.setM ob ⟨-1, 0, o.hsh⟩).ext ((Ext1.refl _).push (.rw 101 e.cells))
            simp only [ho, ht] at hm2 hp2 st
            simp (maxSteps := 1000000) (disch := first | omega | (simp (disch := first | omega | (simp only [EvV.len, MonV.len, List.length_append, List.length_cons, List.length_nil, List.length_set]; first | done | omega)) only [EvV.len, MonV.len, amSide, Int.reduceToNat, Nat.reducePow, Nat.reduceMul]; first | done | omega)) only  [↓amPre, amPost, ↓s_lit', Nat.reduceAdd, Nat.reduceSub, List.replicate, retA, resultsA, resultA, toC, toCL, Nat.reduceEqDiff, (bu150 S.p), (bu164 S.p), (fa101_1 S.p), (fa101_2 S.p), (fa101_4 S.p), (fa126_1 S.p), (fa126_2 S.p), (fa126_3 S.p), (fa150_1 S.p), (fa150_2 S.p), iaddr_sl (un121 S.p) (sz150 S.p), iaddr_sl (un122 S.p) (sz4 S.p), part_all (ag101 S.p) (sz101 S.p), part_at (ag101 S.p) (sz101 S.p), part_sc (ag121 S.p), part_sc (ag122 S.p), part_sc (ag123 S.p), part_sc (ag3 S.p), part_sc (ag4 S.p), part_sc (ag52 S.p), store_last (sz150 S.p), (sz150 S.p), store_last (sz4 S.p), (sz4 S.p), hp, hp2, hm, hm2, hcf, e1, e2, e4, rf, r1, r2, hpe, f133, up, st, hbc, store_skip, beqI_t, beqI_f, idx_ok, cells_self, cells_other, Int.toNat_natCast, Nat.zero_add, Nat.add_zero, Nat.mul_one]
            refine Ends.some (Tr.some ?_ ?_)
            · simp only [MdV.setM] at M3 ⊢; simp only [ho, ht] at M3 ⊢; exact M3
            · exact (((Fr.refl bm bf bw bl h).set _ (.inr (.inr (.inl rfl)))).set _ (.inl rfl)).push _
          · have hq : (o.own == e.t) = false := by simpa using co
            rw [hq] at f133
            rw [if_neg co]
            simp (maxSteps := 1000000) (disch := first | omega | (simp (disch := first | omega | (simp only [EvV.len, MonV.len, List.length_append, List.length_cons, List.length_nil, List.length_set]; first | done | omega)) only [EvV.len, MonV.len, amSide, Int.reduceToNat, Nat.reducePow, Nat.reduceMul]; first | done | omega)) only  [↓amPre, amPost, ↓s_lit', Nat.reduceAdd, Nat.reduceSub, List.replicate, retA, resultsA, resultA, toC, toCL, Nat.reduceEqDiff, (bu150 S.p), (bu164 S.p), (fa101_1 S.p), (fa101_2 S.p), (fa101_4 S.p), (fa126_1 S.p), (fa126_2 S.p), (fa126_3 S.p), (fa150_1 S.p), (fa150_2 S.p), iaddr_sl (un121 S.p) (sz150 S.p), iaddr_sl (un122 S.p) (sz4 S.p), part_all (ag101 S.p) (sz101 S.p), part_at (ag101 S.p) (sz101 S.p), part_sc (ag121 S.p), part_sc (ag122 S.p), part_sc (ag123 S.p), part_sc (ag3 S.p), part_sc (ag4 S.p), part_sc (ag52 S.p), store_last (sz150 S.p), (sz150 S.p), store_last (sz4 S.p), (sz4 S.p), hp, hm, hcf, e1, e2, e4, rf, r1, hpe, f133, beqI_t, beqI_f, idx_ok, cells_self, cells_other, Int.toNat_natCast, Nat.zero_add, Nat.add_zero, Nat.mul_one]
            exact Ends.some (Tr.none M1 F1)
        · rw [if_neg c0]
          simp (maxSteps := 1000000) (disch := first | omega | (simp (disch := first | omega | (simp only [EvV.len, MonV.len, List.length_append, List.length_cons, List.length_nil, List.length_set]; first | done | omega)) only [EvV.len, MonV.len, amSide, Int.reduceToNat, Nat.reducePow, Nat.reduceMul]; first | done | omega)) only  [↓amPre, amPost, ↓s_lit', Nat.reduceAdd, Nat.reduceSub, List.replicate, retA, resultsA, resultA, toC, toCL, Nat.reduceEqDiff, (bu150 S.p), (bu164 S.p), (fa101_1 S.p), (fa101_2 S.p), (fa101_4 S.p), (fa126_1 S.p), (fa126_2 S.p), (fa126_3 S.p), (fa150_1 S.p), (fa150_2 S.p), iaddr_sl (un121 S.p) (sz150 S.p), iaddr_sl (un122 S.p) (sz4 S.p), part_all (ag101 S.p) (sz101 S.p), part_at (ag101 S.p) (sz101 S.p), part_sc (ag121 S.p), part_sc (ag122 S.p), part_sc (ag123 S.p), part_sc (ag3 S.p), part_sc (ag4 S.p), part_sc (ag52 S.p), store_last (sz150 S.p), (sz150 S.p), store_last (sz4 S.p), (sz4 S.p), hp, hm, hcf, e1, e2, e4, rf, r1, hpe, f133, beqI_t, beqI_f, idx_ok, cells_self, cells_other, Int.toNat_natCast, Nat.zero_add, Nat.add_zero, Nat.mul_one]
          exact Ends.some (Tr.none M1 F1)
set_option maxHeartbeats 2000000 in
theorem s110 (hd : 1 ≤ d) {p bm bf bw bl : Nat} {V : MdV} {h : List AO} (M : MdAt h p bm bf bw bl V) (k : Pk) (w : Int) (lk : Nat) (hlk : lk ≤ bw ∧ lk ≤ bl) :
    Ends (Tr p bm bf bw bl h V (leaveV V k w)) (ev P T K d 110 [.sc (.ptr p 0), .ag (pk k), .sc (.int .i64 w)] lk h) := by
  obtain ⟨d, rfl⟩ : ∃ k, d = k + 1 := ⟨d - 1, by omega⟩
  rw [ev_run (at110 S.t)]
  unfold i110 Try.f110
  have M1 := M.ext ((Ext1.refl h).push (.rw 164 (pk k)))
  have F1 := (Fr.refl bm bf bw bl h).push (.rw 164 (pk k))
  have hp := M.cp
  obtain ⟨l1, l2, l3, l4, l5⟩ := M.lts
  obtain ⟨a1, a2, a3, a4, a5, a6, a7, a8, a9, a10⟩ := M.nes
  obtain ⟨D1, D2⟩ := placeD P S.p
  have hpk : partA P 164 (pk k) 0 = some (.ag (pk k)) := by
    have := recs_part (f := pk) (ag164 S.p) (sz164 S.p) (fun _ => rfl) (l := [k]) (i := 0) rfl
    rw [show recs pk [k] = pk k by simp [recs]] at this; exact this
  have hpl : (pk k).length = 2 := rfl
  have lw := lookP D1 intV M1.pw k true
  unfold leaveV
  cases g : getP k V.waits with
  | none =>
    rw [g] at lw
    simp only [if_true] at lw
    simp (maxSteps := 1000000) (disch := first | omega | (simp (disch := first | omega | (simp only [EvV.len, MonV.len, List.length_append, List.length_cons, List.length_nil, List.length_set]; first | done | omega)) only [EvV.len, MonV.len, amSide, Int.reduceToNat, Nat.reducePow, Nat.reduceMul]; first | done | omega)) only  [↓amPre, amPost, ↓s_lit', Nat.reduceAdd, Nat.reduceSub, List.replicate, retA, resultsA, resultA, toC, toCL, Nat.reduceEqDiff, (bu156 S.p), (fa126_3 S.p), (fa126_4 S.p), part_sc (ag123 S.p), part_sc (ag124 S.p), part_all (ag164 S.p) (sz164 S.p), part_at (ag164 S.p) (sz164 S.p), hp, hpk, hpl, lw, cells_self, cells_other, Nat.zero_add, Nat.add_zero]
    exact Ends.some (Tr.none M1 F1)
  | some n =>
    rw [g] at lw
    simp only [if_true, intV] at lw
    have dl := del_entsP D1 intV M1.pw k (lk := lk) hlk.1
    rw [List.set_append_left _ _ l4] at dl
    have M2 := M.setW (delP k V.waits)
    have M2' := M2.ext ((Ext1.refl _).push (.rw 164 (pk k)))
    have hp2 := M2.cp
    have up := upd_entsP D2 LfV.cv M2'.pl k (lk := lk) hlk.2 ⟨n, w⟩
    rw [List.set_append_left _ _ (by rw [List.length_set]; exact l5)] at up
    simp only [LfV.cv] at up
    have M3 := (M2.setL (updP k ⟨n, w⟩ V.left)).ext ((Ext1.refl _).push (.rw 164 (pk k)))
    simp (maxSteps := 1000000) (disch := first | omega | (simp (disch := first | omega | (simp only [EvV.len, MonV.len, List.length_append, List.length_cons, List.length_nil, List.length_set]; first | done | omega)) only [EvV.len, MonV.len, amSide, Int.reduceToNat, Nat.reducePow, Nat.reduceMul]; first | done | omega)) only  [↓amPre, amPost, ↓s_lit', Nat.reduceAdd, Nat.reduceSub, List.replicate, retA, resultsA, resultA, toC, toCL, Nat.reduceEqDiff, (bu156 S.p), (fa126_3 S.p), (fa126_4 S.p), part_sc (ag123 S.p), part_sc (ag124 S.p), part_all (ag164 S.p) (sz164 S.p), part_at (ag164 S.p) (sz164 S.p), hp, hp2, hpk, hpl, lw, dl, up, cells_self, cells_other, Nat.zero_add, Nat.add_zero]
    refine Ends.some (Tr.some M3 ?_)
    exact (((Fr.refl bm bf bw bl h).set _ (.inr (.inr (.inl rfl)))).set _ (.inr (.inr (.inr rfl)))).push _
end
end Go.AM
