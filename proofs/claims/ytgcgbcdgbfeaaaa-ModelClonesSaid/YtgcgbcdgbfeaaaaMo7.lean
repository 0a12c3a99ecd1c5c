/- Monitors' model: what is written: Wake, Notify and All; a transition. Conditions: none. -/
import Derived.Test.YtgcgbcdgbfeaaaaMo6
set_option linter.unusedVariables false
set_option linter.unusedSimpArgs false
set_option maxRecDepth 100000
namespace Go.AM
open Go.Proofs
-- LENS: EvV.len, MonV.len
section
variable {P : Program} {T : Tab} {K d : Nat} (S : Sd P T K)
include S
omit S in
theorem Tr.from {p bm bf bw bl : Nat} {h h1 : List AO} {V : MdV} {X : Option MdV} (F : Fr bm bf bw bl h h1) {v : AV} {h2 : List AO} (H : Tr p bm bf bw bl h1 V X v h2) : Tr p bm bf bw bl h V X v h2 := ⟨H.1, H.2.1, F.trans H.2.2⟩
set_option maxHeartbeats 4000000 in
theorem s112 (hd : 3 ≤ d) {p bm bf bw bl : Nat} {V : MdV} {h : List AO} (M : MdAt h p bm bf bw bl V) (H : MdOk V) (e : EvV) {ob : Nat} {o : MonV} (ho : e.o = (ob : Int)) (hx : V.mons[ob]? = some o) (lk : Nat) (hlk : lk ≤ bw ∧ lk ≤ bl) :
    Ends (Tr p bm bf bw bl h V (tellV V e o)) (ev P T K d 112 [.sc (.ptr p 0), .ag e.cells] lk h) := by
  obtain ⟨d, rfl⟩ : ∃ k, d = k + 1 := ⟨d - 1, by omega⟩
  rw [ev_run (at112 S.t)]
  unfold i112 Try.f112
  have hn8 := H.n
  have M1 := M.ext ((Ext1.refl h).push (.rw 101 e.cells))
  have F1 := (Fr.refl bm bf bw bl h).push (.rw 101 e.cells)
  obtain ⟨l1, l2, l3, l4, l5⟩ := M.lts
  have e0 := e.c0
  have e1 := e.c1
  have e2 := e.c2
  have e3 := e.c3
  have e4 := e.c4
  have hpe := partE S e
  have f133 := fun lk => s133 S (show 1 ≤ d by omega) M1 e ho hx lk
  obtain ⟨v, h2, e48, x2, q, rfl, hq⟩ := s48 S (show 2 ≤ d by omega) M1 H e.o lk
  have hlen := own_lenM (un47 S.p) hq
  rw [List.length_map, sortL_len] at hlen
  have M2 := M1.ext x2
  have F2 := F1.trans (Fr.of_ext x2)
  have hxl := x2.len
  have hbx : cellsAt h2 h.length = some e.cells := by rw [x2.cells (by simp)]; exact cells_self _ _ _ rfl
  have f96 := fun lk => s96 S (show 2 ≤ d by omega) M2 (by omega) e.a lk
  obtain ⟨v3, h3, e110, M3⟩ := s110 S (show 1 ≤ d by omega) M2 (e.o, e.a) 0 lk hlk
  unfold pk at e110
  simp only at e110
  have hth : (((thrV V.waits e.o).length : Int) == 0) = decide (thrV V.waits e.o = []) := by
    cases thrV V.waits e.o with
    | nil => rfl
    | cons a l => rw [decide_eq_false (by simp)]; simp; omega
  unfold tellV
  by_cases k7 : e.k = 7
  · rw [if_pos k7]
    by_cases c0 : e.e = 0
    · by_cases co : o.own = e.t
      · have hqo : (o.own == e.t) = true := by simpa using co
        rw [hqo] at f133
        rw [if_pos ⟨c0, co⟩]
        obtain ⟨rfl, M3a, M3b⟩ := M3
        simp (maxSteps := 1000000) (disch := first | omega | (simp (disch := first | omega | (simp only [EvV.len, MonV.len, List.length_append, List.length_cons, List.length_nil, List.length_set]; first | done | omega)) only [EvV.len, MonV.len, amSide, Int.reduceToNat, Nat.reducePow, Nat.reduceMul]; first | done | omega)) only  [↓amPre, amPost, ↓s_lit', Nat.reduceAdd, Nat.reduceSub, List.replicate, retA, resultsA, resultA, toC, toCL, Nat.reduceEqDiff, (bu164 S.p), (fa101_0 S.p), (fa101_2 S.p), (fa101_3 S.p), (fa101_4 S.p), len_sl (un47 S.p), len_nils (un47 S.p), part_all (ag101 S.p) (sz101 S.p), part_at (ag101 S.p) (sz101 S.p), part_sc (ag3 S.p), part_sc (ag52 S.p), e0, e1, e2, e3, e4, hpe, hbx, f133, e48, hlen, hth, e110, bneI_t, bneI_f, bne_self_eq_false, beqI_t, beqI_f, cells_self, cells_other, Int.toNat_natCast, Nat.zero_add, Nat.add_zero]
        exact Ends.some (Tr.from F2 ⟨rfl, M3a, M3b⟩)
      · have hqo : (o.own == e.t) = false := by simpa using co
        rw [hqo] at f133
        rw [if_neg (fun q => co q.2)]
        simp (maxSteps := 1000000) (disch := first | omega | (simp (disch := first | omega | (simp only [EvV.len, MonV.len, List.length_append, List.length_cons, List.length_nil, List.length_set]; first | done | omega)) only [EvV.len, MonV.len, amSide, Int.reduceToNat, Nat.reducePow, Nat.reduceMul]; first | done | omega)) only  [↓amPre, amPost, ↓s_lit', Nat.reduceAdd, Nat.reduceSub, List.replicate, retA, resultsA, resultA, toC, toCL, Nat.reduceEqDiff, (bu164 S.p), (fa101_0 S.p), (fa101_2 S.p), (fa101_3 S.p), (fa101_4 S.p), len_sl (un47 S.p), len_nils (un47 S.p), part_all (ag101 S.p) (sz101 S.p), part_at (ag101 S.p) (sz101 S.p), part_sc (ag3 S.p), part_sc (ag52 S.p), e0, e1, e2, e3, e4, hpe, hbx, f133, e48, hlen, hth, bneI_t, bneI_f, bne_self_eq_false, beqI_t, beqI_f, cells_self, cells_other, Int.toNat_natCast, Nat.zero_add, Nat.add_zero]
        exact Ends.some (Tr.none M2 F2)
    · rw [if_neg (fun q => c0 q.1)]
      simp (maxSteps := 1000000) (disch := first | omega | (simp (disch := first | omega | (simp only [EvV.len, MonV.len, List.length_append, List.length_cons, List.length_nil, List.length_set]; first | done | omega)) only [EvV.len, MonV.len, amSide, Int.reduceToNat, Nat.reducePow, Nat.reduceMul]; first | done | omega)) only  [↓amPre, amPost, ↓s_lit', Nat.reduceAdd, Nat.reduceSub, List.replicate, retA, resultsA, resultA, toC, toCL, Nat.reduceEqDiff, (bu164 S.p), (fa101_0 S.p), (fa101_2 S.p), (fa101_3 S.p), (fa101_4 S.p), len_sl (un47 S.p), len_nils (un47 S.p), part_all (ag101 S.p) (sz101 S.p), part_at (ag101 S.p) (sz101 S.p), part_sc (ag3 S.p), part_sc (ag52 S.p), e0, e1, e2, e3, e4, hpe, hbx, f133, e48, hlen, hth, bneI_t, bneI_f, bne_self_eq_false, beqI_t, beqI_f, cells_self, cells_other, Int.toNat_natCast, Nat.zero_add, Nat.add_zero]
      exact Ends.some (Tr.none M2 F2)
  · rw [if_neg k7]
    clear e110 M3
    by_cases c9 : e.e = 9
    · rw [if_pos c9]
      by_cases co : o.own = e.t
      · have hqo : (o.own == e.t) = true := by simpa using co
        rw [hqo] at f133
        rw [if_neg (fun q => q.1 co)]
        simp (maxSteps := 1000000) (disch := first | omega | (simp (disch := first | omega | (simp only [EvV.len, MonV.len, List.length_append, List.length_cons, List.length_nil, List.length_set]; first | done | omega)) only [EvV.len, MonV.len, amSide, Int.reduceToNat, Nat.reducePow, Nat.reduceMul]; first | done | omega)) only  [↓amPre, amPost, ↓s_lit', Nat.reduceAdd, Nat.reduceSub, List.replicate, retA, resultsA, resultA, toC, toCL, Nat.reduceEqDiff, (bu164 S.p), (fa101_0 S.p), (fa101_2 S.p), (fa101_3 S.p), (fa101_4 S.p), len_sl (un47 S.p), len_nils (un47 S.p), part_all (ag101 S.p) (sz101 S.p), part_at (ag101 S.p) (sz101 S.p), part_sc (ag3 S.p), part_sc (ag52 S.p), e0, e1, e2, e3, e4, hpe, hbx, f133, e48, hlen, hth, bneI_t, bneI_f, bne_self_eq_false, beqI_t, beqI_f, cells_self, cells_other, Int.toNat_natCast, Nat.zero_add, Nat.add_zero]
        exact Ends.some (Tr.none M2 F2)
      · have hqo : (o.own == e.t) = false := by simpa using co
        rw [hqo] at f133
        by_cases k9 : e.k = 9
        · by_cases a0 : e.a = 0
          · rw [if_pos ⟨co, Or.inl ⟨k9, a0⟩⟩]
            simp (maxSteps := 1000000) (disch := first | omega | (simp (disch := first | omega | (simp only [EvV.len, MonV.len, List.length_append, List.length_cons, List.length_nil, List.length_set]; first | done | omega)) only [EvV.len, MonV.len, amSide, Int.reduceToNat, Nat.reducePow, Nat.reduceMul]; first | done | omega)) only  [↓amPre, amPost, ↓s_lit', Nat.reduceAdd, Nat.reduceSub, List.replicate, retA, resultsA, resultA, toC, toCL, Nat.reduceEqDiff, (bu164 S.p), (fa101_0 S.p), (fa101_2 S.p), (fa101_3 S.p), (fa101_4 S.p), len_sl (un47 S.p), len_nils (un47 S.p), part_all (ag101 S.p) (sz101 S.p), part_at (ag101 S.p) (sz101 S.p), part_sc (ag3 S.p), part_sc (ag52 S.p), e0, e1, e2, e3, e4, hpe, hbx, f133, e48, hlen, hth, bneI_t, bneI_f, bne_self_eq_false, beqI_t, beqI_f, cells_self, cells_other, Int.toNat_natCast, Nat.zero_add, Nat.add_zero]
            exact Ends.some (Tr.some M2 F2)
          · rw [if_neg (fun q => q.2.elim (fun q => a0 q.2) (fun q => by have := q.1; omega))]
            simp (maxSteps := 1000000) (disch := first | omega | (simp (disch := first | omega | (simp only [EvV.len, MonV.len, List.length_append, List.length_cons, List.length_nil, List.length_set]; first | done | omega)) only [EvV.len, MonV.len, amSide, Int.reduceToNat, Nat.reducePow, Nat.reduceMul]; first | done | omega)) only  [↓amPre, amPost, ↓s_lit', Nat.reduceAdd, Nat.reduceSub, List.replicate, retA, resultsA, resultA, toC, toCL, Nat.reduceEqDiff, (bu164 S.p), (fa101_0 S.p), (fa101_2 S.p), (fa101_3 S.p), (fa101_4 S.p), len_sl (un47 S.p), len_nils (un47 S.p), part_all (ag101 S.p) (sz101 S.p), part_at (ag101 S.p) (sz101 S.p), part_sc (ag3 S.p), part_sc (ag52 S.p), e0, e1, e2, e3, e4, hpe, hbx, f133, e48, hlen, hth, bneI_t, bneI_f, bne_self_eq_false, beqI_t, beqI_f, cells_self, cells_other, Int.toNat_natCast, Nat.zero_add, Nat.add_zero]
            exact Ends.some (Tr.none M2 F2)
        · by_cases k8 : e.k = 8
          · by_cases a1 : e.a = -1
            · rw [if_pos ⟨co, Or.inr ⟨k8, a1⟩⟩]
              simp (maxSteps := 1000000) (disch := first | omega | (simp (disch := first | omega | (simp only [EvV.len, MonV.len, List.length_append, List.length_cons, List.length_nil, List.length_set]; first | done | omega)) only [EvV.len, MonV.len, amSide, Int.reduceToNat, Nat.reducePow, Nat.reduceMul]; first | done | omega)) only  [↓amPre, amPost, ↓s_lit', Nat.reduceAdd, Nat.reduceSub, List.replicate, retA, resultsA, resultA, toC, toCL, Nat.reduceEqDiff, (bu164 S.p), (fa101_0 S.p), (fa101_2 S.p), (fa101_3 S.p), (fa101_4 S.p), len_sl (un47 S.p), len_nils (un47 S.p), part_all (ag101 S.p) (sz101 S.p), part_at (ag101 S.p) (sz101 S.p), part_sc (ag3 S.p), part_sc (ag52 S.p), e0, e1, e2, e3, e4, hpe, hbx, f133, e48, hlen, hth, bneI_t, bneI_f, bne_self_eq_false, beqI_t, beqI_f, cells_self, cells_other, Int.toNat_natCast, Nat.zero_add, Nat.add_zero]
              exact Ends.some (Tr.some M2 F2)
            · rw [if_neg (fun q => q.2.elim (fun q => k9 q.1) (fun q => a1 q.2))]
              simp (maxSteps := 1000000) (disch := first | omega | (simp (disch := first | omega | (simp only [EvV.len, MonV.len, List.length_append, List.length_cons, List.length_nil, List.length_set]; first | done | omega)) only [EvV.len, MonV.len, amSide, Int.reduceToNat, Nat.reducePow, Nat.reduceMul]; first | done | omega)) only  [↓amPre, amPost, ↓s_lit', Nat.reduceAdd, Nat.reduceSub, List.replicate, retA, resultsA, resultA, toC, toCL, Nat.reduceEqDiff, (bu164 S.p), (fa101_0 S.p), (fa101_2 S.p), (fa101_3 S.p), (fa101_4 S.p), len_sl (un47 S.p), len_nils (un47 S.p), part_all (ag101 S.p) (sz101 S.p), part_at (ag101 S.p) (sz101 S.p), part_sc (ag3 S.p), part_sc (ag52 S.p), e0, e1, e2, e3, e4, hpe, hbx, f133, e48, hlen, hth, bneI_t, bneI_f, bne_self_eq_false, beqI_t, beqI_f, cells_self, cells_other, Int.toNat_natCast, Nat.zero_add, Nat.add_zero]
              exact Ends.some (Tr.none M2 F2)
          · rw [if_neg (fun q => q.2.elim (fun q => k9 q.1) (fun q => k8 q.1))]
            simp (maxSteps := 1000000) (disch := first | omega | (simp (disch := first | omega | (simp only [EvV.len, MonV.len, List.length_append, List.length_cons, List.length_nil, List.length_set]; first | done | omega)) only [EvV.len, MonV.len, amSide, Int.reduceToNat, Nat.reducePow, Nat.reduceMul]; first | done | omega)) only  [↓amPre, amPost, ↓s_lit', Nat.reduceAdd, Nat.reduceSub, List.replicate, retA, resultsA, resultA, toC, toCL, Nat.reduceEqDiff, (bu164 S.p), (fa101_0 S.p), (fa101_2 S.p), (fa101_3 S.p), (fa101_4 S.p), len_sl (un47 S.p), len_nils (un47 S.p), part_all (ag101 S.p) (sz101 S.p), part_at (ag101 S.p) (sz101 S.p), part_sc (ag3 S.p), part_sc (ag52 S.p), e0, e1, e2, e3, e4, hpe, hbx, f133, e48, hlen, hth, bneI_t, bneI_f, bne_self_eq_false, beqI_t, beqI_f, cells_self, cells_other, Int.toNat_natCast, Nat.zero_add, Nat.add_zero]
            exact Ends.some (Tr.none M2 F2)
    · rw [if_neg c9]
      by_cases c0 : e.e = 0
      · by_cases co : o.own = e.t
        · have hqo : (o.own == e.t) = true := by simpa using co
          rw [hqo] at f133
          rw [if_neg (fun q => q.elim (fun q => q c0) (fun q => q co))]
          by_cases k9 : e.k = 9
          · rw [if_pos k9]
            by_cases a0 : e.a = 0
            · by_cases cn : thrV V.waits e.o = []
              · rw [if_pos ⟨a0, cn⟩]
                rw [decide_eq_true cn] at hth
                simp (maxSteps := 1000000) (disch := first | omega | (simp (disch := first | omega | (simp only [EvV.len, MonV.len, List.length_append, List.length_cons, List.length_nil, List.length_set]; first | done | omega)) only [EvV.len, MonV.len, amSide, Int.reduceToNat, Nat.reducePow, Nat.reduceMul]; first | done | omega)) only  [↓amPre, amPost, ↓s_lit', Nat.reduceAdd, Nat.reduceSub, List.replicate, retA, resultsA, resultA, toC, toCL, Nat.reduceEqDiff, (bu164 S.p), (fa101_0 S.p), (fa101_2 S.p), (fa101_3 S.p), (fa101_4 S.p), len_sl (un47 S.p), len_nils (un47 S.p), part_all (ag101 S.p) (sz101 S.p), part_at (ag101 S.p) (sz101 S.p), part_sc (ag3 S.p), part_sc (ag52 S.p), e0, e1, e2, e3, e4, hpe, hbx, f133, e48, hlen, hth, bneI_t, bneI_f, bne_self_eq_false, beqI_t, beqI_f, cells_self, cells_other, Int.toNat_natCast, Nat.zero_add, Nat.add_zero]
                exact Ends.some (Tr.some M2 F2)
              · rw [if_neg (fun q => cn q.2)]
                rw [decide_eq_false cn] at hth
                simp (maxSteps := 1000000) (disch := first | omega | (simp (disch := first | omega | (simp only [EvV.len, MonV.len, List.length_append, List.length_cons, List.length_nil, List.length_set]; first | done | omega)) only [EvV.len, MonV.len, amSide, Int.reduceToNat, Nat.reducePow, Nat.reduceMul]; first | done | omega)) only  [↓amPre, amPost, ↓s_lit', Nat.reduceAdd, Nat.reduceSub, List.replicate, retA, resultsA, resultA, toC, toCL, Nat.reduceEqDiff, (bu164 S.p), (fa101_0 S.p), (fa101_2 S.p), (fa101_3 S.p), (fa101_4 S.p), len_sl (un47 S.p), len_nils (un47 S.p), part_all (ag101 S.p) (sz101 S.p), part_at (ag101 S.p) (sz101 S.p), part_sc (ag3 S.p), part_sc (ag52 S.p), e0, e1, e2, e3, e4, hpe, hbx, f133, e48, hlen, hth, bneI_t, bneI_f, bne_self_eq_false, beqI_t, beqI_f, cells_self, cells_other, Int.toNat_natCast, Nat.zero_add, Nat.add_zero]
                exact Ends.some (Tr.none M2 F2)
            · rw [if_neg (fun q => a0 q.1)]
              simp (maxSteps := 1000000) (disch := first | omega | (simp (disch := first | omega | (simp only [EvV.len, MonV.len, List.length_append, List.length_cons, List.length_nil, List.length_set]; first | done | omega)) only [EvV.len, MonV.len, amSide, Int.reduceToNat, Nat.reducePow, Nat.reduceMul]; first | done | omega)) only  [↓amPre, amPost, ↓s_lit', Nat.reduceAdd, Nat.reduceSub, List.replicate, retA, resultsA, resultA, toC, toCL, Nat.reduceEqDiff, (bu164 S.p), (fa101_0 S.p), (fa101_2 S.p), (fa101_3 S.p), (fa101_4 S.p), len_sl (un47 S.p), len_nils (un47 S.p), part_all (ag101 S.p) (sz101 S.p), part_at (ag101 S.p) (sz101 S.p), part_sc (ag3 S.p), part_sc (ag52 S.p), e0, e1, e2, e3, e4, hpe, hbx, f133, e48, hlen, hth, bneI_t, bneI_f, bne_self_eq_false, beqI_t, beqI_f, cells_self, cells_other, Int.toNat_natCast, Nat.zero_add, Nat.add_zero]
              exact Ends.some (Tr.none M2 F2)
          · rw [if_neg k9]
            by_cases ca : 0 ≤ e.a ∧ e.a < V.flags.length
            · rw [if_pos (Or.inl ca)]
              rw [decide_eq_true ca] at f96
              simp (maxSteps := 1000000) (disch := first | omega | (simp (disch := first | omega | (simp only [EvV.len, MonV.len, List.length_append, List.length_cons, List.length_nil, List.length_set]; first | done | omega)) only [EvV.len, MonV.len, amSide, Int.reduceToNat, Nat.reducePow, Nat.reduceMul]; first | done | omega)) only  [↓amPre, amPost, ↓s_lit', Nat.reduceAdd, Nat.reduceSub, List.replicate, retA, resultsA, resultA, toC, toCL, Nat.reduceEqDiff, (bu164 S.p), (fa101_0 S.p), (fa101_2 S.p), (fa101_3 S.p), (fa101_4 S.p), len_sl (un47 S.p), len_nils (un47 S.p), part_all (ag101 S.p) (sz101 S.p), part_at (ag101 S.p) (sz101 S.p), part_sc (ag3 S.p), part_sc (ag52 S.p), e0, e1, e2, e3, e4, hpe, hbx, f133, f96, e48, hlen, hth, bneI_t, bneI_f, bne_self_eq_false, beqI_t, beqI_f, cells_self, cells_other, Int.toNat_natCast, Nat.zero_add, Nat.add_zero]
              exact Ends.some (Tr.some M2 F2)
            · rw [decide_eq_false ca] at f96
              by_cases a1 : e.a = -1
              · by_cases cn : thrV V.waits e.o = []
                · rw [if_pos (Or.inr ⟨a1, cn⟩)]
                  rw [decide_eq_true cn] at hth
                  simp (maxSteps := 1000000) (disch := first | omega | (simp (disch := first | omega | (simp only [EvV.len, MonV.len, List.length_append, List.length_cons, List.length_nil, List.length_set]; first | done | omega)) only [EvV.len, MonV.len, amSide, Int.reduceToNat, Nat.reducePow, Nat.reduceMul]; first | done | omega)) only  [↓amPre, amPost, ↓s_lit', Nat.reduceAdd, Nat.reduceSub, List.replicate, retA, resultsA, resultA, toC, toCL, Nat.reduceEqDiff, (bu164 S.p), (fa101_0 S.p), (fa101_2 S.p), (fa101_3 S.p), (fa101_4 S.p), len_sl (un47 S.p), len_nils (un47 S.p), part_all (ag101 S.p) (sz101 S.p), part_at (ag101 S.p) (sz101 S.p), part_sc (ag3 S.p), part_sc (ag52 S.p), e0, e1, e2, e3, e4, hpe, hbx, f133, f96, e48, hlen, hth, bneI_t, bneI_f, bne_self_eq_false, beqI_t, beqI_f, cells_self, cells_other, Int.toNat_natCast, Nat.zero_add, Nat.add_zero]
                  exact Ends.some (Tr.some M2 F2)
                · rw [if_neg (fun q => q.elim (fun q => ca q) (fun q => cn q.2))]
                  rw [decide_eq_false cn] at hth
                  simp (maxSteps := 1000000) (disch := first | omega | (simp (disch := first | omega | (simp only [EvV.len, MonV.len, List.length_append, List.length_cons, List.length_nil, List.length_set]; first | done | omega)) only [EvV.len, MonV.len, amSide, Int.reduceToNat, Nat.reducePow, Nat.reduceMul]; first | done | omega)) only  [↓amPre, amPost, ↓s_lit', Nat.reduceAdd, Nat.reduceSub, List.replicate, retA, resultsA, resultA, toC, toCL, Nat.reduceEqDiff, (bu164 S.p), (fa101_0 S.p), (fa101_2 S.p), (fa101_3 S.p), (fa101_4 S.p), len_sl (un47 S.p), len_nils (un47 S.p), part_all (ag101 S.p) (sz101 S.p), part_at (ag101 S.p) (sz101 S.p), part_sc (ag3 S.p), part_sc (ag52 S.p), e0, e1, e2, e3, e4, hpe, hbx, f133, f96, e48, hlen, hth, bneI_t, bneI_f, bne_self_eq_false, beqI_t, beqI_f, cells_self, cells_other, Int.toNat_natCast, Nat.zero_add, Nat.add_zero]
                  exact Ends.some (Tr.none M2 F2)
              · rw [if_neg (fun q => q.elim (fun q => ca q) (fun q => a1 q.1))]
                simp (maxSteps := 1000000) (disch := first | omega | (simp (disch := first | omega | (simp only [EvV.len, MonV.len, List.length_append, List.length_cons, List.length_nil, List.length_set]; first | done | omega)) only [EvV.len, MonV.len, amSide, Int.reduceToNat, Nat.reducePow, Nat.reduceMul]; first | done | omega)) only  [↓amPre, amPost, ↓s_lit', Nat.reduceAdd, Nat.reduceSub, List.replicate, retA, resultsA, resultA, toC, toCL, Nat.reduceEqDiff, (bu164 S.p), (fa101_0 S.p), (fa101_2 S.p), (fa101_3 S.p), (fa101_4 S.p), len_sl (un47 S.p), len_nils (un47 S.p), part_all (ag101 S.p) (sz101 S.p), part_at (ag101 S.p) (sz101 S.p), part_sc (ag3 S.p), part_sc (ag52 S.p), e0, e1, e2, e3, e4, hpe, hbx, f133, f96, e48, hlen, hth, bneI_t, bneI_f, bne_self_eq_false, beqI_t, beqI_f, cells_self, cells_other, Int.toNat_natCast, Nat.zero_add, Nat.add_zero]
                exact Ends.some (Tr.none M2 F2)
        · have hqo : (o.own == e.t) = false := by simpa using co
          rw [hqo] at f133
          rw [if_pos (Or.inr co)]
          simp (maxSteps := 1000000) (disch := first | omega | (simp (disch := first | omega | (simp only [EvV.len, MonV.len, List.length_append, List.length_cons, List.length_nil, List.length_set]; first | done | omega)) only [EvV.len, MonV.len, amSide, Int.reduceToNat, Nat.reducePow, Nat.reduceMul]; first | done | omega)) only  [↓amPre, amPost, ↓s_lit', Nat.reduceAdd, Nat.reduceSub, List.replicate, retA, resultsA, resultA, toC, toCL, Nat.reduceEqDiff, (bu164 S.p), (fa101_0 S.p), (fa101_2 S.p), (fa101_3 S.p), (fa101_4 S.p), len_sl (un47 S.p), len_nils (un47 S.p), part_all (ag101 S.p) (sz101 S.p), part_at (ag101 S.p) (sz101 S.p), part_sc (ag3 S.p), part_sc (ag52 S.p), e0, e1, e2, e3, e4, hpe, hbx, f133, e48, hlen, hth, bneI_t, bneI_f, bne_self_eq_false, beqI_t, beqI_f, cells_self, cells_other, Int.toNat_natCast, Nat.zero_add, Nat.add_zero]
          exact Ends.some (Tr.none M2 F2)
      · rw [if_pos (Or.inl c0)]
        simp (maxSteps := 1000000) (disch := first | omega | (simp (disch := first | omega | (simp only [EvV.len, MonV.len, List.length_append, List.length_cons, List.length_nil, List.length_set]; first | done | omega)) only [EvV.len, MonV.len, amSide, Int.reduceToNat, Nat.reducePow, Nat.reduceMul]; first | done | omega)) only  [↓amPre, amPost, ↓s_lit', Nat.reduceAdd, Nat.reduceSub, List.replicate, retA, resultsA, resultA, toC, toCL, Nat.reduceEqDiff, (bu164 S.p), (fa101_0 S.p), (fa101_2 S.p), (fa101_3 S.p), (fa101_4 S.p), len_sl (un47 S.p), len_nils (un47 S.p), part_all (ag101 S.p) (sz101 S.p), part_at (ag101 S.p) (sz101 S.p), part_sc (ag3 S.p), part_sc (ag52 S.p), e0, e1, e2, e3, e4, hpe, hbx, f133, e48, hlen, hth, bneI_t, bneI_f, bne_self_eq_false, beqI_t, beqI_f, cells_self, cells_other, Int.toNat_natCast, Nat.zero_add, Nat.add_zero]
        exact Ends.some (Tr.none M2 F2)
end
end Go.AM
