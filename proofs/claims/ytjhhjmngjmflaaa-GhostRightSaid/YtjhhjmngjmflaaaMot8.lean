/- Monitors' model: a transition. Conditions: none. -/
import Derived.Test.YtjhhjmngjmflaaaMots
set_option linter.unusedVariables false
set_option linter.unusedSimpArgs false
set_option maxRecDepth 100000
namespace Go.AM
open Go.Proofs
-- LENS: EvV.len, MonV.len
section
variable {P : Program} {T : Tab} {K d : Nat} (S : Sd P T K)
include S
set_option maxHeartbeats 8000000 in
theorem s46 (hd : 4 ≤ d) {p bm bf bw bl : Nat} {V : MdV} {h : List AO} (M : MdAt h p bm bf bw bl V) (H : MdOk V) (e : EvV) {ob : Nat} {o : MonV} (ho : e.o = (ob : Int)) (hx : V.mons[ob]? = some o) {th : Nat} {f : Bool} (ht : e.t = (th : Int)) (hf : V.flags[th]? = some f) (lk : Nat) (hlk : lk ≤ bm ∧ lk ≤ bf ∧ lk ≤ bw ∧ lk ≤ bl) :
    Ends (Tr p bm bf bw bl h V (applyV V e o f)) (ev P T K d 46 [.sc (.ptr p 0), .ag e.cells] lk h) := by
  obtain ⟨d, rfl⟩ : ∃ k, d = k + 1 := ⟨d - 1, by omega⟩
  rw [ev_run (at46 S.t)]
  unfold i46 Try.f46
  have hn8 := H.n
  have hcn := H.cnt ob o hx
  have M1 := M.ext ((Ext1.refl h).push (.rw 34 e.cells))
  have F1 := (Fr.refl bm bf bw bl h).push (.rw 34 e.cells)
  have hp := M.cp
  have hcf := M.cf
  obtain ⟨l1, l2, l3, l4, l5⟩ := M.lts
  have e0 := e.c0
  have e1 := e.c1
  have e2 := e.c2
  have e3 := e.c3
  have e4 := e.c4
  have hpe := partE S e
  have hth := (List.getElem?_eq_some_iff.1 hf).1
  have rf : (V.flags.map SV.bool)[th]? = some (.bool f) := by rw [List.getElem?_map, hf]; rfl
  unfold applyV
  by_cases k1 : e.k = 1
  · rw [if_pos (Or.inl k1)]
    by_cases ca : e.a = 0
    · rw [if_pos ca]
      obtain ⟨v, h2, ec, X1, X2, X3⟩ := s71 S (show 3 ≤ d by omega) M1 e ho hx ⟨by omega, by omega⟩ lk hlk.1
      obtain rfl := X1
      simp (maxSteps := 1000000) (disch := first | omega | (simp (disch := first | omega | (simp only [EvV.len, MonV.len, List.length_append, List.length_cons, List.length_nil, List.length_set]; first | done | omega)) only [EvV.len, MonV.len, amSide, Int.reduceToNat, Nat.reducePow, Nat.reduceMul]; first | done | omega)) only  [↓amPre, amPost, ↓s_lit', Nat.reduceAdd, Nat.reduceSub, List.replicate, retA, resultsA, resultA, toC, toCL, Nat.reduceEqDiff, (bu138 S.p), (fa133_2 S.p), (fa34_0 S.p), (fa34_1 S.p), (fa34_2 S.p), (fa34_3 S.p), (fa34_4 S.p), iaddr_sl (un121 S.p) (sz4 S.p), part_sc (ag121 S.p), part_sc (ag3 S.p), part_sc (ag32 S.p), part_all (ag34 S.p) (sz34 S.p), part_at (ag34 S.p) (sz34 S.p), part_sc (ag4 S.p), store_last (sz4 S.p), (sz4 S.p), ec, e0, e1, e2, e3, e4, hpe, hp, hcf, rf, bneI_t, bneI_f, bne_self_eq_false, beqI_t, beqI_f, idx_ok, cells_self, cells_other, Int.toNat_natCast, Nat.zero_add, Nat.add_zero, Nat.mul_one]
      exact Ends.some (Tr.from F1 ⟨rfl, X2, X3⟩)
    · rw [if_neg ca]
      simp (maxSteps := 1000000) (disch := first | omega | (simp (disch := first | omega | (simp only [EvV.len, MonV.len, List.length_append, List.length_cons, List.length_nil, List.length_set]; first | done | omega)) only [EvV.len, MonV.len, amSide, Int.reduceToNat, Nat.reducePow, Nat.reduceMul]; first | done | omega)) only  [↓amPre, amPost, ↓s_lit', Nat.reduceAdd, Nat.reduceSub, List.replicate, retA, resultsA, resultA, toC, toCL, Nat.reduceEqDiff, (bu138 S.p), (fa133_2 S.p), (fa34_0 S.p), (fa34_1 S.p), (fa34_2 S.p), (fa34_3 S.p), (fa34_4 S.p), iaddr_sl (un121 S.p) (sz4 S.p), part_sc (ag121 S.p), part_sc (ag3 S.p), part_sc (ag32 S.p), part_all (ag34 S.p) (sz34 S.p), part_at (ag34 S.p) (sz34 S.p), part_sc (ag4 S.p), store_last (sz4 S.p), (sz4 S.p), e0, e1, e2, e3, e4, hpe, hp, hcf, rf, bneI_t, bneI_f, bne_self_eq_false, beqI_t, beqI_f, idx_ok, cells_self, cells_other, Int.toNat_natCast, Nat.zero_add, Nat.add_zero, Nat.mul_one]
      exact Ends.some (Tr.none M1 F1)
  by_cases k2 : e.k = 2
  · rw [if_pos (Or.inr k2)]
    by_cases ca : e.a = 0
    · rw [if_pos ca]
      obtain ⟨v, h2, ec, X1, X2, X3⟩ := s71 S (show 3 ≤ d by omega) M1 e ho hx ⟨by omega, by omega⟩ lk hlk.1
      obtain rfl := X1
      simp (maxSteps := 1000000) (disch := first | omega | (simp (disch := first | omega | (simp only [EvV.len, MonV.len, List.length_append, List.length_cons, List.length_nil, List.length_set]; first | done | omega)) only [EvV.len, MonV.len, amSide, Int.reduceToNat, Nat.reducePow, Nat.reduceMul]; first | done | omega)) only  [↓amPre, amPost, ↓s_lit', Nat.reduceAdd, Nat.reduceSub, List.replicate, retA, resultsA, resultA, toC, toCL, Nat.reduceEqDiff, (bu138 S.p), (fa133_2 S.p), (fa34_0 S.p), (fa34_1 S.p), (fa34_2 S.p), (fa34_3 S.p), (fa34_4 S.p), iaddr_sl (un121 S.p) (sz4 S.p), part_sc (ag121 S.p), part_sc (ag3 S.p), part_sc (ag32 S.p), part_all (ag34 S.p) (sz34 S.p), part_at (ag34 S.p) (sz34 S.p), part_sc (ag4 S.p), store_last (sz4 S.p), (sz4 S.p), ec, e0, e1, e2, e3, e4, hpe, hp, hcf, rf, bneI_t, bneI_f, bne_self_eq_false, beqI_t, beqI_f, idx_ok, cells_self, cells_other, Int.toNat_natCast, Nat.zero_add, Nat.add_zero, Nat.mul_one]
      exact Ends.some (Tr.from F1 ⟨rfl, X2, X3⟩)
    · rw [if_neg ca]
      simp (maxSteps := 1000000) (disch := first | omega | (simp (disch := first | omega | (simp only [EvV.len, MonV.len, List.length_append, List.length_cons, List.length_nil, List.length_set]; first | done | omega)) only [EvV.len, MonV.len, amSide, Int.reduceToNat, Nat.reducePow, Nat.reduceMul]; first | done | omega)) only  [↓amPre, amPost, ↓s_lit', Nat.reduceAdd, Nat.reduceSub, List.replicate, retA, resultsA, resultA, toC, toCL, Nat.reduceEqDiff, (bu138 S.p), (fa133_2 S.p), (fa34_0 S.p), (fa34_1 S.p), (fa34_2 S.p), (fa34_3 S.p), (fa34_4 S.p), iaddr_sl (un121 S.p) (sz4 S.p), part_sc (ag121 S.p), part_sc (ag3 S.p), part_sc (ag32 S.p), part_all (ag34 S.p) (sz34 S.p), part_at (ag34 S.p) (sz34 S.p), part_sc (ag4 S.p), store_last (sz4 S.p), (sz4 S.p), e0, e1, e2, e3, e4, hpe, hp, hcf, rf, bneI_t, bneI_f, bne_self_eq_false, beqI_t, beqI_f, idx_ok, cells_self, cells_other, Int.toNat_natCast, Nat.zero_add, Nat.add_zero, Nat.mul_one]
      exact Ends.some (Tr.none M1 F1)
  rw [if_neg (fun q => q.elim k1 k2)]
  by_cases k3 : e.k = 3
  · rw [if_pos k3]
    by_cases ca : e.a = 0
    · rw [if_pos ca]
      obtain ⟨v, h2, ec, X1, X2, X3⟩ := s72 S (show 3 ≤ d by omega) M1 e ho hx ⟨by omega, by omega⟩ lk hlk.1
      obtain rfl := X1
      simp (maxSteps := 1000000) (disch := first | omega | (simp (disch := first | omega | (simp only [EvV.len, MonV.len, List.length_append, List.length_cons, List.length_nil, List.length_set]; first | done | omega)) only [EvV.len, MonV.len, amSide, Int.reduceToNat, Nat.reducePow, Nat.reduceMul]; first | done | omega)) only  [↓amPre, amPost, ↓s_lit', Nat.reduceAdd, Nat.reduceSub, List.replicate, retA, resultsA, resultA, toC, toCL, Nat.reduceEqDiff, (bu138 S.p), (fa133_2 S.p), (fa34_0 S.p), (fa34_1 S.p), (fa34_2 S.p), (fa34_3 S.p), (fa34_4 S.p), iaddr_sl (un121 S.p) (sz4 S.p), part_sc (ag121 S.p), part_sc (ag3 S.p), part_sc (ag32 S.p), part_all (ag34 S.p) (sz34 S.p), part_at (ag34 S.p) (sz34 S.p), part_sc (ag4 S.p), store_last (sz4 S.p), (sz4 S.p), ec, e0, e1, e2, e3, e4, hpe, hp, hcf, rf, bneI_t, bneI_f, bne_self_eq_false, beqI_t, beqI_f, idx_ok, cells_self, cells_other, Int.toNat_natCast, Nat.zero_add, Nat.add_zero, Nat.mul_one]
      exact Ends.some (Tr.from F1 ⟨rfl, X2, X3⟩)
    · rw [if_neg ca]
      simp (maxSteps := 1000000) (disch := first | omega | (simp (disch := first | omega | (simp only [EvV.len, MonV.len, List.length_append, List.length_cons, List.length_nil, List.length_set]; first | done | omega)) only [EvV.len, MonV.len, amSide, Int.reduceToNat, Nat.reducePow, Nat.reduceMul]; first | done | omega)) only  [↓amPre, amPost, ↓s_lit', Nat.reduceAdd, Nat.reduceSub, List.replicate, retA, resultsA, resultA, toC, toCL, Nat.reduceEqDiff, (bu138 S.p), (fa133_2 S.p), (fa34_0 S.p), (fa34_1 S.p), (fa34_2 S.p), (fa34_3 S.p), (fa34_4 S.p), iaddr_sl (un121 S.p) (sz4 S.p), part_sc (ag121 S.p), part_sc (ag3 S.p), part_sc (ag32 S.p), part_all (ag34 S.p) (sz34 S.p), part_at (ag34 S.p) (sz34 S.p), part_sc (ag4 S.p), store_last (sz4 S.p), (sz4 S.p), e0, e1, e2, e3, e4, hpe, hp, hcf, rf, bneI_t, bneI_f, bne_self_eq_false, beqI_t, beqI_f, idx_ok, cells_self, cells_other, Int.toNat_natCast, Nat.zero_add, Nat.add_zero, Nat.mul_one]
      exact Ends.some (Tr.none M1 F1)
  rw [if_neg k3]
  by_cases k4 : e.k = 4
  · rw [if_pos k4]
    by_cases ca : e.a = 0
    · rw [if_pos ca]
      obtain ⟨v, h2, ec, X1, X2, X3⟩ := s73 S (show 3 ≤ d by omega) M1 e ho hx ht hf lk ⟨hlk.1, hlk.2.1, hlk.2.2.1⟩
      obtain rfl := X1
      simp (maxSteps := 1000000) (disch := first | omega | (simp (disch := first | omega | (simp only [EvV.len, MonV.len, List.length_append, List.length_cons, List.length_nil, List.length_set]; first | done | omega)) only [EvV.len, MonV.len, amSide, Int.reduceToNat, Nat.reducePow, Nat.reduceMul]; first | done | omega)) only  [↓amPre, amPost, ↓s_lit', Nat.reduceAdd, Nat.reduceSub, List.replicate, retA, resultsA, resultA, toC, toCL, Nat.reduceEqDiff, (bu138 S.p), (fa133_2 S.p), (fa34_0 S.p), (fa34_1 S.p), (fa34_2 S.p), (fa34_3 S.p), (fa34_4 S.p), iaddr_sl (un121 S.p) (sz4 S.p), part_sc (ag121 S.p), part_sc (ag3 S.p), part_sc (ag32 S.p), part_all (ag34 S.p) (sz34 S.p), part_at (ag34 S.p) (sz34 S.p), part_sc (ag4 S.p), store_last (sz4 S.p), (sz4 S.p), ec, e0, e1, e2, e3, e4, hpe, hp, hcf, rf, bneI_t, bneI_f, bne_self_eq_false, beqI_t, beqI_f, idx_ok, cells_self, cells_other, Int.toNat_natCast, Nat.zero_add, Nat.add_zero, Nat.mul_one]
      exact Ends.some (Tr.from F1 ⟨rfl, X2, X3⟩)
    · rw [if_neg ca]
      simp (maxSteps := 1000000) (disch := first | omega | (simp (disch := first | omega | (simp only [EvV.len, MonV.len, List.length_append, List.length_cons, List.length_nil, List.length_set]; first | done | omega)) only [EvV.len, MonV.len, amSide, Int.reduceToNat, Nat.reducePow, Nat.reduceMul]; first | done | omega)) only  [↓amPre, amPost, ↓s_lit', Nat.reduceAdd, Nat.reduceSub, List.replicate, retA, resultsA, resultA, toC, toCL, Nat.reduceEqDiff, (bu138 S.p), (fa133_2 S.p), (fa34_0 S.p), (fa34_1 S.p), (fa34_2 S.p), (fa34_3 S.p), (fa34_4 S.p), iaddr_sl (un121 S.p) (sz4 S.p), part_sc (ag121 S.p), part_sc (ag3 S.p), part_sc (ag32 S.p), part_all (ag34 S.p) (sz34 S.p), part_at (ag34 S.p) (sz34 S.p), part_sc (ag4 S.p), store_last (sz4 S.p), (sz4 S.p), e0, e1, e2, e3, e4, hpe, hp, hcf, rf, bneI_t, bneI_f, bne_self_eq_false, beqI_t, beqI_f, idx_ok, cells_self, cells_other, Int.toNat_natCast, Nat.zero_add, Nat.add_zero, Nat.mul_one]
      exact Ends.some (Tr.none M1 F1)
  rw [if_neg k4]
  by_cases k5 : e.k = 5
  · rw [if_pos k5]
    obtain ⟨v, h2, ec, X1, X2, X3⟩ := s74 S (show 1 ≤ d by omega) M1 (e.o, e.t) e.e lk ⟨hlk.2.2.1, hlk.2.2.2⟩
    obtain rfl := X1
    unfold pk at ec
    simp only at ec
    rw [ht] at e1 ec X2 ⊢
    by_cases ca : e.a = 0
    · by_cases c13 : e.e = 13
      · rw [if_pos ⟨ca, Or.inl c13⟩]
        simp (maxSteps := 1000000) (disch := first | omega | (simp (disch := first | omega | (simp only [EvV.len, MonV.len, List.length_append, List.length_cons, List.length_nil, List.length_set]; first | done | omega)) only [EvV.len, MonV.len, amSide, Int.reduceToNat, Nat.reducePow, Nat.reduceMul]; first | done | omega)) only  [↓amPre, amPost, ↓s_lit', Nat.reduceAdd, Nat.reduceSub, List.replicate, retA, resultsA, resultA, toC, toCL, Nat.reduceEqDiff, (bu138 S.p), (fa133_2 S.p), (fa34_0 S.p), (fa34_1 S.p), (fa34_2 S.p), (fa34_3 S.p), (fa34_4 S.p), iaddr_sl (un121 S.p) (sz4 S.p), part_sc (ag121 S.p), part_sc (ag3 S.p), part_sc (ag32 S.p), part_all (ag34 S.p) (sz34 S.p), part_at (ag34 S.p) (sz34 S.p), part_sc (ag4 S.p), store_last (sz4 S.p), (sz4 S.p), ec, e0, e1, e2, e3, e4, hpe, hp, hcf, rf, bneI_t, bneI_f, bne_self_eq_false, beqI_t, beqI_f, idx_ok, cells_self, cells_other, Int.toNat_natCast, Nat.zero_add, Nat.add_zero, Nat.mul_one]
        exact Ends.some (Tr.from F1 ⟨rfl, X2, X3⟩)
      · by_cases c12 : e.e = 12
        · cases f with
          | true =>
            rw [if_pos ⟨ca, Or.inr ⟨c12, rfl⟩⟩]
            simp (maxSteps := 1000000) (disch := first | omega | (simp (disch := first | omega | (simp only [EvV.len, MonV.len, List.length_append, List.length_cons, List.length_nil, List.length_set]; first | done | omega)) only [EvV.len, MonV.len, amSide, Int.reduceToNat, Nat.reducePow, Nat.reduceMul]; first | done | omega)) only  [↓amPre, amPost, ↓s_lit', Nat.reduceAdd, Nat.reduceSub, List.replicate, retA, resultsA, resultA, toC, toCL, Nat.reduceEqDiff, (bu138 S.p), (fa133_2 S.p), (fa34_0 S.p), (fa34_1 S.p), (fa34_2 S.p), (fa34_3 S.p), (fa34_4 S.p), iaddr_sl (un121 S.p) (sz4 S.p), part_sc (ag121 S.p), part_sc (ag3 S.p), part_sc (ag32 S.p), part_all (ag34 S.p) (sz34 S.p), part_at (ag34 S.p) (sz34 S.p), part_sc (ag4 S.p), store_last (sz4 S.p), (sz4 S.p), ec, e0, e1, e2, e3, e4, hpe, hp, hcf, rf, bneI_t, bneI_f, bne_self_eq_false, beqI_t, beqI_f, idx_ok, cells_self, cells_other, Int.toNat_natCast, Nat.zero_add, Nat.add_zero, Nat.mul_one]
            exact Ends.some (Tr.from F1 ⟨rfl, X2, X3⟩)
          | false =>
            rw [if_neg (fun q => q.2.elim c13 (fun q => by cases q.2))]
            simp (maxSteps := 1000000) (disch := first | omega | (simp (disch := first | omega | (simp only [EvV.len, MonV.len, List.length_append, List.length_cons, List.length_nil, List.length_set]; first | done | omega)) only [EvV.len, MonV.len, amSide, Int.reduceToNat, Nat.reducePow, Nat.reduceMul]; first | done | omega)) only  [↓amPre, amPost, ↓s_lit', Nat.reduceAdd, Nat.reduceSub, List.replicate, retA, resultsA, resultA, toC, toCL, Nat.reduceEqDiff, (bu138 S.p), (fa133_2 S.p), (fa34_0 S.p), (fa34_1 S.p), (fa34_2 S.p), (fa34_3 S.p), (fa34_4 S.p), iaddr_sl (un121 S.p) (sz4 S.p), part_sc (ag121 S.p), part_sc (ag3 S.p), part_sc (ag32 S.p), part_all (ag34 S.p) (sz34 S.p), part_at (ag34 S.p) (sz34 S.p), part_sc (ag4 S.p), store_last (sz4 S.p), (sz4 S.p), e0, e1, e2, e3, e4, hpe, hp, hcf, rf, bneI_t, bneI_f, bne_self_eq_false, beqI_t, beqI_f, idx_ok, cells_self, cells_other, Int.toNat_natCast, Nat.zero_add, Nat.add_zero, Nat.mul_one]
            exact Ends.some (Tr.none M1 F1)
        · rw [if_neg (fun q => q.2.elim c13 (fun q => c12 q.1))]
          simp (maxSteps := 1000000) (disch := first | omega | (simp (disch := first | omega | (simp only [EvV.len, MonV.len, List.length_append, List.length_cons, List.length_nil, List.length_set]; first | done | omega)) only [EvV.len, MonV.len, amSide, Int.reduceToNat, Nat.reducePow, Nat.reduceMul]; first | done | omega)) only  [↓amPre, amPost, ↓s_lit', Nat.reduceAdd, Nat.reduceSub, List.replicate, retA, resultsA, resultA, toC, toCL, Nat.reduceEqDiff, (bu138 S.p), (fa133_2 S.p), (fa34_0 S.p), (fa34_1 S.p), (fa34_2 S.p), (fa34_3 S.p), (fa34_4 S.p), iaddr_sl (un121 S.p) (sz4 S.p), part_sc (ag121 S.p), part_sc (ag3 S.p), part_sc (ag32 S.p), part_all (ag34 S.p) (sz34 S.p), part_at (ag34 S.p) (sz34 S.p), part_sc (ag4 S.p), store_last (sz4 S.p), (sz4 S.p), e0, e1, e2, e3, e4, hpe, hp, hcf, rf, bneI_t, bneI_f, bne_self_eq_false, beqI_t, beqI_f, idx_ok, cells_self, cells_other, Int.toNat_natCast, Nat.zero_add, Nat.add_zero, Nat.mul_one]
          exact Ends.some (Tr.none M1 F1)
    · rw [if_neg (fun q => ca q.1)]
      by_cases c13 : e.e = 13
      · simp (maxSteps := 1000000) (disch := first | omega | (simp (disch := first | omega | (simp only [EvV.len, MonV.len, List.length_append, List.length_cons, List.length_nil, List.length_set]; first | done | omega)) only [EvV.len, MonV.len, amSide, Int.reduceToNat, Nat.reducePow, Nat.reduceMul]; first | done | omega)) only  [↓amPre, amPost, ↓s_lit', Nat.reduceAdd, Nat.reduceSub, List.replicate, retA, resultsA, resultA, toC, toCL, Nat.reduceEqDiff, (bu138 S.p), (fa133_2 S.p), (fa34_0 S.p), (fa34_1 S.p), (fa34_2 S.p), (fa34_3 S.p), (fa34_4 S.p), iaddr_sl (un121 S.p) (sz4 S.p), part_sc (ag121 S.p), part_sc (ag3 S.p), part_sc (ag32 S.p), part_all (ag34 S.p) (sz34 S.p), part_at (ag34 S.p) (sz34 S.p), part_sc (ag4 S.p), store_last (sz4 S.p), (sz4 S.p), e0, e1, e2, e3, e4, hpe, hp, hcf, rf, bneI_t, bneI_f, bne_self_eq_false, beqI_t, beqI_f, idx_ok, cells_self, cells_other, Int.toNat_natCast, Nat.zero_add, Nat.add_zero, Nat.mul_one]
        exact Ends.some (Tr.none M1 F1)
      · by_cases c12 : e.e = 12
        · cases f with
          | true =>
            simp (maxSteps := 1000000) (disch := first | omega | (simp (disch := first | omega | (simp only [EvV.len, MonV.len, List.length_append, List.length_cons, List.length_nil, List.length_set]; first | done | omega)) only [EvV.len, MonV.len, amSide, Int.reduceToNat, Nat.reducePow, Nat.reduceMul]; first | done | omega)) only  [↓amPre, amPost, ↓s_lit', Nat.reduceAdd, Nat.reduceSub, List.replicate, retA, resultsA, resultA, toC, toCL, Nat.reduceEqDiff, (bu138 S.p), (fa133_2 S.p), (fa34_0 S.p), (fa34_1 S.p), (fa34_2 S.p), (fa34_3 S.p), (fa34_4 S.p), iaddr_sl (un121 S.p) (sz4 S.p), part_sc (ag121 S.p), part_sc (ag3 S.p), part_sc (ag32 S.p), part_all (ag34 S.p) (sz34 S.p), part_at (ag34 S.p) (sz34 S.p), part_sc (ag4 S.p), store_last (sz4 S.p), (sz4 S.p), e0, e1, e2, e3, e4, hpe, hp, hcf, rf, bneI_t, bneI_f, bne_self_eq_false, beqI_t, beqI_f, idx_ok, cells_self, cells_other, Int.toNat_natCast, Nat.zero_add, Nat.add_zero, Nat.mul_one]
            exact Ends.some (Tr.none M1 F1)
          | false =>
            simp (maxSteps := 1000000) (disch := first | omega | (simp (disch := first | omega | (simp only [EvV.len, MonV.len, List.length_append, List.length_cons, List.length_nil, List.length_set]; first | done | omega)) only [EvV.len, MonV.len, amSide, Int.reduceToNat, Nat.reducePow, Nat.reduceMul]; first | done | omega)) only  [↓amPre, amPost, ↓s_lit', Nat.reduceAdd, Nat.reduceSub, List.replicate, retA, resultsA, resultA, toC, toCL, Nat.reduceEqDiff, (bu138 S.p), (fa133_2 S.p), (fa34_0 S.p), (fa34_1 S.p), (fa34_2 S.p), (fa34_3 S.p), (fa34_4 S.p), iaddr_sl (un121 S.p) (sz4 S.p), part_sc (ag121 S.p), part_sc (ag3 S.p), part_sc (ag32 S.p), part_all (ag34 S.p) (sz34 S.p), part_at (ag34 S.p) (sz34 S.p), part_sc (ag4 S.p), store_last (sz4 S.p), (sz4 S.p), e0, e1, e2, e3, e4, hpe, hp, hcf, rf, bneI_t, bneI_f, bne_self_eq_false, beqI_t, beqI_f, idx_ok, cells_self, cells_other, Int.toNat_natCast, Nat.zero_add, Nat.add_zero, Nat.mul_one]
            exact Ends.some (Tr.none M1 F1)
        · simp (maxSteps := 1000000) (disch := first | omega | (simp (disch := first | omega | (simp only [EvV.len, MonV.len, List.length_append, List.length_cons, List.length_nil, List.length_set]; first | done | omega)) only [EvV.len, MonV.len, amSide, Int.reduceToNat, Nat.reducePow, Nat.reduceMul]; first | done | omega)) only  [↓amPre, amPost, ↓s_lit', Nat.reduceAdd, Nat.reduceSub, List.replicate, retA, resultsA, resultA, toC, toCL, Nat.reduceEqDiff, (bu138 S.p), (fa133_2 S.p), (fa34_0 S.p), (fa34_1 S.p), (fa34_2 S.p), (fa34_3 S.p), (fa34_4 S.p), iaddr_sl (un121 S.p) (sz4 S.p), part_sc (ag121 S.p), part_sc (ag3 S.p), part_sc (ag32 S.p), part_all (ag34 S.p) (sz34 S.p), part_at (ag34 S.p) (sz34 S.p), part_sc (ag4 S.p), store_last (sz4 S.p), (sz4 S.p), e0, e1, e2, e3, e4, hpe, hp, hcf, rf, bneI_t, bneI_f, bne_self_eq_false, beqI_t, beqI_f, idx_ok, cells_self, cells_other, Int.toNat_natCast, Nat.zero_add, Nat.add_zero, Nat.mul_one]
          exact Ends.some (Tr.none M1 F1)
  rw [if_neg k5]
  by_cases k6 : e.k = 6
  · rw [if_pos k6]
    by_cases ca : e.a = 0
    · rw [if_pos ca]
      obtain ⟨v, h2, ec, X1, X2, X3⟩ := s75 S (show 1 ≤ d by omega) M1 e ho hx ht hf lk ⟨hlk.1, hlk.2.1, hlk.2.2.2⟩
      obtain rfl := X1
      simp (maxSteps := 1000000) (disch := first | omega | (simp (disch := first | omega | (simp only [EvV.len, MonV.len, List.length_append, List.length_cons, List.length_nil, List.length_set]; first | done | omega)) only [EvV.len, MonV.len, amSide, Int.reduceToNat, Nat.reducePow, Nat.reduceMul]; first | done | omega)) only  [↓amPre, amPost, ↓s_lit', Nat.reduceAdd, Nat.reduceSub, List.replicate, retA, resultsA, resultA, toC, toCL, Nat.reduceEqDiff, (bu138 S.p), (fa133_2 S.p), (fa34_0 S.p), (fa34_1 S.p), (fa34_2 S.p), (fa34_3 S.p), (fa34_4 S.p), iaddr_sl (un121 S.p) (sz4 S.p), part_sc (ag121 S.p), part_sc (ag3 S.p), part_sc (ag32 S.p), part_all (ag34 S.p) (sz34 S.p), part_at (ag34 S.p) (sz34 S.p), part_sc (ag4 S.p), store_last (sz4 S.p), (sz4 S.p), ec, e0, e1, e2, e3, e4, hpe, hp, hcf, rf, bneI_t, bneI_f, bne_self_eq_false, beqI_t, beqI_f, idx_ok, cells_self, cells_other, Int.toNat_natCast, Nat.zero_add, Nat.add_zero, Nat.mul_one]
      exact Ends.some (Tr.from F1 ⟨rfl, X2, X3⟩)
    · rw [if_neg ca]
      simp (maxSteps := 1000000) (disch := first | omega | (simp (disch := first | omega | (simp only [EvV.len, MonV.len, List.length_append, List.length_cons, List.length_nil, List.length_set]; first | done | omega)) only [EvV.len, MonV.len, amSide, Int.reduceToNat, Nat.reducePow, Nat.reduceMul]; first | done | omega)) only  [↓amPre, amPost, ↓s_lit', Nat.reduceAdd, Nat.reduceSub, List.replicate, retA, resultsA, resultA, toC, toCL, Nat.reduceEqDiff, (bu138 S.p), (fa133_2 S.p), (fa34_0 S.p), (fa34_1 S.p), (fa34_2 S.p), (fa34_3 S.p), (fa34_4 S.p), iaddr_sl (un121 S.p) (sz4 S.p), part_sc (ag121 S.p), part_sc (ag3 S.p), part_sc (ag32 S.p), part_all (ag34 S.p) (sz34 S.p), part_at (ag34 S.p) (sz34 S.p), part_sc (ag4 S.p), store_last (sz4 S.p), (sz4 S.p), e0, e1, e2, e3, e4, hpe, hp, hcf, rf, bneI_t, bneI_f, bne_self_eq_false, beqI_t, beqI_f, idx_ok, cells_self, cells_other, Int.toNat_natCast, Nat.zero_add, Nat.add_zero, Nat.mul_one]
      exact Ends.some (Tr.none M1 F1)
  rw [if_neg k6]
  by_cases k7 : e.k = 7
  · rw [if_pos (Or.inl k7)]
    obtain ⟨v, h2, ec, X1, X2, X3⟩ := s76 S (show 3 ≤ d by omega) M1 H e ho hx lk ⟨hlk.2.2.1, hlk.2.2.2⟩
    obtain rfl := X1
    simp (maxSteps := 1000000) (disch := first | omega | (simp (disch := first | omega | (simp only [EvV.len, MonV.len, List.length_append, List.length_cons, List.length_nil, List.length_set]; first | done | omega)) only [EvV.len, MonV.len, amSide, Int.reduceToNat, Nat.reducePow, Nat.reduceMul]; first | done | omega)) only  [↓amPre, amPost, ↓s_lit', Nat.reduceAdd, Nat.reduceSub, List.replicate, retA, resultsA, resultA, toC, toCL, Nat.reduceEqDiff, (bu138 S.p), (fa133_2 S.p), (fa34_0 S.p), (fa34_1 S.p), (fa34_2 S.p), (fa34_3 S.p), (fa34_4 S.p), iaddr_sl (un121 S.p) (sz4 S.p), part_sc (ag121 S.p), part_sc (ag3 S.p), part_sc (ag32 S.p), part_all (ag34 S.p) (sz34 S.p), part_at (ag34 S.p) (sz34 S.p), part_sc (ag4 S.p), store_last (sz4 S.p), (sz4 S.p), ec, e0, e1, e2, e3, e4, hpe, hp, hcf, rf, bneI_t, bneI_f, bne_self_eq_false, beqI_t, beqI_f, idx_ok, cells_self, cells_other, Int.toNat_natCast, Nat.zero_add, Nat.add_zero, Nat.mul_one]
    exact Ends.some (Tr.from F1 ⟨rfl, X2, X3⟩)
  by_cases k8 : e.k = 8
  · rw [if_pos (Or.inr (Or.inl k8))]
    obtain ⟨v, h2, ec, X1, X2, X3⟩ := s76 S (show 3 ≤ d by omega) M1 H e ho hx lk ⟨hlk.2.2.1, hlk.2.2.2⟩
    obtain rfl := X1
    simp (maxSteps := 1000000) (disch := first | omega | (simp (disch := first | omega | (simp only [EvV.len, MonV.len, List.length_append, List.length_cons, List.length_nil, List.length_set]; first | done | omega)) only [EvV.len, MonV.len, amSide, Int.reduceToNat, Nat.reducePow, Nat.reduceMul]; first | done | omega)) only  [↓amPre, amPost, ↓s_lit', Nat.reduceAdd, Nat.reduceSub, List.replicate, retA, resultsA, resultA, toC, toCL, Nat.reduceEqDiff, (bu138 S.p), (fa133_2 S.p), (fa34_0 S.p), (fa34_1 S.p), (fa34_2 S.p), (fa34_3 S.p), (fa34_4 S.p), iaddr_sl (un121 S.p) (sz4 S.p), part_sc (ag121 S.p), part_sc (ag3 S.p), part_sc (ag32 S.p), part_all (ag34 S.p) (sz34 S.p), part_at (ag34 S.p) (sz34 S.p), part_sc (ag4 S.p), store_last (sz4 S.p), (sz4 S.p), ec, e0, e1, e2, e3, e4, hpe, hp, hcf, rf, bneI_t, bneI_f, bne_self_eq_false, beqI_t, beqI_f, idx_ok, cells_self, cells_other, Int.toNat_natCast, Nat.zero_add, Nat.add_zero, Nat.mul_one]
    exact Ends.some (Tr.from F1 ⟨rfl, X2, X3⟩)
  by_cases k9 : e.k = 9
  · rw [if_pos (Or.inr (Or.inr k9))]
    obtain ⟨v, h2, ec, X1, X2, X3⟩ := s76 S (show 3 ≤ d by omega) M1 H e ho hx lk ⟨hlk.2.2.1, hlk.2.2.2⟩
    obtain rfl := X1
    simp (maxSteps := 1000000) (disch := first | omega | (simp (disch := first | omega | (simp only [EvV.len, MonV.len, List.length_append, List.length_cons, List.length_nil, List.length_set]; first | done | omega)) only [EvV.len, MonV.len, amSide, Int.reduceToNat, Nat.reducePow, Nat.reduceMul]; first | done | omega)) only  [↓amPre, amPost, ↓s_lit', Nat.reduceAdd, Nat.reduceSub, List.replicate, retA, resultsA, resultA, toC, toCL, Nat.reduceEqDiff, (bu138 S.p), (fa133_2 S.p), (fa34_0 S.p), (fa34_1 S.p), (fa34_2 S.p), (fa34_3 S.p), (fa34_4 S.p), iaddr_sl (un121 S.p) (sz4 S.p), part_sc (ag121 S.p), part_sc (ag3 S.p), part_sc (ag32 S.p), part_all (ag34 S.p) (sz34 S.p), part_at (ag34 S.p) (sz34 S.p), part_sc (ag4 S.p), store_last (sz4 S.p), (sz4 S.p), ec, e0, e1, e2, e3, e4, hpe, hp, hcf, rf, bneI_t, bneI_f, bne_self_eq_false, beqI_t, beqI_f, idx_ok, cells_self, cells_other, Int.toNat_natCast, Nat.zero_add, Nat.add_zero, Nat.mul_one]
    exact Ends.some (Tr.from F1 ⟨rfl, X2, X3⟩)
  rw [if_neg (fun q => q.elim k7 (fun q => q.elim k8 k9))]
  by_cases k10 : e.k = 10
  · rw [if_pos k10]
    obtain ⟨v, h2, ec, X1, X2, X3⟩ := s77 S (show 2 ≤ d by omega) M1 e ho hx lk hlk.1
    obtain rfl := X1
    simp (maxSteps := 1000000) (disch := first | omega | (simp (disch := first | omega | (simp only [EvV.len, MonV.len, List.length_append, List.length_cons, List.length_nil, List.length_set]; first | done | omega)) only [EvV.len, MonV.len, amSide, Int.reduceToNat, Nat.reducePow, Nat.reduceMul]; first | done | omega)) only  [↓amPre, amPost, ↓s_lit', Nat.reduceAdd, Nat.reduceSub, List.replicate, retA, resultsA, resultA, toC, toCL, Nat.reduceEqDiff, (bu138 S.p), (fa133_2 S.p), (fa34_0 S.p), (fa34_1 S.p), (fa34_2 S.p), (fa34_3 S.p), (fa34_4 S.p), iaddr_sl (un121 S.p) (sz4 S.p), part_sc (ag121 S.p), part_sc (ag3 S.p), part_sc (ag32 S.p), part_all (ag34 S.p) (sz34 S.p), part_at (ag34 S.p) (sz34 S.p), part_sc (ag4 S.p), store_last (sz4 S.p), (sz4 S.p), ec, e0, e1, e2, e3, e4, hpe, hp, hcf, rf, bneI_t, bneI_f, bne_self_eq_false, beqI_t, beqI_f, idx_ok, cells_self, cells_other, Int.toNat_natCast, Nat.zero_add, Nat.add_zero, Nat.mul_one]
    exact Ends.some (Tr.from F1 ⟨rfl, X2, X3⟩)
  rw [if_neg k10]
  by_cases k11 : e.k = 11
  · rw [if_pos k11]
    have f114 := fun lk => s78 S (show 2 ≤ d by omega) M1 e ho hx lk
    simp (maxSteps := 1000000) (disch := first | omega | (simp (disch := first | omega | (simp only [EvV.len, MonV.len, List.length_append, List.length_cons, List.length_nil, List.length_set]; first | done | omega)) only [EvV.len, MonV.len, amSide, Int.reduceToNat, Nat.reducePow, Nat.reduceMul]; first | done | omega)) only  [↓amPre, amPost, ↓s_lit', Nat.reduceAdd, Nat.reduceSub, List.replicate, retA, resultsA, resultA, toC, toCL, Nat.reduceEqDiff, (bu138 S.p), (fa133_2 S.p), (fa34_0 S.p), (fa34_1 S.p), (fa34_2 S.p), (fa34_3 S.p), (fa34_4 S.p), iaddr_sl (un121 S.p) (sz4 S.p), part_sc (ag121 S.p), part_sc (ag3 S.p), part_sc (ag32 S.p), part_all (ag34 S.p) (sz34 S.p), part_at (ag34 S.p) (sz34 S.p), part_sc (ag4 S.p), store_last (sz4 S.p), (sz4 S.p), f114, e0, e1, e2, e3, e4, hpe, hp, hcf, rf, bneI_t, bneI_f, bne_self_eq_false, beqI_t, beqI_f, idx_ok, cells_self, cells_other, Int.toNat_natCast, Nat.zero_add, Nat.add_zero, Nat.mul_one]
    refine Ends.some ⟨rfl, ?_, F1⟩
    have : (holdsV V e o).getD V = V := by unfold holdsV; split <;> rfl
    rw [this]; exact M1
  rw [if_neg k11]
  by_cases k12 : e.k = 12
  · rw [if_pos k12]
    have f96 := fun lk => s69 S (show 2 ≤ d by omega) M1 (by omega) e.a lk
    unfold intrV
    by_cases c0 : e.e = 0
    · by_cases ca : 0 ≤ e.a ∧ e.a < V.flags.length
      · rw [if_pos ⟨c0, ca⟩]
        rw [decide_eq_true ca] at f96
        obtain ⟨a, hae⟩ := Int.eq_ofNat_of_zero_le ca.1
        have ha : a < V.flags.length := by omega
        have st := M.storeF (sz4 S.p) ha hlk.2.1 true
        have M2 := (M.setF a true).ext ((Ext1.refl _).push (.rw 34 e.cells))
        rw [hae] at e3 f96 ⊢
        simp (maxSteps := 1000000) (disch := first | omega | (simp (disch := first | omega | (simp only [EvV.len, MonV.len, List.length_append, List.length_cons, List.length_nil, List.length_set]; first | done | omega)) only [EvV.len, MonV.len, amSide, Int.reduceToNat, Nat.reducePow, Nat.reduceMul]; first | done | omega)) only  [↓amPre, amPost, ↓s_lit', Nat.reduceAdd, Nat.reduceSub, List.replicate, retA, resultsA, resultA, toC, toCL, Nat.reduceEqDiff, (bu138 S.p), (fa133_2 S.p), (fa34_0 S.p), (fa34_1 S.p), (fa34_2 S.p), (fa34_3 S.p), (fa34_4 S.p), iaddr_sl (un121 S.p) (sz4 S.p), part_sc (ag121 S.p), part_sc (ag3 S.p), part_sc (ag32 S.p), part_all (ag34 S.p) (sz34 S.p), part_at (ag34 S.p) (sz34 S.p), part_sc (ag4 S.p), store_last (sz4 S.p), (sz4 S.p), f96, st, store_skip, e0, e1, e2, e3, e4, hpe, hp, hcf, rf, bneI_t, bneI_f, bne_self_eq_false, beqI_t, beqI_f, idx_ok, cells_self, cells_other, Int.toNat_natCast, Nat.zero_add, Nat.add_zero, Nat.mul_one]
        refine Ends.some (Tr.some M2 ?_)
        exact ((Fr.refl bm bf bw bl h).set _ (.inr (.inl rfl))).push _
      · rw [if_neg (fun q => ca q.2)]
        rw [decide_eq_false ca] at f96
        simp (maxSteps := 1000000) (disch := first | omega | (simp (disch := first | omega | (simp only [EvV.len, MonV.len, List.length_append, List.length_cons, List.length_nil, List.length_set]; first | done | omega)) only [EvV.len, MonV.len, amSide, Int.reduceToNat, Nat.reducePow, Nat.reduceMul]; first | done | omega)) only  [↓amPre, amPost, ↓s_lit', Nat.reduceAdd, Nat.reduceSub, List.replicate, retA, resultsA, resultA, toC, toCL, Nat.reduceEqDiff, (bu138 S.p), (fa133_2 S.p), (fa34_0 S.p), (fa34_1 S.p), (fa34_2 S.p), (fa34_3 S.p), (fa34_4 S.p), iaddr_sl (un121 S.p) (sz4 S.p), part_sc (ag121 S.p), part_sc (ag3 S.p), part_sc (ag32 S.p), part_all (ag34 S.p) (sz34 S.p), part_at (ag34 S.p) (sz34 S.p), part_sc (ag4 S.p), store_last (sz4 S.p), (sz4 S.p), f96, e0, e1, e2, e3, e4, hpe, hp, hcf, rf, bneI_t, bneI_f, bne_self_eq_false, beqI_t, beqI_f, idx_ok, cells_self, cells_other, Int.toNat_natCast, Nat.zero_add, Nat.add_zero, Nat.mul_one]
        exact Ends.some (Tr.none M1 F1)
    · rw [if_neg (fun q => c0 q.1)]
      simp (maxSteps := 1000000) (disch := first | omega | (simp (disch := first | omega | (simp only [EvV.len, MonV.len, List.length_append, List.length_cons, List.length_nil, List.length_set]; first | done | omega)) only [EvV.len, MonV.len, amSide, Int.reduceToNat, Nat.reducePow, Nat.reduceMul]; first | done | omega)) only  [↓amPre, amPost, ↓s_lit', Nat.reduceAdd, Nat.reduceSub, List.replicate, retA, resultsA, resultA, toC, toCL, Nat.reduceEqDiff, (bu138 S.p), (fa133_2 S.p), (fa34_0 S.p), (fa34_1 S.p), (fa34_2 S.p), (fa34_3 S.p), (fa34_4 S.p), iaddr_sl (un121 S.p) (sz4 S.p), part_sc (ag121 S.p), part_sc (ag3 S.p), part_sc (ag32 S.p), part_all (ag34 S.p) (sz34 S.p), part_at (ag34 S.p) (sz34 S.p), part_sc (ag4 S.p), store_last (sz4 S.p), (sz4 S.p), f96, e0, e1, e2, e3, e4, hpe, hp, hcf, rf, bneI_t, bneI_f, bne_self_eq_false, beqI_t, beqI_f, idx_ok, cells_self, cells_other, Int.toNat_natCast, Nat.zero_add, Nat.add_zero, Nat.mul_one]
      exact Ends.some (Tr.none M1 F1)
  rw [if_neg k12]
  simp (maxSteps := 1000000) (disch := first | omega | (simp (disch := first | omega | (simp only [EvV.len, MonV.len, List.length_append, List.length_cons, List.length_nil, List.length_set]; first | done | omega)) only [EvV.len, MonV.len, amSide, Int.reduceToNat, Nat.reducePow, Nat.reduceMul]; first | done | omega)) only  [↓amPre, amPost, ↓s_lit', Nat.reduceAdd, Nat.reduceSub, List.replicate, retA, resultsA, resultA, toC, toCL, Nat.reduceEqDiff, (bu138 S.p), (fa133_2 S.p), (fa34_0 S.p), (fa34_1 S.p), (fa34_2 S.p), (fa34_3 S.p), (fa34_4 S.p), iaddr_sl (un121 S.p) (sz4 S.p), part_sc (ag121 S.p), part_sc (ag3 S.p), part_sc (ag32 S.p), part_all (ag34 S.p) (sz34 S.p), part_at (ag34 S.p) (sz34 S.p), part_sc (ag4 S.p), store_last (sz4 S.p), (sz4 S.p), e0, e1, e2, e3, e4, hpe, hp, hcf, rf, bneI_t, bneI_f, bne_self_eq_false, beqI_t, beqI_f, idx_ok, cells_self, cells_other, Int.toNat_natCast, Nat.zero_add, Nat.add_zero, Nat.mul_one]
  exact Ends.some (Tr.none M1 F1)
/-- What a call of Apply comes to. -/
def Ap (p bm bf bw bl : Nat) (h : List AO) (V : MdV) (e : EvV) : AV → List AO → Prop := fun v h' => v = .v (.sc (.int .i64 (codeM V e))) ∧ MdAt h' p bm bf bw bl (nextM V e) ∧ Fr bm bf bw bl h h'
theorem s20 (hd : 5 ≤ d) {p bm bf bw bl : Nat} {V : MdV} {h : List AO} (M : MdAt h p bm bf bw bl V) (H : MdOk V) (e : EvV) (lk : Nat) (hlk : lk ≤ bm ∧ lk ≤ bf ∧ lk ≤ bw ∧ lk ≤ bl) :
    Ends (Ap p bm bf bw bl h V e) (ev P T K d 20 [.sc (.ptr p 0), .ag e.cells] lk h) := by
  obtain ⟨d, rfl⟩ : ∃ k, d = k + 1 := ⟨d - 1, by omega⟩
  rw [ev_run (at20 S.t)]
  unfold i20 Try.f20
  have hn8 := H.n
  have hm8 := H.m
  have M1 := M.ext ((Ext1.refl h).push (.rw 34 e.cells))
  have F1 := (Fr.refl bm bf bw bl h).push (.rw 34 e.cells)
  obtain ⟨l1, l2, l3, l4, l5⟩ := M.lts
  have hpe := partE S e
  have f75 := fun lk => s45 S (show 3 ≤ d by omega) M1 (by omega) (by omega) e lk
  cases hm : mayV V e with
  | false =>
    rw [hm] at f75
    have hA : AppV V e = none := by unfold AppV; rw [hm]; rfl
    have e1 : nextM V e = V := by unfold nextM; rw [hA]; rfl
    have e2 : codeM V e = 15 := by unfold codeM; rw [hA]; rfl
    simp (maxSteps := 1000000) (disch := first | omega | (simp (disch := first | omega | (simp only [EvV.len, MonV.len, List.length_append, List.length_cons, List.length_nil, List.length_set]; first | done | omega)) only [EvV.len, MonV.len, amSide, Int.reduceToNat, Nat.reducePow, Nat.reduceMul]; first | done | omega)) only  [↓amPre, amPost, ↓s_lit', Nat.reduceAdd, Nat.reduceSub, List.replicate, retA, resultsA, resultA, toC, toCL, Nat.reduceEqDiff, part_all (ag34 S.p) (sz34 S.p), part_at (ag34 S.p) (sz34 S.p), hpe, f75, cells_self, cells_other, Nat.zero_add, Nat.add_zero]
    refine Ends.some ⟨by rw [e2], by rw [e1]; exact M1, F1⟩
  | true =>
    rw [hm] at f75
    have hm' := hm
    unfold mayV at hm'
    simp only [Bool.and_eq_true, decide_eq_true_eq] at hm'
    obtain ⟨⟨c1, c2⟩, _⟩ := hm'
    obtain ⟨th, hth⟩ := Int.eq_ofNat_of_zero_le c1.1
    obtain ⟨ob, hob⟩ := Int.eq_ofNat_of_zero_le c2.1
    obtain ⟨o, ho⟩ : ∃ o, V.mons[ob]? = some o := ⟨_, List.getElem?_eq_getElem (by omega)⟩
    obtain ⟨f, hf⟩ : ∃ f, V.flags[th]? = some f := ⟨_, List.getElem?_eq_getElem (by omega)⟩
    obtain ⟨v, h2, e76, X1, X2, X3⟩ := s46 S (show 4 ≤ d by omega) M1 H e hob ho hth hf lk hlk
    obtain rfl := X1
    have hA : AppV V e = applyV V e o f := by
      unfold AppV
      rw [hm, if_pos rfl, hob, hth]
      simp only [Int.toNat_natCast, List.getD_eq_getElem?_getD, ho, hf, Option.getD_some]
    have e1 : nextM V e = (applyV V e o f).getD V := by unfold nextM; rw [hA]
    have e2 : codeM V e = if (applyV V e o f).isSome = true then 0 else 15 := by unfold codeM; rw [hA]
    rw [← e1] at X2
    cases hs : (applyV V e o f).isSome with
    | true =>
      rw [hs] at e76 e2
      simp (maxSteps := 1000000) (disch := first | omega | (simp (disch := first | omega | (simp only [EvV.len, MonV.len, List.length_append, List.length_cons, List.length_nil, List.length_set]; first | done | omega)) only [EvV.len, MonV.len, amSide, Int.reduceToNat, Nat.reducePow, Nat.reduceMul]; first | done | omega)) only  [↓amPre, amPost, ↓s_lit', Nat.reduceAdd, Nat.reduceSub, List.replicate, retA, resultsA, resultA, toC, toCL, Nat.reduceEqDiff, part_all (ag34 S.p) (sz34 S.p), part_at (ag34 S.p) (sz34 S.p), hpe, f75, e76, cells_self, cells_other, Nat.zero_add, Nat.add_zero]
      exact Ends.some ⟨by rw [e2]; rfl, X2, F1.trans X3⟩
    | false =>
      rw [hs] at e76 e2
      simp (maxSteps := 1000000) (disch := first | omega | (simp (disch := first | omega | (simp only [EvV.len, MonV.len, List.length_append, List.length_cons, List.length_nil, List.length_set]; first | done | omega)) only [EvV.len, MonV.len, amSide, Int.reduceToNat, Nat.reducePow, Nat.reduceMul]; first | done | omega)) only  [↓amPre, amPost, ↓s_lit', Nat.reduceAdd, Nat.reduceSub, List.replicate, retA, resultsA, resultA, toC, toCL, Nat.reduceEqDiff, part_all (ag34 S.p) (sz34 S.p), part_at (ag34 S.p) (sz34 S.p), hpe, f75, e76, cells_self, cells_other, Nat.zero_add, Nat.add_zero]
      exact Ends.some ⟨by rw [e2]; rfl, X2, F1.trans X3⟩
end
end Go.AM
/- Monitors' model: a new one; the law's events. Conditions: none. -/
set_option linter.unusedVariables false
set_option linter.unusedSimpArgs false
set_option maxRecDepth 100000
namespace Go.AM
open Go.Proofs
-- LENS: EvV.len, MonV.len
/-- A new model. -/
def newV (n m : Nat) (c : Int) : MdV := ⟨c, List.replicate m ⟨-1, 0, 0⟩, List.replicate n false, [], []⟩
structure NwSt where
  i : Nat
  q : SV
  h : List AO
section
variable {P : Program} {T : Tab} {K d : Nat} (S : Sd P T K)
include S
theorem s37f (hd : 2 ≤ d) (n m c : Int) (hb : ¬ ((1 ≤ n ∧ n ≤ 8) ∧ (1 ≤ m ∧ m ≤ 8) ∧ 1 ≤ c ∧ c ≤ 60)) (lk : Nat) (h : List AO) : ev P T K d 37 [.sc (.int .i64 n), .sc (.int .i64 m), .sc (.int .i64 c)] lk h = some (.tup [.sc .nilp, .sc (.int .i64 1)], h) := by
  obtain ⟨d, rfl⟩ : ∃ k, d = k + 1 := ⟨d - 1, by omega⟩
  rw [ev_run (at37 S.t)]
  unfold i37 Try.f37
  have f74 := fun a b c lk h => s59 S (show 1 ≤ d by omega) a b c lk h
  by_cases c1 : 1 ≤ n ∧ n ≤ 8
  · by_cases c2 : 1 ≤ m ∧ m ≤ 8
    · have c3 : ¬ (1 ≤ c ∧ c ≤ 60) := fun q => hb ⟨c1, c2, q⟩
      have d1 := decide_eq_true c1
      have d2 := decide_eq_true c2
      have d3 := decide_eq_false c3
      simp (maxSteps := 1000000) (disch := first | omega | (simp (disch := first | omega | (simp only [EvV.len, MonV.len, List.length_append, List.length_cons, List.length_nil, List.length_set]; first | done | omega)) only [EvV.len, MonV.len, amSide, Int.reduceToNat, Nat.reducePow, Nat.reduceMul]; first | done | omega)) only  [↓amPre, amPost, ↓s_lit', Nat.reduceAdd, Nat.reduceSub, List.replicate, retA, resultsA, resultA, toC, toCL, Nat.reduceEqDiff, append_at (un131 S.p) (sz116 S.p) (by116 S.p) (ze116 S.p) (by decide) (by decide) rfl, copy_at (un131 S.p) (sz116 S.p) (by116 S.p) (ze116 S.p) (by decide) (by decide) rfl, sl_cells (sz116 S.p), (bu116 S.p), (bu133 S.p), lit_fill (un131 S.p) (sz116 S.p) (ze116 S.p), (fa133_1 S.p), part_sc (ag131 S.p), make_at (un121 S.p) (sz4 S.p) (by4 S.p) (ze4 S.p) (by decide) rfl, store_last (sz131 S.p), (sz131 S.p), f74, d1, d2, d3]
    · have d1 := decide_eq_true c1
      have d2 := decide_eq_false c2
      simp (maxSteps := 1000000) (disch := first | omega | (simp (disch := first | omega | (simp only [EvV.len, MonV.len, List.length_append, List.length_cons, List.length_nil, List.length_set]; first | done | omega)) only [EvV.len, MonV.len, amSide, Int.reduceToNat, Nat.reducePow, Nat.reduceMul]; first | done | omega)) only  [↓amPre, amPost, ↓s_lit', Nat.reduceAdd, Nat.reduceSub, List.replicate, retA, resultsA, resultA, toC, toCL, Nat.reduceEqDiff, append_at (un131 S.p) (sz116 S.p) (by116 S.p) (ze116 S.p) (by decide) (by decide) rfl, copy_at (un131 S.p) (sz116 S.p) (by116 S.p) (ze116 S.p) (by decide) (by decide) rfl, sl_cells (sz116 S.p), (bu116 S.p), (bu133 S.p), lit_fill (un131 S.p) (sz116 S.p) (ze116 S.p), (fa133_1 S.p), part_sc (ag131 S.p), make_at (un121 S.p) (sz4 S.p) (by4 S.p) (ze4 S.p) (by decide) rfl, store_last (sz131 S.p), (sz131 S.p), f74, d1, d2]
  · have d1 := decide_eq_false c1
    simp (maxSteps := 1000000) (disch := first | omega | (simp (disch := first | omega | (simp only [EvV.len, MonV.len, List.length_append, List.length_cons, List.length_nil, List.length_set]; first | done | omega)) only [EvV.len, MonV.len, amSide, Int.reduceToNat, Nat.reducePow, Nat.reduceMul]; first | done | omega)) only  [↓amPre, amPost, ↓s_lit', Nat.reduceAdd, Nat.reduceSub, List.replicate, retA, resultsA, resultA, toC, toCL, Nat.reduceEqDiff, append_at (un131 S.p) (sz116 S.p) (by116 S.p) (ze116 S.p) (by decide) (by decide) rfl, copy_at (un131 S.p) (sz116 S.p) (by116 S.p) (ze116 S.p) (by decide) (by decide) rfl, sl_cells (sz116 S.p), (bu116 S.p), (bu133 S.p), lit_fill (un131 S.p) (sz116 S.p) (ze116 S.p), (fa133_1 S.p), part_sc (ag131 S.p), make_at (un121 S.p) (sz4 S.p) (by4 S.p) (ze4 S.p) (by decide) rfl, store_last (sz131 S.p), (sz131 S.p), f74, d1]
set_option maxHeartbeats 4000000 in
theorem s37 (hd : 2 ≤ d) {n m : Nat} {c : Int} (h1 : 1 ≤ n ∧ n ≤ 8) (h2 : 1 ≤ m ∧ m ≤ 8) (h3 : 1 ≤ c ∧ c ≤ 60) (lk : Nat) (h : List AO) (hlk : lk ≤ h.length) :
    Ends (fun v h' => Ext1 h h' ∧ ∃ p bm bf bw bl, v = .tup [.sc (.ptr p 0), .sc (.int .i64 0)] ∧ MdAt h' p bm bf bw bl (newV n m c) ∧ h.length ≤ p ∧ h.length ≤ bm ∧ h.length ≤ bf ∧ h.length ≤ bw ∧ h.length ≤ bl) (ev P T K d 37 [.sc (.int .i64 n), .sc (.int .i64 m), .sc (.int .i64 c)] lk h) := by
  obtain ⟨d, rfl⟩ : ∃ k, d = k + 1 := ⟨d - 1, by omega⟩
  rw [ev_run (at37 S.t)]
  unfold i37 Try.f37
  have f74 := fun a b c lk h => s59 S (show 1 ≤ d by omega) a b c lk h
  have d1 : decide ((1 : Int) ≤ (n : Int) ∧ (n : Int) ≤ 8) = true := decide_eq_true ⟨by omega, by omega⟩
  have d2 : decide ((1 : Int) ≤ (m : Int) ∧ (m : Int) ≤ 8) = true := decide_eq_true ⟨by omega, by omega⟩
  have d3 : decide ((1 : Int) ≤ c ∧ c ≤ 60) = true := decide_eq_true h3
  simp (maxSteps := 1000000) (disch := first | omega | (simp (disch := first | omega | (simp only [EvV.len, MonV.len, List.length_append, List.length_cons, List.length_nil, List.length_set]; first | done | omega)) only [EvV.len, MonV.len, amSide, Int.reduceToNat, Nat.reducePow, Nat.reduceMul]; first | done | omega)) only  [↓amPre, amPost, ↓s_lit', Nat.reduceAdd, Nat.reduceSub, List.replicate, retA, resultsA, resultA, toC, toCL, Nat.reduceEqDiff, append_at (un131 S.p) (sz116 S.p) (by116 S.p) (ze116 S.p) (by decide) (by decide) rfl, copy_at (un131 S.p) (sz116 S.p) (by116 S.p) (ze116 S.p) (by decide) (by decide) rfl, sl_cells (sz116 S.p), (bu116 S.p), (bu133 S.p), lit_fill (un131 S.p) (sz116 S.p) (ze116 S.p), (fa133_1 S.p), part_sc (ag131 S.p), make_at (un121 S.p) (sz4 S.p) (by4 S.p) (ze4 S.p) (by decide) rfl, store_last (sz131 S.p), (sz131 S.p), f74, d1, d2, d3, makeB_ok, Int.toNat_natCast]
  have hfl : (List.replicate n [SV.bool false]).flatten = List.replicate n (SV.bool false) := by
    induction n with
    | zero => rfl
    | succ n ih => simp [List.replicate_succ, List.flatten_cons] at *
  generalize hH : h ++ [AO.rw 4 (List.replicate n [SV.bool false]).flatten] ++ [AO.map []] ++ [AO.map []] = H3
  have hHl : H3.length = h.length + 1 + 1 + 1 := by rw [← hH]; simp
  refine ends_loop (X := NwSt) ⟨0, .nils, _⟩ [31, 32, 33, 34, 35, 36, 37, 38, 39, 40, 41, 42] (fun x => x.i ≤ m ∧ Ext1 H3 x.h ∧ x.h[h.length + 1 + 1 + 1]? = some (.rw 133 [.int .i64 c, x.q, .sl h.length 0 n 1, .mp (h.length + 1), .mp (h.length + 1 + 1)]) ∧ Own 116 3 (h.length + 4) x.h x.q (recs MonV.cells (List.replicate x.i ⟨-1, 0, 0⟩))) (fun x => m - x.i)
    (fun x e => e.set 30 (.v (.sc (.int .i64 x.i)))) (fun x => x.h)
    (by have := S.k; show _ < K; simp only; omega) ⟨by simp only; omega, (Ext1.refl _).push _, by simp only; rw [obj_self _ _ hHl.symm], Own.nil _ _ _ _⟩ rfl rfl ?_
  rintro ⟨i, q, hj⟩ ⟨hi, hx, hP, ho⟩ again hag e he
  simp only at hi hx hP ho hag he
  simp only [↓amPre, amPost, ↓s_lit', Nat.reduceAdd, Nat.reduceSub, List.replicate, retA, resultsA, resultA, toC, toCL, Nat.reduceEqDiff] at he
  simp only [↓amPre, amPost, ↓s_lit', Nat.reduceAdd, Nat.reduceSub, List.replicate, retA, resultsA, resultA, toC, toCL, Nat.reduceEqDiff, he]
  have hpc := cells_at hP
  have hpl := (List.getElem?_eq_some_iff.1 hP).1
  refine ends_cond (fun hc1 => ?_) (fun hc1 => ?_)
  · simp only [decide_eq_true_eq] at hc1
    have hrl : (recs MonV.cells (List.replicate i (⟨-1, 0, 0⟩ : MonV))).length = i * 3 := by rw [recs_len MonV.len, List.length_replicate]
    obtain ⟨q2, h2, happ, hown, hl2, hlow, hx2, _⟩ := grow_own (b := 24) (lk := lk) (ho.push (.rw 116 [.int .i64 (-1), .int .i64 0, .int .i64 0])) [.int .i64 (-1), .int .i64 0, .int .i64 0] (by omega) (by simp) (by simp) (by omega) (by simp; omega) (by rw [hrl]; simp; omega)
    have hmm : recs MonV.cells (List.replicate i ⟨-1, 0, 0⟩) ++ [.int .i64 (-1), .int .i64 0, .int .i64 0] = recs MonV.cells (List.replicate (i + 1) ⟨-1, 0, 0⟩) := by
      rw [List.replicate_succ']
      exact recs_snoc MonV.cells _ ⟨-1, 0, 0⟩
    rw [hmm] at hown
    have hP2 : h2[h.length + 1 + 1 + 1]? = some (.rw 133 [.int .i64 c, q, .sl h.length 0 n 1, .mp (h.length + 1), .mp (h.length + 1 + 1)]) := by
      rw [hlow _ (by omega), List.getElem?_append_left hpl]; exact hP
    have st : storeA P h2 lk 131 (.v (.sc (.ptr (h.length + 1 + 1 + 1) 1))) (.v (.sc q2)) = some (h2.set (h.length + 1 + 1 + 1) (.rw 133 [.int .i64 c, q2, .sl h.length 0 n 1, .mp (h.length + 1), .mp (h.length + 1 + 1)])) := by
      rw [store_at hP2 (by omega) (sz131 S.p) (c := .sc q2) rfl (by simp)]; rfl
    have hx3 := hx2 H3 (hx.push (.rw 116 [.int .i64 (-1), .int .i64 0, .int .i64 0])) (by omega)
    clear hfl hH hmm hrl f74 d1 d2 d3
    simp (maxSteps := 1000000) (disch := first | omega | (simp (disch := first | omega | (simp only [EvV.len, MonV.len, List.length_append, List.length_cons, List.length_nil, List.length_set]; first | done | omega)) only [EvV.len, MonV.len, amSide, Int.reduceToNat, Nat.reducePow, Nat.reduceMul]; first | done | omega)) only  [↓amPre, amPost, ↓s_lit', Nat.reduceAdd, Nat.reduceSub, List.replicate, retA, resultsA, resultA, toC, toCL, Nat.reduceEqDiff, he, append_at (un131 S.p) (sz116 S.p) (by116 S.p) (ze116 S.p) (by decide) (by decide) rfl, copy_at (un131 S.p) (sz116 S.p) (by116 S.p) (ze116 S.p) (by decide) (by decide) rfl, sl_cells (sz116 S.p), (bu116 S.p), (bu133 S.p), lit_fill (un131 S.p) (sz116 S.p) (ze116 S.p), (fa133_1 S.p), part_sc (ag131 S.p), make_at (un121 S.p) (sz4 S.p) (by4 S.p) (ze4 S.p) (by decide) rfl, store_last (sz131 S.p), (sz131 S.p), hpc, happ, st, dec_t, cells_self, cells_other, List.flatten_cons, List.flatten_nil, List.append_nil, Nat.zero_mul, Nat.one_mul, Nat.mul_one, Int.toNat_natCast, Nat.zero_add, Nat.add_zero, wrap_i64]
    simp only [List.length_append, List.length_cons, List.length_nil] at hl2
    refine hag ⟨i + 1, q2, _⟩ ⟨by simp only; omega, hx3.set (by omega) _, List.getElem?_set_self (by omega), hown.set (by omega) _⟩ (by simp only; omega) _ ?_
    simp (maxSteps := 1000000) (disch := first | omega | (simp (disch := first | omega | (simp only [EvV.len, MonV.len, List.length_append, List.length_cons, List.length_nil, List.length_set]; first | done | omega)) only [EvV.len, MonV.len, amSide, Int.reduceToNat, Nat.reducePow, Nat.reduceMul]; first | done | omega)) only [↓amPre, amPost, ↓s_lit', Nat.reduceAdd, Nat.reduceSub, List.replicate, retA, resultsA, resultA, toC, toCL, Nat.reduceEqDiff, Int.natCast_add, Int.cast_ofNat_Int, dec_t, dec_f]
  · simp only [decide_eq_false_iff_not] at hc1
    obtain rfl : i = m := by omega
    clear f74 d1 d2 d3
    simp (maxSteps := 1000000) (disch := first | omega | (simp (disch := first | omega | (simp only [EvV.len, MonV.len, List.length_append, List.length_cons, List.length_nil, List.length_set]; first | done | omega)) only [EvV.len, MonV.len, amSide, Int.reduceToNat, Nat.reducePow, Nat.reduceMul]; first | done | omega)) only  [↓amPre, amPost, ↓s_lit', Nat.reduceAdd, Nat.reduceSub, List.replicate, retA, resultsA, resultA, toC, toCL, Nat.reduceEqDiff, he, append_at (un131 S.p) (sz116 S.p) (by116 S.p) (ze116 S.p) (by decide) (by decide) rfl, copy_at (un131 S.p) (sz116 S.p) (by116 S.p) (ze116 S.p) (by decide) (by decide) rfl, sl_cells (sz116 S.p), (bu116 S.p), (bu133 S.p), lit_fill (un131 S.p) (sz116 S.p) (ze116 S.p), (fa133_1 S.p), part_sc (ag131 S.p), make_at (un121 S.p) (sz4 S.p) (by4 S.p) (ze4 S.p) (by decide) rfl, store_last (sz131 S.p), (sz131 S.p)]
    have hrl : (recs MonV.cells (List.replicate i (⟨-1, 0, 0⟩ : MonV))).length = i * 3 := by rw [recs_len MonV.len, List.length_replicate]
    rcases ho with ⟨_, h0⟩ | ⟨bm, b1, b2, rfl, b4, b5⟩
    · rw [h0] at hrl; simp at hrl; omega
    · have hd3 : (recs MonV.cells (List.replicate i (⟨-1, 0, 0⟩ : MonV))).length / 3 = i := by rw [hrl]; omega
      rw [hd3] at hP
      have g0 : H3[h.length]? = some (.rw 4 (List.replicate n (SV.bool false))) := by
        rw [← hH, hfl, List.getElem?_append_left (by simp), List.getElem?_append_left (by simp), List.getElem?_append_right (Nat.le_refl _), Nat.sub_self]; rfl
      have g1 : H3[h.length + 1]? = some (.map []) := by
        rw [← hH, List.getElem?_append_left (by simp), List.getElem?_append_right (by simp)]; simp
      have g2 : H3[h.length + 1 + 1]? = some (.map []) := by
        rw [← hH, List.getElem?_append_right (by simp)]; simp
      refine Ends.some ⟨?_, _, bm, h.length, h.length + 1, h.length + 1 + 1, rfl, ⟨?_, b4, ?_, ?_, ?_, by omega⟩, by omega, by omega, by omega, by omega, by omega⟩
      · refine Ext1.trans ?_ hx
        rw [← hH]
        exact (((Ext1.refl h).push _).push _).push _
      · simp only [newV, List.length_replicate]
        exact hP
      · rw [hx.get (by omega), g0, newV, List.map_replicate]
      · exact (hx.get (by omega)).trans g1
      · exact (hx.get (by omega)).trans g2
end
end Go.AM
