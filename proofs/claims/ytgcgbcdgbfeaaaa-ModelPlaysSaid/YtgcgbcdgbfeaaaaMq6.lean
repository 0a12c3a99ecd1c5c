/- Monitors' model: a transition of the document's model. Conditions: none. -/
import Derived.Test.YtgcgbcdgbfeaaaaMqs
import Derived.Test.YtgcgbcdgbfeaaaaMq5
import Derived.Test.YtgcgbcdgbfeaaaaMn2
set_option linter.unusedVariables false
set_option linter.unusedSimpArgs false
set_option maxRecDepth 100000
-- NOTY: ze112, bu112
namespace Go.AM
open Go.Proofs
-- LENS: EvV.len, MonV.len, refC_len
/-- Hashes are none, or from 1 to the greatest one. -/
def MdH (V : MdV) : Prop := ∀ (i : Nat) o, V.mons[i]? = some o → 0 ≤ o.hsh ∧ o.hsh ≤ 2147483647
theorem MdH.set {V V' : MdV} (H : MdH V) (hV : V'.mons = V.mons) (ob : Nat) (y : MonV) (hy : ob < V.mons.length → 0 ≤ y.hsh ∧ y.hsh ≤ 2147483647) : MdH (V'.setM ob y) := fun i o ho => by
  simp only [MdV.setM, hV] at ho
  by_cases q : ob = i
  · subst q
    by_cases hl : ob < V.mons.length
    · rw [List.getElem?_set_self hl] at ho
      obtain rfl := Option.some.inj ho
      exact hy hl
    · rw [List.getElem?_eq_none (by rw [List.length_set]; omega)] at ho; cases ho
  · rw [List.getElem?_set_ne q] at ho
    exact H i o ho
theorem MdH.app {V W : MdV} {e : EvV} {f : Bool} (H : MdH V) (hA : applyV V e (V.mons.getD e.o.toNat ⟨-1, 0, 0⟩) f = some W) : MdH W := by
  have hw : e.o.toNat < V.mons.length → 0 ≤ (V.mons.getD e.o.toNat ⟨-1, 0, 0⟩).hsh ∧ (V.mons.getD e.o.toNat ⟨-1, 0, 0⟩).hsh ≤ 2147483647 := fun hl => by
    rw [List.getD_eq_getElem?_getD, List.getElem?_eq_getElem hl]
    exact H _ _ (List.getElem?_eq_getElem hl)
  generalize V.mons.getD e.o.toNat ⟨-1, 0, 0⟩ = o at hA hw
  unfold applyV at hA
  repeat' split at hA
  all_goals first
    | (cases hA; done)
    | (unfold enterV at hA)
    | (unfold exitV at hA)
    | (unfold beginV at hA)
    | (unfold leaveV at hA)
    | (unfold endV at hA)
    | (unfold tellV leaveV at hA)
    | (unfold hashV at hA)
    | (unfold holdsV at hA)
    | (unfold intrV at hA)
  all_goals (repeat' split at hA)
  all_goals first
    | (cases hA; done)
    | (obtain rfl := Option.some.inj hA; exact H)
    | (obtain rfl := Option.some.inj hA; exact H.set rfl _ _ hw)
    | (obtain rfl := Option.some.inj hA; exact MdH.set (V := V) (V' := V.setF _ _) H rfl _ _ hw)
    | (obtain rfl := Option.some.inj hA; rename_i hno; refine H.set rfl _ _ fun _ => ?_
       have h1 : 1 ≤ e.a ∧ e.a ≤ 2147483647 := by
         by_cases q : 1 ≤ e.a ∧ e.a ≤ 2147483647
         · exact q
         · exact absurd (Or.inr (Or.inl q)) hno
       exact ⟨by simp only; omega, by simp only; omega⟩)
theorem MdH.next {V : MdV} (H : MdH V) (e : EvV) : MdH (nextM V e) := by
  unfold nextM
  cases h : AppV V e with
  | none => exact H
  | some W => exact H.app (AppV_app h)
theorem no_of {V : MdV} {e : EvV} (h : AppV V e = none) : nextM V e = V ∧ codeM V e = 15 := ⟨by unfold nextM; rw [h]; rfl, by unfold codeM; rw [h]; rfl⟩
theorem yes_of {V W : MdV} {e : EvV} (h : AppV V e = some W) : nextM V e = W ∧ codeM V e = 0 := ⟨by unfold nextM; rw [h]; rfl, by unfold codeM; rw [h]; rfl⟩
section
variable {P : Program} {T : Tab} {K d : Nat} (S : Sd P T K)
include S
set_option maxHeartbeats 16000000 in
theorem s52 (hd : 4 ≤ d) {n m : Nat} {c : Int} {V : MdV} (I : MdI n m c V) (Wy : MdW V) (Hh : MdH V) (hc : 1 ≤ c ∧ c ≤ 60) (e : EvV) (lk : Nat) (h : List AO) :
    ev P T K d 52 [.ag (refC V), .ag e.cells] lk h = some (.tup [.ag (refC (nextM V e)), .sc (.int .i64 (codeM V e))], h) := by
  obtain ⟨d, rfl⟩ : ∃ k, d = k + 1 := ⟨d - 1, by omega⟩
  refine ev_pure (at52 S.t) (refC_fr2 _ _) ?_
  unfold i52 Try.f52
  have hm8 := I.ok.m
  have hn8 := I.ok.n
  have hfn := I.fn
  have hmn := I.mn
  have e0 := e.c0
  have e1 := e.c1
  have e2 := e.c2
  have e3 := e.c3
  have e4 := e.c4
  have hz := ze112r S
  have hpV := partV S V
  have hpe := partR S e
  have gm := refC_m V
  have f81 := fun lk h => s81 S (show 1 ≤ d by omega) V e.t lk h
  by_cases cT : 0 ≤ e.t ∧ e.t < V.flags.length
  rotate_left
  · rw [decide_eq_false cT] at f81
    have hA : AppV V e = none := by unfold AppV mayV; rw [decide_eq_false cT]; rfl
    obtain ⟨hn, hcode⟩ := no_of hA
    simp (maxSteps := 1000000) (disch := first | omega | (simp (disch := first | omega | (simp only [EvV.len, MonV.len, refC_len, List.length_append, List.length_cons, List.length_nil, List.length_set]; first | done | omega)) only [EvV.len, MonV.len, refC_len, amSide, Int.reduceToNat, Nat.reducePow, Nat.reduceMul]; first | done | omega)) only  [↓amPre, amPost, ↓s_lit', Nat.reduceAdd, Nat.reduceSub, List.replicate, retA, resultsA, resultA, toC, toCL, Nat.reduceEqDiff, (fa112_1 S.p), (fa112_3 S.p), (fa112_4 S.p), (fa98_0 S.p), (fa98_1 S.p), (fa98_2 S.p), (fa98_3 S.p), (fa98_4 S.p), iaddr_ptr (un105 S.p) (sz3 S.p), part_all (ag112 S.p) (sz112 S.p), part_at (ag112 S.p) (sz112 S.p), part_sc (ag3 S.p), part_all (ag98 S.p) (sz98 S.p), part_at (ag98 S.p) (sz98 S.p), store_last (sz112 S.p), (sz112 S.p), store_last (sz3 S.p), (sz3 S.p), hz, hpV, hpe, gm, e0, e1, e2, e3, e4, f81, splC, splice_one, beqI_t, beqI_f, bneI_t, bneI_f, bne_self_eq_false, idx_ok, cells_self, cells_other, Int.toNat_natCast, Nat.mul_one, Nat.zero_add, Nat.add_zero, wrap_i64]
    exact Ends.some (by rw [hn, hcode])
  rw [decide_eq_true cT] at f81
  by_cases cO : 0 ≤ e.o ∧ e.o < V.mons.length
  rotate_left
  · have hA : AppV V e = none := by unfold AppV mayV; rw [decide_eq_true cT, decide_eq_false cO]; rfl
    by_cases c0 : e.o < 0
    · skip
      obtain ⟨hn, hcode⟩ := no_of hA
      simp (maxSteps := 1000000) (disch := first | omega | (simp (disch := first | omega | (simp only [EvV.len, MonV.len, refC_len, List.length_append, List.length_cons, List.length_nil, List.length_set]; first | done | omega)) only [EvV.len, MonV.len, refC_len, amSide, Int.reduceToNat, Nat.reducePow, Nat.reduceMul]; first | done | omega)) only  [↓amPre, amPost, ↓s_lit', Nat.reduceAdd, Nat.reduceSub, List.replicate, retA, resultsA, resultA, toC, toCL, Nat.reduceEqDiff, (fa112_1 S.p), (fa112_3 S.p), (fa112_4 S.p), (fa98_0 S.p), (fa98_1 S.p), (fa98_2 S.p), (fa98_3 S.p), (fa98_4 S.p), iaddr_ptr (un105 S.p) (sz3 S.p), part_all (ag112 S.p) (sz112 S.p), part_at (ag112 S.p) (sz112 S.p), part_sc (ag3 S.p), part_all (ag98 S.p) (sz98 S.p), part_at (ag98 S.p) (sz98 S.p), store_last (sz112 S.p), (sz112 S.p), store_last (sz3 S.p), (sz3 S.p), hz, hpV, hpe, gm, e0, e1, e2, e3, e4, f81, dec_t, dec_f, splC, splice_one, beqI_t, beqI_f, bneI_t, bneI_f, bne_self_eq_false, idx_ok, cells_self, cells_other, Int.toNat_natCast, Nat.mul_one, Nat.zero_add, Nat.add_zero, wrap_i64]
      exact Ends.some (by rw [hn, hcode])
    · have c1 : e.o ≥ (V.mons.length : Int) := by omega
      obtain ⟨hn, hcode⟩ := no_of hA
      simp (maxSteps := 1000000) (disch := first | omega | (simp (disch := first | omega | (simp only [EvV.len, MonV.len, refC_len, List.length_append, List.length_cons, List.length_nil, List.length_set]; first | done | omega)) only [EvV.len, MonV.len, refC_len, amSide, Int.reduceToNat, Nat.reducePow, Nat.reduceMul]; first | done | omega)) only  [↓amPre, amPost, ↓s_lit', Nat.reduceAdd, Nat.reduceSub, List.replicate, retA, resultsA, resultA, toC, toCL, Nat.reduceEqDiff, (fa112_1 S.p), (fa112_3 S.p), (fa112_4 S.p), (fa98_0 S.p), (fa98_1 S.p), (fa98_2 S.p), (fa98_3 S.p), (fa98_4 S.p), iaddr_ptr (un105 S.p) (sz3 S.p), part_all (ag112 S.p) (sz112 S.p), part_at (ag112 S.p) (sz112 S.p), part_sc (ag3 S.p), part_all (ag98 S.p) (sz98 S.p), part_at (ag98 S.p) (sz98 S.p), store_last (sz112 S.p), (sz112 S.p), store_last (sz3 S.p), (sz3 S.p), hz, hpV, hpe, gm, e0, e1, e2, e3, e4, f81, dec_t, dec_f, splC, splice_one, beqI_t, beqI_f, bneI_t, bneI_f, bne_self_eq_false, idx_ok, cells_self, cells_other, Int.toNat_natCast, Nat.mul_one, Nat.zero_add, Nat.add_zero, wrap_i64]
      exact Ends.some (by rw [hn, hcode])
  obtain ⟨th, hth⟩ := Int.eq_ofNat_of_zero_le cT.1
  obtain ⟨ob, hob⟩ := Int.eq_ofNat_of_zero_le cO.1
  obtain ⟨o, ho⟩ : ∃ o, V.mons[ob]? = some o := ⟨_, List.getElem?_eq_getElem (by omega)⟩
  obtain ⟨f, hf⟩ : ∃ f, V.flags[th]? = some f := ⟨_, List.getElem?_eq_getElem (by omega)⟩
  have thn : th < n := by omega
  have hown := I.own ob o ho
  have hmc := I.mc
  have d1 : decide (e.o < 0) = false := decide_eq_false (by omega)
  have d2 : decide (e.o ≥ (V.mons.length : Int)) = false := decide_eq_false (by omega)
  have f82 := fun lk h => s82 S (show 1 ≤ d by omega) I (show th < 8 by omega) lk h
  rw [← hth] at f82
  have hMay : mayV V e = (decide (e.k = 5) || decide (e.k = 6) || !goneV V e.t) := by unfold mayV; rw [decide_eq_true cT, decide_eq_true cO]; rfl
  by_cases hg : goneV V e.t = true ∧ e.k ≠ 5 ∧ e.k ≠ 6
  · have hA : AppV V e = none := by
      have : mayV V e = false := by rw [hMay, decide_eq_false hg.2.1, decide_eq_false hg.2.2, hg.1]; rfl
      unfold AppV; rw [this]; rfl
    have k5 := hg.2.1
    have k6 := hg.2.2
    rw [hg.1] at f82
    obtain ⟨hn, hcode⟩ := no_of hA
    simp (maxSteps := 1000000) (disch := first | omega | (simp (disch := first | omega | (simp only [EvV.len, MonV.len, refC_len, List.length_append, List.length_cons, List.length_nil, List.length_set]; first | done | omega)) only [EvV.len, MonV.len, refC_len, amSide, Int.reduceToNat, Nat.reducePow, Nat.reduceMul]; first | done | omega)) only  [↓amPre, amPost, ↓s_lit', Nat.reduceAdd, Nat.reduceSub, List.replicate, retA, resultsA, resultA, toC, toCL, Nat.reduceEqDiff, (fa112_1 S.p), (fa112_3 S.p), (fa112_4 S.p), (fa98_0 S.p), (fa98_1 S.p), (fa98_2 S.p), (fa98_3 S.p), (fa98_4 S.p), iaddr_ptr (un105 S.p) (sz3 S.p), part_all (ag112 S.p) (sz112 S.p), part_at (ag112 S.p) (sz112 S.p), part_sc (ag3 S.p), part_all (ag98 S.p) (sz98 S.p), part_at (ag98 S.p) (sz98 S.p), store_last (sz112 S.p), (sz112 S.p), store_last (sz3 S.p), (sz3 S.p), hz, hpV, hpe, gm, e0, e1, e2, e3, e4, f81, d1, d2, f82, splC, splice_one, beqI_t, beqI_f, bneI_t, bneI_f, bne_self_eq_false, idx_ok, cells_self, cells_other, Int.toNat_natCast, Nat.mul_one, Nat.zero_add, Nat.add_zero, wrap_i64]
    exact Ends.some (by rw [hn, hcode])
  have hMt : mayV V e = true := by
    rw [hMay]
    cases hq : goneV V e.t with
    | false => simp
    | true =>
      by_cases k5 : e.k = 5
      · simp [k5]
      · by_cases k6 : e.k = 6
        · simp [k6]
        · exact absurd ⟨hq, k5, k6⟩ hg
  have hApp : AppV V e = applyV V e o f := by
    unfold AppV
    rw [hMt, if_pos rfl, hob, hth]
    simp only [Int.toNat_natCast, List.getD_eq_getElem?_getD, ho, hf, Option.getD_some]
  have hgo : e.k ≠ 5 → e.k ≠ 6 → goneV V e.t = false := fun a b => by
    cases hq : goneV V e.t with
    | false => rfl
    | true => exact absurd ⟨hq, a, b⟩ hg
  clear hg hMay
  by_cases k1 : e.k = 1
  · skip
    rw [hgo (by omega) (by omega)] at f82
    have hB : applyV V e o f = if e.a = 0 then enterV V e o else none := by unfold applyV; rw [if_pos (by omega)]
    have fc := fun lk h => s83 S (show 1 ≤ d by omega) I hc e hob ho hth thn lk h
    unfold tupM at fc
    cases hX : enterV V e o with
    | none =>
      have hA : AppV V e = none := by rw [hApp, hB, hX]; split <;> rfl
      rw [hX] at fc
      simp only [Option.getD_none, Option.isSome_none] at fc
      obtain ⟨hn, hcode⟩ := no_of hA
      simp (maxSteps := 1000000) (disch := first | omega | (simp (disch := first | omega | (simp only [EvV.len, MonV.len, refC_len, List.length_append, List.length_cons, List.length_nil, List.length_set]; first | done | omega)) only [EvV.len, MonV.len, refC_len, amSide, Int.reduceToNat, Nat.reducePow, Nat.reduceMul]; first | done | omega)) only  [↓amPre, amPost, ↓s_lit', Nat.reduceAdd, Nat.reduceSub, List.replicate, retA, resultsA, resultA, toC, toCL, Nat.reduceEqDiff, (fa112_1 S.p), (fa112_3 S.p), (fa112_4 S.p), (fa98_0 S.p), (fa98_1 S.p), (fa98_2 S.p), (fa98_3 S.p), (fa98_4 S.p), iaddr_ptr (un105 S.p) (sz3 S.p), part_all (ag112 S.p) (sz112 S.p), part_at (ag112 S.p) (sz112 S.p), part_sc (ag3 S.p), part_all (ag98 S.p) (sz98 S.p), part_at (ag98 S.p) (sz98 S.p), store_last (sz112 S.p), (sz112 S.p), store_last (sz3 S.p), (sz3 S.p), hz, hpV, hpe, gm, e0, e1, e2, e3, e4, f81, d1, d2, f82, fc, splC, splice_one, beqI_t, beqI_f, bneI_t, bneI_f, bne_self_eq_false, idx_ok, cells_self, cells_other, Int.toNat_natCast, Nat.mul_one, Nat.zero_add, Nat.add_zero, wrap_i64]
      exact Ends.some (by rw [hn, hcode])
    | some W =>
      rw [hX] at fc
      simp only [Option.getD_some, Option.isSome_some] at fc
      have hpW := partV S W
      by_cases ca : e.a = 0
      · obtain ⟨hn, hcode⟩ := yes_of (show AppV V e = some W by rw [hApp, hB, if_pos ca, hX])
        simp (maxSteps := 1000000) (disch := first | omega | (simp (disch := first | omega | (simp only [EvV.len, MonV.len, refC_len, List.length_append, List.length_cons, List.length_nil, List.length_set]; first | done | omega)) only [EvV.len, MonV.len, refC_len, amSide, Int.reduceToNat, Nat.reducePow, Nat.reduceMul]; first | done | omega)) only  [↓amPre, amPost, ↓s_lit', Nat.reduceAdd, Nat.reduceSub, List.replicate, retA, resultsA, resultA, toC, toCL, Nat.reduceEqDiff, (fa112_1 S.p), (fa112_3 S.p), (fa112_4 S.p), (fa98_0 S.p), (fa98_1 S.p), (fa98_2 S.p), (fa98_3 S.p), (fa98_4 S.p), iaddr_ptr (un105 S.p) (sz3 S.p), part_all (ag112 S.p) (sz112 S.p), part_at (ag112 S.p) (sz112 S.p), part_sc (ag3 S.p), part_all (ag98 S.p) (sz98 S.p), part_at (ag98 S.p) (sz98 S.p), store_last (sz112 S.p), (sz112 S.p), store_last (sz3 S.p), (sz3 S.p), hz, hpV, hpe, gm, e0, e1, e2, e3, e4, f81, d1, d2, f82, fc, hpW, splC, splice_one, beqI_t, beqI_f, bneI_t, bneI_f, bne_self_eq_false, idx_ok, cells_self, cells_other, Int.toNat_natCast, Nat.mul_one, Nat.zero_add, Nat.add_zero, wrap_i64]
        exact Ends.some (by rw [hn, hcode])
      · have hA : AppV V e = none := by rw [hApp, hB, if_neg ca]
        obtain ⟨hn, hcode⟩ := no_of hA
        simp (maxSteps := 1000000) (disch := first | omega | (simp (disch := first | omega | (simp only [EvV.len, MonV.len, refC_len, List.length_append, List.length_cons, List.length_nil, List.length_set]; first | done | omega)) only [EvV.len, MonV.len, refC_len, amSide, Int.reduceToNat, Nat.reducePow, Nat.reduceMul]; first | done | omega)) only  [↓amPre, amPost, ↓s_lit', Nat.reduceAdd, Nat.reduceSub, List.replicate, retA, resultsA, resultA, toC, toCL, Nat.reduceEqDiff, (fa112_1 S.p), (fa112_3 S.p), (fa112_4 S.p), (fa98_0 S.p), (fa98_1 S.p), (fa98_2 S.p), (fa98_3 S.p), (fa98_4 S.p), iaddr_ptr (un105 S.p) (sz3 S.p), part_all (ag112 S.p) (sz112 S.p), part_at (ag112 S.p) (sz112 S.p), part_sc (ag3 S.p), part_all (ag98 S.p) (sz98 S.p), part_at (ag98 S.p) (sz98 S.p), store_last (sz112 S.p), (sz112 S.p), store_last (sz3 S.p), (sz3 S.p), hz, hpV, hpe, gm, e0, e1, e2, e3, e4, f81, d1, d2, f82, fc, hpW, splC, splice_one, beqI_t, beqI_f, bneI_t, bneI_f, bne_self_eq_false, idx_ok, cells_self, cells_other, Int.toNat_natCast, Nat.mul_one, Nat.zero_add, Nat.add_zero, wrap_i64]
        exact Ends.some (by rw [hn, hcode])
  by_cases k2 : e.k = 2
  · skip
    rw [hgo (by omega) (by omega)] at f82
    have hB : applyV V e o f = if e.a = 0 then enterV V e o else none := by unfold applyV; rw [if_pos (by omega)]
    have fc := fun lk h => s83 S (show 1 ≤ d by omega) I hc e hob ho hth thn lk h
    unfold tupM at fc
    cases hX : enterV V e o with
    | none =>
      have hA : AppV V e = none := by rw [hApp, hB, hX]; split <;> rfl
      rw [hX] at fc
      simp only [Option.getD_none, Option.isSome_none] at fc
      obtain ⟨hn, hcode⟩ := no_of hA
      simp (maxSteps := 1000000) (disch := first | omega | (simp (disch := first | omega | (simp only [EvV.len, MonV.len, refC_len, List.length_append, List.length_cons, List.length_nil, List.length_set]; first | done | omega)) only [EvV.len, MonV.len, refC_len, amSide, Int.reduceToNat, Nat.reducePow, Nat.reduceMul]; first | done | omega)) only  [↓amPre, amPost, ↓s_lit', Nat.reduceAdd, Nat.reduceSub, List.replicate, retA, resultsA, resultA, toC, toCL, Nat.reduceEqDiff, (fa112_1 S.p), (fa112_3 S.p), (fa112_4 S.p), (fa98_0 S.p), (fa98_1 S.p), (fa98_2 S.p), (fa98_3 S.p), (fa98_4 S.p), iaddr_ptr (un105 S.p) (sz3 S.p), part_all (ag112 S.p) (sz112 S.p), part_at (ag112 S.p) (sz112 S.p), part_sc (ag3 S.p), part_all (ag98 S.p) (sz98 S.p), part_at (ag98 S.p) (sz98 S.p), store_last (sz112 S.p), (sz112 S.p), store_last (sz3 S.p), (sz3 S.p), hz, hpV, hpe, gm, e0, e1, e2, e3, e4, f81, d1, d2, f82, fc, splC, splice_one, beqI_t, beqI_f, bneI_t, bneI_f, bne_self_eq_false, idx_ok, cells_self, cells_other, Int.toNat_natCast, Nat.mul_one, Nat.zero_add, Nat.add_zero, wrap_i64]
      exact Ends.some (by rw [hn, hcode])
    | some W =>
      rw [hX] at fc
      simp only [Option.getD_some, Option.isSome_some] at fc
      have hpW := partV S W
      by_cases ca : e.a = 0
      · obtain ⟨hn, hcode⟩ := yes_of (show AppV V e = some W by rw [hApp, hB, if_pos ca, hX])
        simp (maxSteps := 1000000) (disch := first | omega | (simp (disch := first | omega | (simp only [EvV.len, MonV.len, refC_len, List.length_append, List.length_cons, List.length_nil, List.length_set]; first | done | omega)) only [EvV.len, MonV.len, refC_len, amSide, Int.reduceToNat, Nat.reducePow, Nat.reduceMul]; first | done | omega)) only  [↓amPre, amPost, ↓s_lit', Nat.reduceAdd, Nat.reduceSub, List.replicate, retA, resultsA, resultA, toC, toCL, Nat.reduceEqDiff, (fa112_1 S.p), (fa112_3 S.p), (fa112_4 S.p), (fa98_0 S.p), (fa98_1 S.p), (fa98_2 S.p), (fa98_3 S.p), (fa98_4 S.p), iaddr_ptr (un105 S.p) (sz3 S.p), part_all (ag112 S.p) (sz112 S.p), part_at (ag112 S.p) (sz112 S.p), part_sc (ag3 S.p), part_all (ag98 S.p) (sz98 S.p), part_at (ag98 S.p) (sz98 S.p), store_last (sz112 S.p), (sz112 S.p), store_last (sz3 S.p), (sz3 S.p), hz, hpV, hpe, gm, e0, e1, e2, e3, e4, f81, d1, d2, f82, fc, hpW, splC, splice_one, beqI_t, beqI_f, bneI_t, bneI_f, bne_self_eq_false, idx_ok, cells_self, cells_other, Int.toNat_natCast, Nat.mul_one, Nat.zero_add, Nat.add_zero, wrap_i64]
        exact Ends.some (by rw [hn, hcode])
      · have hA : AppV V e = none := by rw [hApp, hB, if_neg ca]
        obtain ⟨hn, hcode⟩ := no_of hA
        simp (maxSteps := 1000000) (disch := first | omega | (simp (disch := first | omega | (simp only [EvV.len, MonV.len, refC_len, List.length_append, List.length_cons, List.length_nil, List.length_set]; first | done | omega)) only [EvV.len, MonV.len, refC_len, amSide, Int.reduceToNat, Nat.reducePow, Nat.reduceMul]; first | done | omega)) only  [↓amPre, amPost, ↓s_lit', Nat.reduceAdd, Nat.reduceSub, List.replicate, retA, resultsA, resultA, toC, toCL, Nat.reduceEqDiff, (fa112_1 S.p), (fa112_3 S.p), (fa112_4 S.p), (fa98_0 S.p), (fa98_1 S.p), (fa98_2 S.p), (fa98_3 S.p), (fa98_4 S.p), iaddr_ptr (un105 S.p) (sz3 S.p), part_all (ag112 S.p) (sz112 S.p), part_at (ag112 S.p) (sz112 S.p), part_sc (ag3 S.p), part_all (ag98 S.p) (sz98 S.p), part_at (ag98 S.p) (sz98 S.p), store_last (sz112 S.p), (sz112 S.p), store_last (sz3 S.p), (sz3 S.p), hz, hpV, hpe, gm, e0, e1, e2, e3, e4, f81, d1, d2, f82, fc, hpW, splC, splice_one, beqI_t, beqI_f, bneI_t, bneI_f, bne_self_eq_false, idx_ok, cells_self, cells_other, Int.toNat_natCast, Nat.mul_one, Nat.zero_add, Nat.add_zero, wrap_i64]
        exact Ends.some (by rw [hn, hcode])
  by_cases k3 : e.k = 3
  · rw [hgo (by omega) (by omega)] at f82
    have hB : applyV V e o f = if e.a = 0 then exitV V e o else none := by unfold applyV; rw [if_neg (by omega), if_pos k3]
    have h8 : ob < 8 := by omega
    have g0 := refC_own V h8
    rw [ownR_of ho] at g0
    have g1 := refC_cnt V h8
    rw [cntR_of ho] at g1
    rw [hob] at e2 d1 d2
    have e1' := e1
    rw [hth] at e1'
    have hq3 : (o.own + 1 == e.t + 1) = decide (o.own = e.t) := by
      by_cases q : o.own = e.t
      · rw [decide_eq_true q, q]; exact beq_self_eq_true _
      · rw [decide_eq_false q]; exact beqI_f (by omega)
    by_cases ca : e.a = 0
    rotate_left
    · have hA : AppV V e = none := by rw [hApp, hB, if_neg ca]
      by_cases a2 : o.own = e.t
      · have z3 := decide_eq_true a2
        obtain ⟨hn, hcode⟩ := no_of hA
        simp (maxSteps := 1000000) (disch := first | omega | (simp (disch := first | omega | (simp only [EvV.len, MonV.len, refC_len, List.length_append, List.length_cons, List.length_nil, List.length_set]; first | done | omega)) only [EvV.len, MonV.len, refC_len, amSide, Int.reduceToNat, Nat.reducePow, Nat.reduceMul]; first | done | omega)) only  [↓amPre, amPost, ↓s_lit', Nat.reduceAdd, Nat.reduceSub, List.replicate, retA, resultsA, resultA, toC, toCL, Nat.reduceEqDiff, (fa112_1 S.p), (fa112_3 S.p), (fa112_4 S.p), (fa98_0 S.p), (fa98_1 S.p), (fa98_2 S.p), (fa98_3 S.p), (fa98_4 S.p), iaddr_ptr (un105 S.p) (sz3 S.p), part_all (ag112 S.p) (sz112 S.p), part_at (ag112 S.p) (sz112 S.p), part_sc (ag3 S.p), part_all (ag98 S.p) (sz98 S.p), part_at (ag98 S.p) (sz98 S.p), store_last (sz112 S.p), (sz112 S.p), store_last (sz3 S.p), (sz3 S.p), hz, hpV, hpe, gm, e0, e1, e2, e3, e4, f81, d1, d2, f82, g0, g1, hq3, z3, splC, splice_one, beqI_t, beqI_f, bneI_t, bneI_f, bne_self_eq_false, idx_ok, cells_self, cells_other, Int.toNat_natCast, Nat.mul_one, Nat.zero_add, Nat.add_zero, wrap_i64]
        exact Ends.some (by rw [hn, hcode])
      · have z3 := decide_eq_false a2
        obtain ⟨hn, hcode⟩ := no_of hA
        simp (maxSteps := 1000000) (disch := first | omega | (simp (disch := first | omega | (simp only [EvV.len, MonV.len, refC_len, List.length_append, List.length_cons, List.length_nil, List.length_set]; first | done | omega)) only [EvV.len, MonV.len, refC_len, amSide, Int.reduceToNat, Nat.reducePow, Nat.reduceMul]; first | done | omega)) only  [↓amPre, amPost, ↓s_lit', Nat.reduceAdd, Nat.reduceSub, List.replicate, retA, resultsA, resultA, toC, toCL, Nat.reduceEqDiff, (fa112_1 S.p), (fa112_3 S.p), (fa112_4 S.p), (fa98_0 S.p), (fa98_1 S.p), (fa98_2 S.p), (fa98_3 S.p), (fa98_4 S.p), iaddr_ptr (un105 S.p) (sz3 S.p), part_all (ag112 S.p) (sz112 S.p), part_at (ag112 S.p) (sz112 S.p), part_sc (ag3 S.p), part_all (ag98 S.p) (sz98 S.p), part_at (ag98 S.p) (sz98 S.p), store_last (sz112 S.p), (sz112 S.p), store_last (sz3 S.p), (sz3 S.p), hz, hpV, hpe, gm, e0, e1, e2, e3, e4, f81, d1, d2, f82, g0, g1, hq3, z3, splC, splice_one, beqI_t, beqI_f, bneI_t, bneI_f, bne_self_eq_false, idx_ok, cells_self, cells_other, Int.toNat_natCast, Nat.mul_one, Nat.zero_add, Nat.add_zero, wrap_i64]
        exact Ends.some (by rw [hn, hcode])
    rw [if_pos ca] at hB
    unfold exitV at hB
    by_cases a2 : o.own = e.t
    · have z3 := decide_eq_true a2
      by_cases c9 : e.e = 9
      · have hA : AppV V e = none := by rw [hApp, hB, if_pos c9, if_neg (fun q => q a2)]
        obtain ⟨hn, hcode⟩ := no_of hA
        simp (maxSteps := 1000000) (disch := first | omega | (simp (disch := first | omega | (simp only [EvV.len, MonV.len, refC_len, List.length_append, List.length_cons, List.length_nil, List.length_set]; first | done | omega)) only [EvV.len, MonV.len, refC_len, amSide, Int.reduceToNat, Nat.reducePow, Nat.reduceMul]; first | done | omega)) only  [↓amPre, amPost, ↓s_lit', Nat.reduceAdd, Nat.reduceSub, List.replicate, retA, resultsA, resultA, toC, toCL, Nat.reduceEqDiff, (fa112_1 S.p), (fa112_3 S.p), (fa112_4 S.p), (fa98_0 S.p), (fa98_1 S.p), (fa98_2 S.p), (fa98_3 S.p), (fa98_4 S.p), iaddr_ptr (un105 S.p) (sz3 S.p), part_all (ag112 S.p) (sz112 S.p), part_at (ag112 S.p) (sz112 S.p), part_sc (ag3 S.p), part_all (ag98 S.p) (sz98 S.p), part_at (ag98 S.p) (sz98 S.p), store_last (sz112 S.p), (sz112 S.p), store_last (sz3 S.p), (sz3 S.p), hz, hpV, hpe, gm, e0, e1, e2, e3, e4, f81, d1, d2, f82, g0, g1, hq3, z3, splC, splice_one, beqI_t, beqI_f, bneI_t, bneI_f, bne_self_eq_false, idx_ok, cells_self, cells_other, Int.toNat_natCast, Nat.mul_one, Nat.zero_add, Nat.add_zero, wrap_i64]
        exact Ends.some (by rw [hn, hcode])
      by_cases c0 : e.e = 0
      · rw [if_neg c9, if_neg (fun q => q.elim (fun q => q c0) (fun q => q a2)), hob, Int.toNat_natCast] at hB
        obtain ⟨hn, hcode⟩ := yes_of (hApp.trans hB)
        have st1 := refC_setCnt h8 ho (o.cnt - 1)
        have hobl := (List.getElem?_eq_some_iff.1 ho).1
        have hx2 : (V.setM ob ⟨o.own, o.cnt - 1, o.hsh⟩).mons[ob]? = some ⟨o.own, o.cnt - 1, o.hsh⟩ := List.getElem?_set_self hobl
        have g2 := refC_cnt (V.setM ob ⟨o.own, o.cnt - 1, o.hsh⟩) h8
        rw [cntR_of hx2] at g2
        have st2 := refC_setOwn h8 hx2 (-1)
        rw [show (-1 : Int) + 1 = 0 from rfl] at st2
        have hVV : (V.setM ob ⟨o.own, o.cnt - 1, o.hsh⟩).setM ob ⟨-1, o.cnt - 1, o.hsh⟩ = V.setM ob ⟨-1, o.cnt - 1, o.hsh⟩ := by simp [MdV.setM]
        simp only at st2
        rw [hVV] at st2
        by_cases cz : o.cnt - 1 = 0
        · rw [if_pos cz] at hn
          have hpW := partV S (V.setM ob ⟨-1, o.cnt - 1, o.hsh⟩)
          simp (maxSteps := 1000000) (disch := first | omega | (simp (disch := first | omega | (simp only [EvV.len, MonV.len, refC_len, List.length_append, List.length_cons, List.length_nil, List.length_set]; first | done | omega)) only [EvV.len, MonV.len, refC_len, amSide, Int.reduceToNat, Nat.reducePow, Nat.reduceMul]; first | done | omega)) only  [↓amPre, amPost, ↓s_lit', Nat.reduceAdd, Nat.reduceSub, List.replicate, retA, resultsA, resultA, toC, toCL, Nat.reduceEqDiff, (fa112_1 S.p), (fa112_3 S.p), (fa112_4 S.p), (fa98_0 S.p), (fa98_1 S.p), (fa98_2 S.p), (fa98_3 S.p), (fa98_4 S.p), iaddr_ptr (un105 S.p) (sz3 S.p), part_all (ag112 S.p) (sz112 S.p), part_at (ag112 S.p) (sz112 S.p), part_sc (ag3 S.p), part_all (ag98 S.p) (sz98 S.p), part_at (ag98 S.p) (sz98 S.p), store_last (sz112 S.p), (sz112 S.p), store_last (sz3 S.p), (sz3 S.p), hz, hpV, hpe, gm, e0, e1, e2, e3, e4, f81, d1, d2, f82, g0, g1, hq3, z3, st1, g2, st2, hpW, splC, splice_one, beqI_t, beqI_f, bneI_t, bneI_f, bne_self_eq_false, idx_ok, cells_self, cells_other, Int.toNat_natCast, Nat.mul_one, Nat.zero_add, Nat.add_zero, wrap_i64]
          exact Ends.some (by rw [hn, hcode])
        · rw [if_neg cz] at hn
          have hpW := partV S (V.setM ob ⟨o.own, o.cnt - 1, o.hsh⟩)
          simp (maxSteps := 1000000) (disch := first | omega | (simp (disch := first | omega | (simp only [EvV.len, MonV.len, refC_len, List.length_append, List.length_cons, List.length_nil, List.length_set]; first | done | omega)) only [EvV.len, MonV.len, refC_len, amSide, Int.reduceToNat, Nat.reducePow, Nat.reduceMul]; first | done | omega)) only  [↓amPre, amPost, ↓s_lit', Nat.reduceAdd, Nat.reduceSub, List.replicate, retA, resultsA, resultA, toC, toCL, Nat.reduceEqDiff, (fa112_1 S.p), (fa112_3 S.p), (fa112_4 S.p), (fa98_0 S.p), (fa98_1 S.p), (fa98_2 S.p), (fa98_3 S.p), (fa98_4 S.p), iaddr_ptr (un105 S.p) (sz3 S.p), part_all (ag112 S.p) (sz112 S.p), part_at (ag112 S.p) (sz112 S.p), part_sc (ag3 S.p), part_all (ag98 S.p) (sz98 S.p), part_at (ag98 S.p) (sz98 S.p), store_last (sz112 S.p), (sz112 S.p), store_last (sz3 S.p), (sz3 S.p), hz, hpV, hpe, gm, e0, e1, e2, e3, e4, f81, d1, d2, f82, g0, g1, hq3, z3, st1, g2, hpW, splC, splice_one, beqI_t, beqI_f, bneI_t, bneI_f, bne_self_eq_false, idx_ok, cells_self, cells_other, Int.toNat_natCast, Nat.mul_one, Nat.zero_add, Nat.add_zero, wrap_i64]
          exact Ends.some (by rw [hn, hcode])
      have hA : AppV V e = none := by rw [hApp, hB, if_neg c9, if_pos (Or.inl c0)]
      obtain ⟨hn, hcode⟩ := no_of hA
      simp (maxSteps := 1000000) (disch := first | omega | (simp (disch := first | omega | (simp only [EvV.len, MonV.len, refC_len, List.length_append, List.length_cons, List.length_nil, List.length_set]; first | done | omega)) only [EvV.len, MonV.len, refC_len, amSide, Int.reduceToNat, Nat.reducePow, Nat.reduceMul]; first | done | omega)) only  [↓amPre, amPost, ↓s_lit', Nat.reduceAdd, Nat.reduceSub, List.replicate, retA, resultsA, resultA, toC, toCL, Nat.reduceEqDiff, (fa112_1 S.p), (fa112_3 S.p), (fa112_4 S.p), (fa98_0 S.p), (fa98_1 S.p), (fa98_2 S.p), (fa98_3 S.p), (fa98_4 S.p), iaddr_ptr (un105 S.p) (sz3 S.p), part_all (ag112 S.p) (sz112 S.p), part_at (ag112 S.p) (sz112 S.p), part_sc (ag3 S.p), part_all (ag98 S.p) (sz98 S.p), part_at (ag98 S.p) (sz98 S.p), store_last (sz112 S.p), (sz112 S.p), store_last (sz3 S.p), (sz3 S.p), hz, hpV, hpe, gm, e0, e1, e2, e3, e4, f81, d1, d2, f82, g0, g1, hq3, z3, splC, splice_one, beqI_t, beqI_f, bneI_t, bneI_f, bne_self_eq_false, idx_ok, cells_self, cells_other, Int.toNat_natCast, Nat.mul_one, Nat.zero_add, Nat.add_zero, wrap_i64]
      exact Ends.some (by rw [hn, hcode])
    have z3 := decide_eq_false a2
    by_cases c9 : e.e = 9
    · rw [if_pos c9, if_pos a2] at hB
      obtain ⟨hn, hcode⟩ := yes_of (hApp.trans hB)
      simp (maxSteps := 1000000) (disch := first | omega | (simp (disch := first | omega | (simp only [EvV.len, MonV.len, refC_len, List.length_append, List.length_cons, List.length_nil, List.length_set]; first | done | omega)) only [EvV.len, MonV.len, refC_len, amSide, Int.reduceToNat, Nat.reducePow, Nat.reduceMul]; first | done | omega)) only  [↓amPre, amPost, ↓s_lit', Nat.reduceAdd, Nat.reduceSub, List.replicate, retA, resultsA, resultA, toC, toCL, Nat.reduceEqDiff, (fa112_1 S.p), (fa112_3 S.p), (fa112_4 S.p), (fa98_0 S.p), (fa98_1 S.p), (fa98_2 S.p), (fa98_3 S.p), (fa98_4 S.p), iaddr_ptr (un105 S.p) (sz3 S.p), part_all (ag112 S.p) (sz112 S.p), part_at (ag112 S.p) (sz112 S.p), part_sc (ag3 S.p), part_all (ag98 S.p) (sz98 S.p), part_at (ag98 S.p) (sz98 S.p), store_last (sz112 S.p), (sz112 S.p), store_last (sz3 S.p), (sz3 S.p), hz, hpV, hpe, gm, e0, e1, e2, e3, e4, f81, d1, d2, f82, g0, g1, hq3, z3, splC, splice_one, beqI_t, beqI_f, bneI_t, bneI_f, bne_self_eq_false, idx_ok, cells_self, cells_other, Int.toNat_natCast, Nat.mul_one, Nat.zero_add, Nat.add_zero, wrap_i64]
      exact Ends.some (by rw [hn, hcode])
    have hA : AppV V e = none := by rw [hApp, hB, if_neg c9, if_pos (Or.inr a2)]
    by_cases c0 : e.e = 0
    · skip
      obtain ⟨hn, hcode⟩ := no_of hA
      simp (maxSteps := 1000000) (disch := first | omega | (simp (disch := first | omega | (simp only [EvV.len, MonV.len, refC_len, List.length_append, List.length_cons, List.length_nil, List.length_set]; first | done | omega)) only [EvV.len, MonV.len, refC_len, amSide, Int.reduceToNat, Nat.reducePow, Nat.reduceMul]; first | done | omega)) only  [↓amPre, amPost, ↓s_lit', Nat.reduceAdd, Nat.reduceSub, List.replicate, retA, resultsA, resultA, toC, toCL, Nat.reduceEqDiff, (fa112_1 S.p), (fa112_3 S.p), (fa112_4 S.p), (fa98_0 S.p), (fa98_1 S.p), (fa98_2 S.p), (fa98_3 S.p), (fa98_4 S.p), iaddr_ptr (un105 S.p) (sz3 S.p), part_all (ag112 S.p) (sz112 S.p), part_at (ag112 S.p) (sz112 S.p), part_sc (ag3 S.p), part_all (ag98 S.p) (sz98 S.p), part_at (ag98 S.p) (sz98 S.p), store_last (sz112 S.p), (sz112 S.p), store_last (sz3 S.p), (sz3 S.p), hz, hpV, hpe, gm, e0, e1, e2, e3, e4, f81, d1, d2, f82, g0, g1, hq3, z3, splC, splice_one, beqI_t, beqI_f, bneI_t, bneI_f, bne_self_eq_false, idx_ok, cells_self, cells_other, Int.toNat_natCast, Nat.mul_one, Nat.zero_add, Nat.add_zero, wrap_i64]
      exact Ends.some (by rw [hn, hcode])
    obtain ⟨hn, hcode⟩ := no_of hA
    simp (maxSteps := 1000000) (disch := first | omega | (simp (disch := first | omega | (simp only [EvV.len, MonV.len, refC_len, List.length_append, List.length_cons, List.length_nil, List.length_set]; first | done | omega)) only [EvV.len, MonV.len, refC_len, amSide, Int.reduceToNat, Nat.reducePow, Nat.reduceMul]; first | done | omega)) only  [↓amPre, amPost, ↓s_lit', Nat.reduceAdd, Nat.reduceSub, List.replicate, retA, resultsA, resultA, toC, toCL, Nat.reduceEqDiff, (fa112_1 S.p), (fa112_3 S.p), (fa112_4 S.p), (fa98_0 S.p), (fa98_1 S.p), (fa98_2 S.p), (fa98_3 S.p), (fa98_4 S.p), iaddr_ptr (un105 S.p) (sz3 S.p), part_all (ag112 S.p) (sz112 S.p), part_at (ag112 S.p) (sz112 S.p), part_sc (ag3 S.p), part_all (ag98 S.p) (sz98 S.p), part_at (ag98 S.p) (sz98 S.p), store_last (sz112 S.p), (sz112 S.p), store_last (sz3 S.p), (sz3 S.p), hz, hpV, hpe, gm, e0, e1, e2, e3, e4, f81, d1, d2, f82, g0, g1, hq3, z3, splC, splice_one, beqI_t, beqI_f, bneI_t, bneI_f, bne_self_eq_false, idx_ok, cells_self, cells_other, Int.toNat_natCast, Nat.mul_one, Nat.zero_add, Nat.add_zero, wrap_i64]
    exact Ends.some (by rw [hn, hcode])
  by_cases k4 : e.k = 4
  · skip
    rw [hgo (by omega) (by omega)] at f82
    have hB : applyV V e o f = if e.a = 0 then beginV V e o f else none := by unfold applyV; rw [if_neg (by omega), if_neg (by omega), if_pos k4]
    by_cases hee : 0 ≤ e.e ∧ e.e < 100
    rotate_left
    · have hX : beginV V e o f = none := by
        unfold beginV; rw [if_neg (by omega), if_neg (by omega), if_neg (by omega), if_neg (by omega)]
      have hA : AppV V e = none := by rw [hApp, hB, hX]; split <;> rfl
      by_cases cg : e.e ≥ 0
      · have v1 : decide (e.e ≥ 0) = true := decide_eq_true cg
        have v2 : decide (e.e < 100) = false := decide_eq_false (fun q => hee ⟨cg, q⟩)
        obtain ⟨hn, hcode⟩ := no_of hA
        simp (maxSteps := 1000000) (disch := first | omega | (simp (disch := first | omega | (simp only [EvV.len, MonV.len, refC_len, List.length_append, List.length_cons, List.length_nil, List.length_set]; first | done | omega)) only [EvV.len, MonV.len, refC_len, amSide, Int.reduceToNat, Nat.reducePow, Nat.reduceMul]; first | done | omega)) only  [↓amPre, amPost, ↓s_lit', Nat.reduceAdd, Nat.reduceSub, List.replicate, retA, resultsA, resultA, toC, toCL, Nat.reduceEqDiff, (fa112_1 S.p), (fa112_3 S.p), (fa112_4 S.p), (fa98_0 S.p), (fa98_1 S.p), (fa98_2 S.p), (fa98_3 S.p), (fa98_4 S.p), iaddr_ptr (un105 S.p) (sz3 S.p), part_all (ag112 S.p) (sz112 S.p), part_at (ag112 S.p) (sz112 S.p), part_sc (ag3 S.p), part_all (ag98 S.p) (sz98 S.p), part_at (ag98 S.p) (sz98 S.p), store_last (sz112 S.p), (sz112 S.p), store_last (sz3 S.p), (sz3 S.p), hz, hpV, hpe, gm, e0, e1, e2, e3, e4, f81, d1, d2, f82, v1, v2, splC, splice_one, beqI_t, beqI_f, bneI_t, bneI_f, bne_self_eq_false, idx_ok, cells_self, cells_other, Int.toNat_natCast, Nat.mul_one, Nat.zero_add, Nat.add_zero, wrap_i64]
        exact Ends.some (by rw [hn, hcode])
      · have v1 : decide (e.e ≥ 0) = false := decide_eq_false cg
        obtain ⟨hn, hcode⟩ := no_of hA
        simp (maxSteps := 1000000) (disch := first | omega | (simp (disch := first | omega | (simp only [EvV.len, MonV.len, refC_len, List.length_append, List.length_cons, List.length_nil, List.length_set]; first | done | omega)) only [EvV.len, MonV.len, refC_len, amSide, Int.reduceToNat, Nat.reducePow, Nat.reduceMul]; first | done | omega)) only  [↓amPre, amPost, ↓s_lit', Nat.reduceAdd, Nat.reduceSub, List.replicate, retA, resultsA, resultA, toC, toCL, Nat.reduceEqDiff, (fa112_1 S.p), (fa112_3 S.p), (fa112_4 S.p), (fa98_0 S.p), (fa98_1 S.p), (fa98_2 S.p), (fa98_3 S.p), (fa98_4 S.p), iaddr_ptr (un105 S.p) (sz3 S.p), part_all (ag112 S.p) (sz112 S.p), part_at (ag112 S.p) (sz112 S.p), part_sc (ag3 S.p), part_all (ag98 S.p) (sz98 S.p), part_at (ag98 S.p) (sz98 S.p), store_last (sz112 S.p), (sz112 S.p), store_last (sz3 S.p), (sz3 S.p), hz, hpV, hpe, gm, e0, e1, e2, e3, e4, f81, d1, d2, f82, v1, splC, splice_one, beqI_t, beqI_f, bneI_t, bneI_f, bne_self_eq_false, idx_ok, cells_self, cells_other, Int.toNat_natCast, Nat.mul_one, Nat.zero_add, Nat.add_zero, wrap_i64]
        exact Ends.some (by rw [hn, hcode])
    have v1 : decide (e.e ≥ 0) = true := decide_eq_true hee.1
    have v2 : decide (e.e < 100) = true := decide_eq_true hee.2
    have hgw : getP ((ob : Int), (th : Int)) V.left = none ∧ getP ((ob : Int), (th : Int)) V.waits = none := by
      have := (goneV_false V e.t).1 (hgo (by omega) (by omega)) ob (by omega)
      rw [hth] at this
      exact ⟨this.2, this.1⟩
    have fc := fun lk h => s84a S (show 1 ≤ d by omega) I Wy hc e hob ho hth hf hee k4 hgw lk h
    unfold tupM at fc
    cases hX : beginV V e o f with
    | none =>
      have hA : AppV V e = none := by rw [hApp, hB, hX]; split <;> rfl
      rw [hX] at fc
      simp only [Option.getD_none, Option.isSome_none] at fc
      obtain ⟨hn, hcode⟩ := no_of hA
      simp (maxSteps := 1000000) (disch := first | omega | (simp (disch := first | omega | (simp only [EvV.len, MonV.len, refC_len, List.length_append, List.length_cons, List.length_nil, List.length_set]; first | done | omega)) only [EvV.len, MonV.len, refC_len, amSide, Int.reduceToNat, Nat.reducePow, Nat.reduceMul]; first | done | omega)) only  [↓amPre, amPost, ↓s_lit', Nat.reduceAdd, Nat.reduceSub, List.replicate, retA, resultsA, resultA, toC, toCL, Nat.reduceEqDiff, (fa112_1 S.p), (fa112_3 S.p), (fa112_4 S.p), (fa98_0 S.p), (fa98_1 S.p), (fa98_2 S.p), (fa98_3 S.p), (fa98_4 S.p), iaddr_ptr (un105 S.p) (sz3 S.p), part_all (ag112 S.p) (sz112 S.p), part_at (ag112 S.p) (sz112 S.p), part_sc (ag3 S.p), part_all (ag98 S.p) (sz98 S.p), part_at (ag98 S.p) (sz98 S.p), store_last (sz112 S.p), (sz112 S.p), store_last (sz3 S.p), (sz3 S.p), hz, hpV, hpe, gm, e0, e1, e2, e3, e4, f81, d1, d2, f82, v1, v2, fc, splC, splice_one, beqI_t, beqI_f, bneI_t, bneI_f, bne_self_eq_false, idx_ok, cells_self, cells_other, Int.toNat_natCast, Nat.mul_one, Nat.zero_add, Nat.add_zero, wrap_i64]
      exact Ends.some (by rw [hn, hcode])
    | some W =>
      rw [hX] at fc
      simp only [Option.getD_some, Option.isSome_some] at fc
      have hpW := partV S W
      by_cases ca : e.a = 0
      · obtain ⟨hn, hcode⟩ := yes_of (show AppV V e = some W by rw [hApp, hB, if_pos ca, hX])
        simp (maxSteps := 1000000) (disch := first | omega | (simp (disch := first | omega | (simp only [EvV.len, MonV.len, refC_len, List.length_append, List.length_cons, List.length_nil, List.length_set]; first | done | omega)) only [EvV.len, MonV.len, refC_len, amSide, Int.reduceToNat, Nat.reducePow, Nat.reduceMul]; first | done | omega)) only  [↓amPre, amPost, ↓s_lit', Nat.reduceAdd, Nat.reduceSub, List.replicate, retA, resultsA, resultA, toC, toCL, Nat.reduceEqDiff, (fa112_1 S.p), (fa112_3 S.p), (fa112_4 S.p), (fa98_0 S.p), (fa98_1 S.p), (fa98_2 S.p), (fa98_3 S.p), (fa98_4 S.p), iaddr_ptr (un105 S.p) (sz3 S.p), part_all (ag112 S.p) (sz112 S.p), part_at (ag112 S.p) (sz112 S.p), part_sc (ag3 S.p), part_all (ag98 S.p) (sz98 S.p), part_at (ag98 S.p) (sz98 S.p), store_last (sz112 S.p), (sz112 S.p), store_last (sz3 S.p), (sz3 S.p), hz, hpV, hpe, gm, e0, e1, e2, e3, e4, f81, d1, d2, f82, v1, v2, fc, hpW, splC, splice_one, beqI_t, beqI_f, bneI_t, bneI_f, bne_self_eq_false, idx_ok, cells_self, cells_other, Int.toNat_natCast, Nat.mul_one, Nat.zero_add, Nat.add_zero, wrap_i64]
        exact Ends.some (by rw [hn, hcode])
      · have hA : AppV V e = none := by rw [hApp, hB, if_neg ca]
        obtain ⟨hn, hcode⟩ := no_of hA
        simp (maxSteps := 1000000) (disch := first | omega | (simp (disch := first | omega | (simp only [EvV.len, MonV.len, refC_len, List.length_append, List.length_cons, List.length_nil, List.length_set]; first | done | omega)) only [EvV.len, MonV.len, refC_len, amSide, Int.reduceToNat, Nat.reducePow, Nat.reduceMul]; first | done | omega)) only  [↓amPre, amPost, ↓s_lit', Nat.reduceAdd, Nat.reduceSub, List.replicate, retA, resultsA, resultA, toC, toCL, Nat.reduceEqDiff, (fa112_1 S.p), (fa112_3 S.p), (fa112_4 S.p), (fa98_0 S.p), (fa98_1 S.p), (fa98_2 S.p), (fa98_3 S.p), (fa98_4 S.p), iaddr_ptr (un105 S.p) (sz3 S.p), part_all (ag112 S.p) (sz112 S.p), part_at (ag112 S.p) (sz112 S.p), part_sc (ag3 S.p), part_all (ag98 S.p) (sz98 S.p), part_at (ag98 S.p) (sz98 S.p), store_last (sz112 S.p), (sz112 S.p), store_last (sz3 S.p), (sz3 S.p), hz, hpV, hpe, gm, e0, e1, e2, e3, e4, f81, d1, d2, f82, v1, v2, fc, hpW, splC, splice_one, beqI_t, beqI_f, bneI_t, bneI_f, bne_self_eq_false, idx_ok, cells_self, cells_other, Int.toNat_natCast, Nat.mul_one, Nat.zero_add, Nat.add_zero, wrap_i64]
        exact Ends.some (by rw [hn, hcode])
  by_cases k5 : e.k = 5
  · skip
    have hB : applyV V e o f = if e.a = 0 then (if e.e = 13 ∨ e.e = 12 ∧ f = true then leaveV V (e.o, e.t) e.e else none) else none := by unfold applyV; rw [if_neg (by omega), if_neg (by omega), if_neg (by omega), if_pos k5]; by_cases ca : e.a = 0 <;> simp [ca]
    by_cases hee : 0 ≤ e.e ∧ e.e < 100
    rotate_left
    · have hX : (if e.e = 13 ∨ e.e = 12 ∧ f = true then leaveV V (e.o, e.t) e.e else none) = none := by
        rw [if_neg (by omega)]
      have hA : AppV V e = none := by rw [hApp, hB, hX]; split <;> rfl
      by_cases cg : e.e ≥ 0
      · have v1 : decide (e.e ≥ 0) = true := decide_eq_true cg
        have v2 : decide (e.e < 100) = false := decide_eq_false (fun q => hee ⟨cg, q⟩)
        obtain ⟨hn, hcode⟩ := no_of hA
        simp (maxSteps := 1000000) (disch := first | omega | (simp (disch := first | omega | (simp only [EvV.len, MonV.len, refC_len, List.length_append, List.length_cons, List.length_nil, List.length_set]; first | done | omega)) only [EvV.len, MonV.len, refC_len, amSide, Int.reduceToNat, Nat.reducePow, Nat.reduceMul]; first | done | omega)) only  [↓amPre, amPost, ↓s_lit', Nat.reduceAdd, Nat.reduceSub, List.replicate, retA, resultsA, resultA, toC, toCL, Nat.reduceEqDiff, (fa112_1 S.p), (fa112_3 S.p), (fa112_4 S.p), (fa98_0 S.p), (fa98_1 S.p), (fa98_2 S.p), (fa98_3 S.p), (fa98_4 S.p), iaddr_ptr (un105 S.p) (sz3 S.p), part_all (ag112 S.p) (sz112 S.p), part_at (ag112 S.p) (sz112 S.p), part_sc (ag3 S.p), part_all (ag98 S.p) (sz98 S.p), part_at (ag98 S.p) (sz98 S.p), store_last (sz112 S.p), (sz112 S.p), store_last (sz3 S.p), (sz3 S.p), hz, hpV, hpe, gm, e0, e1, e2, e3, e4, f81, d1, d2, f82, v1, v2, splC, splice_one, beqI_t, beqI_f, bneI_t, bneI_f, bne_self_eq_false, idx_ok, cells_self, cells_other, Int.toNat_natCast, Nat.mul_one, Nat.zero_add, Nat.add_zero, wrap_i64]
        exact Ends.some (by rw [hn, hcode])
      · have v1 : decide (e.e ≥ 0) = false := decide_eq_false cg
        obtain ⟨hn, hcode⟩ := no_of hA
        simp (maxSteps := 1000000) (disch := first | omega | (simp (disch := first | omega | (simp only [EvV.len, MonV.len, refC_len, List.length_append, List.length_cons, List.length_nil, List.length_set]; first | done | omega)) only [EvV.len, MonV.len, refC_len, amSide, Int.reduceToNat, Nat.reducePow, Nat.reduceMul]; first | done | omega)) only  [↓amPre, amPost, ↓s_lit', Nat.reduceAdd, Nat.reduceSub, List.replicate, retA, resultsA, resultA, toC, toCL, Nat.reduceEqDiff, (fa112_1 S.p), (fa112_3 S.p), (fa112_4 S.p), (fa98_0 S.p), (fa98_1 S.p), (fa98_2 S.p), (fa98_3 S.p), (fa98_4 S.p), iaddr_ptr (un105 S.p) (sz3 S.p), part_all (ag112 S.p) (sz112 S.p), part_at (ag112 S.p) (sz112 S.p), part_sc (ag3 S.p), part_all (ag98 S.p) (sz98 S.p), part_at (ag98 S.p) (sz98 S.p), store_last (sz112 S.p), (sz112 S.p), store_last (sz3 S.p), (sz3 S.p), hz, hpV, hpe, gm, e0, e1, e2, e3, e4, f81, d1, d2, f82, v1, splC, splice_one, beqI_t, beqI_f, bneI_t, bneI_f, bne_self_eq_false, idx_ok, cells_self, cells_other, Int.toNat_natCast, Nat.mul_one, Nat.zero_add, Nat.add_zero, wrap_i64]
        exact Ends.some (by rw [hn, hcode])
    have v1 : decide (e.e ≥ 0) = true := decide_eq_true hee.1
    have v2 : decide (e.e < 100) = true := decide_eq_true hee.2
    have fc := fun lk h => s84b S (show 1 ≤ d by omega) I Wy hc e hob ho hth hf hee k5 lk h
    unfold tupM at fc
    cases hX : (if e.e = 13 ∨ e.e = 12 ∧ f = true then leaveV V (e.o, e.t) e.e else none) with
    | none =>
      have hA : AppV V e = none := by rw [hApp, hB, hX]; split <;> rfl
      rw [hX] at fc
      simp only [Option.getD_none, Option.isSome_none] at fc
      obtain ⟨hn, hcode⟩ := no_of hA
      simp (maxSteps := 1000000) (disch := first | omega | (simp (disch := first | omega | (simp only [EvV.len, MonV.len, refC_len, List.length_append, List.length_cons, List.length_nil, List.length_set]; first | done | omega)) only [EvV.len, MonV.len, refC_len, amSide, Int.reduceToNat, Nat.reducePow, Nat.reduceMul]; first | done | omega)) only  [↓amPre, amPost, ↓s_lit', Nat.reduceAdd, Nat.reduceSub, List.replicate, retA, resultsA, resultA, toC, toCL, Nat.reduceEqDiff, (fa112_1 S.p), (fa112_3 S.p), (fa112_4 S.p), (fa98_0 S.p), (fa98_1 S.p), (fa98_2 S.p), (fa98_3 S.p), (fa98_4 S.p), iaddr_ptr (un105 S.p) (sz3 S.p), part_all (ag112 S.p) (sz112 S.p), part_at (ag112 S.p) (sz112 S.p), part_sc (ag3 S.p), part_all (ag98 S.p) (sz98 S.p), part_at (ag98 S.p) (sz98 S.p), store_last (sz112 S.p), (sz112 S.p), store_last (sz3 S.p), (sz3 S.p), hz, hpV, hpe, gm, e0, e1, e2, e3, e4, f81, d1, d2, f82, v1, v2, fc, splC, splice_one, beqI_t, beqI_f, bneI_t, bneI_f, bne_self_eq_false, idx_ok, cells_self, cells_other, Int.toNat_natCast, Nat.mul_one, Nat.zero_add, Nat.add_zero, wrap_i64]
      exact Ends.some (by rw [hn, hcode])
    | some W =>
      rw [hX] at fc
      simp only [Option.getD_some, Option.isSome_some] at fc
      have hpW := partV S W
      by_cases ca : e.a = 0
      · obtain ⟨hn, hcode⟩ := yes_of (show AppV V e = some W by rw [hApp, hB, if_pos ca, hX])
        simp (maxSteps := 1000000) (disch := first | omega | (simp (disch := first | omega | (simp only [EvV.len, MonV.len, refC_len, List.length_append, List.length_cons, List.length_nil, List.length_set]; first | done | omega)) only [EvV.len, MonV.len, refC_len, amSide, Int.reduceToNat, Nat.reducePow, Nat.reduceMul]; first | done | omega)) only  [↓amPre, amPost, ↓s_lit', Nat.reduceAdd, Nat.reduceSub, List.replicate, retA, resultsA, resultA, toC, toCL, Nat.reduceEqDiff, (fa112_1 S.p), (fa112_3 S.p), (fa112_4 S.p), (fa98_0 S.p), (fa98_1 S.p), (fa98_2 S.p), (fa98_3 S.p), (fa98_4 S.p), iaddr_ptr (un105 S.p) (sz3 S.p), part_all (ag112 S.p) (sz112 S.p), part_at (ag112 S.p) (sz112 S.p), part_sc (ag3 S.p), part_all (ag98 S.p) (sz98 S.p), part_at (ag98 S.p) (sz98 S.p), store_last (sz112 S.p), (sz112 S.p), store_last (sz3 S.p), (sz3 S.p), hz, hpV, hpe, gm, e0, e1, e2, e3, e4, f81, d1, d2, f82, v1, v2, fc, hpW, splC, splice_one, beqI_t, beqI_f, bneI_t, bneI_f, bne_self_eq_false, idx_ok, cells_self, cells_other, Int.toNat_natCast, Nat.mul_one, Nat.zero_add, Nat.add_zero, wrap_i64]
        exact Ends.some (by rw [hn, hcode])
      · have hA : AppV V e = none := by rw [hApp, hB, if_neg ca]
        obtain ⟨hn, hcode⟩ := no_of hA
        simp (maxSteps := 1000000) (disch := first | omega | (simp (disch := first | omega | (simp only [EvV.len, MonV.len, refC_len, List.length_append, List.length_cons, List.length_nil, List.length_set]; first | done | omega)) only [EvV.len, MonV.len, refC_len, amSide, Int.reduceToNat, Nat.reducePow, Nat.reduceMul]; first | done | omega)) only  [↓amPre, amPost, ↓s_lit', Nat.reduceAdd, Nat.reduceSub, List.replicate, retA, resultsA, resultA, toC, toCL, Nat.reduceEqDiff, (fa112_1 S.p), (fa112_3 S.p), (fa112_4 S.p), (fa98_0 S.p), (fa98_1 S.p), (fa98_2 S.p), (fa98_3 S.p), (fa98_4 S.p), iaddr_ptr (un105 S.p) (sz3 S.p), part_all (ag112 S.p) (sz112 S.p), part_at (ag112 S.p) (sz112 S.p), part_sc (ag3 S.p), part_all (ag98 S.p) (sz98 S.p), part_at (ag98 S.p) (sz98 S.p), store_last (sz112 S.p), (sz112 S.p), store_last (sz3 S.p), (sz3 S.p), hz, hpV, hpe, gm, e0, e1, e2, e3, e4, f81, d1, d2, f82, v1, v2, fc, hpW, splC, splice_one, beqI_t, beqI_f, bneI_t, bneI_f, bne_self_eq_false, idx_ok, cells_self, cells_other, Int.toNat_natCast, Nat.mul_one, Nat.zero_add, Nat.add_zero, wrap_i64]
        exact Ends.some (by rw [hn, hcode])
  by_cases k6 : e.k = 6
  · skip
    have hB : applyV V e o f = if e.a = 0 then endV V e o else none := by unfold applyV; rw [if_neg (by omega), if_neg (by omega), if_neg (by omega), if_neg (by omega), if_pos k6]
    by_cases hee : 0 ≤ e.e ∧ e.e < 100
    rotate_left
    · have hX : endV V e o = none := by
        unfold endV
        cases hg : getP (e.o, e.t) V.left with
        | none => rfl
        | some l =>
          have hw := Wy _ (getP_mem hg)
          simp only at hw
          simp only
          rw [if_pos (Or.inr (by omega))]
      have hA : AppV V e = none := by rw [hApp, hB, hX]; split <;> rfl
      by_cases cg : e.e ≥ 0
      · have v1 : decide (e.e ≥ 0) = true := decide_eq_true cg
        have v2 : decide (e.e < 100) = false := decide_eq_false (fun q => hee ⟨cg, q⟩)
        obtain ⟨hn, hcode⟩ := no_of hA
        simp (maxSteps := 1000000) (disch := first | omega | (simp (disch := first | omega | (simp only [EvV.len, MonV.len, refC_len, List.length_append, List.length_cons, List.length_nil, List.length_set]; first | done | omega)) only [EvV.len, MonV.len, refC_len, amSide, Int.reduceToNat, Nat.reducePow, Nat.reduceMul]; first | done | omega)) only  [↓amPre, amPost, ↓s_lit', Nat.reduceAdd, Nat.reduceSub, List.replicate, retA, resultsA, resultA, toC, toCL, Nat.reduceEqDiff, (fa112_1 S.p), (fa112_3 S.p), (fa112_4 S.p), (fa98_0 S.p), (fa98_1 S.p), (fa98_2 S.p), (fa98_3 S.p), (fa98_4 S.p), iaddr_ptr (un105 S.p) (sz3 S.p), part_all (ag112 S.p) (sz112 S.p), part_at (ag112 S.p) (sz112 S.p), part_sc (ag3 S.p), part_all (ag98 S.p) (sz98 S.p), part_at (ag98 S.p) (sz98 S.p), store_last (sz112 S.p), (sz112 S.p), store_last (sz3 S.p), (sz3 S.p), hz, hpV, hpe, gm, e0, e1, e2, e3, e4, f81, d1, d2, f82, v1, v2, splC, splice_one, beqI_t, beqI_f, bneI_t, bneI_f, bne_self_eq_false, idx_ok, cells_self, cells_other, Int.toNat_natCast, Nat.mul_one, Nat.zero_add, Nat.add_zero, wrap_i64]
        exact Ends.some (by rw [hn, hcode])
      · have v1 : decide (e.e ≥ 0) = false := decide_eq_false cg
        obtain ⟨hn, hcode⟩ := no_of hA
        simp (maxSteps := 1000000) (disch := first | omega | (simp (disch := first | omega | (simp only [EvV.len, MonV.len, refC_len, List.length_append, List.length_cons, List.length_nil, List.length_set]; first | done | omega)) only [EvV.len, MonV.len, refC_len, amSide, Int.reduceToNat, Nat.reducePow, Nat.reduceMul]; first | done | omega)) only  [↓amPre, amPost, ↓s_lit', Nat.reduceAdd, Nat.reduceSub, List.replicate, retA, resultsA, resultA, toC, toCL, Nat.reduceEqDiff, (fa112_1 S.p), (fa112_3 S.p), (fa112_4 S.p), (fa98_0 S.p), (fa98_1 S.p), (fa98_2 S.p), (fa98_3 S.p), (fa98_4 S.p), iaddr_ptr (un105 S.p) (sz3 S.p), part_all (ag112 S.p) (sz112 S.p), part_at (ag112 S.p) (sz112 S.p), part_sc (ag3 S.p), part_all (ag98 S.p) (sz98 S.p), part_at (ag98 S.p) (sz98 S.p), store_last (sz112 S.p), (sz112 S.p), store_last (sz3 S.p), (sz3 S.p), hz, hpV, hpe, gm, e0, e1, e2, e3, e4, f81, d1, d2, f82, v1, splC, splice_one, beqI_t, beqI_f, bneI_t, bneI_f, bne_self_eq_false, idx_ok, cells_self, cells_other, Int.toNat_natCast, Nat.mul_one, Nat.zero_add, Nat.add_zero, wrap_i64]
        exact Ends.some (by rw [hn, hcode])
    have v1 : decide (e.e ≥ 0) = true := decide_eq_true hee.1
    have v2 : decide (e.e < 100) = true := decide_eq_true hee.2
    have fc := fun lk h => s84c S (show 1 ≤ d by omega) I Wy hc e hob ho hth hf hee k6 lk h
    unfold tupM at fc
    cases hX : endV V e o with
    | none =>
      have hA : AppV V e = none := by rw [hApp, hB, hX]; split <;> rfl
      rw [hX] at fc
      simp only [Option.getD_none, Option.isSome_none] at fc
      obtain ⟨hn, hcode⟩ := no_of hA
      simp (maxSteps := 1000000) (disch := first | omega | (simp (disch := first | omega | (simp only [EvV.len, MonV.len, refC_len, List.length_append, List.length_cons, List.length_nil, List.length_set]; first | done | omega)) only [EvV.len, MonV.len, refC_len, amSide, Int.reduceToNat, Nat.reducePow, Nat.reduceMul]; first | done | omega)) only  [↓amPre, amPost, ↓s_lit', Nat.reduceAdd, Nat.reduceSub, List.replicate, retA, resultsA, resultA, toC, toCL, Nat.reduceEqDiff, (fa112_1 S.p), (fa112_3 S.p), (fa112_4 S.p), (fa98_0 S.p), (fa98_1 S.p), (fa98_2 S.p), (fa98_3 S.p), (fa98_4 S.p), iaddr_ptr (un105 S.p) (sz3 S.p), part_all (ag112 S.p) (sz112 S.p), part_at (ag112 S.p) (sz112 S.p), part_sc (ag3 S.p), part_all (ag98 S.p) (sz98 S.p), part_at (ag98 S.p) (sz98 S.p), store_last (sz112 S.p), (sz112 S.p), store_last (sz3 S.p), (sz3 S.p), hz, hpV, hpe, gm, e0, e1, e2, e3, e4, f81, d1, d2, f82, v1, v2, fc, splC, splice_one, beqI_t, beqI_f, bneI_t, bneI_f, bne_self_eq_false, idx_ok, cells_self, cells_other, Int.toNat_natCast, Nat.mul_one, Nat.zero_add, Nat.add_zero, wrap_i64]
      exact Ends.some (by rw [hn, hcode])
    | some W =>
      rw [hX] at fc
      simp only [Option.getD_some, Option.isSome_some] at fc
      have hpW := partV S W
      by_cases ca : e.a = 0
      · obtain ⟨hn, hcode⟩ := yes_of (show AppV V e = some W by rw [hApp, hB, if_pos ca, hX])
        simp (maxSteps := 1000000) (disch := first | omega | (simp (disch := first | omega | (simp only [EvV.len, MonV.len, refC_len, List.length_append, List.length_cons, List.length_nil, List.length_set]; first | done | omega)) only [EvV.len, MonV.len, refC_len, amSide, Int.reduceToNat, Nat.reducePow, Nat.reduceMul]; first | done | omega)) only  [↓amPre, amPost, ↓s_lit', Nat.reduceAdd, Nat.reduceSub, List.replicate, retA, resultsA, resultA, toC, toCL, Nat.reduceEqDiff, (fa112_1 S.p), (fa112_3 S.p), (fa112_4 S.p), (fa98_0 S.p), (fa98_1 S.p), (fa98_2 S.p), (fa98_3 S.p), (fa98_4 S.p), iaddr_ptr (un105 S.p) (sz3 S.p), part_all (ag112 S.p) (sz112 S.p), part_at (ag112 S.p) (sz112 S.p), part_sc (ag3 S.p), part_all (ag98 S.p) (sz98 S.p), part_at (ag98 S.p) (sz98 S.p), store_last (sz112 S.p), (sz112 S.p), store_last (sz3 S.p), (sz3 S.p), hz, hpV, hpe, gm, e0, e1, e2, e3, e4, f81, d1, d2, f82, v1, v2, fc, hpW, splC, splice_one, beqI_t, beqI_f, bneI_t, bneI_f, bne_self_eq_false, idx_ok, cells_self, cells_other, Int.toNat_natCast, Nat.mul_one, Nat.zero_add, Nat.add_zero, wrap_i64]
        exact Ends.some (by rw [hn, hcode])
      · have hA : AppV V e = none := by rw [hApp, hB, if_neg ca]
        obtain ⟨hn, hcode⟩ := no_of hA
        simp (maxSteps := 1000000) (disch := first | omega | (simp (disch := first | omega | (simp only [EvV.len, MonV.len, refC_len, List.length_append, List.length_cons, List.length_nil, List.length_set]; first | done | omega)) only [EvV.len, MonV.len, refC_len, amSide, Int.reduceToNat, Nat.reducePow, Nat.reduceMul]; first | done | omega)) only  [↓amPre, amPost, ↓s_lit', Nat.reduceAdd, Nat.reduceSub, List.replicate, retA, resultsA, resultA, toC, toCL, Nat.reduceEqDiff, (fa112_1 S.p), (fa112_3 S.p), (fa112_4 S.p), (fa98_0 S.p), (fa98_1 S.p), (fa98_2 S.p), (fa98_3 S.p), (fa98_4 S.p), iaddr_ptr (un105 S.p) (sz3 S.p), part_all (ag112 S.p) (sz112 S.p), part_at (ag112 S.p) (sz112 S.p), part_sc (ag3 S.p), part_all (ag98 S.p) (sz98 S.p), part_at (ag98 S.p) (sz98 S.p), store_last (sz112 S.p), (sz112 S.p), store_last (sz3 S.p), (sz3 S.p), hz, hpV, hpe, gm, e0, e1, e2, e3, e4, f81, d1, d2, f82, v1, v2, fc, hpW, splC, splice_one, beqI_t, beqI_f, bneI_t, bneI_f, bne_self_eq_false, idx_ok, cells_self, cells_other, Int.toNat_natCast, Nat.mul_one, Nat.zero_add, Nat.add_zero, wrap_i64]
        exact Ends.some (by rw [hn, hcode])
  by_cases k7 : e.k = 7
  · skip
    rw [hgo (by omega) (by omega)] at f82
    have hB : applyV V e o f = tellV V e o := by unfold applyV; rw [if_neg (by omega), if_neg (by omega), if_neg (by omega), if_neg (by omega), if_neg (by omega), if_pos (by omega)]
    have fc := fun lk h => s85a S (show 2 ≤ d by omega) I hc e hob ho hth thn k7 lk h
    unfold tupM at fc
    cases hX : tellV V e o with
    | none =>
      have hA : AppV V e = none := by rw [hApp, hB, hX]
      rw [hX] at fc
      simp only [Option.getD_none, Option.isSome_none] at fc
      obtain ⟨hn, hcode⟩ := no_of hA
      simp (maxSteps := 1000000) (disch := first | omega | (simp (disch := first | omega | (simp only [EvV.len, MonV.len, refC_len, List.length_append, List.length_cons, List.length_nil, List.length_set]; first | done | omega)) only [EvV.len, MonV.len, refC_len, amSide, Int.reduceToNat, Nat.reducePow, Nat.reduceMul]; first | done | omega)) only  [↓amPre, amPost, ↓s_lit', Nat.reduceAdd, Nat.reduceSub, List.replicate, retA, resultsA, resultA, toC, toCL, Nat.reduceEqDiff, (fa112_1 S.p), (fa112_3 S.p), (fa112_4 S.p), (fa98_0 S.p), (fa98_1 S.p), (fa98_2 S.p), (fa98_3 S.p), (fa98_4 S.p), iaddr_ptr (un105 S.p) (sz3 S.p), part_all (ag112 S.p) (sz112 S.p), part_at (ag112 S.p) (sz112 S.p), part_sc (ag3 S.p), part_all (ag98 S.p) (sz98 S.p), part_at (ag98 S.p) (sz98 S.p), store_last (sz112 S.p), (sz112 S.p), store_last (sz3 S.p), (sz3 S.p), hz, hpV, hpe, gm, e0, e1, e2, e3, e4, f81, d1, d2, f82, fc, splC, splice_one, beqI_t, beqI_f, bneI_t, bneI_f, bne_self_eq_false, idx_ok, cells_self, cells_other, Int.toNat_natCast, Nat.mul_one, Nat.zero_add, Nat.add_zero, wrap_i64]
      exact Ends.some (by rw [hn, hcode])
    | some W =>
      rw [hX] at fc
      simp only [Option.getD_some, Option.isSome_some] at fc
      have hpW := partV S W
      obtain ⟨hn, hcode⟩ := yes_of (show AppV V e = some W by rw [hApp, hB, hX])
      simp (maxSteps := 1000000) (disch := first | omega | (simp (disch := first | omega | (simp only [EvV.len, MonV.len, refC_len, List.length_append, List.length_cons, List.length_nil, List.length_set]; first | done | omega)) only [EvV.len, MonV.len, refC_len, amSide, Int.reduceToNat, Nat.reducePow, Nat.reduceMul]; first | done | omega)) only  [↓amPre, amPost, ↓s_lit', Nat.reduceAdd, Nat.reduceSub, List.replicate, retA, resultsA, resultA, toC, toCL, Nat.reduceEqDiff, (fa112_1 S.p), (fa112_3 S.p), (fa112_4 S.p), (fa98_0 S.p), (fa98_1 S.p), (fa98_2 S.p), (fa98_3 S.p), (fa98_4 S.p), iaddr_ptr (un105 S.p) (sz3 S.p), part_all (ag112 S.p) (sz112 S.p), part_at (ag112 S.p) (sz112 S.p), part_sc (ag3 S.p), part_all (ag98 S.p) (sz98 S.p), part_at (ag98 S.p) (sz98 S.p), store_last (sz112 S.p), (sz112 S.p), store_last (sz3 S.p), (sz3 S.p), hz, hpV, hpe, gm, e0, e1, e2, e3, e4, f81, d1, d2, f82, fc, hpW, splC, splice_one, beqI_t, beqI_f, bneI_t, bneI_f, bne_self_eq_false, idx_ok, cells_self, cells_other, Int.toNat_natCast, Nat.mul_one, Nat.zero_add, Nat.add_zero, wrap_i64]
      exact Ends.some (by rw [hn, hcode])
  by_cases k8 : e.k = 8
  · skip
    rw [hgo (by omega) (by omega)] at f82
    have hB : applyV V e o f = tellV V e o := by unfold applyV; rw [if_neg (by omega), if_neg (by omega), if_neg (by omega), if_neg (by omega), if_neg (by omega), if_pos (by omega)]
    have fc := fun lk h => s85b S (show 2 ≤ d by omega) I hc e hob ho hth thn k8 lk h
    unfold tupM at fc
    cases hX : tellV V e o with
    | none =>
      have hA : AppV V e = none := by rw [hApp, hB, hX]
      rw [hX] at fc
      simp only [Option.getD_none, Option.isSome_none] at fc
      obtain ⟨hn, hcode⟩ := no_of hA
      simp (maxSteps := 1000000) (disch := first | omega | (simp (disch := first | omega | (simp only [EvV.len, MonV.len, refC_len, List.length_append, List.length_cons, List.length_nil, List.length_set]; first | done | omega)) only [EvV.len, MonV.len, refC_len, amSide, Int.reduceToNat, Nat.reducePow, Nat.reduceMul]; first | done | omega)) only  [↓amPre, amPost, ↓s_lit', Nat.reduceAdd, Nat.reduceSub, List.replicate, retA, resultsA, resultA, toC, toCL, Nat.reduceEqDiff, (fa112_1 S.p), (fa112_3 S.p), (fa112_4 S.p), (fa98_0 S.p), (fa98_1 S.p), (fa98_2 S.p), (fa98_3 S.p), (fa98_4 S.p), iaddr_ptr (un105 S.p) (sz3 S.p), part_all (ag112 S.p) (sz112 S.p), part_at (ag112 S.p) (sz112 S.p), part_sc (ag3 S.p), part_all (ag98 S.p) (sz98 S.p), part_at (ag98 S.p) (sz98 S.p), store_last (sz112 S.p), (sz112 S.p), store_last (sz3 S.p), (sz3 S.p), hz, hpV, hpe, gm, e0, e1, e2, e3, e4, f81, d1, d2, f82, fc, splC, splice_one, beqI_t, beqI_f, bneI_t, bneI_f, bne_self_eq_false, idx_ok, cells_self, cells_other, Int.toNat_natCast, Nat.mul_one, Nat.zero_add, Nat.add_zero, wrap_i64]
      exact Ends.some (by rw [hn, hcode])
    | some W =>
      rw [hX] at fc
      simp only [Option.getD_some, Option.isSome_some] at fc
      have hpW := partV S W
      obtain ⟨hn, hcode⟩ := yes_of (show AppV V e = some W by rw [hApp, hB, hX])
      simp (maxSteps := 1000000) (disch := first | omega | (simp (disch := first | omega | (simp only [EvV.len, MonV.len, refC_len, List.length_append, List.length_cons, List.length_nil, List.length_set]; first | done | omega)) only [EvV.len, MonV.len, refC_len, amSide, Int.reduceToNat, Nat.reducePow, Nat.reduceMul]; first | done | omega)) only  [↓amPre, amPost, ↓s_lit', Nat.reduceAdd, Nat.reduceSub, List.replicate, retA, resultsA, resultA, toC, toCL, Nat.reduceEqDiff, (fa112_1 S.p), (fa112_3 S.p), (fa112_4 S.p), (fa98_0 S.p), (fa98_1 S.p), (fa98_2 S.p), (fa98_3 S.p), (fa98_4 S.p), iaddr_ptr (un105 S.p) (sz3 S.p), part_all (ag112 S.p) (sz112 S.p), part_at (ag112 S.p) (sz112 S.p), part_sc (ag3 S.p), part_all (ag98 S.p) (sz98 S.p), part_at (ag98 S.p) (sz98 S.p), store_last (sz112 S.p), (sz112 S.p), store_last (sz3 S.p), (sz3 S.p), hz, hpV, hpe, gm, e0, e1, e2, e3, e4, f81, d1, d2, f82, fc, hpW, splC, splice_one, beqI_t, beqI_f, bneI_t, bneI_f, bne_self_eq_false, idx_ok, cells_self, cells_other, Int.toNat_natCast, Nat.mul_one, Nat.zero_add, Nat.add_zero, wrap_i64]
      exact Ends.some (by rw [hn, hcode])
  by_cases k9 : e.k = 9
  · skip
    rw [hgo (by omega) (by omega)] at f82
    have hB : applyV V e o f = tellV V e o := by unfold applyV; rw [if_neg (by omega), if_neg (by omega), if_neg (by omega), if_neg (by omega), if_neg (by omega), if_pos (by omega)]
    have fc := fun lk h => s85c S (show 2 ≤ d by omega) I hc e hob ho hth thn k9 lk h
    unfold tupM at fc
    cases hX : tellV V e o with
    | none =>
      have hA : AppV V e = none := by rw [hApp, hB, hX]
      rw [hX] at fc
      simp only [Option.getD_none, Option.isSome_none] at fc
      obtain ⟨hn, hcode⟩ := no_of hA
      simp (maxSteps := 1000000) (disch := first | omega | (simp (disch := first | omega | (simp only [EvV.len, MonV.len, refC_len, List.length_append, List.length_cons, List.length_nil, List.length_set]; first | done | omega)) only [EvV.len, MonV.len, refC_len, amSide, Int.reduceToNat, Nat.reducePow, Nat.reduceMul]; first | done | omega)) only  [↓amPre, amPost, ↓s_lit', Nat.reduceAdd, Nat.reduceSub, List.replicate, retA, resultsA, resultA, toC, toCL, Nat.reduceEqDiff, (fa112_1 S.p), (fa112_3 S.p), (fa112_4 S.p), (fa98_0 S.p), (fa98_1 S.p), (fa98_2 S.p), (fa98_3 S.p), (fa98_4 S.p), iaddr_ptr (un105 S.p) (sz3 S.p), part_all (ag112 S.p) (sz112 S.p), part_at (ag112 S.p) (sz112 S.p), part_sc (ag3 S.p), part_all (ag98 S.p) (sz98 S.p), part_at (ag98 S.p) (sz98 S.p), store_last (sz112 S.p), (sz112 S.p), store_last (sz3 S.p), (sz3 S.p), hz, hpV, hpe, gm, e0, e1, e2, e3, e4, f81, d1, d2, f82, fc, splC, splice_one, beqI_t, beqI_f, bneI_t, bneI_f, bne_self_eq_false, idx_ok, cells_self, cells_other, Int.toNat_natCast, Nat.mul_one, Nat.zero_add, Nat.add_zero, wrap_i64]
      exact Ends.some (by rw [hn, hcode])
    | some W =>
      rw [hX] at fc
      simp only [Option.getD_some, Option.isSome_some] at fc
      have hpW := partV S W
      obtain ⟨hn, hcode⟩ := yes_of (show AppV V e = some W by rw [hApp, hB, hX])
      simp (maxSteps := 1000000) (disch := first | omega | (simp (disch := first | omega | (simp only [EvV.len, MonV.len, refC_len, List.length_append, List.length_cons, List.length_nil, List.length_set]; first | done | omega)) only [EvV.len, MonV.len, refC_len, amSide, Int.reduceToNat, Nat.reducePow, Nat.reduceMul]; first | done | omega)) only  [↓amPre, amPost, ↓s_lit', Nat.reduceAdd, Nat.reduceSub, List.replicate, retA, resultsA, resultA, toC, toCL, Nat.reduceEqDiff, (fa112_1 S.p), (fa112_3 S.p), (fa112_4 S.p), (fa98_0 S.p), (fa98_1 S.p), (fa98_2 S.p), (fa98_3 S.p), (fa98_4 S.p), iaddr_ptr (un105 S.p) (sz3 S.p), part_all (ag112 S.p) (sz112 S.p), part_at (ag112 S.p) (sz112 S.p), part_sc (ag3 S.p), part_all (ag98 S.p) (sz98 S.p), part_at (ag98 S.p) (sz98 S.p), store_last (sz112 S.p), (sz112 S.p), store_last (sz3 S.p), (sz3 S.p), hz, hpV, hpe, gm, e0, e1, e2, e3, e4, f81, d1, d2, f82, fc, hpW, splC, splice_one, beqI_t, beqI_f, bneI_t, bneI_f, bne_self_eq_false, idx_ok, cells_self, cells_other, Int.toNat_natCast, Nat.mul_one, Nat.zero_add, Nat.add_zero, wrap_i64]
      exact Ends.some (by rw [hn, hcode])
  by_cases k10 : e.k = 10
  · skip
    rw [hgo (by omega) (by omega)] at f82
    have hB : applyV V e o f = hashV V e o := by unfold applyV; rw [if_neg (by omega), if_neg (by omega), if_neg (by omega), if_neg (by omega), if_neg (by omega), if_neg (by omega), if_pos k10]
    have fc := fun lk h => s86a S (show 2 ≤ d by omega) I hc e hob ho hth thn k10 (Hh ob o ho) lk h
    unfold tupM at fc
    cases hX : hashV V e o with
    | none =>
      have hA : AppV V e = none := by rw [hApp, hB, hX]
      rw [hX] at fc
      simp only [Option.getD_none, Option.isSome_none] at fc
      obtain ⟨hn, hcode⟩ := no_of hA
      simp (maxSteps := 1000000) (disch := first | omega | (simp (disch := first | omega | (simp only [EvV.len, MonV.len, refC_len, List.length_append, List.length_cons, List.length_nil, List.length_set]; first | done | omega)) only [EvV.len, MonV.len, refC_len, amSide, Int.reduceToNat, Nat.reducePow, Nat.reduceMul]; first | done | omega)) only  [↓amPre, amPost, ↓s_lit', Nat.reduceAdd, Nat.reduceSub, List.replicate, retA, resultsA, resultA, toC, toCL, Nat.reduceEqDiff, (fa112_1 S.p), (fa112_3 S.p), (fa112_4 S.p), (fa98_0 S.p), (fa98_1 S.p), (fa98_2 S.p), (fa98_3 S.p), (fa98_4 S.p), iaddr_ptr (un105 S.p) (sz3 S.p), part_all (ag112 S.p) (sz112 S.p), part_at (ag112 S.p) (sz112 S.p), part_sc (ag3 S.p), part_all (ag98 S.p) (sz98 S.p), part_at (ag98 S.p) (sz98 S.p), store_last (sz112 S.p), (sz112 S.p), store_last (sz3 S.p), (sz3 S.p), hz, hpV, hpe, gm, e0, e1, e2, e3, e4, f81, d1, d2, f82, fc, splC, splice_one, beqI_t, beqI_f, bneI_t, bneI_f, bne_self_eq_false, idx_ok, cells_self, cells_other, Int.toNat_natCast, Nat.mul_one, Nat.zero_add, Nat.add_zero, wrap_i64]
      exact Ends.some (by rw [hn, hcode])
    | some W =>
      rw [hX] at fc
      simp only [Option.getD_some, Option.isSome_some] at fc
      have hpW := partV S W
      obtain ⟨hn, hcode⟩ := yes_of (show AppV V e = some W by rw [hApp, hB, hX])
      simp (maxSteps := 1000000) (disch := first | omega | (simp (disch := first | omega | (simp only [EvV.len, MonV.len, refC_len, List.length_append, List.length_cons, List.length_nil, List.length_set]; first | done | omega)) only [EvV.len, MonV.len, refC_len, amSide, Int.reduceToNat, Nat.reducePow, Nat.reduceMul]; first | done | omega)) only  [↓amPre, amPost, ↓s_lit', Nat.reduceAdd, Nat.reduceSub, List.replicate, retA, resultsA, resultA, toC, toCL, Nat.reduceEqDiff, (fa112_1 S.p), (fa112_3 S.p), (fa112_4 S.p), (fa98_0 S.p), (fa98_1 S.p), (fa98_2 S.p), (fa98_3 S.p), (fa98_4 S.p), iaddr_ptr (un105 S.p) (sz3 S.p), part_all (ag112 S.p) (sz112 S.p), part_at (ag112 S.p) (sz112 S.p), part_sc (ag3 S.p), part_all (ag98 S.p) (sz98 S.p), part_at (ag98 S.p) (sz98 S.p), store_last (sz112 S.p), (sz112 S.p), store_last (sz3 S.p), (sz3 S.p), hz, hpV, hpe, gm, e0, e1, e2, e3, e4, f81, d1, d2, f82, fc, hpW, splC, splice_one, beqI_t, beqI_f, bneI_t, bneI_f, bne_self_eq_false, idx_ok, cells_self, cells_other, Int.toNat_natCast, Nat.mul_one, Nat.zero_add, Nat.add_zero, wrap_i64]
      exact Ends.some (by rw [hn, hcode])
  by_cases k11 : e.k = 11
  · skip
    rw [hgo (by omega) (by omega)] at f82
    have hB : applyV V e o f = holdsV V e o := by unfold applyV; rw [if_neg (by omega), if_neg (by omega), if_neg (by omega), if_neg (by omega), if_neg (by omega), if_neg (by omega), if_neg (by omega), if_pos k11]
    have fc := fun lk h => s86b S (show 2 ≤ d by omega) I hc e hob ho hth thn k11 lk h
    unfold tupM at fc
    cases hX : holdsV V e o with
    | none =>
      have hA : AppV V e = none := by rw [hApp, hB, hX]
      rw [hX] at fc
      simp only [Option.getD_none, Option.isSome_none] at fc
      obtain ⟨hn, hcode⟩ := no_of hA
      simp (maxSteps := 1000000) (disch := first | omega | (simp (disch := first | omega | (simp only [EvV.len, MonV.len, refC_len, List.length_append, List.length_cons, List.length_nil, List.length_set]; first | done | omega)) only [EvV.len, MonV.len, refC_len, amSide, Int.reduceToNat, Nat.reducePow, Nat.reduceMul]; first | done | omega)) only  [↓amPre, amPost, ↓s_lit', Nat.reduceAdd, Nat.reduceSub, List.replicate, retA, resultsA, resultA, toC, toCL, Nat.reduceEqDiff, (fa112_1 S.p), (fa112_3 S.p), (fa112_4 S.p), (fa98_0 S.p), (fa98_1 S.p), (fa98_2 S.p), (fa98_3 S.p), (fa98_4 S.p), iaddr_ptr (un105 S.p) (sz3 S.p), part_all (ag112 S.p) (sz112 S.p), part_at (ag112 S.p) (sz112 S.p), part_sc (ag3 S.p), part_all (ag98 S.p) (sz98 S.p), part_at (ag98 S.p) (sz98 S.p), store_last (sz112 S.p), (sz112 S.p), store_last (sz3 S.p), (sz3 S.p), hz, hpV, hpe, gm, e0, e1, e2, e3, e4, f81, d1, d2, f82, fc, splC, splice_one, beqI_t, beqI_f, bneI_t, bneI_f, bne_self_eq_false, idx_ok, cells_self, cells_other, Int.toNat_natCast, Nat.mul_one, Nat.zero_add, Nat.add_zero, wrap_i64]
      exact Ends.some (by rw [hn, hcode])
    | some W =>
      rw [hX] at fc
      simp only [Option.getD_some, Option.isSome_some] at fc
      have hpW := partV S W
      obtain ⟨hn, hcode⟩ := yes_of (show AppV V e = some W by rw [hApp, hB, hX])
      simp (maxSteps := 1000000) (disch := first | omega | (simp (disch := first | omega | (simp only [EvV.len, MonV.len, refC_len, List.length_append, List.length_cons, List.length_nil, List.length_set]; first | done | omega)) only [EvV.len, MonV.len, refC_len, amSide, Int.reduceToNat, Nat.reducePow, Nat.reduceMul]; first | done | omega)) only  [↓amPre, amPost, ↓s_lit', Nat.reduceAdd, Nat.reduceSub, List.replicate, retA, resultsA, resultA, toC, toCL, Nat.reduceEqDiff, (fa112_1 S.p), (fa112_3 S.p), (fa112_4 S.p), (fa98_0 S.p), (fa98_1 S.p), (fa98_2 S.p), (fa98_3 S.p), (fa98_4 S.p), iaddr_ptr (un105 S.p) (sz3 S.p), part_all (ag112 S.p) (sz112 S.p), part_at (ag112 S.p) (sz112 S.p), part_sc (ag3 S.p), part_all (ag98 S.p) (sz98 S.p), part_at (ag98 S.p) (sz98 S.p), store_last (sz112 S.p), (sz112 S.p), store_last (sz3 S.p), (sz3 S.p), hz, hpV, hpe, gm, e0, e1, e2, e3, e4, f81, d1, d2, f82, fc, hpW, splC, splice_one, beqI_t, beqI_f, bneI_t, bneI_f, bne_self_eq_false, idx_ok, cells_self, cells_other, Int.toNat_natCast, Nat.mul_one, Nat.zero_add, Nat.add_zero, wrap_i64]
      exact Ends.some (by rw [hn, hcode])
  by_cases k12 : e.k = 12
  · skip
    rw [hgo (by omega) (by omega)] at f82
    have hB : applyV V e o f = intrV V e := by unfold applyV; rw [if_neg (by omega), if_neg (by omega), if_neg (by omega), if_neg (by omega), if_neg (by omega), if_neg (by omega), if_neg (by omega), if_neg (by omega), if_pos k12]
    have fc := fun lk h => s86c S (show 2 ≤ d by omega) I hc e hob ho hth thn k12 lk h
    unfold tupM at fc
    cases hX : intrV V e with
    | none =>
      have hA : AppV V e = none := by rw [hApp, hB, hX]
      rw [hX] at fc
      simp only [Option.getD_none, Option.isSome_none] at fc
      obtain ⟨hn, hcode⟩ := no_of hA
      simp (maxSteps := 1000000) (disch := first | omega | (simp (disch := first | omega | (simp only [EvV.len, MonV.len, refC_len, List.length_append, List.length_cons, List.length_nil, List.length_set]; first | done | omega)) only [EvV.len, MonV.len, refC_len, amSide, Int.reduceToNat, Nat.reducePow, Nat.reduceMul]; first | done | omega)) only  [↓amPre, amPost, ↓s_lit', Nat.reduceAdd, Nat.reduceSub, List.replicate, retA, resultsA, resultA, toC, toCL, Nat.reduceEqDiff, (fa112_1 S.p), (fa112_3 S.p), (fa112_4 S.p), (fa98_0 S.p), (fa98_1 S.p), (fa98_2 S.p), (fa98_3 S.p), (fa98_4 S.p), iaddr_ptr (un105 S.p) (sz3 S.p), part_all (ag112 S.p) (sz112 S.p), part_at (ag112 S.p) (sz112 S.p), part_sc (ag3 S.p), part_all (ag98 S.p) (sz98 S.p), part_at (ag98 S.p) (sz98 S.p), store_last (sz112 S.p), (sz112 S.p), store_last (sz3 S.p), (sz3 S.p), hz, hpV, hpe, gm, e0, e1, e2, e3, e4, f81, d1, d2, f82, fc, splC, splice_one, beqI_t, beqI_f, bneI_t, bneI_f, bne_self_eq_false, idx_ok, cells_self, cells_other, Int.toNat_natCast, Nat.mul_one, Nat.zero_add, Nat.add_zero, wrap_i64]
      exact Ends.some (by rw [hn, hcode])
    | some W =>
      rw [hX] at fc
      simp only [Option.getD_some, Option.isSome_some] at fc
      have hpW := partV S W
      obtain ⟨hn, hcode⟩ := yes_of (show AppV V e = some W by rw [hApp, hB, hX])
      simp (maxSteps := 1000000) (disch := first | omega | (simp (disch := first | omega | (simp only [EvV.len, MonV.len, refC_len, List.length_append, List.length_cons, List.length_nil, List.length_set]; first | done | omega)) only [EvV.len, MonV.len, refC_len, amSide, Int.reduceToNat, Nat.reducePow, Nat.reduceMul]; first | done | omega)) only  [↓amPre, amPost, ↓s_lit', Nat.reduceAdd, Nat.reduceSub, List.replicate, retA, resultsA, resultA, toC, toCL, Nat.reduceEqDiff, (fa112_1 S.p), (fa112_3 S.p), (fa112_4 S.p), (fa98_0 S.p), (fa98_1 S.p), (fa98_2 S.p), (fa98_3 S.p), (fa98_4 S.p), iaddr_ptr (un105 S.p) (sz3 S.p), part_all (ag112 S.p) (sz112 S.p), part_at (ag112 S.p) (sz112 S.p), part_sc (ag3 S.p), part_all (ag98 S.p) (sz98 S.p), part_at (ag98 S.p) (sz98 S.p), store_last (sz112 S.p), (sz112 S.p), store_last (sz3 S.p), (sz3 S.p), hz, hpV, hpe, gm, e0, e1, e2, e3, e4, f81, d1, d2, f82, fc, hpW, splC, splice_one, beqI_t, beqI_f, bneI_t, bneI_f, bne_self_eq_false, idx_ok, cells_self, cells_other, Int.toNat_natCast, Nat.mul_one, Nat.zero_add, Nat.add_zero, wrap_i64]
      exact Ends.some (by rw [hn, hcode])
  rw [hgo (by omega) (by omega)] at f82
  have hA : AppV V e = none := by rw [hApp]; unfold applyV; rw [if_neg (by omega), if_neg (by omega), if_neg (by omega), if_neg (by omega), if_neg (by omega), if_neg (by omega), if_neg (by omega), if_neg (by omega), if_neg (by omega)]
  obtain ⟨hn, hcode⟩ := no_of hA
  simp (maxSteps := 1000000) (disch := first | omega | (simp (disch := first | omega | (simp only [EvV.len, MonV.len, refC_len, List.length_append, List.length_cons, List.length_nil, List.length_set]; first | done | omega)) only [EvV.len, MonV.len, refC_len, amSide, Int.reduceToNat, Nat.reducePow, Nat.reduceMul]; first | done | omega)) only  [↓amPre, amPost, ↓s_lit', Nat.reduceAdd, Nat.reduceSub, List.replicate, retA, resultsA, resultA, toC, toCL, Nat.reduceEqDiff, (fa112_1 S.p), (fa112_3 S.p), (fa112_4 S.p), (fa98_0 S.p), (fa98_1 S.p), (fa98_2 S.p), (fa98_3 S.p), (fa98_4 S.p), iaddr_ptr (un105 S.p) (sz3 S.p), part_all (ag112 S.p) (sz112 S.p), part_at (ag112 S.p) (sz112 S.p), part_sc (ag3 S.p), part_all (ag98 S.p) (sz98 S.p), part_at (ag98 S.p) (sz98 S.p), store_last (sz112 S.p), (sz112 S.p), store_last (sz3 S.p), (sz3 S.p), hz, hpV, hpe, gm, e0, e1, e2, e3, e4, f81, d1, d2, f82, splC, splice_one, beqI_t, beqI_f, bneI_t, bneI_f, bne_self_eq_false, idx_ok, cells_self, cells_other, Int.toNat_natCast, Nat.mul_one, Nat.zero_add, Nat.add_zero, wrap_i64]
  exact Ends.some (by rw [hn, hcode])
end
end Go.AM
