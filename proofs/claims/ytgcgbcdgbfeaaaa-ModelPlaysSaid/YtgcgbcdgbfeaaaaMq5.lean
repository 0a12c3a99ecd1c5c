/- Monitors' model: the document's Wake, Notify and All; Hash, Holds and Interrupt. Conditions: none. -/
import Derived.Test.YtgcgbcdgbfeaaaaMqs
set_option linter.unusedVariables false
set_option linter.unusedSimpArgs false
set_option maxRecDepth 100000
-- NOTY: ze112, bu112
namespace Go.AM
open Go.Proofs
-- LENS: EvV.len, MonV.len, refC_len
section
variable {P : Program} {T : Tab} {K d : Nat} (S : Sd P T K)
include S
set_option maxHeartbeats 8000000 in
theorem s85a (hd : 2 ≤ d) {n m : Nat} {c : Int} {V : MdV} (I : MdI n m c V) (hc : 1 ≤ c ∧ c ≤ 60) (e : EvV) {ob : Nat} {o : MonV} (ho : e.o = (ob : Int)) (hx : V.mons[ob]? = some o) {th : Nat} (ht : e.t = (th : Int)) (hth : th < n) (hk : e.k = 7) (lk : Nat) (h : List AO) :
    ev P T K d 85 [.ag (refC V), .ag e.cells] lk h = some (tupM V (tellV V e o), h) := by
  obtain ⟨d, rfl⟩ : ∃ k, d = k + 1 := ⟨d - 1, by omega⟩
  refine ev_pure (at85 S.t) (refC_fr _ _) ?_
  unfold i85 Try.f85
  have hto : e.o.toNat = ob := by rw [ho]; rfl
  have hob := (List.getElem?_eq_some_iff.1 hx).1
  have hm8 := I.ok.m
  have hn8 := I.ok.n
  have hmc := I.mc
  have hfn := I.fn
  have hown := I.own ob o hx
  have h8 : ob < 8 := by omega
  have e0 := e.c0
  have e1 := e.c1
  have e2 := e.c2
  have e3 := e.c3
  have e4 := e.c4
  rw [ho] at e2
  rw [ht] at e1
  have hz := ze112r S
  have hpV := partV S V
  have g0 := refC_own V h8
  rw [ownR_of hx] at g0
  have f81 := fun lk h => s81 S (show 1 ≤ d by omega) V e.a lk h
  have hq3 : (o.own + 1 == (th : Int) + 1) = decide (o.own = e.t) := by
    rw [ht]
    by_cases q : o.own = (th : Int)
    · rw [decide_eq_true q, q]; exact beq_self_eq_true _
    · rw [decide_eq_false q]; exact beqI_f (by omega)
  rw [hk] at e0
  unfold tellV
  rw [if_pos hk]
  by_cases c0 : e.e = 0
  · by_cases a2 : o.own = e.t
    · have z3 := decide_eq_true a2
      rw [if_pos ⟨c0, a2⟩]
      by_cases ca : 0 ≤ e.a ∧ e.a < V.flags.length
      · rw [decide_eq_true ca] at f81
        obtain ⟨an, han⟩ := Int.eq_ofNat_of_zero_le ca.1
        have an8 : an < 8 := by omega
        have gw := refC_wt V h8 an8
        rw [han] at e3 f81
        cases g : getP ((ob : Int), (an : Int)) V.waits with
        | none =>
          have hlv : leaveV V (e.o, e.a) 0 = none := by unfold leaveV; rw [ho, han, g]
          rw [hlv]
          have hw : wtR V ob an = 0 := by unfold wtR; rw [g]
          rw [hw] at gw
          rw [tupM_none]
          simp (maxSteps := 1000000) (disch := first | omega | (simp (disch := first | omega | (simp only [EvV.len, MonV.len, refC_len, List.length_append, List.length_cons, List.length_nil, List.length_set]; first | done | omega)) only [EvV.len, MonV.len, refC_len, amSide, Int.reduceToNat, Nat.reducePow, Nat.reduceMul]; first | done | omega)) only  [↓amPre, amPost, ↓s_lit', Nat.reduceAdd, Nat.reduceSub, List.replicate, retA, resultsA, resultA, toC, toCL, Nat.reduceEqDiff, (bu108 S.p), (fa108_0 S.p), (fa112_3 S.p), (fa112_7 S.p), (fa98_0 S.p), (fa98_1 S.p), (fa98_2 S.p), (fa98_3 S.p), (fa98_4 S.p), iaddr_ptr (un105 S.p) (sz3 S.p), iaddr_ptr (un109 S.p) (sz108 S.p), iaddr_ptr (un110 S.p) (sz109 S.p), part_all (ag112 S.p) (sz112 S.p), part_at (ag112 S.p) (sz112 S.p), part_sc (ag3 S.p), store_last (sz108 S.p), (sz108 S.p), store_last (sz112 S.p), (sz112 S.p), hz, hpV, g0, e0, e1, e2, e3, e4, hq3, f81, z3, gw, splC, splice_one, beqI_t, beqI_f, bneI_t, bneI_f, bne_self_eq_false, idx_ok, cells_self, cells_other, Int.toNat_natCast, Nat.mul_one, Nat.zero_add, Nat.add_zero, wrap_i64]
          exact Ends.some rfl
        | some w =>
          have hlv : leaveV V (e.o, e.a) 0 = some { V with waits := delP ((ob : Int), (an : Int)) V.waits, left := updP ((ob : Int), (an : Int)) ⟨w, 0⟩ V.left } := by unfold leaveV; rw [ho, han, g]
          rw [hlv]
          have hw : wtR V ob an = w := by unfold wtR; rw [g]
          rw [hw] at gw
          have hw1 := (I.wc _ (getP_mem g)).1
          simp only at hw1
          have st := refC_leave h8 an8 I.ok.wd w 0
          have hpV2 := partV S { V with waits := delP ((ob : Int), (an : Int)) V.waits, left := updP ((ob : Int), (an : Int)) ⟨w, 0⟩ V.left }
          rw [tupM_some]
          simp (maxSteps := 1000000) (disch := first | omega | (simp (disch := first | omega | (simp only [EvV.len, MonV.len, refC_len, List.length_append, List.length_cons, List.length_nil, List.length_set]; first | done | omega)) only [EvV.len, MonV.len, refC_len, amSide, Int.reduceToNat, Nat.reducePow, Nat.reduceMul]; first | done | omega)) only  [↓amPre, amPost, ↓s_lit', Nat.reduceAdd, Nat.reduceSub, List.replicate, retA, resultsA, resultA, toC, toCL, Nat.reduceEqDiff, (bu108 S.p), (fa108_0 S.p), (fa112_3 S.p), (fa112_7 S.p), (fa98_0 S.p), (fa98_1 S.p), (fa98_2 S.p), (fa98_3 S.p), (fa98_4 S.p), iaddr_ptr (un105 S.p) (sz3 S.p), iaddr_ptr (un109 S.p) (sz108 S.p), iaddr_ptr (un110 S.p) (sz109 S.p), part_all (ag112 S.p) (sz112 S.p), part_at (ag112 S.p) (sz112 S.p), part_sc (ag3 S.p), store_last (sz108 S.p), (sz108 S.p), store_last (sz112 S.p), (sz112 S.p), hz, hpV, g0, e0, e1, e2, e3, e4, hq3, f81, z3, gw, st, hpV2, splC, splice_one, beqI_t, beqI_f, bneI_t, bneI_f, bne_self_eq_false, idx_ok, cells_self, cells_other, Int.toNat_natCast, Nat.mul_one, Nat.zero_add, Nat.add_zero, wrap_i64]
          exact Ends.some rfl
      · rw [decide_eq_false ca] at f81
        have hlv : leaveV V (e.o, e.a) 0 = none := by
          unfold leaveV
          cases g : getP (e.o, e.a) V.waits with
          | none => rfl
          | some v =>
            have := I.ok.wk _ (getP_mem g)
            simp only at this
            exact absurd ⟨this.2.1, this.2.2⟩ ca
        rw [hlv]
        rw [tupM_none]
        simp (maxSteps := 1000000) (disch := first | omega | (simp (disch := first | omega | (simp only [EvV.len, MonV.len, refC_len, List.length_append, List.length_cons, List.length_nil, List.length_set]; first | done | omega)) only [EvV.len, MonV.len, refC_len, amSide, Int.reduceToNat, Nat.reducePow, Nat.reduceMul]; first | done | omega)) only  [↓amPre, amPost, ↓s_lit', Nat.reduceAdd, Nat.reduceSub, List.replicate, retA, resultsA, resultA, toC, toCL, Nat.reduceEqDiff, (bu108 S.p), (fa108_0 S.p), (fa112_3 S.p), (fa112_7 S.p), (fa98_0 S.p), (fa98_1 S.p), (fa98_2 S.p), (fa98_3 S.p), (fa98_4 S.p), iaddr_ptr (un105 S.p) (sz3 S.p), iaddr_ptr (un109 S.p) (sz108 S.p), iaddr_ptr (un110 S.p) (sz109 S.p), part_all (ag112 S.p) (sz112 S.p), part_at (ag112 S.p) (sz112 S.p), part_sc (ag3 S.p), store_last (sz108 S.p), (sz108 S.p), store_last (sz112 S.p), (sz112 S.p), hz, hpV, g0, e0, e1, e2, e3, e4, hq3, f81, z3, splC, splice_one, beqI_t, beqI_f, bneI_t, bneI_f, bne_self_eq_false, idx_ok, cells_self, cells_other, Int.toNat_natCast, Nat.mul_one, Nat.zero_add, Nat.add_zero, wrap_i64]
        exact Ends.some rfl
    · have z3 := decide_eq_false a2
      rw [if_neg (fun q => a2 q.2)]
      rw [tupM_none]
      simp (maxSteps := 1000000) (disch := first | omega | (simp (disch := first | omega | (simp only [EvV.len, MonV.len, refC_len, List.length_append, List.length_cons, List.length_nil, List.length_set]; first | done | omega)) only [EvV.len, MonV.len, refC_len, amSide, Int.reduceToNat, Nat.reducePow, Nat.reduceMul]; first | done | omega)) only  [↓amPre, amPost, ↓s_lit', Nat.reduceAdd, Nat.reduceSub, List.replicate, retA, resultsA, resultA, toC, toCL, Nat.reduceEqDiff, (bu108 S.p), (fa108_0 S.p), (fa112_3 S.p), (fa112_7 S.p), (fa98_0 S.p), (fa98_1 S.p), (fa98_2 S.p), (fa98_3 S.p), (fa98_4 S.p), iaddr_ptr (un105 S.p) (sz3 S.p), iaddr_ptr (un109 S.p) (sz108 S.p), iaddr_ptr (un110 S.p) (sz109 S.p), part_all (ag112 S.p) (sz112 S.p), part_at (ag112 S.p) (sz112 S.p), part_sc (ag3 S.p), store_last (sz108 S.p), (sz108 S.p), store_last (sz112 S.p), (sz112 S.p), hz, hpV, g0, e0, e1, e2, e3, e4, hq3, f81, z3, splC, splice_one, beqI_t, beqI_f, bneI_t, bneI_f, bne_self_eq_false, idx_ok, cells_self, cells_other, Int.toNat_natCast, Nat.mul_one, Nat.zero_add, Nat.add_zero, wrap_i64]
      exact Ends.some rfl
  · rw [if_neg (fun q => c0 q.1)]
    rw [tupM_none]
    simp (maxSteps := 1000000) (disch := first | omega | (simp (disch := first | omega | (simp only [EvV.len, MonV.len, refC_len, List.length_append, List.length_cons, List.length_nil, List.length_set]; first | done | omega)) only [EvV.len, MonV.len, refC_len, amSide, Int.reduceToNat, Nat.reducePow, Nat.reduceMul]; first | done | omega)) only  [↓amPre, amPost, ↓s_lit', Nat.reduceAdd, Nat.reduceSub, List.replicate, retA, resultsA, resultA, toC, toCL, Nat.reduceEqDiff, (bu108 S.p), (fa108_0 S.p), (fa112_3 S.p), (fa112_7 S.p), (fa98_0 S.p), (fa98_1 S.p), (fa98_2 S.p), (fa98_3 S.p), (fa98_4 S.p), iaddr_ptr (un105 S.p) (sz3 S.p), iaddr_ptr (un109 S.p) (sz108 S.p), iaddr_ptr (un110 S.p) (sz109 S.p), part_all (ag112 S.p) (sz112 S.p), part_at (ag112 S.p) (sz112 S.p), part_sc (ag3 S.p), store_last (sz108 S.p), (sz108 S.p), store_last (sz112 S.p), (sz112 S.p), hz, hpV, g0, e0, e1, e2, e3, e4, hq3, f81, splC, splice_one, beqI_t, beqI_f, bneI_t, bneI_f, bne_self_eq_false, idx_ok, cells_self, cells_other, Int.toNat_natCast, Nat.mul_one, Nat.zero_add, Nat.add_zero, wrap_i64]
    exact Ends.some rfl
set_option maxHeartbeats 8000000 in
theorem s85b (hd : 2 ≤ d) {n m : Nat} {c : Int} {V : MdV} (I : MdI n m c V) (hc : 1 ≤ c ∧ c ≤ 60) (e : EvV) {ob : Nat} {o : MonV} (ho : e.o = (ob : Int)) (hx : V.mons[ob]? = some o) {th : Nat} (ht : e.t = (th : Int)) (hth : th < n) (hk : e.k = 8) (lk : Nat) (h : List AO) :
    ev P T K d 85 [.ag (refC V), .ag e.cells] lk h = some (tupM V (tellV V e o), h) := by
  obtain ⟨d, rfl⟩ : ∃ k, d = k + 1 := ⟨d - 1, by omega⟩
  refine ev_pure (at85 S.t) (refC_fr _ _) ?_
  unfold i85 Try.f85
  have hto : e.o.toNat = ob := by rw [ho]; rfl
  have hob := (List.getElem?_eq_some_iff.1 hx).1
  have hm8 := I.ok.m
  have hn8 := I.ok.n
  have hmc := I.mc
  have hfn := I.fn
  have hown := I.own ob o hx
  have h8 : ob < 8 := by omega
  have e0 := e.c0
  have e1 := e.c1
  have e2 := e.c2
  have e3 := e.c3
  have e4 := e.c4
  rw [ho] at e2
  rw [ht] at e1
  have hz := ze112r S
  have hpV := partV S V
  have g0 := refC_own V h8
  rw [ownR_of hx] at g0
  have f81 := fun lk h => s81 S (show 1 ≤ d by omega) V e.a lk h
  have hq3 : (o.own + 1 == (th : Int) + 1) = decide (o.own = e.t) := by
    rw [ht]
    by_cases q : o.own = (th : Int)
    · rw [decide_eq_true q, q]; exact beq_self_eq_true _
    · rw [decide_eq_false q]; exact beqI_f (by omega)
  rw [hk] at e0
  have f117 := fun lk h => s117 S (show 1 ≤ d by omega) I h8 lk h
  unfold tellV
  rw [if_neg (by omega), ho]
  by_cases c9 : e.e = 9
  · rw [if_pos c9]
    by_cases a2 : o.own = e.t
    · have z3 := decide_eq_true a2
      rw [if_neg (fun q => q.1 a2)]
      by_cases ca : e.a = -1
      · skip
        rw [tupM_none]
        simp (maxSteps := 1000000) (disch := first | omega | (simp (disch := first | omega | (simp only [EvV.len, MonV.len, refC_len, List.length_append, List.length_cons, List.length_nil, List.length_set]; first | done | omega)) only [EvV.len, MonV.len, refC_len, amSide, Int.reduceToNat, Nat.reducePow, Nat.reduceMul]; first | done | omega)) only  [↓amPre, amPost, ↓s_lit', Nat.reduceAdd, Nat.reduceSub, List.replicate, retA, resultsA, resultA, toC, toCL, Nat.reduceEqDiff, (bu108 S.p), (fa108_0 S.p), (fa112_3 S.p), (fa112_7 S.p), (fa98_0 S.p), (fa98_1 S.p), (fa98_2 S.p), (fa98_3 S.p), (fa98_4 S.p), iaddr_ptr (un105 S.p) (sz3 S.p), iaddr_ptr (un109 S.p) (sz108 S.p), iaddr_ptr (un110 S.p) (sz109 S.p), part_all (ag112 S.p) (sz112 S.p), part_at (ag112 S.p) (sz112 S.p), part_sc (ag3 S.p), store_last (sz108 S.p), (sz108 S.p), store_last (sz112 S.p), (sz112 S.p), hz, hpV, g0, e0, e1, e2, e3, e4, hq3, f81, z3, splC, splice_one, beqI_t, beqI_f, bneI_t, bneI_f, bne_self_eq_false, idx_ok, cells_self, cells_other, Int.toNat_natCast, Nat.mul_one, Nat.zero_add, Nat.add_zero, wrap_i64]
        exact Ends.some rfl
      · skip
        rw [tupM_none]
        simp (maxSteps := 1000000) (disch := first | omega | (simp (disch := first | omega | (simp only [EvV.len, MonV.len, refC_len, List.length_append, List.length_cons, List.length_nil, List.length_set]; first | done | omega)) only [EvV.len, MonV.len, refC_len, amSide, Int.reduceToNat, Nat.reducePow, Nat.reduceMul]; first | done | omega)) only  [↓amPre, amPost, ↓s_lit', Nat.reduceAdd, Nat.reduceSub, List.replicate, retA, resultsA, resultA, toC, toCL, Nat.reduceEqDiff, (bu108 S.p), (fa108_0 S.p), (fa112_3 S.p), (fa112_7 S.p), (fa98_0 S.p), (fa98_1 S.p), (fa98_2 S.p), (fa98_3 S.p), (fa98_4 S.p), iaddr_ptr (un105 S.p) (sz3 S.p), iaddr_ptr (un109 S.p) (sz108 S.p), iaddr_ptr (un110 S.p) (sz109 S.p), part_all (ag112 S.p) (sz112 S.p), part_at (ag112 S.p) (sz112 S.p), part_sc (ag3 S.p), store_last (sz108 S.p), (sz108 S.p), store_last (sz112 S.p), (sz112 S.p), hz, hpV, g0, e0, e1, e2, e3, e4, hq3, f81, z3, splC, splice_one, beqI_t, beqI_f, bneI_t, bneI_f, bne_self_eq_false, idx_ok, cells_self, cells_other, Int.toNat_natCast, Nat.mul_one, Nat.zero_add, Nat.add_zero, wrap_i64]
        exact Ends.some rfl
    · have z3 := decide_eq_false a2
      by_cases ca : e.a = -1
      · rw [if_pos ⟨a2, Or.inr ⟨hk, ca⟩⟩]
        rw [tupM_some]
        simp (maxSteps := 1000000) (disch := first | omega | (simp (disch := first | omega | (simp only [EvV.len, MonV.len, refC_len, List.length_append, List.length_cons, List.length_nil, List.length_set]; first | done | omega)) only [EvV.len, MonV.len, refC_len, amSide, Int.reduceToNat, Nat.reducePow, Nat.reduceMul]; first | done | omega)) only  [↓amPre, amPost, ↓s_lit', Nat.reduceAdd, Nat.reduceSub, List.replicate, retA, resultsA, resultA, toC, toCL, Nat.reduceEqDiff, (bu108 S.p), (fa108_0 S.p), (fa112_3 S.p), (fa112_7 S.p), (fa98_0 S.p), (fa98_1 S.p), (fa98_2 S.p), (fa98_3 S.p), (fa98_4 S.p), iaddr_ptr (un105 S.p) (sz3 S.p), iaddr_ptr (un109 S.p) (sz108 S.p), iaddr_ptr (un110 S.p) (sz109 S.p), part_all (ag112 S.p) (sz112 S.p), part_at (ag112 S.p) (sz112 S.p), part_sc (ag3 S.p), store_last (sz108 S.p), (sz108 S.p), store_last (sz112 S.p), (sz112 S.p), hz, hpV, g0, e0, e1, e2, e3, e4, hq3, f81, z3, splC, splice_one, beqI_t, beqI_f, bneI_t, bneI_f, bne_self_eq_false, idx_ok, cells_self, cells_other, Int.toNat_natCast, Nat.mul_one, Nat.zero_add, Nat.add_zero, wrap_i64]
        exact Ends.some rfl
      · rw [if_neg (fun q => q.2.elim (fun q => by omega) (fun q => by omega))]
        rw [tupM_none]
        simp (maxSteps := 1000000) (disch := first | omega | (simp (disch := first | omega | (simp only [EvV.len, MonV.len, refC_len, List.length_append, List.length_cons, List.length_nil, List.length_set]; first | done | omega)) only [EvV.len, MonV.len, refC_len, amSide, Int.reduceToNat, Nat.reducePow, Nat.reduceMul]; first | done | omega)) only  [↓amPre, amPost, ↓s_lit', Nat.reduceAdd, Nat.reduceSub, List.replicate, retA, resultsA, resultA, toC, toCL, Nat.reduceEqDiff, (bu108 S.p), (fa108_0 S.p), (fa112_3 S.p), (fa112_7 S.p), (fa98_0 S.p), (fa98_1 S.p), (fa98_2 S.p), (fa98_3 S.p), (fa98_4 S.p), iaddr_ptr (un105 S.p) (sz3 S.p), iaddr_ptr (un109 S.p) (sz108 S.p), iaddr_ptr (un110 S.p) (sz109 S.p), part_all (ag112 S.p) (sz112 S.p), part_at (ag112 S.p) (sz112 S.p), part_sc (ag3 S.p), store_last (sz108 S.p), (sz108 S.p), store_last (sz112 S.p), (sz112 S.p), hz, hpV, g0, e0, e1, e2, e3, e4, hq3, f81, z3, splC, splice_one, beqI_t, beqI_f, bneI_t, bneI_f, bne_self_eq_false, idx_ok, cells_self, cells_other, Int.toNat_natCast, Nat.mul_one, Nat.zero_add, Nat.add_zero, wrap_i64]
        exact Ends.some rfl
  rw [if_neg c9]
  by_cases c0 : e.e = 0
  · by_cases a2 : o.own = e.t
    · have z3 := decide_eq_true a2
      rw [if_neg (fun q => q.elim (fun q => q c0) (fun q => q a2))]
      rw [if_neg (by omega)]
      by_cases ci : 0 ≤ e.a ∧ e.a < V.flags.length
      · rw [if_pos (Or.inl ci)]
        rw [decide_eq_true ci] at f81
        rw [tupM_some]
        simp (maxSteps := 1000000) (disch := first | omega | (simp (disch := first | omega | (simp only [EvV.len, MonV.len, refC_len, List.length_append, List.length_cons, List.length_nil, List.length_set]; first | done | omega)) only [EvV.len, MonV.len, refC_len, amSide, Int.reduceToNat, Nat.reducePow, Nat.reduceMul]; first | done | omega)) only  [↓amPre, amPost, ↓s_lit', Nat.reduceAdd, Nat.reduceSub, List.replicate, retA, resultsA, resultA, toC, toCL, Nat.reduceEqDiff, (bu108 S.p), (fa108_0 S.p), (fa112_3 S.p), (fa112_7 S.p), (fa98_0 S.p), (fa98_1 S.p), (fa98_2 S.p), (fa98_3 S.p), (fa98_4 S.p), iaddr_ptr (un105 S.p) (sz3 S.p), iaddr_ptr (un109 S.p) (sz108 S.p), iaddr_ptr (un110 S.p) (sz109 S.p), part_all (ag112 S.p) (sz112 S.p), part_at (ag112 S.p) (sz112 S.p), part_sc (ag3 S.p), store_last (sz108 S.p), (sz108 S.p), store_last (sz112 S.p), (sz112 S.p), hz, hpV, g0, e0, e1, e2, e3, e4, hq3, f81, z3, splC, splice_one, beqI_t, beqI_f, bneI_t, bneI_f, bne_self_eq_false, idx_ok, cells_self, cells_other, Int.toNat_natCast, Nat.mul_one, Nat.zero_add, Nat.add_zero, wrap_i64]
        exact Ends.some rfl
      · rw [decide_eq_false ci] at f81
        by_cases ca : e.a = -1
        · by_cases cn : thrV V.waits ob = []
          · rw [if_pos (Or.inr ⟨ca, cn⟩)]
            rw [decide_eq_true cn] at f117
            rw [tupM_some]
            simp (maxSteps := 1000000) (disch := first | omega | (simp (disch := first | omega | (simp only [EvV.len, MonV.len, refC_len, List.length_append, List.length_cons, List.length_nil, List.length_set]; first | done | omega)) only [EvV.len, MonV.len, refC_len, amSide, Int.reduceToNat, Nat.reducePow, Nat.reduceMul]; first | done | omega)) only  [↓amPre, amPost, ↓s_lit', Nat.reduceAdd, Nat.reduceSub, List.replicate, retA, resultsA, resultA, toC, toCL, Nat.reduceEqDiff, (bu108 S.p), (fa108_0 S.p), (fa112_3 S.p), (fa112_7 S.p), (fa98_0 S.p), (fa98_1 S.p), (fa98_2 S.p), (fa98_3 S.p), (fa98_4 S.p), iaddr_ptr (un105 S.p) (sz3 S.p), iaddr_ptr (un109 S.p) (sz108 S.p), iaddr_ptr (un110 S.p) (sz109 S.p), part_all (ag112 S.p) (sz112 S.p), part_at (ag112 S.p) (sz112 S.p), part_sc (ag3 S.p), store_last (sz108 S.p), (sz108 S.p), store_last (sz112 S.p), (sz112 S.p), hz, hpV, g0, e0, e1, e2, e3, e4, hq3, f81, z3, f117, splC, splice_one, beqI_t, beqI_f, bneI_t, bneI_f, bne_self_eq_false, idx_ok, cells_self, cells_other, Int.toNat_natCast, Nat.mul_one, Nat.zero_add, Nat.add_zero, wrap_i64]
            exact Ends.some rfl
          · rw [if_neg (fun q => q.elim ci (fun q => cn q.2))]
            rw [decide_eq_false cn] at f117
            rw [tupM_none]
            simp (maxSteps := 1000000) (disch := first | omega | (simp (disch := first | omega | (simp only [EvV.len, MonV.len, refC_len, List.length_append, List.length_cons, List.length_nil, List.length_set]; first | done | omega)) only [EvV.len, MonV.len, refC_len, amSide, Int.reduceToNat, Nat.reducePow, Nat.reduceMul]; first | done | omega)) only  [↓amPre, amPost, ↓s_lit', Nat.reduceAdd, Nat.reduceSub, List.replicate, retA, resultsA, resultA, toC, toCL, Nat.reduceEqDiff, (bu108 S.p), (fa108_0 S.p), (fa112_3 S.p), (fa112_7 S.p), (fa98_0 S.p), (fa98_1 S.p), (fa98_2 S.p), (fa98_3 S.p), (fa98_4 S.p), iaddr_ptr (un105 S.p) (sz3 S.p), iaddr_ptr (un109 S.p) (sz108 S.p), iaddr_ptr (un110 S.p) (sz109 S.p), part_all (ag112 S.p) (sz112 S.p), part_at (ag112 S.p) (sz112 S.p), part_sc (ag3 S.p), store_last (sz108 S.p), (sz108 S.p), store_last (sz112 S.p), (sz112 S.p), hz, hpV, g0, e0, e1, e2, e3, e4, hq3, f81, z3, f117, splC, splice_one, beqI_t, beqI_f, bneI_t, bneI_f, bne_self_eq_false, idx_ok, cells_self, cells_other, Int.toNat_natCast, Nat.mul_one, Nat.zero_add, Nat.add_zero, wrap_i64]
            exact Ends.some rfl
        · rw [if_neg (fun q => q.elim ci (fun q => ca q.1))]
          rw [tupM_none]
          simp (maxSteps := 1000000) (disch := first | omega | (simp (disch := first | omega | (simp only [EvV.len, MonV.len, refC_len, List.length_append, List.length_cons, List.length_nil, List.length_set]; first | done | omega)) only [EvV.len, MonV.len, refC_len, amSide, Int.reduceToNat, Nat.reducePow, Nat.reduceMul]; first | done | omega)) only  [↓amPre, amPost, ↓s_lit', Nat.reduceAdd, Nat.reduceSub, List.replicate, retA, resultsA, resultA, toC, toCL, Nat.reduceEqDiff, (bu108 S.p), (fa108_0 S.p), (fa112_3 S.p), (fa112_7 S.p), (fa98_0 S.p), (fa98_1 S.p), (fa98_2 S.p), (fa98_3 S.p), (fa98_4 S.p), iaddr_ptr (un105 S.p) (sz3 S.p), iaddr_ptr (un109 S.p) (sz108 S.p), iaddr_ptr (un110 S.p) (sz109 S.p), part_all (ag112 S.p) (sz112 S.p), part_at (ag112 S.p) (sz112 S.p), part_sc (ag3 S.p), store_last (sz108 S.p), (sz108 S.p), store_last (sz112 S.p), (sz112 S.p), hz, hpV, g0, e0, e1, e2, e3, e4, hq3, f81, z3, splC, splice_one, beqI_t, beqI_f, bneI_t, bneI_f, bne_self_eq_false, idx_ok, cells_self, cells_other, Int.toNat_natCast, Nat.mul_one, Nat.zero_add, Nat.add_zero, wrap_i64]
          exact Ends.some rfl
    · have z3 := decide_eq_false a2
      rw [if_pos (Or.inr a2)]
      rw [tupM_none]
      simp (maxSteps := 1000000) (disch := first | omega | (simp (disch := first | omega | (simp only [EvV.len, MonV.len, refC_len, List.length_append, List.length_cons, List.length_nil, List.length_set]; first | done | omega)) only [EvV.len, MonV.len, refC_len, amSide, Int.reduceToNat, Nat.reducePow, Nat.reduceMul]; first | done | omega)) only  [↓amPre, amPost, ↓s_lit', Nat.reduceAdd, Nat.reduceSub, List.replicate, retA, resultsA, resultA, toC, toCL, Nat.reduceEqDiff, (bu108 S.p), (fa108_0 S.p), (fa112_3 S.p), (fa112_7 S.p), (fa98_0 S.p), (fa98_1 S.p), (fa98_2 S.p), (fa98_3 S.p), (fa98_4 S.p), iaddr_ptr (un105 S.p) (sz3 S.p), iaddr_ptr (un109 S.p) (sz108 S.p), iaddr_ptr (un110 S.p) (sz109 S.p), part_all (ag112 S.p) (sz112 S.p), part_at (ag112 S.p) (sz112 S.p), part_sc (ag3 S.p), store_last (sz108 S.p), (sz108 S.p), store_last (sz112 S.p), (sz112 S.p), hz, hpV, g0, e0, e1, e2, e3, e4, hq3, f81, z3, splC, splice_one, beqI_t, beqI_f, bneI_t, bneI_f, bne_self_eq_false, idx_ok, cells_self, cells_other, Int.toNat_natCast, Nat.mul_one, Nat.zero_add, Nat.add_zero, wrap_i64]
      exact Ends.some rfl
  · rw [if_pos (Or.inl c0)]
    rw [tupM_none]
    simp (maxSteps := 1000000) (disch := first | omega | (simp (disch := first | omega | (simp only [EvV.len, MonV.len, refC_len, List.length_append, List.length_cons, List.length_nil, List.length_set]; first | done | omega)) only [EvV.len, MonV.len, refC_len, amSide, Int.reduceToNat, Nat.reducePow, Nat.reduceMul]; first | done | omega)) only  [↓amPre, amPost, ↓s_lit', Nat.reduceAdd, Nat.reduceSub, List.replicate, retA, resultsA, resultA, toC, toCL, Nat.reduceEqDiff, (bu108 S.p), (fa108_0 S.p), (fa112_3 S.p), (fa112_7 S.p), (fa98_0 S.p), (fa98_1 S.p), (fa98_2 S.p), (fa98_3 S.p), (fa98_4 S.p), iaddr_ptr (un105 S.p) (sz3 S.p), iaddr_ptr (un109 S.p) (sz108 S.p), iaddr_ptr (un110 S.p) (sz109 S.p), part_all (ag112 S.p) (sz112 S.p), part_at (ag112 S.p) (sz112 S.p), part_sc (ag3 S.p), store_last (sz108 S.p), (sz108 S.p), store_last (sz112 S.p), (sz112 S.p), hz, hpV, g0, e0, e1, e2, e3, e4, hq3, f81, splC, splice_one, beqI_t, beqI_f, bneI_t, bneI_f, bne_self_eq_false, idx_ok, cells_self, cells_other, Int.toNat_natCast, Nat.mul_one, Nat.zero_add, Nat.add_zero, wrap_i64]
    exact Ends.some rfl
set_option maxHeartbeats 8000000 in
theorem s85c (hd : 2 ≤ d) {n m : Nat} {c : Int} {V : MdV} (I : MdI n m c V) (hc : 1 ≤ c ∧ c ≤ 60) (e : EvV) {ob : Nat} {o : MonV} (ho : e.o = (ob : Int)) (hx : V.mons[ob]? = some o) {th : Nat} (ht : e.t = (th : Int)) (hth : th < n) (hk : e.k = 9) (lk : Nat) (h : List AO) :
    ev P T K d 85 [.ag (refC V), .ag e.cells] lk h = some (tupM V (tellV V e o), h) := by
  obtain ⟨d, rfl⟩ : ∃ k, d = k + 1 := ⟨d - 1, by omega⟩
  refine ev_pure (at85 S.t) (refC_fr _ _) ?_
  unfold i85 Try.f85
  have hto : e.o.toNat = ob := by rw [ho]; rfl
  have hob := (List.getElem?_eq_some_iff.1 hx).1
  have hm8 := I.ok.m
  have hn8 := I.ok.n
  have hmc := I.mc
  have hfn := I.fn
  have hown := I.own ob o hx
  have h8 : ob < 8 := by omega
  have e0 := e.c0
  have e1 := e.c1
  have e2 := e.c2
  have e3 := e.c3
  have e4 := e.c4
  rw [ho] at e2
  rw [ht] at e1
  have hz := ze112r S
  have hpV := partV S V
  have g0 := refC_own V h8
  rw [ownR_of hx] at g0
  have f81 := fun lk h => s81 S (show 1 ≤ d by omega) V e.a lk h
  have hq3 : (o.own + 1 == (th : Int) + 1) = decide (o.own = e.t) := by
    rw [ht]
    by_cases q : o.own = (th : Int)
    · rw [decide_eq_true q, q]; exact beq_self_eq_true _
    · rw [decide_eq_false q]; exact beqI_f (by omega)
  rw [hk] at e0
  have f117 := fun lk h => s117 S (show 1 ≤ d by omega) I h8 lk h
  unfold tellV
  rw [if_neg (by omega), ho]
  by_cases c9 : e.e = 9
  · rw [if_pos c9]
    by_cases a2 : o.own = e.t
    · have z3 := decide_eq_true a2
      rw [if_neg (fun q => q.1 a2)]
      by_cases ca : e.a = 0
      · skip
        rw [tupM_none]
        simp (maxSteps := 1000000) (disch := first | omega | (simp (disch := first | omega | (simp only [EvV.len, MonV.len, refC_len, List.length_append, List.length_cons, List.length_nil, List.length_set]; first | done | omega)) only [EvV.len, MonV.len, refC_len, amSide, Int.reduceToNat, Nat.reducePow, Nat.reduceMul]; first | done | omega)) only  [↓amPre, amPost, ↓s_lit', Nat.reduceAdd, Nat.reduceSub, List.replicate, retA, resultsA, resultA, toC, toCL, Nat.reduceEqDiff, (bu108 S.p), (fa108_0 S.p), (fa112_3 S.p), (fa112_7 S.p), (fa98_0 S.p), (fa98_1 S.p), (fa98_2 S.p), (fa98_3 S.p), (fa98_4 S.p), iaddr_ptr (un105 S.p) (sz3 S.p), iaddr_ptr (un109 S.p) (sz108 S.p), iaddr_ptr (un110 S.p) (sz109 S.p), part_all (ag112 S.p) (sz112 S.p), part_at (ag112 S.p) (sz112 S.p), part_sc (ag3 S.p), store_last (sz108 S.p), (sz108 S.p), store_last (sz112 S.p), (sz112 S.p), hz, hpV, g0, e0, e1, e2, e3, e4, hq3, f81, z3, splC, splice_one, beqI_t, beqI_f, bneI_t, bneI_f, bne_self_eq_false, idx_ok, cells_self, cells_other, Int.toNat_natCast, Nat.mul_one, Nat.zero_add, Nat.add_zero, wrap_i64]
        exact Ends.some rfl
      · skip
        rw [tupM_none]
        simp (maxSteps := 1000000) (disch := first | omega | (simp (disch := first | omega | (simp only [EvV.len, MonV.len, refC_len, List.length_append, List.length_cons, List.length_nil, List.length_set]; first | done | omega)) only [EvV.len, MonV.len, refC_len, amSide, Int.reduceToNat, Nat.reducePow, Nat.reduceMul]; first | done | omega)) only  [↓amPre, amPost, ↓s_lit', Nat.reduceAdd, Nat.reduceSub, List.replicate, retA, resultsA, resultA, toC, toCL, Nat.reduceEqDiff, (bu108 S.p), (fa108_0 S.p), (fa112_3 S.p), (fa112_7 S.p), (fa98_0 S.p), (fa98_1 S.p), (fa98_2 S.p), (fa98_3 S.p), (fa98_4 S.p), iaddr_ptr (un105 S.p) (sz3 S.p), iaddr_ptr (un109 S.p) (sz108 S.p), iaddr_ptr (un110 S.p) (sz109 S.p), part_all (ag112 S.p) (sz112 S.p), part_at (ag112 S.p) (sz112 S.p), part_sc (ag3 S.p), store_last (sz108 S.p), (sz108 S.p), store_last (sz112 S.p), (sz112 S.p), hz, hpV, g0, e0, e1, e2, e3, e4, hq3, f81, z3, splC, splice_one, beqI_t, beqI_f, bneI_t, bneI_f, bne_self_eq_false, idx_ok, cells_self, cells_other, Int.toNat_natCast, Nat.mul_one, Nat.zero_add, Nat.add_zero, wrap_i64]
        exact Ends.some rfl
    · have z3 := decide_eq_false a2
      by_cases ca : e.a = 0
      · rw [if_pos ⟨a2, Or.inl ⟨hk, ca⟩⟩]
        rw [tupM_some]
        simp (maxSteps := 1000000) (disch := first | omega | (simp (disch := first | omega | (simp only [EvV.len, MonV.len, refC_len, List.length_append, List.length_cons, List.length_nil, List.length_set]; first | done | omega)) only [EvV.len, MonV.len, refC_len, amSide, Int.reduceToNat, Nat.reducePow, Nat.reduceMul]; first | done | omega)) only  [↓amPre, amPost, ↓s_lit', Nat.reduceAdd, Nat.reduceSub, List.replicate, retA, resultsA, resultA, toC, toCL, Nat.reduceEqDiff, (bu108 S.p), (fa108_0 S.p), (fa112_3 S.p), (fa112_7 S.p), (fa98_0 S.p), (fa98_1 S.p), (fa98_2 S.p), (fa98_3 S.p), (fa98_4 S.p), iaddr_ptr (un105 S.p) (sz3 S.p), iaddr_ptr (un109 S.p) (sz108 S.p), iaddr_ptr (un110 S.p) (sz109 S.p), part_all (ag112 S.p) (sz112 S.p), part_at (ag112 S.p) (sz112 S.p), part_sc (ag3 S.p), store_last (sz108 S.p), (sz108 S.p), store_last (sz112 S.p), (sz112 S.p), hz, hpV, g0, e0, e1, e2, e3, e4, hq3, f81, z3, splC, splice_one, beqI_t, beqI_f, bneI_t, bneI_f, bne_self_eq_false, idx_ok, cells_self, cells_other, Int.toNat_natCast, Nat.mul_one, Nat.zero_add, Nat.add_zero, wrap_i64]
        exact Ends.some rfl
      · rw [if_neg (fun q => q.2.elim (fun q => by omega) (fun q => by omega))]
        rw [tupM_none]
        simp (maxSteps := 1000000) (disch := first | omega | (simp (disch := first | omega | (simp only [EvV.len, MonV.len, refC_len, List.length_append, List.length_cons, List.length_nil, List.length_set]; first | done | omega)) only [EvV.len, MonV.len, refC_len, amSide, Int.reduceToNat, Nat.reducePow, Nat.reduceMul]; first | done | omega)) only  [↓amPre, amPost, ↓s_lit', Nat.reduceAdd, Nat.reduceSub, List.replicate, retA, resultsA, resultA, toC, toCL, Nat.reduceEqDiff, (bu108 S.p), (fa108_0 S.p), (fa112_3 S.p), (fa112_7 S.p), (fa98_0 S.p), (fa98_1 S.p), (fa98_2 S.p), (fa98_3 S.p), (fa98_4 S.p), iaddr_ptr (un105 S.p) (sz3 S.p), iaddr_ptr (un109 S.p) (sz108 S.p), iaddr_ptr (un110 S.p) (sz109 S.p), part_all (ag112 S.p) (sz112 S.p), part_at (ag112 S.p) (sz112 S.p), part_sc (ag3 S.p), store_last (sz108 S.p), (sz108 S.p), store_last (sz112 S.p), (sz112 S.p), hz, hpV, g0, e0, e1, e2, e3, e4, hq3, f81, z3, splC, splice_one, beqI_t, beqI_f, bneI_t, bneI_f, bne_self_eq_false, idx_ok, cells_self, cells_other, Int.toNat_natCast, Nat.mul_one, Nat.zero_add, Nat.add_zero, wrap_i64]
        exact Ends.some rfl
  rw [if_neg c9]
  by_cases c0 : e.e = 0
  · by_cases a2 : o.own = e.t
    · have z3 := decide_eq_true a2
      rw [if_neg (fun q => q.elim (fun q => q c0) (fun q => q a2))]
      rw [if_pos hk]
      by_cases ca : e.a = 0
      · by_cases cn : thrV V.waits ob = []
        · rw [if_pos ⟨ca, cn⟩]
          rw [decide_eq_true cn] at f117
          rw [tupM_some]
          simp (maxSteps := 1000000) (disch := first | omega | (simp (disch := first | omega | (simp only [EvV.len, MonV.len, refC_len, List.length_append, List.length_cons, List.length_nil, List.length_set]; first | done | omega)) only [EvV.len, MonV.len, refC_len, amSide, Int.reduceToNat, Nat.reducePow, Nat.reduceMul]; first | done | omega)) only  [↓amPre, amPost, ↓s_lit', Nat.reduceAdd, Nat.reduceSub, List.replicate, retA, resultsA, resultA, toC, toCL, Nat.reduceEqDiff, (bu108 S.p), (fa108_0 S.p), (fa112_3 S.p), (fa112_7 S.p), (fa98_0 S.p), (fa98_1 S.p), (fa98_2 S.p), (fa98_3 S.p), (fa98_4 S.p), iaddr_ptr (un105 S.p) (sz3 S.p), iaddr_ptr (un109 S.p) (sz108 S.p), iaddr_ptr (un110 S.p) (sz109 S.p), part_all (ag112 S.p) (sz112 S.p), part_at (ag112 S.p) (sz112 S.p), part_sc (ag3 S.p), store_last (sz108 S.p), (sz108 S.p), store_last (sz112 S.p), (sz112 S.p), hz, hpV, g0, e0, e1, e2, e3, e4, hq3, f81, z3, f117, splC, splice_one, beqI_t, beqI_f, bneI_t, bneI_f, bne_self_eq_false, idx_ok, cells_self, cells_other, Int.toNat_natCast, Nat.mul_one, Nat.zero_add, Nat.add_zero, wrap_i64]
          exact Ends.some rfl
        · rw [if_neg (fun q => cn q.2)]
          rw [decide_eq_false cn] at f117
          rw [tupM_none]
          simp (maxSteps := 1000000) (disch := first | omega | (simp (disch := first | omega | (simp only [EvV.len, MonV.len, refC_len, List.length_append, List.length_cons, List.length_nil, List.length_set]; first | done | omega)) only [EvV.len, MonV.len, refC_len, amSide, Int.reduceToNat, Nat.reducePow, Nat.reduceMul]; first | done | omega)) only  [↓amPre, amPost, ↓s_lit', Nat.reduceAdd, Nat.reduceSub, List.replicate, retA, resultsA, resultA, toC, toCL, Nat.reduceEqDiff, (bu108 S.p), (fa108_0 S.p), (fa112_3 S.p), (fa112_7 S.p), (fa98_0 S.p), (fa98_1 S.p), (fa98_2 S.p), (fa98_3 S.p), (fa98_4 S.p), iaddr_ptr (un105 S.p) (sz3 S.p), iaddr_ptr (un109 S.p) (sz108 S.p), iaddr_ptr (un110 S.p) (sz109 S.p), part_all (ag112 S.p) (sz112 S.p), part_at (ag112 S.p) (sz112 S.p), part_sc (ag3 S.p), store_last (sz108 S.p), (sz108 S.p), store_last (sz112 S.p), (sz112 S.p), hz, hpV, g0, e0, e1, e2, e3, e4, hq3, f81, z3, f117, splC, splice_one, beqI_t, beqI_f, bneI_t, bneI_f, bne_self_eq_false, idx_ok, cells_self, cells_other, Int.toNat_natCast, Nat.mul_one, Nat.zero_add, Nat.add_zero, wrap_i64]
          exact Ends.some rfl
      · rw [if_neg (fun q => ca q.1)]
        rw [tupM_none]
        simp (maxSteps := 1000000) (disch := first | omega | (simp (disch := first | omega | (simp only [EvV.len, MonV.len, refC_len, List.length_append, List.length_cons, List.length_nil, List.length_set]; first | done | omega)) only [EvV.len, MonV.len, refC_len, amSide, Int.reduceToNat, Nat.reducePow, Nat.reduceMul]; first | done | omega)) only  [↓amPre, amPost, ↓s_lit', Nat.reduceAdd, Nat.reduceSub, List.replicate, retA, resultsA, resultA, toC, toCL, Nat.reduceEqDiff, (bu108 S.p), (fa108_0 S.p), (fa112_3 S.p), (fa112_7 S.p), (fa98_0 S.p), (fa98_1 S.p), (fa98_2 S.p), (fa98_3 S.p), (fa98_4 S.p), iaddr_ptr (un105 S.p) (sz3 S.p), iaddr_ptr (un109 S.p) (sz108 S.p), iaddr_ptr (un110 S.p) (sz109 S.p), part_all (ag112 S.p) (sz112 S.p), part_at (ag112 S.p) (sz112 S.p), part_sc (ag3 S.p), store_last (sz108 S.p), (sz108 S.p), store_last (sz112 S.p), (sz112 S.p), hz, hpV, g0, e0, e1, e2, e3, e4, hq3, f81, z3, splC, splice_one, beqI_t, beqI_f, bneI_t, bneI_f, bne_self_eq_false, idx_ok, cells_self, cells_other, Int.toNat_natCast, Nat.mul_one, Nat.zero_add, Nat.add_zero, wrap_i64]
        exact Ends.some rfl
    · have z3 := decide_eq_false a2
      rw [if_pos (Or.inr a2)]
      by_cases ca : e.a = 0
      · skip
        rw [tupM_none]
        simp (maxSteps := 1000000) (disch := first | omega | (simp (disch := first | omega | (simp only [EvV.len, MonV.len, refC_len, List.length_append, List.length_cons, List.length_nil, List.length_set]; first | done | omega)) only [EvV.len, MonV.len, refC_len, amSide, Int.reduceToNat, Nat.reducePow, Nat.reduceMul]; first | done | omega)) only  [↓amPre, amPost, ↓s_lit', Nat.reduceAdd, Nat.reduceSub, List.replicate, retA, resultsA, resultA, toC, toCL, Nat.reduceEqDiff, (bu108 S.p), (fa108_0 S.p), (fa112_3 S.p), (fa112_7 S.p), (fa98_0 S.p), (fa98_1 S.p), (fa98_2 S.p), (fa98_3 S.p), (fa98_4 S.p), iaddr_ptr (un105 S.p) (sz3 S.p), iaddr_ptr (un109 S.p) (sz108 S.p), iaddr_ptr (un110 S.p) (sz109 S.p), part_all (ag112 S.p) (sz112 S.p), part_at (ag112 S.p) (sz112 S.p), part_sc (ag3 S.p), store_last (sz108 S.p), (sz108 S.p), store_last (sz112 S.p), (sz112 S.p), hz, hpV, g0, e0, e1, e2, e3, e4, hq3, f81, z3, splC, splice_one, beqI_t, beqI_f, bneI_t, bneI_f, bne_self_eq_false, idx_ok, cells_self, cells_other, Int.toNat_natCast, Nat.mul_one, Nat.zero_add, Nat.add_zero, wrap_i64]
        exact Ends.some rfl
      · skip
        rw [tupM_none]
        simp (maxSteps := 1000000) (disch := first | omega | (simp (disch := first | omega | (simp only [EvV.len, MonV.len, refC_len, List.length_append, List.length_cons, List.length_nil, List.length_set]; first | done | omega)) only [EvV.len, MonV.len, refC_len, amSide, Int.reduceToNat, Nat.reducePow, Nat.reduceMul]; first | done | omega)) only  [↓amPre, amPost, ↓s_lit', Nat.reduceAdd, Nat.reduceSub, List.replicate, retA, resultsA, resultA, toC, toCL, Nat.reduceEqDiff, (bu108 S.p), (fa108_0 S.p), (fa112_3 S.p), (fa112_7 S.p), (fa98_0 S.p), (fa98_1 S.p), (fa98_2 S.p), (fa98_3 S.p), (fa98_4 S.p), iaddr_ptr (un105 S.p) (sz3 S.p), iaddr_ptr (un109 S.p) (sz108 S.p), iaddr_ptr (un110 S.p) (sz109 S.p), part_all (ag112 S.p) (sz112 S.p), part_at (ag112 S.p) (sz112 S.p), part_sc (ag3 S.p), store_last (sz108 S.p), (sz108 S.p), store_last (sz112 S.p), (sz112 S.p), hz, hpV, g0, e0, e1, e2, e3, e4, hq3, f81, z3, splC, splice_one, beqI_t, beqI_f, bneI_t, bneI_f, bne_self_eq_false, idx_ok, cells_self, cells_other, Int.toNat_natCast, Nat.mul_one, Nat.zero_add, Nat.add_zero, wrap_i64]
        exact Ends.some rfl
  · rw [if_pos (Or.inl c0)]
    rw [tupM_none]
    simp (maxSteps := 1000000) (disch := first | omega | (simp (disch := first | omega | (simp only [EvV.len, MonV.len, refC_len, List.length_append, List.length_cons, List.length_nil, List.length_set]; first | done | omega)) only [EvV.len, MonV.len, refC_len, amSide, Int.reduceToNat, Nat.reducePow, Nat.reduceMul]; first | done | omega)) only  [↓amPre, amPost, ↓s_lit', Nat.reduceAdd, Nat.reduceSub, List.replicate, retA, resultsA, resultA, toC, toCL, Nat.reduceEqDiff, (bu108 S.p), (fa108_0 S.p), (fa112_3 S.p), (fa112_7 S.p), (fa98_0 S.p), (fa98_1 S.p), (fa98_2 S.p), (fa98_3 S.p), (fa98_4 S.p), iaddr_ptr (un105 S.p) (sz3 S.p), iaddr_ptr (un109 S.p) (sz108 S.p), iaddr_ptr (un110 S.p) (sz109 S.p), part_all (ag112 S.p) (sz112 S.p), part_at (ag112 S.p) (sz112 S.p), part_sc (ag3 S.p), store_last (sz108 S.p), (sz108 S.p), store_last (sz112 S.p), (sz112 S.p), hz, hpV, g0, e0, e1, e2, e3, e4, hq3, f81, splC, splice_one, beqI_t, beqI_f, bneI_t, bneI_f, bne_self_eq_false, idx_ok, cells_self, cells_other, Int.toNat_natCast, Nat.mul_one, Nat.zero_add, Nat.add_zero, wrap_i64]
    exact Ends.some rfl
set_option maxHeartbeats 8000000 in
theorem s86a (hd : 2 ≤ d) {n m : Nat} {c : Int} {V : MdV} (I : MdI n m c V) (hc : 1 ≤ c ∧ c ≤ 60) (e : EvV) {ob : Nat} {o : MonV} (ho : e.o = (ob : Int)) (hx : V.mons[ob]? = some o) {th : Nat} (ht : e.t = (th : Int)) (hth : th < n) (hk : e.k = 10) (hh : 0 ≤ o.hsh ∧ o.hsh ≤ 2147483647) (lk : Nat) (h : List AO) :
    ev P T K d 86 [.ag (refC V), .ag e.cells] lk h = some (tupM V (hashV V e o), h) := by
  obtain ⟨d, rfl⟩ : ∃ k, d = k + 1 := ⟨d - 1, by omega⟩
  refine ev_pure (at86 S.t) (refC_fr _ _) ?_
  unfold i86 Try.f86
  have hto : e.o.toNat = ob := by rw [ho]; rfl
  have hob := (List.getElem?_eq_some_iff.1 hx).1
  have hm8 := I.ok.m
  have hn8 := I.ok.n
  have hmc := I.mc
  have hfn := I.fn
  have hown := I.own ob o hx
  have h8 : ob < 8 := by omega
  have e0 := e.c0
  have e1 := e.c1
  have e2 := e.c2
  have e3 := e.c3
  have e4 := e.c4
  rw [ho] at e2
  rw [ht] at e1
  have hz := ze112r S
  have hpV := partV S V
  have g0 := refC_own V h8
  rw [ownR_of hx] at g0
  have f81 := fun lk h => s81 S (show 1 ≤ d by omega) V e.a lk h
  have hq3 : (o.own + 1 == (th : Int) + 1) = decide (o.own = e.t) := by
    rw [ht]
    by_cases q : o.own = (th : Int)
    · rw [decide_eq_true q, q]; exact beq_self_eq_true _
    · rw [decide_eq_false q]; exact beqI_f (by omega)
  rw [hk] at e0
  have g5 := refC_hsh V h8
  rw [hshR_of hx] at g5
  have hq1 : (o.own + 1 != 0) = decide (o.own ≠ -1) := by
    by_cases q : o.own = -1
    · rw [decide_eq_false (fun r => r q), q]; rfl
    · rw [decide_eq_true q]; exact bneI_t (by omega)
  unfold hashV
  rw [hto]
  by_cases c11 : e.e = 11
  · rw [if_pos c11]
    by_cases a1 : o.own = -1
    · have z1 := decide_eq_false (fun r : o.own ≠ -1 => r a1)
      rw [if_neg (fun q => q.2 a1)]
      rw [tupM_none]
      simp (maxSteps := 1000000) (disch := first | omega | (simp (disch := first | omega | (simp only [EvV.len, MonV.len, refC_len, List.length_append, List.length_cons, List.length_nil, List.length_set]; first | done | omega)) only [EvV.len, MonV.len, refC_len, amSide, Int.reduceToNat, Nat.reducePow, Nat.reduceMul]; first | done | omega)) only  [↓amPre, amPost, ↓s_lit', Nat.reduceAdd, Nat.reduceSub, List.replicate, retA, resultsA, resultA, toC, toCL, Nat.reduceEqDiff, (fa112_3 S.p), (fa112_5 S.p), (fa112_6 S.p), (fa98_0 S.p), (fa98_1 S.p), (fa98_2 S.p), (fa98_3 S.p), (fa98_4 S.p), iaddr_ptr (un105 S.p) (sz3 S.p), iaddr_ptr (un106 S.p) (sz4 S.p), part_all (ag112 S.p) (sz112 S.p), part_at (ag112 S.p) (sz112 S.p), part_sc (ag3 S.p), store_last (sz112 S.p), (sz112 S.p), store_last (sz3 S.p), (sz3 S.p), store_last (sz4 S.p), (sz4 S.p), hz, hpV, g0, e0, e1, e2, e3, e4, hq3, f81, hq1, z1, splC, splice_one, beqI_t, beqI_f, bneI_t, bneI_f, bne_self_eq_false, idx_ok, cells_self, cells_other, Int.toNat_natCast, Nat.mul_one, Nat.zero_add, Nat.add_zero, wrap_i64]
      exact Ends.some rfl
    · have z1 := decide_eq_true (show o.own ≠ -1 from a1)
      by_cases ca : e.a = 0
      · rw [if_pos ⟨ca, a1⟩]
        rw [tupM_some]
        simp (maxSteps := 1000000) (disch := first | omega | (simp (disch := first | omega | (simp only [EvV.len, MonV.len, refC_len, List.length_append, List.length_cons, List.length_nil, List.length_set]; first | done | omega)) only [EvV.len, MonV.len, refC_len, amSide, Int.reduceToNat, Nat.reducePow, Nat.reduceMul]; first | done | omega)) only  [↓amPre, amPost, ↓s_lit', Nat.reduceAdd, Nat.reduceSub, List.replicate, retA, resultsA, resultA, toC, toCL, Nat.reduceEqDiff, (fa112_3 S.p), (fa112_5 S.p), (fa112_6 S.p), (fa98_0 S.p), (fa98_1 S.p), (fa98_2 S.p), (fa98_3 S.p), (fa98_4 S.p), iaddr_ptr (un105 S.p) (sz3 S.p), iaddr_ptr (un106 S.p) (sz4 S.p), part_all (ag112 S.p) (sz112 S.p), part_at (ag112 S.p) (sz112 S.p), part_sc (ag3 S.p), store_last (sz112 S.p), (sz112 S.p), store_last (sz3 S.p), (sz3 S.p), store_last (sz4 S.p), (sz4 S.p), hz, hpV, g0, e0, e1, e2, e3, e4, hq3, f81, hq1, z1, splC, splice_one, beqI_t, beqI_f, bneI_t, bneI_f, bne_self_eq_false, idx_ok, cells_self, cells_other, Int.toNat_natCast, Nat.mul_one, Nat.zero_add, Nat.add_zero, wrap_i64]
        exact Ends.some rfl
      · rw [if_neg (fun q => ca q.1)]
        rw [tupM_none]
        simp (maxSteps := 1000000) (disch := first | omega | (simp (disch := first | omega | (simp only [EvV.len, MonV.len, refC_len, List.length_append, List.length_cons, List.length_nil, List.length_set]; first | done | omega)) only [EvV.len, MonV.len, refC_len, amSide, Int.reduceToNat, Nat.reducePow, Nat.reduceMul]; first | done | omega)) only  [↓amPre, amPost, ↓s_lit', Nat.reduceAdd, Nat.reduceSub, List.replicate, retA, resultsA, resultA, toC, toCL, Nat.reduceEqDiff, (fa112_3 S.p), (fa112_5 S.p), (fa112_6 S.p), (fa98_0 S.p), (fa98_1 S.p), (fa98_2 S.p), (fa98_3 S.p), (fa98_4 S.p), iaddr_ptr (un105 S.p) (sz3 S.p), iaddr_ptr (un106 S.p) (sz4 S.p), part_all (ag112 S.p) (sz112 S.p), part_at (ag112 S.p) (sz112 S.p), part_sc (ag3 S.p), store_last (sz112 S.p), (sz112 S.p), store_last (sz3 S.p), (sz3 S.p), store_last (sz4 S.p), (sz4 S.p), hz, hpV, g0, e0, e1, e2, e3, e4, hq3, f81, hq1, z1, splC, splice_one, beqI_t, beqI_f, bneI_t, bneI_f, bne_self_eq_false, idx_ok, cells_self, cells_other, Int.toNat_natCast, Nat.mul_one, Nat.zero_add, Nat.add_zero, wrap_i64]
        exact Ends.some rfl
  rw [if_neg c11]
  by_cases c0 : e.e = 0
  · by_cases ch : o.hsh = 0
    · rw [ch] at g5
      by_cases ca : 1 ≤ e.a ∧ e.a ≤ 2147483647
      · rw [if_neg (fun q => q.elim (fun q => q c0) (fun q => q.elim (fun q => q ca) (fun q => q.1 ch)))]
        have v1 : decide (e.a ≥ 1) = true := decide_eq_true ca.1
        have v2 : decide (e.a ≤ 2147483647) = true := decide_eq_true ca.2
        have st := refC_setHsh h8 hx e.a
        have hpV2 := partV S (V.setM ob ⟨o.own, o.cnt, e.a⟩)
        have hx2 : (V.setM ob ⟨o.own, o.cnt, e.a⟩).mons[ob]? = some ⟨o.own, o.cnt, e.a⟩ := List.getElem?_set_self hob
        have g6 := refC_hsh (V.setM ob ⟨o.own, o.cnt, e.a⟩) h8
        rw [hshR_of hx2] at g6
        have v3 : (e.a == e.a) = true := beq_self_eq_true _
        rw [tupM_some]
        simp (maxSteps := 1000000) (disch := first | omega | (simp (disch := first | omega | (simp only [EvV.len, MonV.len, refC_len, List.length_append, List.length_cons, List.length_nil, List.length_set]; first | done | omega)) only [EvV.len, MonV.len, refC_len, amSide, Int.reduceToNat, Nat.reducePow, Nat.reduceMul]; first | done | omega)) only  [↓amPre, amPost, ↓s_lit', Nat.reduceAdd, Nat.reduceSub, List.replicate, retA, resultsA, resultA, toC, toCL, Nat.reduceEqDiff, (fa112_3 S.p), (fa112_5 S.p), (fa112_6 S.p), (fa98_0 S.p), (fa98_1 S.p), (fa98_2 S.p), (fa98_3 S.p), (fa98_4 S.p), iaddr_ptr (un105 S.p) (sz3 S.p), iaddr_ptr (un106 S.p) (sz4 S.p), part_all (ag112 S.p) (sz112 S.p), part_at (ag112 S.p) (sz112 S.p), part_sc (ag3 S.p), store_last (sz112 S.p), (sz112 S.p), store_last (sz3 S.p), (sz3 S.p), store_last (sz4 S.p), (sz4 S.p), hz, hpV, g0, e0, e1, e2, e3, e4, hq3, f81, g5, g6, v1, v2, v3, st, hpV2, splC, splice_one, beqI_t, beqI_f, bneI_t, bneI_f, bne_self_eq_false, idx_ok, cells_self, cells_other, Int.toNat_natCast, Nat.mul_one, Nat.zero_add, Nat.add_zero, wrap_i64]
        exact Ends.some rfl
      · rw [if_pos (Or.inr (Or.inl ca))]
        by_cases c1 : 1 ≤ e.a
        · have v1 : decide (e.a ≥ 1) = true := decide_eq_true c1
          have v2 : decide (e.a ≤ 2147483647) = false := decide_eq_false (fun q => ca ⟨c1, q⟩)
          rw [tupM_none]
          simp (maxSteps := 1000000) (disch := first | omega | (simp (disch := first | omega | (simp only [EvV.len, MonV.len, refC_len, List.length_append, List.length_cons, List.length_nil, List.length_set]; first | done | omega)) only [EvV.len, MonV.len, refC_len, amSide, Int.reduceToNat, Nat.reducePow, Nat.reduceMul]; first | done | omega)) only  [↓amPre, amPost, ↓s_lit', Nat.reduceAdd, Nat.reduceSub, List.replicate, retA, resultsA, resultA, toC, toCL, Nat.reduceEqDiff, (fa112_3 S.p), (fa112_5 S.p), (fa112_6 S.p), (fa98_0 S.p), (fa98_1 S.p), (fa98_2 S.p), (fa98_3 S.p), (fa98_4 S.p), iaddr_ptr (un105 S.p) (sz3 S.p), iaddr_ptr (un106 S.p) (sz4 S.p), part_all (ag112 S.p) (sz112 S.p), part_at (ag112 S.p) (sz112 S.p), part_sc (ag3 S.p), store_last (sz112 S.p), (sz112 S.p), store_last (sz3 S.p), (sz3 S.p), store_last (sz4 S.p), (sz4 S.p), hz, hpV, g0, e0, e1, e2, e3, e4, hq3, f81, g5, v1, v2, splC, splice_one, beqI_t, beqI_f, bneI_t, bneI_f, bne_self_eq_false, idx_ok, cells_self, cells_other, Int.toNat_natCast, Nat.mul_one, Nat.zero_add, Nat.add_zero, wrap_i64]
          exact Ends.some rfl
        · have v1 : decide (e.a ≥ 1) = false := decide_eq_false c1
          rw [tupM_none]
          simp (maxSteps := 1000000) (disch := first | omega | (simp (disch := first | omega | (simp only [EvV.len, MonV.len, refC_len, List.length_append, List.length_cons, List.length_nil, List.length_set]; first | done | omega)) only [EvV.len, MonV.len, refC_len, amSide, Int.reduceToNat, Nat.reducePow, Nat.reduceMul]; first | done | omega)) only  [↓amPre, amPost, ↓s_lit', Nat.reduceAdd, Nat.reduceSub, List.replicate, retA, resultsA, resultA, toC, toCL, Nat.reduceEqDiff, (fa112_3 S.p), (fa112_5 S.p), (fa112_6 S.p), (fa98_0 S.p), (fa98_1 S.p), (fa98_2 S.p), (fa98_3 S.p), (fa98_4 S.p), iaddr_ptr (un105 S.p) (sz3 S.p), iaddr_ptr (un106 S.p) (sz4 S.p), part_all (ag112 S.p) (sz112 S.p), part_at (ag112 S.p) (sz112 S.p), part_sc (ag3 S.p), store_last (sz112 S.p), (sz112 S.p), store_last (sz3 S.p), (sz3 S.p), store_last (sz4 S.p), (sz4 S.p), hz, hpV, g0, e0, e1, e2, e3, e4, hq3, f81, g5, v1, splC, splice_one, beqI_t, beqI_f, bneI_t, bneI_f, bne_self_eq_false, idx_ok, cells_self, cells_other, Int.toNat_natCast, Nat.mul_one, Nat.zero_add, Nat.add_zero, wrap_i64]
          exact Ends.some rfl
    · by_cases ca : o.hsh = e.a
      · rw [if_neg (fun q => q.elim (fun q => q c0) (fun q => q.elim (fun q => q ⟨by omega, by omega⟩) (fun q => q.2 ca)))]
        have hsame : V.setM ob ⟨o.own, o.cnt, e.a⟩ = V := by
          have : (⟨o.own, o.cnt, e.a⟩ : MonV) = o := by rw [← ca]
          simp only [MdV.setM, this]
          have hs : V.mons.set ob o = V.mons := by
            apply List.ext_getElem?
            intro k
            by_cases q : ob = k
            · subst q; rw [List.getElem?_set_self hob, hx]
            · rw [List.getElem?_set_ne q]
          rw [hs]
        rw [hsame]
        rw [tupM_some]
        simp (maxSteps := 1000000) (disch := first | omega | (simp (disch := first | omega | (simp only [EvV.len, MonV.len, refC_len, List.length_append, List.length_cons, List.length_nil, List.length_set]; first | done | omega)) only [EvV.len, MonV.len, refC_len, amSide, Int.reduceToNat, Nat.reducePow, Nat.reduceMul]; first | done | omega)) only  [↓amPre, amPost, ↓s_lit', Nat.reduceAdd, Nat.reduceSub, List.replicate, retA, resultsA, resultA, toC, toCL, Nat.reduceEqDiff, (fa112_3 S.p), (fa112_5 S.p), (fa112_6 S.p), (fa98_0 S.p), (fa98_1 S.p), (fa98_2 S.p), (fa98_3 S.p), (fa98_4 S.p), iaddr_ptr (un105 S.p) (sz3 S.p), iaddr_ptr (un106 S.p) (sz4 S.p), part_all (ag112 S.p) (sz112 S.p), part_at (ag112 S.p) (sz112 S.p), part_sc (ag3 S.p), store_last (sz112 S.p), (sz112 S.p), store_last (sz3 S.p), (sz3 S.p), store_last (sz4 S.p), (sz4 S.p), hz, hpV, g0, e0, e1, e2, e3, e4, hq3, f81, g5, splC, splice_one, beqI_t, beqI_f, bneI_t, bneI_f, bne_self_eq_false, idx_ok, cells_self, cells_other, Int.toNat_natCast, Nat.mul_one, Nat.zero_add, Nat.add_zero, wrap_i64]
        exact Ends.some rfl
      · rw [if_pos (Or.inr (Or.inr ⟨ch, ca⟩))]
        rw [tupM_none]
        simp (maxSteps := 1000000) (disch := first | omega | (simp (disch := first | omega | (simp only [EvV.len, MonV.len, refC_len, List.length_append, List.length_cons, List.length_nil, List.length_set]; first | done | omega)) only [EvV.len, MonV.len, refC_len, amSide, Int.reduceToNat, Nat.reducePow, Nat.reduceMul]; first | done | omega)) only  [↓amPre, amPost, ↓s_lit', Nat.reduceAdd, Nat.reduceSub, List.replicate, retA, resultsA, resultA, toC, toCL, Nat.reduceEqDiff, (fa112_3 S.p), (fa112_5 S.p), (fa112_6 S.p), (fa98_0 S.p), (fa98_1 S.p), (fa98_2 S.p), (fa98_3 S.p), (fa98_4 S.p), iaddr_ptr (un105 S.p) (sz3 S.p), iaddr_ptr (un106 S.p) (sz4 S.p), part_all (ag112 S.p) (sz112 S.p), part_at (ag112 S.p) (sz112 S.p), part_sc (ag3 S.p), store_last (sz112 S.p), (sz112 S.p), store_last (sz3 S.p), (sz3 S.p), store_last (sz4 S.p), (sz4 S.p), hz, hpV, g0, e0, e1, e2, e3, e4, hq3, f81, g5, splC, splice_one, beqI_t, beqI_f, bneI_t, bneI_f, bne_self_eq_false, idx_ok, cells_self, cells_other, Int.toNat_natCast, Nat.mul_one, Nat.zero_add, Nat.add_zero, wrap_i64]
        exact Ends.some rfl
  · rw [if_pos (Or.inl c0)]
    rw [tupM_none]
    simp (maxSteps := 1000000) (disch := first | omega | (simp (disch := first | omega | (simp only [EvV.len, MonV.len, refC_len, List.length_append, List.length_cons, List.length_nil, List.length_set]; first | done | omega)) only [EvV.len, MonV.len, refC_len, amSide, Int.reduceToNat, Nat.reducePow, Nat.reduceMul]; first | done | omega)) only  [↓amPre, amPost, ↓s_lit', Nat.reduceAdd, Nat.reduceSub, List.replicate, retA, resultsA, resultA, toC, toCL, Nat.reduceEqDiff, (fa112_3 S.p), (fa112_5 S.p), (fa112_6 S.p), (fa98_0 S.p), (fa98_1 S.p), (fa98_2 S.p), (fa98_3 S.p), (fa98_4 S.p), iaddr_ptr (un105 S.p) (sz3 S.p), iaddr_ptr (un106 S.p) (sz4 S.p), part_all (ag112 S.p) (sz112 S.p), part_at (ag112 S.p) (sz112 S.p), part_sc (ag3 S.p), store_last (sz112 S.p), (sz112 S.p), store_last (sz3 S.p), (sz3 S.p), store_last (sz4 S.p), (sz4 S.p), hz, hpV, g0, e0, e1, e2, e3, e4, hq3, f81, splC, splice_one, beqI_t, beqI_f, bneI_t, bneI_f, bne_self_eq_false, idx_ok, cells_self, cells_other, Int.toNat_natCast, Nat.mul_one, Nat.zero_add, Nat.add_zero, wrap_i64]
    exact Ends.some rfl
set_option maxHeartbeats 8000000 in
theorem s86b (hd : 2 ≤ d) {n m : Nat} {c : Int} {V : MdV} (I : MdI n m c V) (hc : 1 ≤ c ∧ c ≤ 60) (e : EvV) {ob : Nat} {o : MonV} (ho : e.o = (ob : Int)) (hx : V.mons[ob]? = some o) {th : Nat} (ht : e.t = (th : Int)) (hth : th < n) (hk : e.k = 11) (lk : Nat) (h : List AO) :
    ev P T K d 86 [.ag (refC V), .ag e.cells] lk h = some (tupM V (holdsV V e o), h) := by
  obtain ⟨d, rfl⟩ : ∃ k, d = k + 1 := ⟨d - 1, by omega⟩
  refine ev_pure (at86 S.t) (refC_fr _ _) ?_
  unfold i86 Try.f86
  have hto : e.o.toNat = ob := by rw [ho]; rfl
  have hob := (List.getElem?_eq_some_iff.1 hx).1
  have hm8 := I.ok.m
  have hn8 := I.ok.n
  have hmc := I.mc
  have hfn := I.fn
  have hown := I.own ob o hx
  have h8 : ob < 8 := by omega
  have e0 := e.c0
  have e1 := e.c1
  have e2 := e.c2
  have e3 := e.c3
  have e4 := e.c4
  rw [ho] at e2
  rw [ht] at e1
  have hz := ze112r S
  have hpV := partV S V
  have g0 := refC_own V h8
  rw [ownR_of hx] at g0
  have f81 := fun lk h => s81 S (show 1 ≤ d by omega) V e.a lk h
  have hq3 : (o.own + 1 == (th : Int) + 1) = decide (o.own = e.t) := by
    rw [ht]
    by_cases q : o.own = (th : Int)
    · rw [decide_eq_true q, q]; exact beq_self_eq_true _
    · rw [decide_eq_false q]; exact beqI_f (by omega)
  rw [hk] at e0
  unfold holdsV
  by_cases c0 : e.e = 0
  · by_cases a2 : o.own = e.t
    · have z3 := decide_eq_true a2
      by_cases ca : e.a = 1
      · rw [if_pos ⟨c0, Or.inl ⟨ca, a2⟩⟩]
        rw [tupM_some]
        simp (maxSteps := 1000000) (disch := first | omega | (simp (disch := first | omega | (simp only [EvV.len, MonV.len, refC_len, List.length_append, List.length_cons, List.length_nil, List.length_set]; first | done | omega)) only [EvV.len, MonV.len, refC_len, amSide, Int.reduceToNat, Nat.reducePow, Nat.reduceMul]; first | done | omega)) only  [↓amPre, amPost, ↓s_lit', Nat.reduceAdd, Nat.reduceSub, List.replicate, retA, resultsA, resultA, toC, toCL, Nat.reduceEqDiff, (fa112_3 S.p), (fa112_5 S.p), (fa112_6 S.p), (fa98_0 S.p), (fa98_1 S.p), (fa98_2 S.p), (fa98_3 S.p), (fa98_4 S.p), iaddr_ptr (un105 S.p) (sz3 S.p), iaddr_ptr (un106 S.p) (sz4 S.p), part_all (ag112 S.p) (sz112 S.p), part_at (ag112 S.p) (sz112 S.p), part_sc (ag3 S.p), store_last (sz112 S.p), (sz112 S.p), store_last (sz3 S.p), (sz3 S.p), store_last (sz4 S.p), (sz4 S.p), hz, hpV, g0, e0, e1, e2, e3, e4, hq3, f81, z3, splC, splice_one, beqI_t, beqI_f, bneI_t, bneI_f, bne_self_eq_false, idx_ok, cells_self, cells_other, Int.toNat_natCast, Nat.mul_one, Nat.zero_add, Nat.add_zero, wrap_i64]
        exact Ends.some rfl
      · rw [if_neg (fun q => q.2.elim (fun q => ca q.1) (fun q => q.2 a2))]
        rw [tupM_none]
        simp (maxSteps := 1000000) (disch := first | omega | (simp (disch := first | omega | (simp only [EvV.len, MonV.len, refC_len, List.length_append, List.length_cons, List.length_nil, List.length_set]; first | done | omega)) only [EvV.len, MonV.len, refC_len, amSide, Int.reduceToNat, Nat.reducePow, Nat.reduceMul]; first | done | omega)) only  [↓amPre, amPost, ↓s_lit', Nat.reduceAdd, Nat.reduceSub, List.replicate, retA, resultsA, resultA, toC, toCL, Nat.reduceEqDiff, (fa112_3 S.p), (fa112_5 S.p), (fa112_6 S.p), (fa98_0 S.p), (fa98_1 S.p), (fa98_2 S.p), (fa98_3 S.p), (fa98_4 S.p), iaddr_ptr (un105 S.p) (sz3 S.p), iaddr_ptr (un106 S.p) (sz4 S.p), part_all (ag112 S.p) (sz112 S.p), part_at (ag112 S.p) (sz112 S.p), part_sc (ag3 S.p), store_last (sz112 S.p), (sz112 S.p), store_last (sz3 S.p), (sz3 S.p), store_last (sz4 S.p), (sz4 S.p), hz, hpV, g0, e0, e1, e2, e3, e4, hq3, f81, z3, splC, splice_one, beqI_t, beqI_f, bneI_t, bneI_f, bne_self_eq_false, idx_ok, cells_self, cells_other, Int.toNat_natCast, Nat.mul_one, Nat.zero_add, Nat.add_zero, wrap_i64]
        exact Ends.some rfl
    · have z3 := decide_eq_false a2
      by_cases ca : e.a = 0
      · rw [if_pos ⟨c0, Or.inr ⟨ca, a2⟩⟩]
        rw [tupM_some]
        simp (maxSteps := 1000000) (disch := first | omega | (simp (disch := first | omega | (simp only [EvV.len, MonV.len, refC_len, List.length_append, List.length_cons, List.length_nil, List.length_set]; first | done | omega)) only [EvV.len, MonV.len, refC_len, amSide, Int.reduceToNat, Nat.reducePow, Nat.reduceMul]; first | done | omega)) only  [↓amPre, amPost, ↓s_lit', Nat.reduceAdd, Nat.reduceSub, List.replicate, retA, resultsA, resultA, toC, toCL, Nat.reduceEqDiff, (fa112_3 S.p), (fa112_5 S.p), (fa112_6 S.p), (fa98_0 S.p), (fa98_1 S.p), (fa98_2 S.p), (fa98_3 S.p), (fa98_4 S.p), iaddr_ptr (un105 S.p) (sz3 S.p), iaddr_ptr (un106 S.p) (sz4 S.p), part_all (ag112 S.p) (sz112 S.p), part_at (ag112 S.p) (sz112 S.p), part_sc (ag3 S.p), store_last (sz112 S.p), (sz112 S.p), store_last (sz3 S.p), (sz3 S.p), store_last (sz4 S.p), (sz4 S.p), hz, hpV, g0, e0, e1, e2, e3, e4, hq3, f81, z3, splC, splice_one, beqI_t, beqI_f, bneI_t, bneI_f, bne_self_eq_false, idx_ok, cells_self, cells_other, Int.toNat_natCast, Nat.mul_one, Nat.zero_add, Nat.add_zero, wrap_i64]
        exact Ends.some rfl
      · rw [if_neg (fun q => q.2.elim (fun q => a2 q.2) (fun q => ca q.1))]
        rw [tupM_none]
        simp (maxSteps := 1000000) (disch := first | omega | (simp (disch := first | omega | (simp only [EvV.len, MonV.len, refC_len, List.length_append, List.length_cons, List.length_nil, List.length_set]; first | done | omega)) only [EvV.len, MonV.len, refC_len, amSide, Int.reduceToNat, Nat.reducePow, Nat.reduceMul]; first | done | omega)) only  [↓amPre, amPost, ↓s_lit', Nat.reduceAdd, Nat.reduceSub, List.replicate, retA, resultsA, resultA, toC, toCL, Nat.reduceEqDiff, (fa112_3 S.p), (fa112_5 S.p), (fa112_6 S.p), (fa98_0 S.p), (fa98_1 S.p), (fa98_2 S.p), (fa98_3 S.p), (fa98_4 S.p), iaddr_ptr (un105 S.p) (sz3 S.p), iaddr_ptr (un106 S.p) (sz4 S.p), part_all (ag112 S.p) (sz112 S.p), part_at (ag112 S.p) (sz112 S.p), part_sc (ag3 S.p), store_last (sz112 S.p), (sz112 S.p), store_last (sz3 S.p), (sz3 S.p), store_last (sz4 S.p), (sz4 S.p), hz, hpV, g0, e0, e1, e2, e3, e4, hq3, f81, z3, splC, splice_one, beqI_t, beqI_f, bneI_t, bneI_f, bne_self_eq_false, idx_ok, cells_self, cells_other, Int.toNat_natCast, Nat.mul_one, Nat.zero_add, Nat.add_zero, wrap_i64]
        exact Ends.some rfl
  · rw [if_neg (fun q => c0 q.1)]
    rw [tupM_none]
    simp (maxSteps := 1000000) (disch := first | omega | (simp (disch := first | omega | (simp only [EvV.len, MonV.len, refC_len, List.length_append, List.length_cons, List.length_nil, List.length_set]; first | done | omega)) only [EvV.len, MonV.len, refC_len, amSide, Int.reduceToNat, Nat.reducePow, Nat.reduceMul]; first | done | omega)) only  [↓amPre, amPost, ↓s_lit', Nat.reduceAdd, Nat.reduceSub, List.replicate, retA, resultsA, resultA, toC, toCL, Nat.reduceEqDiff, (fa112_3 S.p), (fa112_5 S.p), (fa112_6 S.p), (fa98_0 S.p), (fa98_1 S.p), (fa98_2 S.p), (fa98_3 S.p), (fa98_4 S.p), iaddr_ptr (un105 S.p) (sz3 S.p), iaddr_ptr (un106 S.p) (sz4 S.p), part_all (ag112 S.p) (sz112 S.p), part_at (ag112 S.p) (sz112 S.p), part_sc (ag3 S.p), store_last (sz112 S.p), (sz112 S.p), store_last (sz3 S.p), (sz3 S.p), store_last (sz4 S.p), (sz4 S.p), hz, hpV, g0, e0, e1, e2, e3, e4, hq3, f81, splC, splice_one, beqI_t, beqI_f, bneI_t, bneI_f, bne_self_eq_false, idx_ok, cells_self, cells_other, Int.toNat_natCast, Nat.mul_one, Nat.zero_add, Nat.add_zero, wrap_i64]
    exact Ends.some rfl
set_option maxHeartbeats 8000000 in
theorem s86c (hd : 2 ≤ d) {n m : Nat} {c : Int} {V : MdV} (I : MdI n m c V) (hc : 1 ≤ c ∧ c ≤ 60) (e : EvV) {ob : Nat} {o : MonV} (ho : e.o = (ob : Int)) (hx : V.mons[ob]? = some o) {th : Nat} (ht : e.t = (th : Int)) (hth : th < n) (hk : e.k = 12) (lk : Nat) (h : List AO) :
    ev P T K d 86 [.ag (refC V), .ag e.cells] lk h = some (tupM V (intrV V e), h) := by
  obtain ⟨d, rfl⟩ : ∃ k, d = k + 1 := ⟨d - 1, by omega⟩
  refine ev_pure (at86 S.t) (refC_fr _ _) ?_
  unfold i86 Try.f86
  have hto : e.o.toNat = ob := by rw [ho]; rfl
  have hob := (List.getElem?_eq_some_iff.1 hx).1
  have hm8 := I.ok.m
  have hn8 := I.ok.n
  have hmc := I.mc
  have hfn := I.fn
  have hown := I.own ob o hx
  have h8 : ob < 8 := by omega
  have e0 := e.c0
  have e1 := e.c1
  have e2 := e.c2
  have e3 := e.c3
  have e4 := e.c4
  rw [ho] at e2
  rw [ht] at e1
  have hz := ze112r S
  have hpV := partV S V
  have g0 := refC_own V h8
  rw [ownR_of hx] at g0
  have f81 := fun lk h => s81 S (show 1 ≤ d by omega) V e.a lk h
  have hq3 : (o.own + 1 == (th : Int) + 1) = decide (o.own = e.t) := by
    rw [ht]
    by_cases q : o.own = (th : Int)
    · rw [decide_eq_true q, q]; exact beq_self_eq_true _
    · rw [decide_eq_false q]; exact beqI_f (by omega)
  rw [hk] at e0
  unfold intrV
  by_cases c0 : e.e = 0
  · by_cases ca : 0 ≤ e.a ∧ e.a < V.flags.length
    · rw [if_pos ⟨c0, ca⟩]
      rw [decide_eq_true ca] at f81
      obtain ⟨an, han⟩ := Int.eq_ofNat_of_zero_le ca.1
      have an8 : an < 8 := by omega
      have hal : an < V.flags.length := by omega
      have st := refC_setFlg an8 hal true
      have hpV2 := partV S (V.setF an true)
      rw [han] at e3 f81 ⊢
      rw [Int.toNat_natCast]
      rw [tupM_some]
      simp (maxSteps := 1000000) (disch := first | omega | (simp (disch := first | omega | (simp only [EvV.len, MonV.len, refC_len, List.length_append, List.length_cons, List.length_nil, List.length_set]; first | done | omega)) only [EvV.len, MonV.len, refC_len, amSide, Int.reduceToNat, Nat.reducePow, Nat.reduceMul]; first | done | omega)) only  [↓amPre, amPost, ↓s_lit', Nat.reduceAdd, Nat.reduceSub, List.replicate, retA, resultsA, resultA, toC, toCL, Nat.reduceEqDiff, (fa112_3 S.p), (fa112_5 S.p), (fa112_6 S.p), (fa98_0 S.p), (fa98_1 S.p), (fa98_2 S.p), (fa98_3 S.p), (fa98_4 S.p), iaddr_ptr (un105 S.p) (sz3 S.p), iaddr_ptr (un106 S.p) (sz4 S.p), part_all (ag112 S.p) (sz112 S.p), part_at (ag112 S.p) (sz112 S.p), part_sc (ag3 S.p), store_last (sz112 S.p), (sz112 S.p), store_last (sz3 S.p), (sz3 S.p), store_last (sz4 S.p), (sz4 S.p), hz, hpV, g0, e0, e1, e2, e3, e4, hq3, f81, st, hpV2, splC, splice_one, beqI_t, beqI_f, bneI_t, bneI_f, bne_self_eq_false, idx_ok, cells_self, cells_other, Int.toNat_natCast, Nat.mul_one, Nat.zero_add, Nat.add_zero, wrap_i64]
      exact Ends.some rfl
    · rw [if_neg (fun q => ca q.2)]
      rw [decide_eq_false ca] at f81
      rw [tupM_none]
      simp (maxSteps := 1000000) (disch := first | omega | (simp (disch := first | omega | (simp only [EvV.len, MonV.len, refC_len, List.length_append, List.length_cons, List.length_nil, List.length_set]; first | done | omega)) only [EvV.len, MonV.len, refC_len, amSide, Int.reduceToNat, Nat.reducePow, Nat.reduceMul]; first | done | omega)) only  [↓amPre, amPost, ↓s_lit', Nat.reduceAdd, Nat.reduceSub, List.replicate, retA, resultsA, resultA, toC, toCL, Nat.reduceEqDiff, (fa112_3 S.p), (fa112_5 S.p), (fa112_6 S.p), (fa98_0 S.p), (fa98_1 S.p), (fa98_2 S.p), (fa98_3 S.p), (fa98_4 S.p), iaddr_ptr (un105 S.p) (sz3 S.p), iaddr_ptr (un106 S.p) (sz4 S.p), part_all (ag112 S.p) (sz112 S.p), part_at (ag112 S.p) (sz112 S.p), part_sc (ag3 S.p), store_last (sz112 S.p), (sz112 S.p), store_last (sz3 S.p), (sz3 S.p), store_last (sz4 S.p), (sz4 S.p), hz, hpV, g0, e0, e1, e2, e3, e4, hq3, f81, splC, splice_one, beqI_t, beqI_f, bneI_t, bneI_f, bne_self_eq_false, idx_ok, cells_self, cells_other, Int.toNat_natCast, Nat.mul_one, Nat.zero_add, Nat.add_zero, wrap_i64]
      exact Ends.some rfl
  · rw [if_neg (fun q => c0 q.1)]
    rw [tupM_none]
    simp (maxSteps := 1000000) (disch := first | omega | (simp (disch := first | omega | (simp only [EvV.len, MonV.len, refC_len, List.length_append, List.length_cons, List.length_nil, List.length_set]; first | done | omega)) only [EvV.len, MonV.len, refC_len, amSide, Int.reduceToNat, Nat.reducePow, Nat.reduceMul]; first | done | omega)) only  [↓amPre, amPost, ↓s_lit', Nat.reduceAdd, Nat.reduceSub, List.replicate, retA, resultsA, resultA, toC, toCL, Nat.reduceEqDiff, (fa112_3 S.p), (fa112_5 S.p), (fa112_6 S.p), (fa98_0 S.p), (fa98_1 S.p), (fa98_2 S.p), (fa98_3 S.p), (fa98_4 S.p), iaddr_ptr (un105 S.p) (sz3 S.p), iaddr_ptr (un106 S.p) (sz4 S.p), part_all (ag112 S.p) (sz112 S.p), part_at (ag112 S.p) (sz112 S.p), part_sc (ag3 S.p), store_last (sz112 S.p), (sz112 S.p), store_last (sz3 S.p), (sz3 S.p), store_last (sz4 S.p), (sz4 S.p), hz, hpV, g0, e0, e1, e2, e3, e4, hq3, f81, splC, splice_one, beqI_t, beqI_f, bneI_t, bneI_f, bne_self_eq_false, idx_ok, cells_self, cells_other, Int.toNat_natCast, Nat.mul_one, Nat.zero_add, Nat.add_zero, wrap_i64]
    exact Ends.some rfl
end
end Go.AM
