/- Monitors' model: the document's Wake, Notify and All; Hash, Holds and Interrupt. Conditions: none. -/
import Derived.Test.YtjhhjmngjmflaaaMqs
import Derived.Test.YtjhhjmngjmflaaaMns
set_option linter.unusedVariables false
set_option linter.unusedSimpArgs false
set_option maxRecDepth 100000
-- NOTY: ze47, bu47
namespace Go.AM
open Go.Proofs
-- LENS: EvV.len, MonV.len, refC_len
section
variable {P : Program} {T : Tab} {K d : Nat} (S : Sd P T K)
include S
set_option maxHeartbeats 8000000 in
theorem s55a (hd : 2 ≤ d) {n m : Nat} {c : Int} {V : MdV} (I : MdI n m c V) (hc : 1 ≤ c ∧ c ≤ 60) (e : EvV) {ob : Nat} {o : MonV} (ho : e.o = (ob : Int)) (hx : V.mons[ob]? = some o) {th : Nat} (ht : e.t = (th : Int)) (hth : th < n) (hk : e.k = 7) (lk : Nat) (h : List AO) :
    ev P T K d 55 [.ag (refC V), .ag e.cells] lk h = some (tupM V (tellV V e o), h) := by
  obtain ⟨d, rfl⟩ : ∃ k, d = k + 1 := ⟨d - 1, by omega⟩
  refine ev_pure (at55 S.t) (refC_fr _ _) ?_
  unfold i55 Try.f55
  have hto : e.o.toNat = ob := by rw [ho]; rfl
  have hob := (List.getElem?_eq_some_iff.1 hx).1
  have hm8 := I.ok.m
  have hn8 := I.ok.n
  have hmc := I.mc
  have hfn := I.fn
  have hown := I.own ob o hx
  have h8 : ob < 8 := by omega
  have e0 := e.c0
  have e1 := e.c1
  have e2 := e.c2
  have e3 := e.c3
  have e4 := e.c4
  rw [ho] at e2
  rw [ht] at e1
  have hz := ze47r S
  have hpV := partV S V
  have g0 := refC_own V h8
  rw [ownR_of hx] at g0
  have f81 := fun lk h => s51 S (show 1 ≤ d by omega) V e.a lk h
  have hq3 : (o.own + 1 == (th : Int) + 1) = decide (o.own = e.t) := by
    rw [ht]
    by_cases q : o.own = (th : Int)
    · rw [decide_eq_true q, q]; exact beq_self_eq_true _
    · rw [decide_eq_false q]; exact beqI_f (by omega)
  rw [hk] at e0
  unfold tellV
  rw [if_pos hk]
  by_cases c0 : e.e = 0
  · by_cases a2 : o.own = e.t
    · have z3 := decide_eq_true a2
      rw [if_pos ⟨c0, a2⟩]
      by_cases ca : 0 ≤ e.a ∧ e.a < V.flags.length
      · rw [decide_eq_true ca] at f81
        obtain ⟨an, han⟩ := Int.eq_ofNat_of_zero_le ca.1
        have an8 : an < 8 := by omega
        have gw := refC_wt V h8 an8
        rw [han] at e3 f81
        cases g : getP ((ob : Int), (an : Int)) V.waits with
        | none =>
          have hlv : leaveV V (e.o, e.a) 0 = none := by unfold leaveV; rw [ho, han, g]
          rw [hlv]
          have hw : wtR V ob an = 0 := by unfold wtR; rw [g]
          rw [hw] at gw
          rw [tupM_none]
          simp (maxSteps := 1000000) (disch := first | omega | (simp (disch := first | omega | (simp only [EvV.len, MonV.len, refC_len, List.length_append, List.length_cons, List.length_nil, List.length_set]; first | done | omega)) only [EvV.len, MonV.len, refC_len, amSide, Int.reduceToNat, Nat.reducePow, Nat.reduceMul]; first | done | omega)) only  [↓amPre, amPost, ↓s_lit', Nat.reduceAdd, Nat.reduceSub, List.replicate, retA, resultsA, resultA, toC, toCL, Nat.reduceEqDiff, (bu43 S.p), (fa29_0 S.p), (fa29_1 S.p), (fa29_2 S.p), (fa29_3 S.p), (fa29_4 S.p), (fa43_0 S.p), (fa47_3 S.p), (fa47_7 S.p), iaddr_ptr (un40 S.p) (sz3 S.p), iaddr_ptr (un44 S.p) (sz43 S.p), iaddr_ptr (un45 S.p) (sz44 S.p), part_sc (ag3 S.p), part_all (ag47 S.p) (sz47 S.p), part_at (ag47 S.p) (sz47 S.p), store_last (sz43 S.p), (sz43 S.p), store_last (sz47 S.p), (sz47 S.p), hz, hpV, g0, e0, e1, e2, e3, e4, hq3, f81, z3, gw, splC, splice_one, beqI_t, beqI_f, bneI_t, bneI_f, bne_self_eq_false, idx_ok, cells_self, cells_other, Int.toNat_natCast, Nat.mul_one, Nat.zero_add, Nat.add_zero, wrap_i64]
          exact Ends.some rfl
        | some w =>
          have hlv : leaveV V (e.o, e.a) 0 = some { V with waits := delP ((ob : Int), (an : Int)) V.waits, left := updP ((ob : Int), (an : Int)) ⟨w, 0⟩ V.left } := by unfold leaveV; rw [ho, han, g]
          rw [hlv]
          have hw : wtR V ob an = w := by unfold wtR; rw [g]
          rw [hw] at gw
          have hw1 := (I.wc _ (getP_mem g)).1
          simp only at hw1
          have st := refC_leave h8 an8 I.ok.wd w 0
          have hpV2 := partV S { V with waits := delP ((ob : Int), (an : Int)) V.waits, left := updP ((ob : Int), (an : Int)) ⟨w, 0⟩ V.left }
          rw [tupM_some]
          simp (maxSteps := 1000000) (disch := first | omega | (simp (disch := first | omega | (simp only [EvV.len, MonV.len, refC_len, List.length_append, List.length_cons, List.length_nil, List.length_set]; first | done | omega)) only [EvV.len, MonV.len, refC_len, amSide, Int.reduceToNat, Nat.reducePow, Nat.reduceMul]; first | done | omega)) only  [↓amPre, amPost, ↓s_lit', Nat.reduceAdd, Nat.reduceSub, List.replicate, retA, resultsA, resultA, toC, toCL, Nat.reduceEqDiff, (bu43 S.p), (fa29_0 S.p), (fa29_1 S.p), (fa29_2 S.p), (fa29_3 S.p), (fa29_4 S.p), (fa43_0 S.p), (fa47_3 S.p), (fa47_7 S.p), iaddr_ptr (un40 S.p) (sz3 S.p), iaddr_ptr (un44 S.p) (sz43 S.p), iaddr_ptr (un45 S.p) (sz44 S.p), part_sc (ag3 S.p), part_all (ag47 S.p) (sz47 S.p), part_at (ag47 S.p) (sz47 S.p), store_last (sz43 S.p), (sz43 S.p), store_last (sz47 S.p), (sz47 S.p), hz, hpV, g0, e0, e1, e2, e3, e4, hq3, f81, z3, gw, st, hpV2, splC, splice_one, beqI_t, beqI_f, bneI_t, bneI_f, bne_self_eq_false, idx_ok, cells_self, cells_other, Int.toNat_natCast, Nat.mul_one, Nat.zero_add, Nat.add_zero, wrap_i64]
          exact Ends.some rfl
      · rw [decide_eq_false ca] at f81
        have hlv : leaveV V (e.o, e.a) 0 = none := by
          unfold leaveV
          cases g : getP (e.o, e.a) V.waits with
          | none => rfl
          | some v =>
            have := I.ok.wk _ (getP_mem g)
            simp only at this
            exact absurd ⟨this.2.1, this.2.2⟩ ca
        rw [hlv]
        rw [tupM_none]
        simp (maxSteps := 1000000) (disch := first | omega | (simp (disch := first | omega | (simp only [EvV.len, MonV.len, refC_len, List.length_append, List.length_cons, List.length_nil, List.length_set]; first | done | omega)) only [EvV.len, MonV.len, refC_len, amSide, Int.reduceToNat, Nat.reducePow, Nat.reduceMul]; first | done | omega)) only  [↓amPre, amPost, ↓s_lit', Nat.reduceAdd, Nat.reduceSub, List.replicate, retA, resultsA, resultA, toC, toCL, Nat.reduceEqDiff, (bu43 S.p), (fa29_0 S.p), (fa29_1 S.p), (fa29_2 S.p), (fa29_3 S.p), (fa29_4 S.p), (fa43_0 S.p), (fa47_3 S.p), (fa47_7 S.p), iaddr_ptr (un40 S.p) (sz3 S.p), iaddr_ptr (un44 S.p) (sz43 S.p), iaddr_ptr (un45 S.p) (sz44 S.p), part_sc (ag3 S.p), part_all (ag47 S.p) (sz47 S.p), part_at (ag47 S.p) (sz47 S.p), store_last (sz43 S.p), (sz43 S.p), store_last (sz47 S.p), (sz47 S.p), hz, hpV, g0, e0, e1, e2, e3, e4, hq3, f81, z3, splC, splice_one, beqI_t, beqI_f, bneI_t, bneI_f, bne_self_eq_false, idx_ok, cells_self, cells_other, Int.toNat_natCast, Nat.mul_one, Nat.zero_add, Nat.add_zero, wrap_i64]
        exact Ends.some rfl
    · have z3 := decide_eq_false a2
      rw [if_neg (fun q => a2 q.2)]
      rw [tupM_none]
      simp (maxSteps := 1000000) (disch := first | omega | (simp (disch := first | omega | (simp only [EvV.len, MonV.len, refC_len, List.length_append, List.length_cons, List.length_nil, List.length_set]; first | done | omega)) only [EvV.len, MonV.len, refC_len, amSide, Int.reduceToNat, Nat.reducePow, Nat.reduceMul]; first | done | omega)) only  [↓amPre, amPost, ↓s_lit', Nat.reduceAdd, Nat.reduceSub, List.replicate, retA, resultsA, resultA, toC, toCL, Nat.reduceEqDiff, (bu43 S.p), (fa29_0 S.p), (fa29_1 S.p), (fa29_2 S.p), (fa29_3 S.p), (fa29_4 S.p), (fa43_0 S.p), (fa47_3 S.p), (fa47_7 S.p), iaddr_ptr (un40 S.p) (sz3 S.p), iaddr_ptr (un44 S.p) (sz43 S.p), iaddr_ptr (un45 S.p) (sz44 S.p), part_sc (ag3 S.p), part_all (ag47 S.p) (sz47 S.p), part_at (ag47 S.p) (sz47 S.p), store_last (sz43 S.p), (sz43 S.p), store_last (sz47 S.p), (sz47 S.p), hz, hpV, g0, e0, e1, e2, e3, e4, hq3, f81, z3, splC, splice_one, beqI_t, beqI_f, bneI_t, bneI_f, bne_self_eq_false, idx_ok, cells_self, cells_other, Int.toNat_natCast, Nat.mul_one, Nat.zero_add, Nat.add_zero, wrap_i64]
      exact Ends.some rfl
  · rw [if_neg (fun q => c0 q.1)]
    rw [tupM_none]
    simp (maxSteps := 1000000) (disch := first | omega | (simp (disch := first | omega | (simp only [EvV.len, MonV.len, refC_len, List.length_append, List.length_cons, List.length_nil, List.length_set]; first | done | omega)) only [EvV.len, MonV.len, refC_len, amSide, Int.reduceToNat, Nat.reducePow, Nat.reduceMul]; first | done | omega)) only  [↓amPre, amPost, ↓s_lit', Nat.reduceAdd, Nat.reduceSub, List.replicate, retA, resultsA, resultA, toC, toCL, Nat.reduceEqDiff, (bu43 S.p), (fa29_0 S.p), (fa29_1 S.p), (fa29_2 S.p), (fa29_3 S.p), (fa29_4 S.p), (fa43_0 S.p), (fa47_3 S.p), (fa47_7 S.p), iaddr_ptr (un40 S.p) (sz3 S.p), iaddr_ptr (un44 S.p) (sz43 S.p), iaddr_ptr (un45 S.p) (sz44 S.p), part_sc (ag3 S.p), part_all (ag47 S.p) (sz47 S.p), part_at (ag47 S.p) (sz47 S.p), store_last (sz43 S.p), (sz43 S.p), store_last (sz47 S.p), (sz47 S.p), hz, hpV, g0, e0, e1, e2, e3, e4, hq3, f81, splC, splice_one, beqI_t, beqI_f, bneI_t, bneI_f, bne_self_eq_false, idx_ok, cells_self, cells_other, Int.toNat_natCast, Nat.mul_one, Nat.zero_add, Nat.add_zero, wrap_i64]
    exact Ends.some rfl
set_option maxHeartbeats 8000000 in
theorem s55b (hd : 2 ≤ d) {n m : Nat} {c : Int} {V : MdV} (I : MdI n m c V) (hc : 1 ≤ c ∧ c ≤ 60) (e : EvV) {ob : Nat} {o : MonV} (ho : e.o = (ob : Int)) (hx : V.mons[ob]? = some o) {th : Nat} (ht : e.t = (th : Int)) (hth : th < n) (hk : e.k = 8) (lk : Nat) (h : List AO) :
    ev P T K d 55 [.ag (refC V), .ag e.cells] lk h = some (tupM V (tellV V e o), h) := by
  obtain ⟨d, rfl⟩ : ∃ k, d = k + 1 := ⟨d - 1, by omega⟩
  refine ev_pure (at55 S.t) (refC_fr _ _) ?_
  unfold i55 Try.f55
  have hto : e.o.toNat = ob := by rw [ho]; rfl
  have hob := (List.getElem?_eq_some_iff.1 hx).1
  have hm8 := I.ok.m
  have hn8 := I.ok.n
  have hmc := I.mc
  have hfn := I.fn
  have hown := I.own ob o hx
  have h8 : ob < 8 := by omega
  have e0 := e.c0
  have e1 := e.c1
  have e2 := e.c2
  have e3 := e.c3
  have e4 := e.c4
  rw [ho] at e2
  rw [ht] at e1
  have hz := ze47r S
  have hpV := partV S V
  have g0 := refC_own V h8
  rw [ownR_of hx] at g0
  have f81 := fun lk h => s51 S (show 1 ≤ d by omega) V e.a lk h
  have hq3 : (o.own + 1 == (th : Int) + 1) = decide (o.own = e.t) := by
    rw [ht]
    by_cases q : o.own = (th : Int)
    · rw [decide_eq_true q, q]; exact beq_self_eq_true _
    · rw [decide_eq_false q]; exact beqI_f (by omega)
  rw [hk] at e0
  have f117 := fun lk h => s82 S (show 1 ≤ d by omega) I h8 lk h
  unfold tellV
  rw [if_neg (by omega), ho]
  by_cases c9 : e.e = 9
  · rw [if_pos c9]
    by_cases a2 : o.own = e.t
    · have z3 := decide_eq_true a2
      rw [if_neg (fun q => q.1 a2)]
      by_cases ca : e.a = -1
      · skip
        rw [tupM_none]
        simp (maxSteps := 1000000) (disch := first | omega | (simp (disch := first | omega | (simp only [EvV.len, MonV.len, refC_len, List.length_append, List.length_cons, List.length_nil, List.length_set]; first | done | omega)) only [EvV.len, MonV.len, refC_len, amSide, Int.reduceToNat, Nat.reducePow, Nat.reduceMul]; first | done | omega)) only  [↓amPre, amPost, ↓s_lit', Nat.reduceAdd, Nat.reduceSub, List.replicate, retA, resultsA, resultA, toC, toCL, Nat.reduceEqDiff, (bu43 S.p), (fa29_0 S.p), (fa29_1 S.p), (fa29_2 S.p), (fa29_3 S.p), (fa29_4 S.p), (fa43_0 S.p), (fa47_3 S.p), (fa47_7 S.p), iaddr_ptr (un40 S.p) (sz3 S.p), iaddr_ptr (un44 S.p) (sz43 S.p), iaddr_ptr (un45 S.p) (sz44 S.p), part_sc (ag3 S.p), part_all (ag47 S.p) (sz47 S.p), part_at (ag47 S.p) (sz47 S.p), store_last (sz43 S.p), (sz43 S.p), store_last (sz47 S.p), (sz47 S.p), hz, hpV, g0, e0, e1, e2, e3, e4, hq3, f81, z3, splC, splice_one, beqI_t, beqI_f, bneI_t, bneI_f, bne_self_eq_false, idx_ok, cells_self, cells_other, Int.toNat_natCast, Nat.mul_one, Nat.zero_add, Nat.add_zero, wrap_i64]
        exact Ends.some rfl
      · skip
        rw [tupM_none]
        simp (maxSteps := 1000000) (disch := first | omega | (simp (disch := first | omega | (simp only [EvV.len, MonV.len, refC_len, List.length_append, List.length_cons, List.length_nil, List.length_set]; first | done | omega)) only [EvV.len, MonV.len, refC_len, amSide, Int.reduceToNat, Nat.reducePow, Nat.reduceMul]; first | done | omega)) only  [↓amPre, amPost, ↓s_lit', Nat.reduceAdd, Nat.reduceSub, List.replicate, retA, resultsA, resultA, toC, toCL, Nat.reduceEqDiff, (bu43 S.p), (fa29_0 S.p), (fa29_1 S.p), (fa29_2 S.p), (fa29_3 S.p), (fa29_4 S.p), (fa43_0 S.p), (fa47_3 S.p), (fa47_7 S.p), iaddr_ptr (un40 S.p) (sz3 S.p), iaddr_ptr (un44 S.p) (sz43 S.p), iaddr_ptr (un45 S.p) (sz44 S.p), part_sc (ag3 S.p), part_all (ag47 S.p) (sz47 S.p), part_at (ag47 S.p) (sz47 S.p), store_last (sz43 S.p), (sz43 S.p), store_last (sz47 S.p), (sz47 S.p), hz, hpV, g0, e0, e1, e2, e3, e4, hq3, f81, z3, splC, splice_one, beqI_t, beqI_f, bneI_t, bneI_f, bne_self_eq_false, idx_ok, cells_self, cells_other, Int.toNat_natCast, Nat.mul_one, Nat.zero_add, Nat.add_zero, wrap_i64]
        exact Ends.some rfl
    · have z3 := decide_eq_false a2
      by_cases ca : e.a = -1
      · rw [if_pos ⟨a2, Or.inr ⟨hk, ca⟩⟩]
        rw [tupM_some]
        simp (maxSteps := 1000000) (disch := first | omega | (simp (disch := first | omega | (simp only [EvV.len, MonV.len, refC_len, List.length_append, List.length_cons, List.length_nil, List.length_set]; first | done | omega)) only [EvV.len, MonV.len, refC_len, amSide, Int.reduceToNat, Nat.reducePow, Nat.reduceMul]; first | done | omega)) only  [↓amPre, amPost, ↓s_lit', Nat.reduceAdd, Nat.reduceSub, List.replicate, retA, resultsA, resultA, toC, toCL, Nat.reduceEqDiff, (bu43 S.p), (fa29_0 S.p), (fa29_1 S.p), (fa29_2 S.p), (fa29_3 S.p), (fa29_4 S.p), (fa43_0 S.p), (fa47_3 S.p), (fa47_7 S.p), iaddr_ptr (un40 S.p) (sz3 S.p), iaddr_ptr (un44 S.p) (sz43 S.p), iaddr_ptr (un45 S.p) (sz44 S.p), part_sc (ag3 S.p), part_all (ag47 S.p) (sz47 S.p), part_at (ag47 S.p) (sz47 S.p), store_last (sz43 S.p), (sz43 S.p), store_last (sz47 S.p), (sz47 S.p), hz, hpV, g0, e0, e1, e2, e3, e4, hq3, f81, z3, splC, splice_one, beqI_t, beqI_f, bneI_t, bneI_f, bne_self_eq_false, idx_ok, cells_self, cells_other, Int.toNat_natCast, Nat.mul_one, Nat.zero_add, Nat.add_zero, wrap_i64]
        exact Ends.some rfl
      · rw [if_neg (fun q => q.2.elim (fun q => by omega) (fun q => by omega))]
        rw [tupM_none]
        simp (maxSteps := 1000000) (disch := first | omega | (simp (disch := first | omega | (simp only [EvV.len, MonV.len, refC_len, List.length_append, List.length_cons, List.length_nil, List.length_set]; first | done | omega)) only [EvV.len, MonV.len, refC_len, amSide, Int.reduceToNat, Nat.reducePow, Nat.reduceMul]; first | done | omega)) only  [↓amPre, amPost, ↓s_lit', Nat.reduceAdd, Nat.reduceSub, List.replicate, retA, resultsA, resultA, toC, toCL, Nat.reduceEqDiff, (bu43 S.p), (fa29_0 S.p), (fa29_1 S.p), (fa29_2 S.p), (fa29_3 S.p), (fa29_4 S.p), (fa43_0 S.p), (fa47_3 S.p), (fa47_7 S.p), iaddr_ptr (un40 S.p) (sz3 S.p), iaddr_ptr (un44 S.p) (sz43 S.p), iaddr_ptr (un45 S.p) (sz44 S.p), part_sc (ag3 S.p), part_all (ag47 S.p) (sz47 S.p), part_at (ag47 S.p) (sz47 S.p), store_last (sz43 S.p), (sz43 S.p), store_last (sz47 S.p), (sz47 S.p), hz, hpV, g0, e0, e1, e2, e3, e4, hq3, f81, z3, splC, splice_one, beqI_t, beqI_f, bneI_t, bneI_f, bne_self_eq_false, idx_ok, cells_self, cells_other, Int.toNat_natCast, Nat.mul_one, Nat.zero_add, Nat.add_zero, wrap_i64]
        exact Ends.some rfl
  rw [if_neg c9]
  by_cases c0 : e.e = 0
  · by_cases a2 : o.own = e.t
    · have z3 := decide_eq_true a2
      rw [if_neg (fun q => q.elim (fun q => q c0) (fun q => q a2))]
      rw [if_neg (by omega)]
      by_cases ci : 0 ≤ e.a ∧ e.a < V.flags.length
      · rw [if_pos (Or.inl ci)]
        rw [decide_eq_true ci] at f81
        rw [tupM_some]
        simp (maxSteps := 1000000) (disch := first | omega | (simp (disch := first | omega | (simp only [EvV.len, MonV.len, refC_len, List.length_append, List.length_cons, List.length_nil, List.length_set]; first | done | omega)) only [EvV.len, MonV.len, refC_len, amSide, Int.reduceToNat, Nat.reducePow, Nat.reduceMul]; first | done | omega)) only  [↓amPre, amPost, ↓s_lit', Nat.reduceAdd, Nat.reduceSub, List.replicate, retA, resultsA, resultA, toC, toCL, Nat.reduceEqDiff, (bu43 S.p), (fa29_0 S.p), (fa29_1 S.p), (fa29_2 S.p), (fa29_3 S.p), (fa29_4 S.p), (fa43_0 S.p), (fa47_3 S.p), (fa47_7 S.p), iaddr_ptr (un40 S.p) (sz3 S.p), iaddr_ptr (un44 S.p) (sz43 S.p), iaddr_ptr (un45 S.p) (sz44 S.p), part_sc (ag3 S.p), part_all (ag47 S.p) (sz47 S.p), part_at (ag47 S.p) (sz47 S.p), store_last (sz43 S.p), (sz43 S.p), store_last (sz47 S.p), (sz47 S.p), hz, hpV, g0, e0, e1, e2, e3, e4, hq3, f81, z3, splC, splice_one, beqI_t, beqI_f, bneI_t, bneI_f, bne_self_eq_false, idx_ok, cells_self, cells_other, Int.toNat_natCast, Nat.mul_one, Nat.zero_add, Nat.add_zero, wrap_i64]
        exact Ends.some rfl
      · rw [decide_eq_false ci] at f81
        by_cases ca : e.a = -1
        · by_cases cn : thrV V.waits ob = []
          · rw [if_pos (Or.inr ⟨ca, cn⟩)]
            rw [decide_eq_true cn] at f117
            rw [tupM_some]
            simp (maxSteps := 1000000) (disch := first | omega | (simp (disch := first | omega | (simp only [EvV.len, MonV.len, refC_len, List.length_append, List.length_cons, List.length_nil, List.length_set]; first | done | omega)) only [EvV.len, MonV.len, refC_len, amSide, Int.reduceToNat, Nat.reducePow, Nat.reduceMul]; first | done | omega)) only  [↓amPre, amPost, ↓s_lit', Nat.reduceAdd, Nat.reduceSub, List.replicate, retA, resultsA, resultA, toC, toCL, Nat.reduceEqDiff, (bu43 S.p), (fa29_0 S.p), (fa29_1 S.p), (fa29_2 S.p), (fa29_3 S.p), (fa29_4 S.p), (fa43_0 S.p), (fa47_3 S.p), (fa47_7 S.p), iaddr_ptr (un40 S.p) (sz3 S.p), iaddr_ptr (un44 S.p) (sz43 S.p), iaddr_ptr (un45 S.p) (sz44 S.p), part_sc (ag3 S.p), part_all (ag47 S.p) (sz47 S.p), part_at (ag47 S.p) (sz47 S.p), store_last (sz43 S.p), (sz43 S.p), store_last (sz47 S.p), (sz47 S.p), hz, hpV, g0, e0, e1, e2, e3, e4, hq3, f81, z3, f117, splC, splice_one, beqI_t, beqI_f, bneI_t, bneI_f, bne_self_eq_false, idx_ok, cells_self, cells_other, Int.toNat_natCast, Nat.mul_one, Nat.zero_add, Nat.add_zero, wrap_i64]
            exact Ends.some rfl
          · rw [if_neg (fun q => q.elim ci (fun q => cn q.2))]
            rw [decide_eq_false cn] at f117
            rw [tupM_none]
            simp (maxSteps := 1000000) (disch := first | omega | (simp (disch := first | omega | (simp only [EvV.len, MonV.len, refC_len, List.length_append, List.length_cons, List.length_nil, List.length_set]; first | done | omega)) only [EvV.len, MonV.len, refC_len, amSide, Int.reduceToNat, Nat.reducePow, Nat.reduceMul]; first | done | omega)) only  [↓amPre, amPost, ↓s_lit', Nat.reduceAdd, Nat.reduceSub, List.replicate, retA, resultsA, resultA, toC, toCL, Nat.reduceEqDiff, (bu43 S.p), (fa29_0 S.p), (fa29_1 S.p), (fa29_2 S.p), (fa29_3 S.p), (fa29_4 S.p), (fa43_0 S.p), (fa47_3 S.p), (fa47_7 S.p), iaddr_ptr (un40 S.p) (sz3 S.p), iaddr_ptr (un44 S.p) (sz43 S.p), iaddr_ptr (un45 S.p) (sz44 S.p), part_sc (ag3 S.p), part_all (ag47 S.p) (sz47 S.p), part_at (ag47 S.p) (sz47 S.p), store_last (sz43 S.p), (sz43 S.p), store_last (sz47 S.p), (sz47 S.p), hz, hpV, g0, e0, e1, e2, e3, e4, hq3, f81, z3, f117, splC, splice_one, beqI_t, beqI_f, bneI_t, bneI_f, bne_self_eq_false, idx_ok, cells_self, cells_other, Int.toNat_natCast, Nat.mul_one, Nat.zero_add, Nat.add_zero, wrap_i64]
            exact Ends.some rfl
        · rw [if_neg (fun q => q.elim ci (fun q => ca q.1))]
          rw [tupM_none]
          simp (maxSteps := 1000000) (disch := first | omega | (simp (disch := first | omega | (simp only [EvV.len, MonV.len, refC_len, List.length_append, List.length_cons, List.length_nil, List.length_set]; first | done | omega)) only [EvV.len, MonV.len, refC_len, amSide, Int.reduceToNat, Nat.reducePow, Nat.reduceMul]; first | done | omega)) only  [↓amPre, amPost, ↓s_lit', Nat.reduceAdd, Nat.reduceSub, List.replicate, retA, resultsA, resultA, toC, toCL, Nat.reduceEqDiff, (bu43 S.p), (fa29_0 S.p), (fa29_1 S.p), (fa29_2 S.p), (fa29_3 S.p), (fa29_4 S.p), (fa43_0 S.p), (fa47_3 S.p), (fa47_7 S.p), iaddr_ptr (un40 S.p) (sz3 S.p), iaddr_ptr (un44 S.p) (sz43 S.p), iaddr_ptr (un45 S.p) (sz44 S.p), part_sc (ag3 S.p), part_all (ag47 S.p) (sz47 S.p), part_at (ag47 S.p) (sz47 S.p), store_last (sz43 S.p), (sz43 S.p), store_last (sz47 S.p), (sz47 S.p), hz, hpV, g0, e0, e1, e2, e3, e4, hq3, f81, z3, splC, splice_one, beqI_t, beqI_f, bneI_t, bneI_f, bne_self_eq_false, idx_ok, cells_self, cells_other, Int.toNat_natCast, Nat.mul_one, Nat.zero_add, Nat.add_zero, wrap_i64]
          exact Ends.some rfl
    · have z3 := decide_eq_false a2
      rw [if_pos (Or.inr a2)]
      rw [tupM_none]
      simp (maxSteps := 1000000) (disch := first | omega | (simp (disch := first | omega | (simp only [EvV.len, MonV.len, refC_len, List.length_append, List.length_cons, List.length_nil, List.length_set]; first | done | omega)) only [EvV.len, MonV.len, refC_len, amSide, Int.reduceToNat, Nat.reducePow, Nat.reduceMul]; first | done | omega)) only  [↓amPre, amPost, ↓s_lit', Nat.reduceAdd, Nat.reduceSub, List.replicate, retA, resultsA, resultA, toC, toCL, Nat.reduceEqDiff, (bu43 S.p), (fa29_0 S.p), (fa29_1 S.p), (fa29_2 S.p), (fa29_3 S.p), (fa29_4 S.p), (fa43_0 S.p), (fa47_3 S.p), (fa47_7 S.p), iaddr_ptr (un40 S.p) (sz3 S.p), iaddr_ptr (un44 S.p) (sz43 S.p), iaddr_ptr (un45 S.p) (sz44 S.p), part_sc (ag3 S.p), part_all (ag47 S.p) (sz47 S.p), part_at (ag47 S.p) (sz47 S.p), store_last (sz43 S.p), (sz43 S.p), store_last (sz47 S.p), (sz47 S.p), hz, hpV, g0, e0, e1, e2, e3, e4, hq3, f81, z3, splC, splice_one, beqI_t, beqI_f, bneI_t, bneI_f, bne_self_eq_false, idx_ok, cells_self, cells_other, Int.toNat_natCast, Nat.mul_one, Nat.zero_add, Nat.add_zero, wrap_i64]
      exact Ends.some rfl
  · rw [if_pos (Or.inl c0)]
    rw [tupM_none]
    simp (maxSteps := 1000000) (disch := first | omega | (simp (disch := first | omega | (simp only [EvV.len, MonV.len, refC_len, List.length_append, List.length_cons, List.length_nil, List.length_set]; first | done | omega)) only [EvV.len, MonV.len, refC_len, amSide, Int.reduceToNat, Nat.reducePow, Nat.reduceMul]; first | done | omega)) only  [↓amPre, amPost, ↓s_lit', Nat.reduceAdd, Nat.reduceSub, List.replicate, retA, resultsA, resultA, toC, toCL, Nat.reduceEqDiff, (bu43 S.p), (fa29_0 S.p), (fa29_1 S.p), (fa29_2 S.p), (fa29_3 S.p), (fa29_4 S.p), (fa43_0 S.p), (fa47_3 S.p), (fa47_7 S.p), iaddr_ptr (un40 S.p) (sz3 S.p), iaddr_ptr (un44 S.p) (sz43 S.p), iaddr_ptr (un45 S.p) (sz44 S.p), part_sc (ag3 S.p), part_all (ag47 S.p) (sz47 S.p), part_at (ag47 S.p) (sz47 S.p), store_last (sz43 S.p), (sz43 S.p), store_last (sz47 S.p), (sz47 S.p), hz, hpV, g0, e0, e1, e2, e3, e4, hq3, f81, splC, splice_one, beqI_t, beqI_f, bneI_t, bneI_f, bne_self_eq_false, idx_ok, cells_self, cells_other, Int.toNat_natCast, Nat.mul_one, Nat.zero_add, Nat.add_zero, wrap_i64]
    exact Ends.some rfl
set_option maxHeartbeats 8000000 in
theorem s55c (hd : 2 ≤ d) {n m : Nat} {c : Int} {V : MdV} (I : MdI n m c V) (hc : 1 ≤ c ∧ c ≤ 60) (e : EvV) {ob : Nat} {o : MonV} (ho : e.o = (ob : Int)) (hx : V.mons[ob]? = some o) {th : Nat} (ht : e.t = (th : Int)) (hth : th < n) (hk : e.k = 9) (lk : Nat) (h : List AO) :
    ev P T K d 55 [.ag (refC V), .ag e.cells] lk h = some (tupM V (tellV V e o), h) := by
  obtain ⟨d, rfl⟩ : ∃ k, d = k + 1 := ⟨d - 1, by omega⟩
  refine ev_pure (at55 S.t) (refC_fr _ _) ?_
  unfold i55 Try.f55
  have hto : e.o.toNat = ob := by rw [ho]; rfl
  have hob := (List.getElem?_eq_some_iff.1 hx).1
  have hm8 := I.ok.m
  have hn8 := I.ok.n
  have hmc := I.mc
  have hfn := I.fn
  have hown := I.own ob o hx
  have h8 : ob < 8 := by omega
  have e0 := e.c0
  have e1 := e.c1
  have e2 := e.c2
  have e3 := e.c3
  have e4 := e.c4
  rw [ho] at e2
  rw [ht] at e1
  have hz := ze47r S
  have hpV := partV S V
  have g0 := refC_own V h8
  rw [ownR_of hx] at g0
  have f81 := fun lk h => s51 S (show 1 ≤ d by omega) V e.a lk h
  have hq3 : (o.own + 1 == (th : Int) + 1) = decide (o.own = e.t) := by
    rw [ht]
    by_cases q : o.own = (th : Int)
    · rw [decide_eq_true q, q]; exact beq_self_eq_true _
    · rw [decide_eq_false q]; exact beqI_f (by omega)
  rw [hk] at e0
  have f117 := fun lk h => s82 S (show 1 ≤ d by omega) I h8 lk h
  unfold tellV
  rw [if_neg (by omega), ho]
  by_cases c9 : e.e = 9
  · rw [if_pos c9]
    by_cases a2 : o.own = e.t
    · have z3 := decide_eq_true a2
      rw [if_neg (fun q => q.1 a2)]
      by_cases ca : e.a = 0
      · skip
        rw [tupM_none]
        simp (maxSteps := 1000000) (disch := first | omega | (simp (disch := first | omega | (simp only [EvV.len, MonV.len, refC_len, List.length_append, List.length_cons, List.length_nil, List.length_set]; first | done | omega)) only [EvV.len, MonV.len, refC_len, amSide, Int.reduceToNat, Nat.reducePow, Nat.reduceMul]; first | done | omega)) only  [↓amPre, amPost, ↓s_lit', Nat.reduceAdd, Nat.reduceSub, List.replicate, retA, resultsA, resultA, toC, toCL, Nat.reduceEqDiff, (bu43 S.p), (fa29_0 S.p), (fa29_1 S.p), (fa29_2 S.p), (fa29_3 S.p), (fa29_4 S.p), (fa43_0 S.p), (fa47_3 S.p), (fa47_7 S.p), iaddr_ptr (un40 S.p) (sz3 S.p), iaddr_ptr (un44 S.p) (sz43 S.p), iaddr_ptr (un45 S.p) (sz44 S.p), part_sc (ag3 S.p), part_all (ag47 S.p) (sz47 S.p), part_at (ag47 S.p) (sz47 S.p), store_last (sz43 S.p), (sz43 S.p), store_last (sz47 S.p), (sz47 S.p), hz, hpV, g0, e0, e1, e2, e3, e4, hq3, f81, z3, splC, splice_one, beqI_t, beqI_f, bneI_t, bneI_f, bne_self_eq_false, idx_ok, cells_self, cells_other, Int.toNat_natCast, Nat.mul_one, Nat.zero_add, Nat.add_zero, wrap_i64]
        exact Ends.some rfl
      · skip
        rw [tupM_none]
        simp (maxSteps := 1000000) (disch := first | omega | (simp (disch := first | omega | (simp only [EvV.len, MonV.len, refC_len, List.length_append, List.length_cons, List.length_nil, List.length_set]; first | done | omega)) only [EvV.len, MonV.len, refC_len, amSide, Int.reduceToNat, Nat.reducePow, Nat.reduceMul]; first | done | omega)) only  [↓amPre, amPost, ↓s_lit', Nat.reduceAdd, Nat.reduceSub, List.replicate, retA, resultsA, resultA, toC, toCL, Nat.reduceEqDiff, (bu43 S.p), (fa29_0 S.p), (fa29_1 S.p), (fa29_2 S.p), (fa29_3 S.p), (fa29_4 S.p), (fa43_0 S.p), (fa47_3 S.p), (fa47_7 S.p), iaddr_ptr (un40 S.p) (sz3 S.p), iaddr_ptr (un44 S.p) (sz43 S.p), iaddr_ptr (un45 S.p) (sz44 S.p), part_sc (ag3 S.p), part_all (ag47 S.p) (sz47 S.p), part_at (ag47 S.p) (sz47 S.p), store_last (sz43 S.p), (sz43 S.p), store_last (sz47 S.p), (sz47 S.p), hz, hpV, g0, e0, e1, e2, e3, e4, hq3, f81, z3, splC, splice_one, beqI_t, beqI_f, bneI_t, bneI_f, bne_self_eq_false, idx_ok, cells_self, cells_other, Int.toNat_natCast, Nat.mul_one, Nat.zero_add, Nat.add_zero, wrap_i64]
        exact Ends.some rfl
    · have z3 := decide_eq_false a2
      by_cases ca : e.a = 0
      · rw [if_pos ⟨a2, Or.inl ⟨hk, ca⟩⟩]
        rw [tupM_some]
        simp (maxSteps := 1000000) (disch := first | omega | (simp (disch := first | omega | (simp only [EvV.len, MonV.len, refC_len, List.length_append, List.length_cons, List.length_nil, List.length_set]; first | done | omega)) only [EvV.len, MonV.len, refC_len, amSide, Int.reduceToNat, Nat.reducePow, Nat.reduceMul]; first | done | omega)) only  [↓amPre, amPost, ↓s_lit', Nat.reduceAdd, Nat.reduceSub, List.replicate, retA, resultsA, resultA, toC, toCL, Nat.reduceEqDiff, (bu43 S.p), (fa29_0 S.p), (fa29_1 S.p), (fa29_2 S.p), (fa29_3 S.p), (fa29_4 S.p), (fa43_0 S.p), (fa47_3 S.p), (fa47_7 S.p), iaddr_ptr (un40 S.p) (sz3 S.p), iaddr_ptr (un44 S.p) (sz43 S.p), iaddr_ptr (un45 S.p) (sz44 S.p), part_sc (ag3 S.p), part_all (ag47 S.p) (sz47 S.p), part_at (ag47 S.p) (sz47 S.p), store_last (sz43 S.p), (sz43 S.p), store_last (sz47 S.p), (sz47 S.p), hz, hpV, g0, e0, e1, e2, e3, e4, hq3, f81, z3, splC, splice_one, beqI_t, beqI_f, bneI_t, bneI_f, bne_self_eq_false, idx_ok, cells_self, cells_other, Int.toNat_natCast, Nat.mul_one, Nat.zero_add, Nat.add_zero, wrap_i64]
        exact Ends.some rfl
      · rw [if_neg (fun q => q.2.elim (fun q => by omega) (fun q => by omega))]
        rw [tupM_none]
        simp (maxSteps := 1000000) (disch := first | omega | (simp (disch := first | omega | (simp only [EvV.len, MonV.len, refC_len, List.length_append, List.length_cons, List.length_nil, List.length_set]; first | done | omega)) only [EvV.len, MonV.len, refC_len, amSide, Int.reduceToNat, Nat.reducePow, Nat.reduceMul]; first | done | omega)) only  [↓amPre, amPost, ↓s_lit', Nat.reduceAdd, Nat.reduceSub, List.replicate, retA, resultsA, resultA, toC, toCL, Nat.reduceEqDiff, (bu43 S.p), (fa29_0 S.p), (fa29_1 S.p), (fa29_2 S.p), (fa29_3 S.p), (fa29_4 S.p), (fa43_0 S.p), (fa47_3 S.p), (fa47_7 S.p), iaddr_ptr (un40 S.p) (sz3 S.p), iaddr_ptr (un44 S.p) (sz43 S.p), iaddr_ptr (un45 S.p) (sz44 S.p), part_sc (ag3 S.p), part_all (ag47 S.p) (sz47 S.p), part_at (ag47 S.p) (sz47 S.p), store_last (sz43 S.p), (sz43 S.p), store_last (sz47 S.p), (sz47 S.p), hz, hpV, g0, e0, e1, e2, e3, e4, hq3, f81, z3, splC, splice_one, beqI_t, beqI_f, bneI_t, bneI_f, bne_self_eq_false, idx_ok, cells_self, cells_other, Int.toNat_natCast, Nat.mul_one, Nat.zero_add, Nat.add_zero, wrap_i64]
        exact Ends.some rfl
  rw [if_neg c9]
  by_cases c0 : e.e = 0
  · by_cases a2 : o.own = e.t
    · have z3 := decide_eq_true a2
      rw [if_neg (fun q => q.elim (fun q => q c0) (fun q => q a2))]
      rw [if_pos hk]
      by_cases ca : e.a = 0
      · by_cases cn : thrV V.waits ob = []
        · rw [if_pos ⟨ca, cn⟩]
          rw [decide_eq_true cn] at f117
          rw [tupM_some]
          simp (maxSteps := 1000000) (disch := first | omega | (simp (disch := first | omega | (simp only [EvV.len, MonV.len, refC_len, List.length_append, List.length_cons, List.length_nil, List.length_set]; first | done | omega)) only [EvV.len, MonV.len, refC_len, amSide, Int.reduceToNat, Nat.reducePow, Nat.reduceMul]; first | done | omega)) only  [↓amPre, amPost, ↓s_lit', Nat.reduceAdd, Nat.reduceSub, List.replicate, retA, resultsA, resultA, toC, toCL, Nat.reduceEqDiff, (bu43 S.p), (fa29_0 S.p), (fa29_1 S.p), (fa29_2 S.p), (fa29_3 S.p), (fa29_4 S.p), (fa43_0 S.p), (fa47_3 S.p), (fa47_7 S.p), iaddr_ptr (un40 S.p) (sz3 S.p), iaddr_ptr (un44 S.p) (sz43 S.p), iaddr_ptr (un45 S.p) (sz44 S.p), part_sc (ag3 S.p), part_all (ag47 S.p) (sz47 S.p), part_at (ag47 S.p) (sz47 S.p), store_last (sz43 S.p), (sz43 S.p), store_last (sz47 S.p), (sz47 S.p), hz, hpV, g0, e0, e1, e2, e3, e4, hq3, f81, z3, f117, splC, splice_one, beqI_t, beqI_f, bneI_t, bneI_f, bne_self_eq_false, idx_ok, cells_self, cells_other, Int.toNat_natCast, Nat.mul_one, Nat.zero_add, Nat.add_zero, wrap_i64]
          exact Ends.some rfl
        · rw [if_neg (fun q => cn q.2)]
          rw [decide_eq_false cn] at f117
          rw [tupM_none]
          simp (maxSteps := 1000000) (disch := first | omega | (simp (disch := first | omega | (simp only [EvV.len, MonV.len, refC_len, List.length_append, List.length_cons, List.length_nil, List.length_set]; first | done | omega)) only [EvV.len, MonV.len, refC_len, amSide, Int.reduceToNat, Nat.reducePow, Nat.reduceMul]; first | done | omega)) only  [↓amPre, amPost, ↓s_lit', Nat.reduceAdd, Nat.reduceSub, List.replicate, retA, resultsA, resultA, toC, toCL, Nat.reduceEqDiff, (bu43 S.p), (fa29_0 S.p), (fa29_1 S.p), (fa29_2 S.p), (fa29_3 S.p), (fa29_4 S.p), (fa43_0 S.p), (fa47_3 S.p), (fa47_7 S.p), iaddr_ptr (un40 S.p) (sz3 S.p), iaddr_ptr (un44 S.p) (sz43 S.p), iaddr_ptr (un45 S.p) (sz44 S.p), part_sc (ag3 S.p), part_all (ag47 S.p) (sz47 S.p), part_at (ag47 S.p) (sz47 S.p), store_last (sz43 S.p), (sz43 S.p), store_last (sz47 S.p), (sz47 S.p), hz, hpV, g0, e0, e1, e2, e3, e4, hq3, f81, z3, f117, splC, splice_one, beqI_t, beqI_f, bneI_t, bneI_f, bne_self_eq_false, idx_ok, cells_self, cells_other, Int.toNat_natCast, Nat.mul_one, Nat.zero_add, Nat.add_zero, wrap_i64]
          exact Ends.some rfl
      · rw [if_neg (fun q => ca q.1)]
        rw [tupM_none]
        simp (maxSteps := 1000000) (disch := first | omega | (simp (disch := first | omega | (simp only [EvV.len, MonV.len, refC_len, List.length_append, List.length_cons, List.length_nil, List.length_set]; first | done | omega)) only [EvV.len, MonV.len, refC_len, amSide, Int.reduceToNat, Nat.reducePow, Nat.reduceMul]; first | done | omega)) only  [↓amPre, amPost, ↓s_lit', Nat.reduceAdd, Nat.reduceSub, List.replicate, retA, resultsA, resultA, toC, toCL, Nat.reduceEqDiff, (bu43 S.p), (fa29_0 S.p), (fa29_1 S.p), (fa29_2 S.p), (fa29_3 S.p), (fa29_4 S.p), (fa43_0 S.p), (fa47_3 S.p), (fa47_7 S.p), iaddr_ptr (un40 S.p) (sz3 S.p), iaddr_ptr (un44 S.p) (sz43 S.p), iaddr_ptr (un45 S.p) (sz44 S.p), part_sc (ag3 S.p), part_all (ag47 S.p) (sz47 S.p), part_at (ag47 S.p) (sz47 S.p), store_last (sz43 S.p), (sz43 S.p), store_last (sz47 S.p), (sz47 S.p), hz, hpV, g0, e0, e1, e2, e3, e4, hq3, f81, z3, splC, splice_one, beqI_t, beqI_f, bneI_t, bneI_f, bne_self_eq_false, idx_ok, cells_self, cells_other, Int.toNat_natCast, Nat.mul_one, Nat.zero_add, Nat.add_zero, wrap_i64]
        exact Ends.some rfl
    · have z3 := decide_eq_false a2
      rw [if_pos (Or.inr a2)]
      by_cases ca : e.a = 0
      · skip
        rw [tupM_none]
        simp (maxSteps := 1000000) (disch := first | omega | (simp (disch := first | omega | (simp only [EvV.len, MonV.len, refC_len, List.length_append, List.length_cons, List.length_nil, List.length_set]; first | done | omega)) only [EvV.len, MonV.len, refC_len, amSide, Int.reduceToNat, Nat.reducePow, Nat.reduceMul]; first | done | omega)) only  [↓amPre, amPost, ↓s_lit', Nat.reduceAdd, Nat.reduceSub, List.replicate, retA, resultsA, resultA, toC, toCL, Nat.reduceEqDiff, (bu43 S.p), (fa29_0 S.p), (fa29_1 S.p), (fa29_2 S.p), (fa29_3 S.p), (fa29_4 S.p), (fa43_0 S.p), (fa47_3 S.p), (fa47_7 S.p), iaddr_ptr (un40 S.p) (sz3 S.p), iaddr_ptr (un44 S.p) (sz43 S.p), iaddr_ptr (un45 S.p) (sz44 S.p), part_sc (ag3 S.p), part_all (ag47 S.p) (sz47 S.p), part_at (ag47 S.p) (sz47 S.p), store_last (sz43 S.p), (sz43 S.p), store_last (sz47 S.p), (sz47 S.p), hz, hpV, g0, e0, e1, e2, e3, e4, hq3, f81, z3, splC, splice_one, beqI_t, beqI_f, bneI_t, bneI_f, bne_self_eq_false, idx_ok, cells_self, cells_other, Int.toNat_natCast, Nat.mul_one, Nat.zero_add, Nat.add_zero, wrap_i64]
        exact Ends.some rfl
      · skip
        rw [tupM_none]
        simp (maxSteps := 1000000) (disch := first | omega | (simp (disch := first | omega | (simp only [EvV.len, MonV.len, refC_len, List.length_append, List.length_cons, List.length_nil, List.length_set]; first | done | omega)) only [EvV.len, MonV.len, refC_len, amSide, Int.reduceToNat, Nat.reducePow, Nat.reduceMul]; first | done | omega)) only  [↓amPre, amPost, ↓s_lit', Nat.reduceAdd, Nat.reduceSub, List.replicate, retA, resultsA, resultA, toC, toCL, Nat.reduceEqDiff, (bu43 S.p), (fa29_0 S.p), (fa29_1 S.p), (fa29_2 S.p), (fa29_3 S.p), (fa29_4 S.p), (fa43_0 S.p), (fa47_3 S.p), (fa47_7 S.p), iaddr_ptr (un40 S.p) (sz3 S.p), iaddr_ptr (un44 S.p) (sz43 S.p), iaddr_ptr (un45 S.p) (sz44 S.p), part_sc (ag3 S.p), part_all (ag47 S.p) (sz47 S.p), part_at (ag47 S.p) (sz47 S.p), store_last (sz43 S.p), (sz43 S.p), store_last (sz47 S.p), (sz47 S.p), hz, hpV, g0, e0, e1, e2, e3, e4, hq3, f81, z3, splC, splice_one, beqI_t, beqI_f, bneI_t, bneI_f, bne_self_eq_false, idx_ok, cells_self, cells_other, Int.toNat_natCast, Nat.mul_one, Nat.zero_add, Nat.add_zero, wrap_i64]
        exact Ends.some rfl
  · rw [if_pos (Or.inl c0)]
    rw [tupM_none]
    simp (maxSteps := 1000000) (disch := first | omega | (simp (disch := first | omega | (simp only [EvV.len, MonV.len, refC_len, List.length_append, List.length_cons, List.length_nil, List.length_set]; first | done | omega)) only [EvV.len, MonV.len, refC_len, amSide, Int.reduceToNat, Nat.reducePow, Nat.reduceMul]; first | done | omega)) only  [↓amPre, amPost, ↓s_lit', Nat.reduceAdd, Nat.reduceSub, List.replicate, retA, resultsA, resultA, toC, toCL, Nat.reduceEqDiff, (bu43 S.p), (fa29_0 S.p), (fa29_1 S.p), (fa29_2 S.p), (fa29_3 S.p), (fa29_4 S.p), (fa43_0 S.p), (fa47_3 S.p), (fa47_7 S.p), iaddr_ptr (un40 S.p) (sz3 S.p), iaddr_ptr (un44 S.p) (sz43 S.p), iaddr_ptr (un45 S.p) (sz44 S.p), part_sc (ag3 S.p), part_all (ag47 S.p) (sz47 S.p), part_at (ag47 S.p) (sz47 S.p), store_last (sz43 S.p), (sz43 S.p), store_last (sz47 S.p), (sz47 S.p), hz, hpV, g0, e0, e1, e2, e3, e4, hq3, f81, splC, splice_one, beqI_t, beqI_f, bneI_t, bneI_f, bne_self_eq_false, idx_ok, cells_self, cells_other, Int.toNat_natCast, Nat.mul_one, Nat.zero_add, Nat.add_zero, wrap_i64]
    exact Ends.some rfl
set_option maxHeartbeats 8000000 in
theorem s56a (hd : 2 ≤ d) {n m : Nat} {c : Int} {V : MdV} (I : MdI n m c V) (hc : 1 ≤ c ∧ c ≤ 60) (e : EvV) {ob : Nat} {o : MonV} (ho : e.o = (ob : Int)) (hx : V.mons[ob]? = some o) {th : Nat} (ht : e.t = (th : Int)) (hth : th < n) (hk : e.k = 10) (hh : 0 ≤ o.hsh ∧ o.hsh ≤ 2147483647) (lk : Nat) (h : List AO) :
    ev P T K d 56 [.ag (refC V), .ag e.cells] lk h = some (tupM V (hashV V e o), h) := by
  obtain ⟨d, rfl⟩ : ∃ k, d = k + 1 := ⟨d - 1, by omega⟩
  refine ev_pure (at56 S.t) (refC_fr _ _) ?_
  unfold i56 Try.f56
  have hto : e.o.toNat = ob := by rw [ho]; rfl
  have hob := (List.getElem?_eq_some_iff.1 hx).1
  have hm8 := I.ok.m
  have hn8 := I.ok.n
  have hmc := I.mc
  have hfn := I.fn
  have hown := I.own ob o hx
  have h8 : ob < 8 := by omega
  have e0 := e.c0
  have e1 := e.c1
  have e2 := e.c2
  have e3 := e.c3
  have e4 := e.c4
  rw [ho] at e2
  rw [ht] at e1
  have hz := ze47r S
  have hpV := partV S V
  have g0 := refC_own V h8
  rw [ownR_of hx] at g0
  have f81 := fun lk h => s51 S (show 1 ≤ d by omega) V e.a lk h
  have hq3 : (o.own + 1 == (th : Int) + 1) = decide (o.own = e.t) := by
    rw [ht]
    by_cases q : o.own = (th : Int)
    · rw [decide_eq_true q, q]; exact beq_self_eq_true _
    · rw [decide_eq_false q]; exact beqI_f (by omega)
  rw [hk] at e0
  have g5 := refC_hsh V h8
  rw [hshR_of hx] at g5
  have hq1 : (o.own + 1 != 0) = decide (o.own ≠ -1) := by
    by_cases q : o.own = -1
    · rw [decide_eq_false (fun r => r q), q]; rfl
    · rw [decide_eq_true q]; exact bneI_t (by omega)
  unfold hashV
  rw [hto]
  by_cases c11 : e.e = 11
  · rw [if_pos c11]
    by_cases a1 : o.own = -1
    · have z1 := decide_eq_false (fun r : o.own ≠ -1 => r a1)
      rw [if_neg (fun q => q.2 a1)]
      rw [tupM_none]
      simp (maxSteps := 1000000) (disch := first | omega | (simp (disch := first | omega | (simp only [EvV.len, MonV.len, refC_len, List.length_append, List.length_cons, List.length_nil, List.length_set]; first | done | omega)) only [EvV.len, MonV.len, refC_len, amSide, Int.reduceToNat, Nat.reducePow, Nat.reduceMul]; first | done | omega)) only  [↓amPre, amPost, ↓s_lit', Nat.reduceAdd, Nat.reduceSub, List.replicate, retA, resultsA, resultA, toC, toCL, Nat.reduceEqDiff, (fa29_0 S.p), (fa29_1 S.p), (fa29_2 S.p), (fa29_3 S.p), (fa29_4 S.p), (fa47_3 S.p), (fa47_5 S.p), (fa47_6 S.p), iaddr_ptr (un40 S.p) (sz3 S.p), iaddr_ptr (un41 S.p) (sz4 S.p), part_sc (ag3 S.p), part_all (ag47 S.p) (sz47 S.p), part_at (ag47 S.p) (sz47 S.p), store_last (sz3 S.p), (sz3 S.p), store_last (sz4 S.p), (sz4 S.p), store_last (sz47 S.p), (sz47 S.p), hz, hpV, g0, e0, e1, e2, e3, e4, hq3, f81, hq1, z1, splC, splice_one, beqI_t, beqI_f, bneI_t, bneI_f, bne_self_eq_false, idx_ok, cells_self, cells_other, Int.toNat_natCast, Nat.mul_one, Nat.zero_add, Nat.add_zero, wrap_i64]
      exact Ends.some rfl
    · have z1 := decide_eq_true (show o.own ≠ -1 from a1)
      by_cases ca : e.a = 0
      · rw [if_pos ⟨ca, a1⟩]
        rw [tupM_some]
        simp (maxSteps := 1000000) (disch := first | omega | (simp (disch := first | omega | (simp only [EvV.len, MonV.len, refC_len, List.length_append, List.length_cons, List.length_nil, List.length_set]; first | done | omega)) only [EvV.len, MonV.len, refC_len, amSide, Int.reduceToNat, Nat.reducePow, Nat.reduceMul]; first | done | omega)) only  [↓amPre, amPost, ↓s_lit', Nat.reduceAdd, Nat.reduceSub, List.replicate, retA, resultsA, resultA, toC, toCL, Nat.reduceEqDiff, (fa29_0 S.p), (fa29_1 S.p), (fa29_2 S.p), (fa29_3 S.p), (fa29_4 S.p), (fa47_3 S.p), (fa47_5 S.p), (fa47_6 S.p), iaddr_ptr (un40 S.p) (sz3 S.p), iaddr_ptr (un41 S.p) (sz4 S.p), part_sc (ag3 S.p), part_all (ag47 S.p) (sz47 S.p), part_at (ag47 S.p) (sz47 S.p), store_last (sz3 S.p), (sz3 S.p), store_last (sz4 S.p), (sz4 S.p), store_last (sz47 S.p), (sz47 S.p), hz, hpV, g0, e0, e1, e2, e3, e4, hq3, f81, hq1, z1, splC, splice_one, beqI_t, beqI_f, bneI_t, bneI_f, bne_self_eq_false, idx_ok, cells_self, cells_other, Int.toNat_natCast, Nat.mul_one, Nat.zero_add, Nat.add_zero, wrap_i64]
        exact Ends.some rfl
      · rw [if_neg (fun q => ca q.1)]
        rw [tupM_none]
        simp (maxSteps := 1000000) (disch := first | omega | (simp (disch := first | omega | (simp only [EvV.len, MonV.len, refC_len, List.length_append, List.length_cons, List.length_nil, List.length_set]; first | done | omega)) only [EvV.len, MonV.len, refC_len, amSide, Int.reduceToNat, Nat.reducePow, Nat.reduceMul]; first | done | omega)) only  [↓amPre, amPost, ↓s_lit', Nat.reduceAdd, Nat.reduceSub, List.replicate, retA, resultsA, resultA, toC, toCL, Nat.reduceEqDiff, (fa29_0 S.p), (fa29_1 S.p), (fa29_2 S.p), (fa29_3 S.p), (fa29_4 S.p), (fa47_3 S.p), (fa47_5 S.p), (fa47_6 S.p), iaddr_ptr (un40 S.p) (sz3 S.p), iaddr_ptr (un41 S.p) (sz4 S.p), part_sc (ag3 S.p), part_all (ag47 S.p) (sz47 S.p), part_at (ag47 S.p) (sz47 S.p), store_last (sz3 S.p), (sz3 S.p), store_last (sz4 S.p), (sz4 S.p), store_last (sz47 S.p), (sz47 S.p), hz, hpV, g0, e0, e1, e2, e3, e4, hq3, f81, hq1, z1, splC, splice_one, beqI_t, beqI_f, bneI_t, bneI_f, bne_self_eq_false, idx_ok, cells_self, cells_other, Int.toNat_natCast, Nat.mul_one, Nat.zero_add, Nat.add_zero, wrap_i64]
        exact Ends.some rfl
  rw [if_neg c11]
  by_cases c0 : e.e = 0
  · by_cases ch : o.hsh = 0
    · rw [ch] at g5
      by_cases ca : 1 ≤ e.a ∧ e.a ≤ 2147483647
      · rw [if_neg (fun q => q.elim (fun q => q c0) (fun q => q.elim (fun q => q ca) (fun q => q.1 ch)))]
        have v1 : decide (e.a ≥ 1) = true := decide_eq_true ca.1
        have v2 : decide (e.a ≤ 2147483647) = true := decide_eq_true ca.2
        have st := refC_setHsh h8 hx e.a
        have hpV2 := partV S (V.setM ob ⟨o.own, o.cnt, e.a⟩)
        have hx2 : (V.setM ob ⟨o.own, o.cnt, e.a⟩).mons[ob]? = some ⟨o.own, o.cnt, e.a⟩ := List.getElem?_set_self hob
        have g6 := refC_hsh (V.setM ob ⟨o.own, o.cnt, e.a⟩) h8
        rw [hshR_of hx2] at g6
        have v3 : (e.a == e.a) = true := beq_self_eq_true _
        rw [tupM_some]
        simp (maxSteps := 1000000) (disch := first | omega | (simp (disch := first | omega | (simp only [EvV.len, MonV.len, refC_len, List.length_append, List.length_cons, List.length_nil, List.length_set]; first | done | omega)) only [EvV.len, MonV.len, refC_len, amSide, Int.reduceToNat, Nat.reducePow, Nat.reduceMul]; first | done | omega)) only  [↓amPre, amPost, ↓s_lit', Nat.reduceAdd, Nat.reduceSub, List.replicate, retA, resultsA, resultA, toC, toCL, Nat.reduceEqDiff, (fa29_0 S.p), (fa29_1 S.p), (fa29_2 S.p), (fa29_3 S.p), (fa29_4 S.p), (fa47_3 S.p), (fa47_5 S.p), (fa47_6 S.p), iaddr_ptr (un40 S.p) (sz3 S.p), iaddr_ptr (un41 S.p) (sz4 S.p), part_sc (ag3 S.p), part_all (ag47 S.p) (sz47 S.p), part_at (ag47 S.p) (sz47 S.p), store_last (sz3 S.p), (sz3 S.p), store_last (sz4 S.p), (sz4 S.p), store_last (sz47 S.p), (sz47 S.p), hz, hpV, g0, e0, e1, e2, e3, e4, hq3, f81, g5, g6, v1, v2, v3, st, hpV2, splC, splice_one, beqI_t, beqI_f, bneI_t, bneI_f, bne_self_eq_false, idx_ok, cells_self, cells_other, Int.toNat_natCast, Nat.mul_one, Nat.zero_add, Nat.add_zero, wrap_i64]
        exact Ends.some rfl
      · rw [if_pos (Or.inr (Or.inl ca))]
        by_cases c1 : 1 ≤ e.a
        · have v1 : decide (e.a ≥ 1) = true := decide_eq_true c1
          have v2 : decide (e.a ≤ 2147483647) = false := decide_eq_false (fun q => ca ⟨c1, q⟩)
          rw [tupM_none]
          simp (maxSteps := 1000000) (disch := first | omega | (simp (disch := first | omega | (simp only [EvV.len, MonV.len, refC_len, List.length_append, List.length_cons, List.length_nil, List.length_set]; first | done | omega)) only [EvV.len, MonV.len, refC_len, amSide, Int.reduceToNat, Nat.reducePow, Nat.reduceMul]; first | done | omega)) only  [↓amPre, amPost, ↓s_lit', Nat.reduceAdd, Nat.reduceSub, List.replicate, retA, resultsA, resultA, toC, toCL, Nat.reduceEqDiff, (fa29_0 S.p), (fa29_1 S.p), (fa29_2 S.p), (fa29_3 S.p), (fa29_4 S.p), (fa47_3 S.p), (fa47_5 S.p), (fa47_6 S.p), iaddr_ptr (un40 S.p) (sz3 S.p), iaddr_ptr (un41 S.p) (sz4 S.p), part_sc (ag3 S.p), part_all (ag47 S.p) (sz47 S.p), part_at (ag47 S.p) (sz47 S.p), store_last (sz3 S.p), (sz3 S.p), store_last (sz4 S.p), (sz4 S.p), store_last (sz47 S.p), (sz47 S.p), hz, hpV, g0, e0, e1, e2, e3, e4, hq3, f81, g5, v1, v2, splC, splice_one, beqI_t, beqI_f, bneI_t, bneI_f, bne_self_eq_false, idx_ok, cells_self, cells_other, Int.toNat_natCast, Nat.mul_one, Nat.zero_add, Nat.add_zero, wrap_i64]
          exact Ends.some rfl
        · have v1 : decide (e.a ≥ 1) = false := decide_eq_false c1
          rw [tupM_none]
          simp (maxSteps := 1000000) (disch := first | omega | (simp (disch := first | omega | (simp only [EvV.len, MonV.len, refC_len, List.length_append, List.length_cons, List.length_nil, List.length_set]; first | done | omega)) only [EvV.len, MonV.len, refC_len, amSide, Int.reduceToNat, Nat.reducePow, Nat.reduceMul]; first | done | omega)) only  [↓amPre, amPost, ↓s_lit', Nat.reduceAdd, Nat.reduceSub, List.replicate, retA, resultsA, resultA, toC, toCL, Nat.reduceEqDiff, (fa29_0 S.p), (fa29_1 S.p), (fa29_2 S.p), (fa29_3 S.p), (fa29_4 S.p), (fa47_3 S.p), (fa47_5 S.p), (fa47_6 S.p), iaddr_ptr (un40 S.p) (sz3 S.p), iaddr_ptr (un41 S.p) (sz4 S.p), part_sc (ag3 S.p), part_all (ag47 S.p) (sz47 S.p), part_at (ag47 S.p) (sz47 S.p), store_last (sz3 S.p), (sz3 S.p), store_last (sz4 S.p), (sz4 S.p), store_last (sz47 S.p), (sz47 S.p), hz, hpV, g0, e0, e1, e2, e3, e4, hq3, f81, g5, v1, splC, splice_one, beqI_t, beqI_f, bneI_t, bneI_f, bne_self_eq_false, idx_ok, cells_self, cells_other, Int.toNat_natCast, Nat.mul_one, Nat.zero_add, Nat.add_zero, wrap_i64]
          exact Ends.some rfl
    · by_cases ca : o.hsh = e.a
      · rw [if_neg (fun q => q.elim (fun q => q c0) (fun q => q.elim (fun q => q ⟨by omega, by omega⟩) (fun q => q.2 ca)))]
        have hsame : V.setM ob ⟨o.own, o.cnt, e.a⟩ = V := by
          have : (⟨o.own, o.cnt, e.a⟩ : MonV) = o := by rw [← ca]
          simp only [MdV.setM, this]
          have hs : V.mons.set ob o = V.mons := by
            apply List.ext_getElem?
            intro k
            by_cases q : ob = k
            · subst q; rw [List.getElem?_set_self hob, hx]
            · rw [List.getElem?_set_ne q]
          rw [hs]
        rw [hsame]
        rw [tupM_some]
        simp (maxSteps := 1000000) (disch := first | omega | (simp (disch := first | omega | (simp only [EvV.len, MonV.len, refC_len, List.length_append, List.length_cons, List.length_nil, List.length_set]; first | done | omega)) only [EvV.len, MonV.len, refC_len, amSide, Int.reduceToNat, Nat.reducePow, Nat.reduceMul]; first | done | omega)) only  [↓amPre, amPost, ↓s_lit', Nat.reduceAdd, Nat.reduceSub, List.replicate, retA, resultsA, resultA, toC, toCL, Nat.reduceEqDiff, (fa29_0 S.p), (fa29_1 S.p), (fa29_2 S.p), (fa29_3 S.p), (fa29_4 S.p), (fa47_3 S.p), (fa47_5 S.p), (fa47_6 S.p), iaddr_ptr (un40 S.p) (sz3 S.p), iaddr_ptr (un41 S.p) (sz4 S.p), part_sc (ag3 S.p), part_all (ag47 S.p) (sz47 S.p), part_at (ag47 S.p) (sz47 S.p), store_last (sz3 S.p), (sz3 S.p), store_last (sz4 S.p), (sz4 S.p), store_last (sz47 S.p), (sz47 S.p), hz, hpV, g0, e0, e1, e2, e3, e4, hq3, f81, g5, splC, splice_one, beqI_t, beqI_f, bneI_t, bneI_f, bne_self_eq_false, idx_ok, cells_self, cells_other, Int.toNat_natCast, Nat.mul_one, Nat.zero_add, Nat.add_zero, wrap_i64]
        exact Ends.some rfl
      · rw [if_pos (Or.inr (Or.inr ⟨ch, ca⟩))]
        rw [tupM_none]
        simp (maxSteps := 1000000) (disch := first | omega | (simp (disch := first | omega | (simp only [EvV.len, MonV.len, refC_len, List.length_append, List.length_cons, List.length_nil, List.length_set]; first | done | omega)) only [EvV.len, MonV.len, refC_len, amSide, Int.reduceToNat, Nat.reducePow, Nat.reduceMul]; first | done | omega)) only  [↓amPre, amPost, ↓s_lit', Nat.reduceAdd, Nat.reduceSub, List.replicate, retA, resultsA, resultA, toC, toCL, Nat.reduceEqDiff, (fa29_0 S.p), (fa29_1 S.p), (fa29_2 S.p), (fa29_3 S.p), (fa29_4 S.p), (fa47_3 S.p), (fa47_5 S.p), (fa47_6 S.p), iaddr_ptr (un40 S.p) (sz3 S.p), iaddr_ptr (un41 S.p) (sz4 S.p), part_sc (ag3 S.p), part_all (ag47 S.p) (sz47 S.p), part_at (ag47 S.p) (sz47 S.p), store_last (sz3 S.p), (sz3 S.p), store_last (sz4 S.p), (sz4 S.p), store_last (sz47 S.p), (sz47 S.p), hz, hpV, g0, e0, e1, e2, e3, e4, hq3, f81, g5, splC, splice_one, beqI_t, beqI_f, bneI_t, bneI_f, bne_self_eq_false, idx_ok, cells_self, cells_other, Int.toNat_natCast, Nat.mul_one, Nat.zero_add, Nat.add_zero, wrap_i64]
        exact Ends.some rfl
  · rw [if_pos (Or.inl c0)]
    rw [tupM_none]
    simp (maxSteps := 1000000) (disch := first | omega | (simp (disch := first | omega | (simp only [EvV.len, MonV.len, refC_len, List.length_append, List.length_cons, List.length_nil, List.length_set]; first | done | omega)) only [EvV.len, MonV.len, refC_len, amSide, Int.reduceToNat, Nat.reducePow, Nat.reduceMul]; first | done | omega)) only  [↓amPre, amPost, ↓s_lit', Nat.reduceAdd, Nat.reduceSub, List.replicate, retA, resultsA, resultA, toC, toCL, Nat.reduceEqDiff, (fa29_0 S.p), (fa29_1 S.p), (fa29_2 S.p), (fa29_3 S.p), (fa29_4 S.p), (fa47_3 S.p), (fa47_5 S.p), (fa47_6 S.p), iaddr_ptr (un40 S.p) (sz3 S.p), iaddr_ptr (un41 S.p) (sz4 S.p), part_sc (ag3 S.p), part_all (ag47 S.p) (sz47 S.p), part_at (ag47 S.p) (sz47 S.p), store_last (sz3 S.p), (sz3 S.p), store_last (sz4 S.p), (sz4 S.p), store_last (sz47 S.p), (sz47 S.p), hz, hpV, g0, e0, e1, e2, e3, e4, hq3, f81, splC, splice_one, beqI_t, beqI_f, bneI_t, bneI_f, bne_self_eq_false, idx_ok, cells_self, cells_other, Int.toNat_natCast, Nat.mul_one, Nat.zero_add, Nat.add_zero, wrap_i64]
    exact Ends.some rfl
set_option maxHeartbeats 8000000 in
theorem s56b (hd : 2 ≤ d) {n m : Nat} {c : Int} {V : MdV} (I : MdI n m c V) (hc : 1 ≤ c ∧ c ≤ 60) (e : EvV) {ob : Nat} {o : MonV} (ho : e.o = (ob : Int)) (hx : V.mons[ob]? = some o) {th : Nat} (ht : e.t = (th : Int)) (hth : th < n) (hk : e.k = 11) (lk : Nat) (h : List AO) :
    ev P T K d 56 [.ag (refC V), .ag e.cells] lk h = some (tupM V (holdsV V e o), h) := by
  obtain ⟨d, rfl⟩ : ∃ k, d = k + 1 := ⟨d - 1, by omega⟩
  refine ev_pure (at56 S.t) (refC_fr _ _) ?_
  unfold i56 Try.f56
  have hto : e.o.toNat = ob := by rw [ho]; rfl
  have hob := (List.getElem?_eq_some_iff.1 hx).1
  have hm8 := I.ok.m
  have hn8 := I.ok.n
  have hmc := I.mc
  have hfn := I.fn
  have hown := I.own ob o hx
  have h8 : ob < 8 := by omega
  have e0 := e.c0
  have e1 := e.c1
  have e2 := e.c2
  have e3 := e.c3
  have e4 := e.c4
  rw [ho] at e2
  rw [ht] at e1
  have hz := ze47r S
  have hpV := partV S V
  have g0 := refC_own V h8
  rw [ownR_of hx] at g0
  have f81 := fun lk h => s51 S (show 1 ≤ d by omega) V e.a lk h
  have hq3 : (o.own + 1 == (th : Int) + 1) = decide (o.own = e.t) := by
    rw [ht]
    by_cases q : o.own = (th : Int)
    · rw [decide_eq_true q, q]; exact beq_self_eq_true _
    · rw [decide_eq_false q]; exact beqI_f (by omega)
  rw [hk] at e0
  unfold holdsV
  by_cases c0 : e.e = 0
  · by_cases a2 : o.own = e.t
    · have z3 := decide_eq_true a2
      by_cases ca : e.a = 1
      · rw [if_pos ⟨c0, Or.inl ⟨ca, a2⟩⟩]
        rw [tupM_some]
        simp (maxSteps := 1000000) (disch := first | omega | (simp (disch := first | omega | (simp only [EvV.len, MonV.len, refC_len, List.length_append, List.length_cons, List.length_nil, List.length_set]; first | done | omega)) only [EvV.len, MonV.len, refC_len, amSide, Int.reduceToNat, Nat.reducePow, Nat.reduceMul]; first | done | omega)) only  [↓amPre, amPost, ↓s_lit', Nat.reduceAdd, Nat.reduceSub, List.replicate, retA, resultsA, resultA, toC, toCL, Nat.reduceEqDiff, (fa29_0 S.p), (fa29_1 S.p), (fa29_2 S.p), (fa29_3 S.p), (fa29_4 S.p), (fa47_3 S.p), (fa47_5 S.p), (fa47_6 S.p), iaddr_ptr (un40 S.p) (sz3 S.p), iaddr_ptr (un41 S.p) (sz4 S.p), part_sc (ag3 S.p), part_all (ag47 S.p) (sz47 S.p), part_at (ag47 S.p) (sz47 S.p), store_last (sz3 S.p), (sz3 S.p), store_last (sz4 S.p), (sz4 S.p), store_last (sz47 S.p), (sz47 S.p), hz, hpV, g0, e0, e1, e2, e3, e4, hq3, f81, z3, splC, splice_one, beqI_t, beqI_f, bneI_t, bneI_f, bne_self_eq_false, idx_ok, cells_self, cells_other, Int.toNat_natCast, Nat.mul_one, Nat.zero_add, Nat.add_zero, wrap_i64]
        exact Ends.some rfl
      · rw [if_neg (fun q => q.2.elim (fun q => ca q.1) (fun q => q.2 a2))]
        rw [tupM_none]
        simp (maxSteps := 1000000) (disch := first | omega | (simp (disch := first | omega | (simp only [EvV.len, MonV.len, refC_len, List.length_append, List.length_cons, List.length_nil, List.length_set]; first | done | omega)) only [EvV.len, MonV.len, refC_len, amSide, Int.reduceToNat, Nat.reducePow, Nat.reduceMul]; first | done | omega)) only  [↓amPre, amPost, ↓s_lit', Nat.reduceAdd, Nat.reduceSub, List.replicate, retA, resultsA, resultA, toC, toCL, Nat.reduceEqDiff, (fa29_0 S.p), (fa29_1 S.p), (fa29_2 S.p), (fa29_3 S.p), (fa29_4 S.p), (fa47_3 S.p), (fa47_5 S.p), (fa47_6 S.p), iaddr_ptr (un40 S.p) (sz3 S.p), iaddr_ptr (un41 S.p) (sz4 S.p), part_sc (ag3 S.p), part_all (ag47 S.p) (sz47 S.p), part_at (ag47 S.p) (sz47 S.p), store_last (sz3 S.p), (sz3 S.p), store_last (sz4 S.p), (sz4 S.p), store_last (sz47 S.p), (sz47 S.p), hz, hpV, g0, e0, e1, e2, e3, e4, hq3, f81, z3, splC, splice_one, beqI_t, beqI_f, bneI_t, bneI_f, bne_self_eq_false, idx_ok, cells_self, cells_other, Int.toNat_natCast, Nat.mul_one, Nat.zero_add, Nat.add_zero, wrap_i64]
        exact Ends.some rfl
    · have z3 := decide_eq_false a2
      by_cases ca : e.a = 0
      · rw [if_pos ⟨c0, Or.inr ⟨ca, a2⟩⟩]
        rw [tupM_some]
        simp (maxSteps := 1000000) (disch := first | omega | (simp (disch := first | omega | (simp only [EvV.len, MonV.len, refC_len, List.length_append, List.length_cons, List.length_nil, List.length_set]; first | done | omega)) only [EvV.len, MonV.len, refC_len, amSide, Int.reduceToNat, Nat.reducePow, Nat.reduceMul]; first | done | omega)) only  [↓amPre, amPost, ↓s_lit', Nat.reduceAdd, Nat.reduceSub, List.replicate, retA, resultsA, resultA, toC, toCL, Nat.reduceEqDiff, (fa29_0 S.p), (fa29_1 S.p), (fa29_2 S.p), (fa29_3 S.p), (fa29_4 S.p), (fa47_3 S.p), (fa47_5 S.p), (fa47_6 S.p), iaddr_ptr (un40 S.p) (sz3 S.p), iaddr_ptr (un41 S.p) (sz4 S.p), part_sc (ag3 S.p), part_all (ag47 S.p) (sz47 S.p), part_at (ag47 S.p) (sz47 S.p), store_last (sz3 S.p), (sz3 S.p), store_last (sz4 S.p), (sz4 S.p), store_last (sz47 S.p), (sz47 S.p), hz, hpV, g0, e0, e1, e2, e3, e4, hq3, f81, z3, splC, splice_one, beqI_t, beqI_f, bneI_t, bneI_f, bne_self_eq_false, idx_ok, cells_self, cells_other, Int.toNat_natCast, Nat.mul_one, Nat.zero_add, Nat.add_zero, wrap_i64]
        exact Ends.some rfl
      · rw [if_neg (fun q => q.2.elim (fun q => a2 q.2) (fun q => ca q.1))]
        rw [tupM_none]
        simp (maxSteps := 1000000) (disch := first | omega | (simp (disch := first | omega | (simp only [EvV.len, MonV.len, refC_len, List.length_append, List.length_cons, List.length_nil, List.length_set]; first | done | omega)) only [EvV.len, MonV.len, refC_len, amSide, Int.reduceToNat, Nat.reducePow, Nat.reduceMul]; first | done | omega)) only  [↓amPre, amPost, ↓s_lit', Nat.reduceAdd, Nat.reduceSub, List.replicate, retA, resultsA, resultA, toC, toCL, Nat.reduceEqDiff, (fa29_0 S.p), (fa29_1 S.p), (fa29_2 S.p), (fa29_3 S.p), (fa29_4 S.p), (fa47_3 S.p), (fa47_5 S.p), (fa47_6 S.p), iaddr_ptr (un40 S.p) (sz3 S.p), iaddr_ptr (un41 S.p) (sz4 S.p), part_sc (ag3 S.p), part_all (ag47 S.p) (sz47 S.p), part_at (ag47 S.p) (sz47 S.p), store_last (sz3 S.p), (sz3 S.p), store_last (sz4 S.p), (sz4 S.p), store_last (sz47 S.p), (sz47 S.p), hz, hpV, g0, e0, e1, e2, e3, e4, hq3, f81, z3, splC, splice_one, beqI_t, beqI_f, bneI_t, bneI_f, bne_self_eq_false, idx_ok, cells_self, cells_other, Int.toNat_natCast, Nat.mul_one, Nat.zero_add, Nat.add_zero, wrap_i64]
        exact Ends.some rfl
  · rw [if_neg (fun q => c0 q.1)]
    rw [tupM_none]
    simp (maxSteps := 1000000) (disch := first | omega | (simp (disch := first | omega | (simp only [EvV.len, MonV.len, refC_len, List.length_append, List.length_cons, List.length_nil, List.length_set]; first | done | omega)) only [EvV.len, MonV.len, refC_len, amSide, Int.reduceToNat, Nat.reducePow, Nat.reduceMul]; first | done | omega)) only  [↓amPre, amPost, ↓s_lit', Nat.reduceAdd, Nat.reduceSub, List.replicate, retA, resultsA, resultA, toC, toCL, Nat.reduceEqDiff, (fa29_0 S.p), (fa29_1 S.p), (fa29_2 S.p), (fa29_3 S.p), (fa29_4 S.p), (fa47_3 S.p), (fa47_5 S.p), (fa47_6 S.p), iaddr_ptr (un40 S.p) (sz3 S.p), iaddr_ptr (un41 S.p) (sz4 S.p), part_sc (ag3 S.p), part_all (ag47 S.p) (sz47 S.p), part_at (ag47 S.p) (sz47 S.p), store_last (sz3 S.p), (sz3 S.p), store_last (sz4 S.p), (sz4 S.p), store_last (sz47 S.p), (sz47 S.p), hz, hpV, g0, e0, e1, e2, e3, e4, hq3, f81, splC, splice_one, beqI_t, beqI_f, bneI_t, bneI_f, bne_self_eq_false, idx_ok, cells_self, cells_other, Int.toNat_natCast, Nat.mul_one, Nat.zero_add, Nat.add_zero, wrap_i64]
    exact Ends.some rfl
set_option maxHeartbeats 8000000 in
theorem s56c (hd : 2 ≤ d) {n m : Nat} {c : Int} {V : MdV} (I : MdI n m c V) (hc : 1 ≤ c ∧ c ≤ 60) (e : EvV) {ob : Nat} {o : MonV} (ho : e.o = (ob : Int)) (hx : V.mons[ob]? = some o) {th : Nat} (ht : e.t = (th : Int)) (hth : th < n) (hk : e.k = 12) (lk : Nat) (h : List AO) :
    ev P T K d 56 [.ag (refC V), .ag e.cells] lk h = some (tupM V (intrV V e), h) := by
  obtain ⟨d, rfl⟩ : ∃ k, d = k + 1 := ⟨d - 1, by omega⟩
  refine ev_pure (at56 S.t) (refC_fr _ _) ?_
  unfold i56 Try.f56
  have hto : e.o.toNat = ob := by rw [ho]; rfl
  have hob := (List.getElem?_eq_some_iff.1 hx).1
  have hm8 := I.ok.m
  have hn8 := I.ok.n
  have hmc := I.mc
  have hfn := I.fn
  have hown := I.own ob o hx
  have h8 : ob < 8 := by omega
  have e0 := e.c0
  have e1 := e.c1
  have e2 := e.c2
  have e3 := e.c3
  have e4 := e.c4
  rw [ho] at e2
  rw [ht] at e1
  have hz := ze47r S
  have hpV := partV S V
  have g0 := refC_own V h8
  rw [ownR_of hx] at g0
  have f81 := fun lk h => s51 S (show 1 ≤ d by omega) V e.a lk h
  have hq3 : (o.own + 1 == (th : Int) + 1) = decide (o.own = e.t) := by
    rw [ht]
    by_cases q : o.own = (th : Int)
    · rw [decide_eq_true q, q]; exact beq_self_eq_true _
    · rw [decide_eq_false q]; exact beqI_f (by omega)
  rw [hk] at e0
  unfold intrV
  by_cases c0 : e.e = 0
  · by_cases ca : 0 ≤ e.a ∧ e.a < V.flags.length
    · rw [if_pos ⟨c0, ca⟩]
      rw [decide_eq_true ca] at f81
      obtain ⟨an, han⟩ := Int.eq_ofNat_of_zero_le ca.1
      have an8 : an < 8 := by omega
      have hal : an < V.flags.length := by omega
      have st := refC_setFlg an8 hal true
      have hpV2 := partV S (V.setF an true)
      rw [han] at e3 f81 ⊢
      rw [Int.toNat_natCast]
      rw [tupM_some]
      simp (maxSteps := 1000000) (disch := first | omega | (simp (disch := first | omega | (simp only [EvV.len, MonV.len, refC_len, List.length_append, List.length_cons, List.length_nil, List.length_set]; first | done | omega)) only [EvV.len, MonV.len, refC_len, amSide, Int.reduceToNat, Nat.reducePow, Nat.reduceMul]; first | done | omega)) only  [↓amPre, amPost, ↓s_lit', Nat.reduceAdd, Nat.reduceSub, List.replicate, retA, resultsA, resultA, toC, toCL, Nat.reduceEqDiff, (fa29_0 S.p), (fa29_1 S.p), (fa29_2 S.p), (fa29_3 S.p), (fa29_4 S.p), (fa47_3 S.p), (fa47_5 S.p), (fa47_6 S.p), iaddr_ptr (un40 S.p) (sz3 S.p), iaddr_ptr (un41 S.p) (sz4 S.p), part_sc (ag3 S.p), part_all (ag47 S.p) (sz47 S.p), part_at (ag47 S.p) (sz47 S.p), store_last (sz3 S.p), (sz3 S.p), store_last (sz4 S.p), (sz4 S.p), store_last (sz47 S.p), (sz47 S.p), hz, hpV, g0, e0, e1, e2, e3, e4, hq3, f81, st, hpV2, splC, splice_one, beqI_t, beqI_f, bneI_t, bneI_f, bne_self_eq_false, idx_ok, cells_self, cells_other, Int.toNat_natCast, Nat.mul_one, Nat.zero_add, Nat.add_zero, wrap_i64]
      exact Ends.some rfl
    · rw [if_neg (fun q => ca q.2)]
      rw [decide_eq_false ca] at f81
      rw [tupM_none]
      simp (maxSteps := 1000000) (disch := first | omega | (simp (disch := first | omega | (simp only [EvV.len, MonV.len, refC_len, List.length_append, List.length_cons, List.length_nil, List.length_set]; first | done | omega)) only [EvV.len, MonV.len, refC_len, amSide, Int.reduceToNat, Nat.reducePow, Nat.reduceMul]; first | done | omega)) only  [↓amPre, amPost, ↓s_lit', Nat.reduceAdd, Nat.reduceSub, List.replicate, retA, resultsA, resultA, toC, toCL, Nat.reduceEqDiff, (fa29_0 S.p), (fa29_1 S.p), (fa29_2 S.p), (fa29_3 S.p), (fa29_4 S.p), (fa47_3 S.p), (fa47_5 S.p), (fa47_6 S.p), iaddr_ptr (un40 S.p) (sz3 S.p), iaddr_ptr (un41 S.p) (sz4 S.p), part_sc (ag3 S.p), part_all (ag47 S.p) (sz47 S.p), part_at (ag47 S.p) (sz47 S.p), store_last (sz3 S.p), (sz3 S.p), store_last (sz4 S.p), (sz4 S.p), store_last (sz47 S.p), (sz47 S.p), hz, hpV, g0, e0, e1, e2, e3, e4, hq3, f81, splC, splice_one, beqI_t, beqI_f, bneI_t, bneI_f, bne_self_eq_false, idx_ok, cells_self, cells_other, Int.toNat_natCast, Nat.mul_one, Nat.zero_add, Nat.add_zero, wrap_i64]
      exact Ends.some rfl
  · rw [if_neg (fun q => c0 q.1)]
    rw [tupM_none]
    simp (maxSteps := 1000000) (disch := first | omega | (simp (disch := first | omega | (simp only [EvV.len, MonV.len, refC_len, List.length_append, List.length_cons, List.length_nil, List.length_set]; first | done | omega)) only [EvV.len, MonV.len, refC_len, amSide, Int.reduceToNat, Nat.reducePow, Nat.reduceMul]; first | done | omega)) only  [↓amPre, amPost, ↓s_lit', Nat.reduceAdd, Nat.reduceSub, List.replicate, retA, resultsA, resultA, toC, toCL, Nat.reduceEqDiff, (fa29_0 S.p), (fa29_1 S.p), (fa29_2 S.p), (fa29_3 S.p), (fa29_4 S.p), (fa47_3 S.p), (fa47_5 S.p), (fa47_6 S.p), iaddr_ptr (un40 S.p) (sz3 S.p), iaddr_ptr (un41 S.p) (sz4 S.p), part_sc (ag3 S.p), part_all (ag47 S.p) (sz47 S.p), part_at (ag47 S.p) (sz47 S.p), store_last (sz3 S.p), (sz3 S.p), store_last (sz4 S.p), (sz4 S.p), store_last (sz47 S.p), (sz47 S.p), hz, hpV, g0, e0, e1, e2, e3, e4, hq3, f81, splC, splice_one, beqI_t, beqI_f, bneI_t, bneI_f, bne_self_eq_false, idx_ok, cells_self, cells_other, Int.toNat_natCast, Nat.mul_one, Nat.zero_add, Nat.add_zero, wrap_i64]
    exact Ends.some rfl
end
end Go.AM
/- Monitors' model: a transition of the document's model. Conditions: none. -/
set_option linter.unusedVariables false
set_option linter.unusedSimpArgs false
set_option maxRecDepth 100000
-- NOTY: ze47, bu47
namespace Go.AM
open Go.Proofs
-- LENS: EvV.len, MonV.len, refC_len
/-- Hashes are none, or from 1 to the greatest one. -/
def MdH (V : MdV) : Prop := ∀ (i : Nat) o, V.mons[i]? = some o → 0 ≤ o.hsh ∧ o.hsh ≤ 2147483647
theorem MdH.set {V V' : MdV} (H : MdH V) (hV : V'.mons = V.mons) (ob : Nat) (y : MonV) (hy : ob < V.mons.length → 0 ≤ y.hsh ∧ y.hsh ≤ 2147483647) : MdH (V'.setM ob y) := fun i o ho => by
  simp only [MdV.setM, hV] at ho
  by_cases q : ob = i
  · subst q
    by_cases hl : ob < V.mons.length
    · rw [List.getElem?_set_self hl] at ho
      obtain rfl := Option.some.inj ho
      exact hy hl
    · rw [List.getElem?_eq_none (by rw [List.length_set]; omega)] at ho; cases ho
  · rw [List.getElem?_set_ne q] at ho
    exact H i o ho
theorem MdH.app {V W : MdV} {e : EvV} {f : Bool} (H : MdH V) (hA : applyV V e (V.mons.getD e.o.toNat ⟨-1, 0, 0⟩) f = some W) : MdH W := by
  have hw : e.o.toNat < V.mons.length → 0 ≤ (V.mons.getD e.o.toNat ⟨-1, 0, 0⟩).hsh ∧ (V.mons.getD e.o.toNat ⟨-1, 0, 0⟩).hsh ≤ 2147483647 := fun hl => by
    rw [List.getD_eq_getElem?_getD, List.getElem?_eq_getElem hl]
    exact H _ _ (List.getElem?_eq_getElem hl)
  generalize V.mons.getD e.o.toNat ⟨-1, 0, 0⟩ = o at hA hw
  unfold applyV at hA
  repeat' split at hA
  all_goals first
    | (cases hA; done)
    | (unfold enterV at hA)
    | (unfold exitV at hA)
    | (unfold beginV at hA)
    | (unfold leaveV at hA)
    | (unfold endV at hA)
    | (unfold tellV leaveV at hA)
    | (unfold hashV at hA)
    | (unfold holdsV at hA)
    | (unfold intrV at hA)
  all_goals (repeat' split at hA)
  all_goals first
    | (cases hA; done)
    | (obtain rfl := Option.some.inj hA; exact H)
    | (obtain rfl := Option.some.inj hA; exact H.set rfl _ _ hw)
    | (obtain rfl := Option.some.inj hA; exact MdH.set (V := V) (V' := V.setF _ _) H rfl _ _ hw)
    | (obtain rfl := Option.some.inj hA; rename_i hno; refine H.set rfl _ _ fun _ => ?_
       have h1 : 1 ≤ e.a ∧ e.a ≤ 2147483647 := by
         by_cases q : 1 ≤ e.a ∧ e.a ≤ 2147483647
         · exact q
         · exact absurd (Or.inr (Or.inl q)) hno
       exact ⟨by simp only; omega, by simp only; omega⟩)
theorem MdH.next {V : MdV} (H : MdH V) (e : EvV) : MdH (nextM V e) := by
  unfold nextM
  cases h : AppV V e with
  | none => exact H
  | some W => exact H.app (AppV_app h)
theorem no_of {V : MdV} {e : EvV} (h : AppV V e = none) : nextM V e = V ∧ codeM V e = 15 := ⟨by unfold nextM; rw [h]; rfl, by unfold codeM; rw [h]; rfl⟩
theorem yes_of {V W : MdV} {e : EvV} (h : AppV V e = some W) : nextM V e = W ∧ codeM V e = 0 := ⟨by unfold nextM; rw [h]; rfl, by unfold codeM; rw [h]; rfl⟩
section
variable {P : Program} {T : Tab} {K d : Nat} (S : Sd P T K)
include S
set_option maxHeartbeats 16000000 in
theorem s34 (hd : 4 ≤ d) {n m : Nat} {c : Int} {V : MdV} (I : MdI n m c V) (Wy : MdW V) (Hh : MdH V) (hc : 1 ≤ c ∧ c ≤ 60) (e : EvV) (lk : Nat) (h : List AO) :
    ev P T K d 34 [.ag (refC V), .ag e.cells] lk h = some (.tup [.ag (refC (nextM V e)), .sc (.int .i64 (codeM V e))], h) := by
  obtain ⟨d, rfl⟩ : ∃ k, d = k + 1 := ⟨d - 1, by omega⟩
  refine ev_pure (at34 S.t) (refC_fr2 _ _) ?_
  unfold i34 Try.f34
  have hm8 := I.ok.m
  have hn8 := I.ok.n
  have hfn := I.fn
  have hmn := I.mn
  have e0 := e.c0
  have e1 := e.c1
  have e2 := e.c2
  have e3 := e.c3
  have e4 := e.c4
  have hz := ze47r S
  have hpV := partV S V
  have hpe := partR S e
  have gm := refC_m V
  have f81 := fun lk h => s51 S (show 1 ≤ d by omega) V e.t lk h
  by_cases cT : 0 ≤ e.t ∧ e.t < V.flags.length
  rotate_left
  · rw [decide_eq_false cT] at f81
    have hA : AppV V e = none := by unfold AppV mayV; rw [decide_eq_false cT]; rfl
    obtain ⟨hn, hcode⟩ := no_of hA
    simp (maxSteps := 1000000) (disch := first | omega | (simp (disch := first | omega | (simp only [EvV.len, MonV.len, refC_len, List.length_append, List.length_cons, List.length_nil, List.length_set]; first | done | omega)) only [EvV.len, MonV.len, refC_len, amSide, Int.reduceToNat, Nat.reducePow, Nat.reduceMul]; first | done | omega)) only  [↓amPre, amPost, ↓s_lit', Nat.reduceAdd, Nat.reduceSub, List.replicate, retA, resultsA, resultA, toC, toCL, Nat.reduceEqDiff, (fa29_0 S.p), (fa29_1 S.p), (fa29_2 S.p), (fa29_3 S.p), (fa29_4 S.p), (fa47_1 S.p), (fa47_3 S.p), (fa47_4 S.p), iaddr_ptr (un40 S.p) (sz3 S.p), part_all (ag29 S.p) (sz29 S.p), part_at (ag29 S.p) (sz29 S.p), part_sc (ag3 S.p), part_all (ag47 S.p) (sz47 S.p), part_at (ag47 S.p) (sz47 S.p), store_last (sz3 S.p), (sz3 S.p), store_last (sz47 S.p), (sz47 S.p), hz, hpV, hpe, gm, e0, e1, e2, e3, e4, f81, splC, splice_one, beqI_t, beqI_f, bneI_t, bneI_f, bne_self_eq_false, idx_ok, cells_self, cells_other, Int.toNat_natCast, Nat.mul_one, Nat.zero_add, Nat.add_zero, wrap_i64]
    exact Ends.some (by rw [hn, hcode])
  rw [decide_eq_true cT] at f81
  by_cases cO : 0 ≤ e.o ∧ e.o < V.mons.length
  rotate_left
  · have hA : AppV V e = none := by unfold AppV mayV; rw [decide_eq_true cT, decide_eq_false cO]; rfl
    by_cases c0 : e.o < 0
    · skip
      obtain ⟨hn, hcode⟩ := no_of hA
      simp (maxSteps := 1000000) (disch := first | omega | (simp (disch := first | omega | (simp only [EvV.len, MonV.len, refC_len, List.length_append, List.length_cons, List.length_nil, List.length_set]; first | done | omega)) only [EvV.len, MonV.len, refC_len, amSide, Int.reduceToNat, Nat.reducePow, Nat.reduceMul]; first | done | omega)) only  [↓amPre, amPost, ↓s_lit', Nat.reduceAdd, Nat.reduceSub, List.replicate, retA, resultsA, resultA, toC, toCL, Nat.reduceEqDiff, (fa29_0 S.p), (fa29_1 S.p), (fa29_2 S.p), (fa29_3 S.p), (fa29_4 S.p), (fa47_1 S.p), (fa47_3 S.p), (fa47_4 S.p), iaddr_ptr (un40 S.p) (sz3 S.p), part_all (ag29 S.p) (sz29 S.p), part_at (ag29 S.p) (sz29 S.p), part_sc (ag3 S.p), part_all (ag47 S.p) (sz47 S.p), part_at (ag47 S.p) (sz47 S.p), store_last (sz3 S.p), (sz3 S.p), store_last (sz47 S.p), (sz47 S.p), hz, hpV, hpe, gm, e0, e1, e2, e3, e4, f81, dec_t, dec_f, splC, splice_one, beqI_t, beqI_f, bneI_t, bneI_f, bne_self_eq_false, idx_ok, cells_self, cells_other, Int.toNat_natCast, Nat.mul_one, Nat.zero_add, Nat.add_zero, wrap_i64]
      exact Ends.some (by rw [hn, hcode])
    · have c1 : e.o ≥ (V.mons.length : Int) := by omega
      obtain ⟨hn, hcode⟩ := no_of hA
      simp (maxSteps := 1000000) (disch := first | omega | (simp (disch := first | omega | (simp only [EvV.len, MonV.len, refC_len, List.length_append, List.length_cons, List.length_nil, List.length_set]; first | done | omega)) only [EvV.len, MonV.len, refC_len, amSide, Int.reduceToNat, Nat.reducePow, Nat.reduceMul]; first | done | omega)) only  [↓amPre, amPost, ↓s_lit', Nat.reduceAdd, Nat.reduceSub, List.replicate, retA, resultsA, resultA, toC, toCL, Nat.reduceEqDiff, (fa29_0 S.p), (fa29_1 S.p), (fa29_2 S.p), (fa29_3 S.p), (fa29_4 S.p), (fa47_1 S.p), (fa47_3 S.p), (fa47_4 S.p), iaddr_ptr (un40 S.p) (sz3 S.p), part_all (ag29 S.p) (sz29 S.p), part_at (ag29 S.p) (sz29 S.p), part_sc (ag3 S.p), part_all (ag47 S.p) (sz47 S.p), part_at (ag47 S.p) (sz47 S.p), store_last (sz3 S.p), (sz3 S.p), store_last (sz47 S.p), (sz47 S.p), hz, hpV, hpe, gm, e0, e1, e2, e3, e4, f81, dec_t, dec_f, splC, splice_one, beqI_t, beqI_f, bneI_t, bneI_f, bne_self_eq_false, idx_ok, cells_self, cells_other, Int.toNat_natCast, Nat.mul_one, Nat.zero_add, Nat.add_zero, wrap_i64]
      exact Ends.some (by rw [hn, hcode])
  obtain ⟨th, hth⟩ := Int.eq_ofNat_of_zero_le cT.1
  obtain ⟨ob, hob⟩ := Int.eq_ofNat_of_zero_le cO.1
  obtain ⟨o, ho⟩ : ∃ o, V.mons[ob]? = some o := ⟨_, List.getElem?_eq_getElem (by omega)⟩
  obtain ⟨f, hf⟩ : ∃ f, V.flags[th]? = some f := ⟨_, List.getElem?_eq_getElem (by omega)⟩
  have thn : th < n := by omega
  have hown := I.own ob o ho
  have hmc := I.mc
  have d1 : decide (e.o < 0) = false := decide_eq_false (by omega)
  have d2 : decide (e.o ≥ (V.mons.length : Int)) = false := decide_eq_false (by omega)
  have f82 := fun lk h => s52 S (show 1 ≤ d by omega) I (show th < 8 by omega) lk h
  rw [← hth] at f82
  have hMay : mayV V e = (decide (e.k = 5) || decide (e.k = 6) || !goneV V e.t) := by unfold mayV; rw [decide_eq_true cT, decide_eq_true cO]; rfl
  by_cases hg : goneV V e.t = true ∧ e.k ≠ 5 ∧ e.k ≠ 6
  · have hA : AppV V e = none := by
      have : mayV V e = false := by rw [hMay, decide_eq_false hg.2.1, decide_eq_false hg.2.2, hg.1]; rfl
      unfold AppV; rw [this]; rfl
    have k5 := hg.2.1
    have k6 := hg.2.2
    rw [hg.1] at f82
    obtain ⟨hn, hcode⟩ := no_of hA
    simp (maxSteps := 1000000) (disch := first | omega | (simp (disch := first | omega | (simp only [EvV.len, MonV.len, refC_len, List.length_append, List.length_cons, List.length_nil, List.length_set]; first | done | omega)) only [EvV.len, MonV.len, refC_len, amSide, Int.reduceToNat, Nat.reducePow, Nat.reduceMul]; first | done | omega)) only  [↓amPre, amPost, ↓s_lit', Nat.reduceAdd, Nat.reduceSub, List.replicate, retA, resultsA, resultA, toC, toCL, Nat.reduceEqDiff, (fa29_0 S.p), (fa29_1 S.p), (fa29_2 S.p), (fa29_3 S.p), (fa29_4 S.p), (fa47_1 S.p), (fa47_3 S.p), (fa47_4 S.p), iaddr_ptr (un40 S.p) (sz3 S.p), part_all (ag29 S.p) (sz29 S.p), part_at (ag29 S.p) (sz29 S.p), part_sc (ag3 S.p), part_all (ag47 S.p) (sz47 S.p), part_at (ag47 S.p) (sz47 S.p), store_last (sz3 S.p), (sz3 S.p), store_last (sz47 S.p), (sz47 S.p), hz, hpV, hpe, gm, e0, e1, e2, e3, e4, f81, d1, d2, f82, splC, splice_one, beqI_t, beqI_f, bneI_t, bneI_f, bne_self_eq_false, idx_ok, cells_self, cells_other, Int.toNat_natCast, Nat.mul_one, Nat.zero_add, Nat.add_zero, wrap_i64]
    exact Ends.some (by rw [hn, hcode])
  have hMt : mayV V e = true := by
    rw [hMay]
    cases hq : goneV V e.t with
    | false => simp
    | true =>
      by_cases k5 : e.k = 5
      · simp [k5]
      · by_cases k6 : e.k = 6
        · simp [k6]
        · exact absurd ⟨hq, k5, k6⟩ hg
  have hApp : AppV V e = applyV V e o f := by
    unfold AppV
    rw [hMt, if_pos rfl, hob, hth]
    simp only [Int.toNat_natCast, List.getD_eq_getElem?_getD, ho, hf, Option.getD_some]
  have hgo : e.k ≠ 5 → e.k ≠ 6 → goneV V e.t = false := fun a b => by
    cases hq : goneV V e.t with
    | false => rfl
    | true => exact absurd ⟨hq, a, b⟩ hg
  clear hg hMay
  by_cases k1 : e.k = 1
  · skip
    rw [hgo (by omega) (by omega)] at f82
    have hB : applyV V e o f = if e.a = 0 then enterV V e o else none := by unfold applyV; rw [if_pos (by omega)]
    have fc := fun lk h => s53 S (show 1 ≤ d by omega) I hc e hob ho hth thn lk h
    unfold tupM at fc
    cases hX : enterV V e o with
    | none =>
      have hA : AppV V e = none := by rw [hApp, hB, hX]; split <;> rfl
      rw [hX] at fc
      simp only [Option.getD_none, Option.isSome_none] at fc
      obtain ⟨hn, hcode⟩ := no_of hA
      simp (maxSteps := 1000000) (disch := first | omega | (simp (disch := first | omega | (simp only [EvV.len, MonV.len, refC_len, List.length_append, List.length_cons, List.length_nil, List.length_set]; first | done | omega)) only [EvV.len, MonV.len, refC_len, amSide, Int.reduceToNat, Nat.reducePow, Nat.reduceMul]; first | done | omega)) only  [↓amPre, amPost, ↓s_lit', Nat.reduceAdd, Nat.reduceSub, List.replicate, retA, resultsA, resultA, toC, toCL, Nat.reduceEqDiff, (fa29_0 S.p), (fa29_1 S.p), (fa29_2 S.p), (fa29_3 S.p), (fa29_4 S.p), (fa47_1 S.p), (fa47_3 S.p), (fa47_4 S.p), iaddr_ptr (un40 S.p) (sz3 S.p), part_all (ag29 S.p) (sz29 S.p), part_at (ag29 S.p) (sz29 S.p), part_sc (ag3 S.p), part_all (ag47 S.p) (sz47 S.p), part_at (ag47 S.p) (sz47 S.p), store_last (sz3 S.p), (sz3 S.p), store_last (sz47 S.p), (sz47 S.p), hz, hpV, hpe, gm, e0, e1, e2, e3, e4, f81, d1, d2, f82, fc, splC, splice_one, beqI_t, beqI_f, bneI_t, bneI_f, bne_self_eq_false, idx_ok, cells_self, cells_other, Int.toNat_natCast, Nat.mul_one, Nat.zero_add, Nat.add_zero, wrap_i64]
      exact Ends.some (by rw [hn, hcode])
    | some W =>
      rw [hX] at fc
      simp only [Option.getD_some, Option.isSome_some] at fc
      have hpW := partV S W
      by_cases ca : e.a = 0
      · obtain ⟨hn, hcode⟩ := yes_of (show AppV V e = some W by rw [hApp, hB, if_pos ca, hX])
        simp (maxSteps := 1000000) (disch := first | omega | (simp (disch := first | omega | (simp only [EvV.len, MonV.len, refC_len, List.length_append, List.length_cons, List.length_nil, List.length_set]; first | done | omega)) only [EvV.len, MonV.len, refC_len, amSide, Int.reduceToNat, Nat.reducePow, Nat.reduceMul]; first | done | omega)) only  [↓amPre, amPost, ↓s_lit', Nat.reduceAdd, Nat.reduceSub, List.replicate, retA, resultsA, resultA, toC, toCL, Nat.reduceEqDiff, (fa29_0 S.p), (fa29_1 S.p), (fa29_2 S.p), (fa29_3 S.p), (fa29_4 S.p), (fa47_1 S.p), (fa47_3 S.p), (fa47_4 S.p), iaddr_ptr (un40 S.p) (sz3 S.p), part_all (ag29 S.p) (sz29 S.p), part_at (ag29 S.p) (sz29 S.p), part_sc (ag3 S.p), part_all (ag47 S.p) (sz47 S.p), part_at (ag47 S.p) (sz47 S.p), store_last (sz3 S.p), (sz3 S.p), store_last (sz47 S.p), (sz47 S.p), hz, hpV, hpe, gm, e0, e1, e2, e3, e4, f81, d1, d2, f82, fc, hpW, splC, splice_one, beqI_t, beqI_f, bneI_t, bneI_f, bne_self_eq_false, idx_ok, cells_self, cells_other, Int.toNat_natCast, Nat.mul_one, Nat.zero_add, Nat.add_zero, wrap_i64]
        exact Ends.some (by rw [hn, hcode])
      · have hA : AppV V e = none := by rw [hApp, hB, if_neg ca]
        obtain ⟨hn, hcode⟩ := no_of hA
        simp (maxSteps := 1000000) (disch := first | omega | (simp (disch := first | omega | (simp only [EvV.len, MonV.len, refC_len, List.length_append, List.length_cons, List.length_nil, List.length_set]; first | done | omega)) only [EvV.len, MonV.len, refC_len, amSide, Int.reduceToNat, Nat.reducePow, Nat.reduceMul]; first | done | omega)) only  [↓amPre, amPost, ↓s_lit', Nat.reduceAdd, Nat.reduceSub, List.replicate, retA, resultsA, resultA, toC, toCL, Nat.reduceEqDiff, (fa29_0 S.p), (fa29_1 S.p), (fa29_2 S.p), (fa29_3 S.p), (fa29_4 S.p), (fa47_1 S.p), (fa47_3 S.p), (fa47_4 S.p), iaddr_ptr (un40 S.p) (sz3 S.p), part_all (ag29 S.p) (sz29 S.p), part_at (ag29 S.p) (sz29 S.p), part_sc (ag3 S.p), part_all (ag47 S.p) (sz47 S.p), part_at (ag47 S.p) (sz47 S.p), store_last (sz3 S.p), (sz3 S.p), store_last (sz47 S.p), (sz47 S.p), hz, hpV, hpe, gm, e0, e1, e2, e3, e4, f81, d1, d2, f82, fc, hpW, splC, splice_one, beqI_t, beqI_f, bneI_t, bneI_f, bne_self_eq_false, idx_ok, cells_self, cells_other, Int.toNat_natCast, Nat.mul_one, Nat.zero_add, Nat.add_zero, wrap_i64]
        exact Ends.some (by rw [hn, hcode])
  by_cases k2 : e.k = 2
  · skip
    rw [hgo (by omega) (by omega)] at f82
    have hB : applyV V e o f = if e.a = 0 then enterV V e o else none := by unfold applyV; rw [if_pos (by omega)]
    have fc := fun lk h => s53 S (show 1 ≤ d by omega) I hc e hob ho hth thn lk h
    unfold tupM at fc
    cases hX : enterV V e o with
    | none =>
      have hA : AppV V e = none := by rw [hApp, hB, hX]; split <;> rfl
      rw [hX] at fc
      simp only [Option.getD_none, Option.isSome_none] at fc
      obtain ⟨hn, hcode⟩ := no_of hA
      simp (maxSteps := 1000000) (disch := first | omega | (simp (disch := first | omega | (simp only [EvV.len, MonV.len, refC_len, List.length_append, List.length_cons, List.length_nil, List.length_set]; first | done | omega)) only [EvV.len, MonV.len, refC_len, amSide, Int.reduceToNat, Nat.reducePow, Nat.reduceMul]; first | done | omega)) only  [↓amPre, amPost, ↓s_lit', Nat.reduceAdd, Nat.reduceSub, List.replicate, retA, resultsA, resultA, toC, toCL, Nat.reduceEqDiff, (fa29_0 S.p), (fa29_1 S.p), (fa29_2 S.p), (fa29_3 S.p), (fa29_4 S.p), (fa47_1 S.p), (fa47_3 S.p), (fa47_4 S.p), iaddr_ptr (un40 S.p) (sz3 S.p), part_all (ag29 S.p) (sz29 S.p), part_at (ag29 S.p) (sz29 S.p), part_sc (ag3 S.p), part_all (ag47 S.p) (sz47 S.p), part_at (ag47 S.p) (sz47 S.p), store_last (sz3 S.p), (sz3 S.p), store_last (sz47 S.p), (sz47 S.p), hz, hpV, hpe, gm, e0, e1, e2, e3, e4, f81, d1, d2, f82, fc, splC, splice_one, beqI_t, beqI_f, bneI_t, bneI_f, bne_self_eq_false, idx_ok, cells_self, cells_other, Int.toNat_natCast, Nat.mul_one, Nat.zero_add, Nat.add_zero, wrap_i64]
      exact Ends.some (by rw [hn, hcode])
    | some W =>
      rw [hX] at fc
      simp only [Option.getD_some, Option.isSome_some] at fc
      have hpW := partV S W
      by_cases ca : e.a = 0
      · obtain ⟨hn, hcode⟩ := yes_of (show AppV V e = some W by rw [hApp, hB, if_pos ca, hX])
        simp (maxSteps := 1000000) (disch := first | omega | (simp (disch := first | omega | (simp only [EvV.len, MonV.len, refC_len, List.length_append, List.length_cons, List.length_nil, List.length_set]; first | done | omega)) only [EvV.len, MonV.len, refC_len, amSide, Int.reduceToNat, Nat.reducePow, Nat.reduceMul]; first | done | omega)) only  [↓amPre, amPost, ↓s_lit', Nat.reduceAdd, Nat.reduceSub, List.replicate, retA, resultsA, resultA, toC, toCL, Nat.reduceEqDiff, (fa29_0 S.p), (fa29_1 S.p), (fa29_2 S.p), (fa29_3 S.p), (fa29_4 S.p), (fa47_1 S.p), (fa47_3 S.p), (fa47_4 S.p), iaddr_ptr (un40 S.p) (sz3 S.p), part_all (ag29 S.p) (sz29 S.p), part_at (ag29 S.p) (sz29 S.p), part_sc (ag3 S.p), part_all (ag47 S.p) (sz47 S.p), part_at (ag47 S.p) (sz47 S.p), store_last (sz3 S.p), (sz3 S.p), store_last (sz47 S.p), (sz47 S.p), hz, hpV, hpe, gm, e0, e1, e2, e3, e4, f81, d1, d2, f82, fc, hpW, splC, splice_one, beqI_t, beqI_f, bneI_t, bneI_f, bne_self_eq_false, idx_ok, cells_self, cells_other, Int.toNat_natCast, Nat.mul_one, Nat.zero_add, Nat.add_zero, wrap_i64]
        exact Ends.some (by rw [hn, hcode])
      · have hA : AppV V e = none := by rw [hApp, hB, if_neg ca]
        obtain ⟨hn, hcode⟩ := no_of hA
        simp (maxSteps := 1000000) (disch := first | omega | (simp (disch := first | omega | (simp only [EvV.len, MonV.len, refC_len, List.length_append, List.length_cons, List.length_nil, List.length_set]; first | done | omega)) only [EvV.len, MonV.len, refC_len, amSide, Int.reduceToNat, Nat.reducePow, Nat.reduceMul]; first | done | omega)) only  [↓amPre, amPost, ↓s_lit', Nat.reduceAdd, Nat.reduceSub, List.replicate, retA, resultsA, resultA, toC, toCL, Nat.reduceEqDiff, (fa29_0 S.p), (fa29_1 S.p), (fa29_2 S.p), (fa29_3 S.p), (fa29_4 S.p), (fa47_1 S.p), (fa47_3 S.p), (fa47_4 S.p), iaddr_ptr (un40 S.p) (sz3 S.p), part_all (ag29 S.p) (sz29 S.p), part_at (ag29 S.p) (sz29 S.p), part_sc (ag3 S.p), part_all (ag47 S.p) (sz47 S.p), part_at (ag47 S.p) (sz47 S.p), store_last (sz3 S.p), (sz3 S.p), store_last (sz47 S.p), (sz47 S.p), hz, hpV, hpe, gm, e0, e1, e2, e3, e4, f81, d1, d2, f82, fc, hpW, splC, splice_one, beqI_t, beqI_f, bneI_t, bneI_f, bne_self_eq_false, idx_ok, cells_self, cells_other, Int.toNat_natCast, Nat.mul_one, Nat.zero_add, Nat.add_zero, wrap_i64]
        exact Ends.some (by rw [hn, hcode])
  by_cases k3 : e.k = 3
  · rw [hgo (by omega) (by omega)] at f82
    have hB : applyV V e o f = if e.a = 0 then exitV V e o else none := by unfold applyV; rw [if_neg (by omega), if_pos k3]
    have h8 : ob < 8 := by omega
    have g0 := refC_own V h8
    rw [ownR_of ho] at g0
    have g1 := refC_cnt V h8
    rw [cntR_of ho] at g1
    rw [hob] at e2 d1 d2
    have e1' := e1
    rw [hth] at e1'
    have hq3 : (o.own + 1 == e.t + 1) = decide (o.own = e.t) := by
      by_cases q : o.own = e.t
      · rw [decide_eq_true q, q]; exact beq_self_eq_true _
      · rw [decide_eq_false q]; exact beqI_f (by omega)
    by_cases ca : e.a = 0
    rotate_left
    · have hA : AppV V e = none := by rw [hApp, hB, if_neg ca]
      by_cases a2 : o.own = e.t
      · have z3 := decide_eq_true a2
        obtain ⟨hn, hcode⟩ := no_of hA
        simp (maxSteps := 1000000) (disch := first | omega | (simp (disch := first | omega | (simp only [EvV.len, MonV.len, refC_len, List.length_append, List.length_cons, List.length_nil, List.length_set]; first | done | omega)) only [EvV.len, MonV.len, refC_len, amSide, Int.reduceToNat, Nat.reducePow, Nat.reduceMul]; first | done | omega)) only  [↓amPre, amPost, ↓s_lit', Nat.reduceAdd, Nat.reduceSub, List.replicate, retA, resultsA, resultA, toC, toCL, Nat.reduceEqDiff, (fa29_0 S.p), (fa29_1 S.p), (fa29_2 S.p), (fa29_3 S.p), (fa29_4 S.p), (fa47_1 S.p), (fa47_3 S.p), (fa47_4 S.p), iaddr_ptr (un40 S.p) (sz3 S.p), part_all (ag29 S.p) (sz29 S.p), part_at (ag29 S.p) (sz29 S.p), part_sc (ag3 S.p), part_all (ag47 S.p) (sz47 S.p), part_at (ag47 S.p) (sz47 S.p), store_last (sz3 S.p), (sz3 S.p), store_last (sz47 S.p), (sz47 S.p), hz, hpV, hpe, gm, e0, e1, e2, e3, e4, f81, d1, d2, f82, g0, g1, hq3, z3, splC, splice_one, beqI_t, beqI_f, bneI_t, bneI_f, bne_self_eq_false, idx_ok, cells_self, cells_other, Int.toNat_natCast, Nat.mul_one, Nat.zero_add, Nat.add_zero, wrap_i64]
        exact Ends.some (by rw [hn, hcode])
      · have z3 := decide_eq_false a2
        obtain ⟨hn, hcode⟩ := no_of hA
        simp (maxSteps := 1000000) (disch := first | omega | (simp (disch := first | omega | (simp only [EvV.len, MonV.len, refC_len, List.length_append, List.length_cons, List.length_nil, List.length_set]; first | done | omega)) only [EvV.len, MonV.len, refC_len, amSide, Int.reduceToNat, Nat.reducePow, Nat.reduceMul]; first | done | omega)) only  [↓amPre, amPost, ↓s_lit', Nat.reduceAdd, Nat.reduceSub, List.replicate, retA, resultsA, resultA, toC, toCL, Nat.reduceEqDiff, (fa29_0 S.p), (fa29_1 S.p), (fa29_2 S.p), (fa29_3 S.p), (fa29_4 S.p), (fa47_1 S.p), (fa47_3 S.p), (fa47_4 S.p), iaddr_ptr (un40 S.p) (sz3 S.p), part_all (ag29 S.p) (sz29 S.p), part_at (ag29 S.p) (sz29 S.p), part_sc (ag3 S.p), part_all (ag47 S.p) (sz47 S.p), part_at (ag47 S.p) (sz47 S.p), store_last (sz3 S.p), (sz3 S.p), store_last (sz47 S.p), (sz47 S.p), hz, hpV, hpe, gm, e0, e1, e2, e3, e4, f81, d1, d2, f82, g0, g1, hq3, z3, splC, splice_one, beqI_t, beqI_f, bneI_t, bneI_f, bne_self_eq_false, idx_ok, cells_self, cells_other, Int.toNat_natCast, Nat.mul_one, Nat.zero_add, Nat.add_zero, wrap_i64]
        exact Ends.some (by rw [hn, hcode])
    rw [if_pos ca] at hB
    unfold exitV at hB
    by_cases a2 : o.own = e.t
    · have z3 := decide_eq_true a2
      by_cases c9 : e.e = 9
      · have hA : AppV V e = none := by rw [hApp, hB, if_pos c9, if_neg (fun q => q a2)]
        obtain ⟨hn, hcode⟩ := no_of hA
        simp (maxSteps := 1000000) (disch := first | omega | (simp (disch := first | omega | (simp only [EvV.len, MonV.len, refC_len, List.length_append, List.length_cons, List.length_nil, List.length_set]; first | done | omega)) only [EvV.len, MonV.len, refC_len, amSide, Int.reduceToNat, Nat.reducePow, Nat.reduceMul]; first | done | omega)) only  [↓amPre, amPost, ↓s_lit', Nat.reduceAdd, Nat.reduceSub, List.replicate, retA, resultsA, resultA, toC, toCL, Nat.reduceEqDiff, (fa29_0 S.p), (fa29_1 S.p), (fa29_2 S.p), (fa29_3 S.p), (fa29_4 S.p), (fa47_1 S.p), (fa47_3 S.p), (fa47_4 S.p), iaddr_ptr (un40 S.p) (sz3 S.p), part_all (ag29 S.p) (sz29 S.p), part_at (ag29 S.p) (sz29 S.p), part_sc (ag3 S.p), part_all (ag47 S.p) (sz47 S.p), part_at (ag47 S.p) (sz47 S.p), store_last (sz3 S.p), (sz3 S.p), store_last (sz47 S.p), (sz47 S.p), hz, hpV, hpe, gm, e0, e1, e2, e3, e4, f81, d1, d2, f82, g0, g1, hq3, z3, splC, splice_one, beqI_t, beqI_f, bneI_t, bneI_f, bne_self_eq_false, idx_ok, cells_self, cells_other, Int.toNat_natCast, Nat.mul_one, Nat.zero_add, Nat.add_zero, wrap_i64]
        exact Ends.some (by rw [hn, hcode])
      by_cases c0 : e.e = 0
      · rw [if_neg c9, if_neg (fun q => q.elim (fun q => q c0) (fun q => q a2)), hob, Int.toNat_natCast] at hB
        obtain ⟨hn, hcode⟩ := yes_of (hApp.trans hB)
        have st1 := refC_setCnt h8 ho (o.cnt - 1)
        have hobl := (List.getElem?_eq_some_iff.1 ho).1
        have hx2 : (V.setM ob ⟨o.own, o.cnt - 1, o.hsh⟩).mons[ob]? = some ⟨o.own, o.cnt - 1, o.hsh⟩ := List.getElem?_set_self hobl
        have g2 := refC_cnt (V.setM ob ⟨o.own, o.cnt - 1, o.hsh⟩) h8
        rw [cntR_of hx2] at g2
        have st2 := refC_setOwn h8 hx2 (-1)
        rw [show (-1 : Int) + 1 = 0 from rfl] at st2
        have hVV : (V.setM ob ⟨o.own, o.cnt - 1, o.hsh⟩).setM ob ⟨-1, o.cnt - 1, o.hsh⟩ = V.setM ob ⟨-1, o.cnt - 1, o.hsh⟩ := by simp [MdV.setM]
        simp only at st2
        rw [hVV] at st2
        by_cases cz : o.cnt - 1 = 0
        · rw [if_pos cz] at hn
          have hpW := partV S (V.setM ob ⟨-1, o.cnt - 1, o.hsh⟩)
          simp (maxSteps := 1000000) (disch := first | omega | (simp (disch := first | omega | (simp only [EvV.len, MonV.len, refC_len, List.length_append, List.length_cons, List.length_nil, List.length_set]; first | done | omega)) only [EvV.len, MonV.len, refC_len, amSide, Int.reduceToNat, Nat.reducePow, Nat.reduceMul]; first | done | omega)) only  [↓amPre, amPost, ↓s_lit', Nat.reduceAdd, Nat.reduceSub, List.replicate, retA, resultsA, resultA, toC, toCL, Nat.reduceEqDiff, (fa29_0 S.p), (fa29_1 S.p), (fa29_2 S.p), (fa29_3 S.p), (fa29_4 S.p), (fa47_1 S.p), (fa47_3 S.p), (fa47_4 S.p), iaddr_ptr (un40 S.p) (sz3 S.p), part_all (ag29 S.p) (sz29 S.p), part_at (ag29 S.p) (sz29 S.p), part_sc (ag3 S.p), part_all (ag47 S.p) (sz47 S.p), part_at (ag47 S.p) (sz47 S.p), store_last (sz3 S.p), (sz3 S.p), store_last (sz47 S.p), (sz47 S.p), hz, hpV, hpe, gm, e0, e1, e2, e3, e4, f81, d1, d2, f82, g0, g1, hq3, z3, st1, g2, st2, hpW, splC, splice_one, beqI_t, beqI_f, bneI_t, bneI_f, bne_self_eq_false, idx_ok, cells_self, cells_other, Int.toNat_natCast, Nat.mul_one, Nat.zero_add, Nat.add_zero, wrap_i64]
          exact Ends.some (by rw [hn, hcode])
        · rw [if_neg cz] at hn
          have hpW := partV S (V.setM ob ⟨o.own, o.cnt - 1, o.hsh⟩)
          simp (maxSteps := 1000000) (disch := first | omega | (simp (disch := first | omega | (simp only [EvV.len, MonV.len, refC_len, List.length_append, List.length_cons, List.length_nil, List.length_set]; first | done | omega)) only [EvV.len, MonV.len, refC_len, amSide, Int.reduceToNat, Nat.reducePow, Nat.reduceMul]; first | done | omega)) only  [↓amPre, amPost, ↓s_lit', Nat.reduceAdd, Nat.reduceSub, List.replicate, retA, resultsA, resultA, toC, toCL, Nat.reduceEqDiff, (fa29_0 S.p), (fa29_1 S.p), (fa29_2 S.p), (fa29_3 S.p), (fa29_4 S.p), (fa47_1 S.p), (fa47_3 S.p), (fa47_4 S.p), iaddr_ptr (un40 S.p) (sz3 S.p), part_all (ag29 S.p) (sz29 S.p), part_at (ag29 S.p) (sz29 S.p), part_sc (ag3 S.p), part_all (ag47 S.p) (sz47 S.p), part_at (ag47 S.p) (sz47 S.p), store_last (sz3 S.p), (sz3 S.p), store_last (sz47 S.p), (sz47 S.p), hz, hpV, hpe, gm, e0, e1, e2, e3, e4, f81, d1, d2, f82, g0, g1, hq3, z3, st1, g2, hpW, splC, splice_one, beqI_t, beqI_f, bneI_t, bneI_f, bne_self_eq_false, idx_ok, cells_self, cells_other, Int.toNat_natCast, Nat.mul_one, Nat.zero_add, Nat.add_zero, wrap_i64]
          exact Ends.some (by rw [hn, hcode])
      have hA : AppV V e = none := by rw [hApp, hB, if_neg c9, if_pos (Or.inl c0)]
      obtain ⟨hn, hcode⟩ := no_of hA
      simp (maxSteps := 1000000) (disch := first | omega | (simp (disch := first | omega | (simp only [EvV.len, MonV.len, refC_len, List.length_append, List.length_cons, List.length_nil, List.length_set]; first | done | omega)) only [EvV.len, MonV.len, refC_len, amSide, Int.reduceToNat, Nat.reducePow, Nat.reduceMul]; first | done | omega)) only  [↓amPre, amPost, ↓s_lit', Nat.reduceAdd, Nat.reduceSub, List.replicate, retA, resultsA, resultA, toC, toCL, Nat.reduceEqDiff, (fa29_0 S.p), (fa29_1 S.p), (fa29_2 S.p), (fa29_3 S.p), (fa29_4 S.p), (fa47_1 S.p), (fa47_3 S.p), (fa47_4 S.p), iaddr_ptr (un40 S.p) (sz3 S.p), part_all (ag29 S.p) (sz29 S.p), part_at (ag29 S.p) (sz29 S.p), part_sc (ag3 S.p), part_all (ag47 S.p) (sz47 S.p), part_at (ag47 S.p) (sz47 S.p), store_last (sz3 S.p), (sz3 S.p), store_last (sz47 S.p), (sz47 S.p), hz, hpV, hpe, gm, e0, e1, e2, e3, e4, f81, d1, d2, f82, g0, g1, hq3, z3, splC, splice_one, beqI_t, beqI_f, bneI_t, bneI_f, bne_self_eq_false, idx_ok, cells_self, cells_other, Int.toNat_natCast, Nat.mul_one, Nat.zero_add, Nat.add_zero, wrap_i64]
      exact Ends.some (by rw [hn, hcode])
    have z3 := decide_eq_false a2
    by_cases c9 : e.e = 9
    · rw [if_pos c9, if_pos a2] at hB
      obtain ⟨hn, hcode⟩ := yes_of (hApp.trans hB)
      simp (maxSteps := 1000000) (disch := first | omega | (simp (disch := first | omega | (simp only [EvV.len, MonV.len, refC_len, List.length_append, List.length_cons, List.length_nil, List.length_set]; first | done | omega)) only [EvV.len, MonV.len, refC_len, amSide, Int.reduceToNat, Nat.reducePow, Nat.reduceMul]; first | done | omega)) only  [↓amPre, amPost, ↓s_lit', Nat.reduceAdd, Nat.reduceSub, List.replicate, retA, resultsA, resultA, toC, toCL, Nat.reduceEqDiff, (fa29_0 S.p), (fa29_1 S.p), (fa29_2 S.p), (fa29_3 S.p), (fa29_4 S.p), (fa47_1 S.p), (fa47_3 S.p), (fa47_4 S.p), iaddr_ptr (un40 S.p) (sz3 S.p), part_all (ag29 S.p) (sz29 S.p), part_at (ag29 S.p) (sz29 S.p), part_sc (ag3 S.p), part_all (ag47 S.p) (sz47 S.p), part_at (ag47 S.p) (sz47 S.p), store_last (sz3 S.p), (sz3 S.p), store_last (sz47 S.p), (sz47 S.p), hz, hpV, hpe, gm, e0, e1, e2, e3, e4, f81, d1, d2, f82, g0, g1, hq3, z3, splC, splice_one, beqI_t, beqI_f, bneI_t, bneI_f, bne_self_eq_false, idx_ok, cells_self, cells_other, Int.toNat_natCast, Nat.mul_one, Nat.zero_add, Nat.add_zero, wrap_i64]
      exact Ends.some (by rw [hn, hcode])
    have hA : AppV V e = none := by rw [hApp, hB, if_neg c9, if_pos (Or.inr a2)]
    by_cases c0 : e.e = 0
    · skip
      obtain ⟨hn, hcode⟩ := no_of hA
      simp (maxSteps := 1000000) (disch := first | omega | (simp (disch := first | omega | (simp only [EvV.len, MonV.len, refC_len, List.length_append, List.length_cons, List.length_nil, List.length_set]; first | done | omega)) only [EvV.len, MonV.len, refC_len, amSide, Int.reduceToNat, Nat.reducePow, Nat.reduceMul]; first | done | omega)) only  [↓amPre, amPost, ↓s_lit', Nat.reduceAdd, Nat.reduceSub, List.replicate, retA, resultsA, resultA, toC, toCL, Nat.reduceEqDiff, (fa29_0 S.p), (fa29_1 S.p), (fa29_2 S.p), (fa29_3 S.p), (fa29_4 S.p), (fa47_1 S.p), (fa47_3 S.p), (fa47_4 S.p), iaddr_ptr (un40 S.p) (sz3 S.p), part_all (ag29 S.p) (sz29 S.p), part_at (ag29 S.p) (sz29 S.p), part_sc (ag3 S.p), part_all (ag47 S.p) (sz47 S.p), part_at (ag47 S.p) (sz47 S.p), store_last (sz3 S.p), (sz3 S.p), store_last (sz47 S.p), (sz47 S.p), hz, hpV, hpe, gm, e0, e1, e2, e3, e4, f81, d1, d2, f82, g0, g1, hq3, z3, splC, splice_one, beqI_t, beqI_f, bneI_t, bneI_f, bne_self_eq_false, idx_ok, cells_self, cells_other, Int.toNat_natCast, Nat.mul_one, Nat.zero_add, Nat.add_zero, wrap_i64]
      exact Ends.some (by rw [hn, hcode])
    obtain ⟨hn, hcode⟩ := no_of hA
    simp (maxSteps := 1000000) (disch := first | omega | (simp (disch := first | omega | (simp only [EvV.len, MonV.len, refC_len, List.length_append, List.length_cons, List.length_nil, List.length_set]; first | done | omega)) only [EvV.len, MonV.len, refC_len, amSide, Int.reduceToNat, Nat.reducePow, Nat.reduceMul]; first | done | omega)) only  [↓amPre, amPost, ↓s_lit', Nat.reduceAdd, Nat.reduceSub, List.replicate, retA, resultsA, resultA, toC, toCL, Nat.reduceEqDiff, (fa29_0 S.p), (fa29_1 S.p), (fa29_2 S.p), (fa29_3 S.p), (fa29_4 S.p), (fa47_1 S.p), (fa47_3 S.p), (fa47_4 S.p), iaddr_ptr (un40 S.p) (sz3 S.p), part_all (ag29 S.p) (sz29 S.p), part_at (ag29 S.p) (sz29 S.p), part_sc (ag3 S.p), part_all (ag47 S.p) (sz47 S.p), part_at (ag47 S.p) (sz47 S.p), store_last (sz3 S.p), (sz3 S.p), store_last (sz47 S.p), (sz47 S.p), hz, hpV, hpe, gm, e0, e1, e2, e3, e4, f81, d1, d2, f82, g0, g1, hq3, z3, splC, splice_one, beqI_t, beqI_f, bneI_t, bneI_f, bne_self_eq_false, idx_ok, cells_self, cells_other, Int.toNat_natCast, Nat.mul_one, Nat.zero_add, Nat.add_zero, wrap_i64]
    exact Ends.some (by rw [hn, hcode])
  by_cases k4 : e.k = 4
  · skip
    rw [hgo (by omega) (by omega)] at f82
    have hB : applyV V e o f = if e.a = 0 then beginV V e o f else none := by unfold applyV; rw [if_neg (by omega), if_neg (by omega), if_pos k4]
    by_cases hee : 0 ≤ e.e ∧ e.e < 100
    rotate_left
    · have hX : beginV V e o f = none := by
        unfold beginV; rw [if_neg (by omega), if_neg (by omega), if_neg (by omega), if_neg (by omega)]
      have hA : AppV V e = none := by rw [hApp, hB, hX]; split <;> rfl
      by_cases cg : e.e ≥ 0
      · have v1 : decide (e.e ≥ 0) = true := decide_eq_true cg
        have v2 : decide (e.e < 100) = false := decide_eq_false (fun q => hee ⟨cg, q⟩)
        obtain ⟨hn, hcode⟩ := no_of hA
        simp (maxSteps := 1000000) (disch := first | omega | (simp (disch := first | omega | (simp only [EvV.len, MonV.len, refC_len, List.length_append, List.length_cons, List.length_nil, List.length_set]; first | done | omega)) only [EvV.len, MonV.len, refC_len, amSide, Int.reduceToNat, Nat.reducePow, Nat.reduceMul]; first | done | omega)) only  [↓amPre, amPost, ↓s_lit', Nat.reduceAdd, Nat.reduceSub, List.replicate, retA, resultsA, resultA, toC, toCL, Nat.reduceEqDiff, (fa29_0 S.p), (fa29_1 S.p), (fa29_2 S.p), (fa29_3 S.p), (fa29_4 S.p), (fa47_1 S.p), (fa47_3 S.p), (fa47_4 S.p), iaddr_ptr (un40 S.p) (sz3 S.p), part_all (ag29 S.p) (sz29 S.p), part_at (ag29 S.p) (sz29 S.p), part_sc (ag3 S.p), part_all (ag47 S.p) (sz47 S.p), part_at (ag47 S.p) (sz47 S.p), store_last (sz3 S.p), (sz3 S.p), store_last (sz47 S.p), (sz47 S.p), hz, hpV, hpe, gm, e0, e1, e2, e3, e4, f81, d1, d2, f82, v1, v2, splC, splice_one, beqI_t, beqI_f, bneI_t, bneI_f, bne_self_eq_false, idx_ok, cells_self, cells_other, Int.toNat_natCast, Nat.mul_one, Nat.zero_add, Nat.add_zero, wrap_i64]
        exact Ends.some (by rw [hn, hcode])
      · have v1 : decide (e.e ≥ 0) = false := decide_eq_false cg
        obtain ⟨hn, hcode⟩ := no_of hA
        simp (maxSteps := 1000000) (disch := first | omega | (simp (disch := first | omega | (simp only [EvV.len, MonV.len, refC_len, List.length_append, List.length_cons, List.length_nil, List.length_set]; first | done | omega)) only [EvV.len, MonV.len, refC_len, amSide, Int.reduceToNat, Nat.reducePow, Nat.reduceMul]; first | done | omega)) only  [↓amPre, amPost, ↓s_lit', Nat.reduceAdd, Nat.reduceSub, List.replicate, retA, resultsA, resultA, toC, toCL, Nat.reduceEqDiff, (fa29_0 S.p), (fa29_1 S.p), (fa29_2 S.p), (fa29_3 S.p), (fa29_4 S.p), (fa47_1 S.p), (fa47_3 S.p), (fa47_4 S.p), iaddr_ptr (un40 S.p) (sz3 S.p), part_all (ag29 S.p) (sz29 S.p), part_at (ag29 S.p) (sz29 S.p), part_sc (ag3 S.p), part_all (ag47 S.p) (sz47 S.p), part_at (ag47 S.p) (sz47 S.p), store_last (sz3 S.p), (sz3 S.p), store_last (sz47 S.p), (sz47 S.p), hz, hpV, hpe, gm, e0, e1, e2, e3, e4, f81, d1, d2, f82, v1, splC, splice_one, beqI_t, beqI_f, bneI_t, bneI_f, bne_self_eq_false, idx_ok, cells_self, cells_other, Int.toNat_natCast, Nat.mul_one, Nat.zero_add, Nat.add_zero, wrap_i64]
        exact Ends.some (by rw [hn, hcode])
    have v1 : decide (e.e ≥ 0) = true := decide_eq_true hee.1
    have v2 : decide (e.e < 100) = true := decide_eq_true hee.2
    have hgw : getP ((ob : Int), (th : Int)) V.left = none ∧ getP ((ob : Int), (th : Int)) V.waits = none := by
      have := (goneV_false V e.t).1 (hgo (by omega) (by omega)) ob (by omega)
      rw [hth] at this
      exact ⟨this.2, this.1⟩
    have fc := fun lk h => s54a S (show 1 ≤ d by omega) I Wy hc e hob ho hth hf hee k4 hgw lk h
    unfold tupM at fc
    cases hX : beginV V e o f with
    | none =>
      have hA : AppV V e = none := by rw [hApp, hB, hX]; split <;> rfl
      rw [hX] at fc
      simp only [Option.getD_none, Option.isSome_none] at fc
      obtain ⟨hn, hcode⟩ := no_of hA
      simp (maxSteps := 1000000) (disch := first | omega | (simp (disch := first | omega | (simp only [EvV.len, MonV.len, refC_len, List.length_append, List.length_cons, List.length_nil, List.length_set]; first | done | omega)) only [EvV.len, MonV.len, refC_len, amSide, Int.reduceToNat, Nat.reducePow, Nat.reduceMul]; first | done | omega)) only  [↓amPre, amPost, ↓s_lit', Nat.reduceAdd, Nat.reduceSub, List.replicate, retA, resultsA, resultA, toC, toCL, Nat.reduceEqDiff, (fa29_0 S.p), (fa29_1 S.p), (fa29_2 S.p), (fa29_3 S.p), (fa29_4 S.p), (fa47_1 S.p), (fa47_3 S.p), (fa47_4 S.p), iaddr_ptr (un40 S.p) (sz3 S.p), part_all (ag29 S.p) (sz29 S.p), part_at (ag29 S.p) (sz29 S.p), part_sc (ag3 S.p), part_all (ag47 S.p) (sz47 S.p), part_at (ag47 S.p) (sz47 S.p), store_last (sz3 S.p), (sz3 S.p), store_last (sz47 S.p), (sz47 S.p), hz, hpV, hpe, gm, e0, e1, e2, e3, e4, f81, d1, d2, f82, v1, v2, fc, splC, splice_one, beqI_t, beqI_f, bneI_t, bneI_f, bne_self_eq_false, idx_ok, cells_self, cells_other, Int.toNat_natCast, Nat.mul_one, Nat.zero_add, Nat.add_zero, wrap_i64]
      exact Ends.some (by rw [hn, hcode])
    | some W =>
      rw [hX] at fc
      simp only [Option.getD_some, Option.isSome_some] at fc
      have hpW := partV S W
      by_cases ca : e.a = 0
      · obtain ⟨hn, hcode⟩ := yes_of (show AppV V e = some W by rw [hApp, hB, if_pos ca, hX])
        simp (maxSteps := 1000000) (disch := first | omega | (simp (disch := first | omega | (simp only [EvV.len, MonV.len, refC_len, List.length_append, List.length_cons, List.length_nil, List.length_set]; first | done | omega)) only [EvV.len, MonV.len, refC_len, amSide, Int.reduceToNat, Nat.reducePow, Nat.reduceMul]; first | done | omega)) only  [↓amPre, amPost, ↓s_lit', Nat.reduceAdd, Nat.reduceSub, List.replicate, retA, resultsA, resultA, toC, toCL, Nat.reduceEqDiff, (fa29_0 S.p), (fa29_1 S.p), (fa29_2 S.p), (fa29_3 S.p), (fa29_4 S.p), (fa47_1 S.p), (fa47_3 S.p), (fa47_4 S.p), iaddr_ptr (un40 S.p) (sz3 S.p), part_all (ag29 S.p) (sz29 S.p), part_at (ag29 S.p) (sz29 S.p), part_sc (ag3 S.p), part_all (ag47 S.p) (sz47 S.p), part_at (ag47 S.p) (sz47 S.p), store_last (sz3 S.p), (sz3 S.p), store_last (sz47 S.p), (sz47 S.p), hz, hpV, hpe, gm, e0, e1, e2, e3, e4, f81, d1, d2, f82, v1, v2, fc, hpW, splC, splice_one, beqI_t, beqI_f, bneI_t, bneI_f, bne_self_eq_false, idx_ok, cells_self, cells_other, Int.toNat_natCast, Nat.mul_one, Nat.zero_add, Nat.add_zero, wrap_i64]
        exact Ends.some (by rw [hn, hcode])
      · have hA : AppV V e = none := by rw [hApp, hB, if_neg ca]
        obtain ⟨hn, hcode⟩ := no_of hA
        simp (maxSteps := 1000000) (disch := first | omega | (simp (disch := first | omega | (simp only [EvV.len, MonV.len, refC_len, List.length_append, List.length_cons, List.length_nil, List.length_set]; first | done | omega)) only [EvV.len, MonV.len, refC_len, amSide, Int.reduceToNat, Nat.reducePow, Nat.reduceMul]; first | done | omega)) only  [↓amPre, amPost, ↓s_lit', Nat.reduceAdd, Nat.reduceSub, List.replicate, retA, resultsA, resultA, toC, toCL, Nat.reduceEqDiff, (fa29_0 S.p), (fa29_1 S.p), (fa29_2 S.p), (fa29_3 S.p), (fa29_4 S.p), (fa47_1 S.p), (fa47_3 S.p), (fa47_4 S.p), iaddr_ptr (un40 S.p) (sz3 S.p), part_all (ag29 S.p) (sz29 S.p), part_at (ag29 S.p) (sz29 S.p), part_sc (ag3 S.p), part_all (ag47 S.p) (sz47 S.p), part_at (ag47 S.p) (sz47 S.p), store_last (sz3 S.p), (sz3 S.p), store_last (sz47 S.p), (sz47 S.p), hz, hpV, hpe, gm, e0, e1, e2, e3, e4, f81, d1, d2, f82, v1, v2, fc, hpW, splC, splice_one, beqI_t, beqI_f, bneI_t, bneI_f, bne_self_eq_false, idx_ok, cells_self, cells_other, Int.toNat_natCast, Nat.mul_one, Nat.zero_add, Nat.add_zero, wrap_i64]
        exact Ends.some (by rw [hn, hcode])
  by_cases k5 : e.k = 5
  · skip
    have hB : applyV V e o f = if e.a = 0 then (if e.e = 13 ∨ e.e = 12 ∧ f = true then leaveV V (e.o, e.t) e.e else none) else none := by unfold applyV; rw [if_neg (by omega), if_neg (by omega), if_neg (by omega), if_pos k5]; by_cases ca : e.a = 0 <;> simp [ca]
    by_cases hee : 0 ≤ e.e ∧ e.e < 100
    rotate_left
    · have hX : (if e.e = 13 ∨ e.e = 12 ∧ f = true then leaveV V (e.o, e.t) e.e else none) = none := by
        rw [if_neg (by omega)]
      have hA : AppV V e = none := by rw [hApp, hB, hX]; split <;> rfl
      by_cases cg : e.e ≥ 0
      · have v1 : decide (e.e ≥ 0) = true := decide_eq_true cg
        have v2 : decide (e.e < 100) = false := decide_eq_false (fun q => hee ⟨cg, q⟩)
        obtain ⟨hn, hcode⟩ := no_of hA
        simp (maxSteps := 1000000) (disch := first | omega | (simp (disch := first | omega | (simp only [EvV.len, MonV.len, refC_len, List.length_append, List.length_cons, List.length_nil, List.length_set]; first | done | omega)) only [EvV.len, MonV.len, refC_len, amSide, Int.reduceToNat, Nat.reducePow, Nat.reduceMul]; first | done | omega)) only  [↓amPre, amPost, ↓s_lit', Nat.reduceAdd, Nat.reduceSub, List.replicate, retA, resultsA, resultA, toC, toCL, Nat.reduceEqDiff, (fa29_0 S.p), (fa29_1 S.p), (fa29_2 S.p), (fa29_3 S.p), (fa29_4 S.p), (fa47_1 S.p), (fa47_3 S.p), (fa47_4 S.p), iaddr_ptr (un40 S.p) (sz3 S.p), part_all (ag29 S.p) (sz29 S.p), part_at (ag29 S.p) (sz29 S.p), part_sc (ag3 S.p), part_all (ag47 S.p) (sz47 S.p), part_at (ag47 S.p) (sz47 S.p), store_last (sz3 S.p), (sz3 S.p), store_last (sz47 S.p), (sz47 S.p), hz, hpV, hpe, gm, e0, e1, e2, e3, e4, f81, d1, d2, f82, v1, v2, splC, splice_one, beqI_t, beqI_f, bneI_t, bneI_f, bne_self_eq_false, idx_ok, cells_self, cells_other, Int.toNat_natCast, Nat.mul_one, Nat.zero_add, Nat.add_zero, wrap_i64]
        exact Ends.some (by rw [hn, hcode])
      · have v1 : decide (e.e ≥ 0) = false := decide_eq_false cg
        obtain ⟨hn, hcode⟩ := no_of hA
        simp (maxSteps := 1000000) (disch := first | omega | (simp (disch := first | omega | (simp only [EvV.len, MonV.len, refC_len, List.length_append, List.length_cons, List.length_nil, List.length_set]; first | done | omega)) only [EvV.len, MonV.len, refC_len, amSide, Int.reduceToNat, Nat.reducePow, Nat.reduceMul]; first | done | omega)) only  [↓amPre, amPost, ↓s_lit', Nat.reduceAdd, Nat.reduceSub, List.replicate, retA, resultsA, resultA, toC, toCL, Nat.reduceEqDiff, (fa29_0 S.p), (fa29_1 S.p), (fa29_2 S.p), (fa29_3 S.p), (fa29_4 S.p), (fa47_1 S.p), (fa47_3 S.p), (fa47_4 S.p), iaddr_ptr (un40 S.p) (sz3 S.p), part_all (ag29 S.p) (sz29 S.p), part_at (ag29 S.p) (sz29 S.p), part_sc (ag3 S.p), part_all (ag47 S.p) (sz47 S.p), part_at (ag47 S.p) (sz47 S.p), store_last (sz3 S.p), (sz3 S.p), store_last (sz47 S.p), (sz47 S.p), hz, hpV, hpe, gm, e0, e1, e2, e3, e4, f81, d1, d2, f82, v1, splC, splice_one, beqI_t, beqI_f, bneI_t, bneI_f, bne_self_eq_false, idx_ok, cells_self, cells_other, Int.toNat_natCast, Nat.mul_one, Nat.zero_add, Nat.add_zero, wrap_i64]
        exact Ends.some (by rw [hn, hcode])
    have v1 : decide (e.e ≥ 0) = true := decide_eq_true hee.1
    have v2 : decide (e.e < 100) = true := decide_eq_true hee.2
    have fc := fun lk h => s54b S (show 1 ≤ d by omega) I Wy hc e hob ho hth hf hee k5 lk h
    unfold tupM at fc
    cases hX : (if e.e = 13 ∨ e.e = 12 ∧ f = true then leaveV V (e.o, e.t) e.e else none) with
    | none =>
      have hA : AppV V e = none := by rw [hApp, hB, hX]; split <;> rfl
      rw [hX] at fc
      simp only [Option.getD_none, Option.isSome_none] at fc
      obtain ⟨hn, hcode⟩ := no_of hA
      simp (maxSteps := 1000000) (disch := first | omega | (simp (disch := first | omega | (simp only [EvV.len, MonV.len, refC_len, List.length_append, List.length_cons, List.length_nil, List.length_set]; first | done | omega)) only [EvV.len, MonV.len, refC_len, amSide, Int.reduceToNat, Nat.reducePow, Nat.reduceMul]; first | done | omega)) only  [↓amPre, amPost, ↓s_lit', Nat.reduceAdd, Nat.reduceSub, List.replicate, retA, resultsA, resultA, toC, toCL, Nat.reduceEqDiff, (fa29_0 S.p), (fa29_1 S.p), (fa29_2 S.p), (fa29_3 S.p), (fa29_4 S.p), (fa47_1 S.p), (fa47_3 S.p), (fa47_4 S.p), iaddr_ptr (un40 S.p) (sz3 S.p), part_all (ag29 S.p) (sz29 S.p), part_at (ag29 S.p) (sz29 S.p), part_sc (ag3 S.p), part_all (ag47 S.p) (sz47 S.p), part_at (ag47 S.p) (sz47 S.p), store_last (sz3 S.p), (sz3 S.p), store_last (sz47 S.p), (sz47 S.p), hz, hpV, hpe, gm, e0, e1, e2, e3, e4, f81, d1, d2, f82, v1, v2, fc, splC, splice_one, beqI_t, beqI_f, bneI_t, bneI_f, bne_self_eq_false, idx_ok, cells_self, cells_other, Int.toNat_natCast, Nat.mul_one, Nat.zero_add, Nat.add_zero, wrap_i64]
      exact Ends.some (by rw [hn, hcode])
    | some W =>
      rw [hX] at fc
      simp only [Option.getD_some, Option.isSome_some] at fc
      have hpW := partV S W
      by_cases ca : e.a = 0
      · obtain ⟨hn, hcode⟩ := yes_of (show AppV V e = some W by rw [hApp, hB, if_pos ca, hX])
        simp (maxSteps := 1000000) (disch := first | omega | (simp (disch := first | omega | (simp only [EvV.len, MonV.len, refC_len, List.length_append, List.length_cons, List.length_nil, List.length_set]; first | done | omega)) only [EvV.len, MonV.len, refC_len, amSide, Int.reduceToNat, Nat.reducePow, Nat.reduceMul]; first | done | omega)) only  [↓amPre, amPost, ↓s_lit', Nat.reduceAdd, Nat.reduceSub, List.replicate, retA, resultsA, resultA, toC, toCL, Nat.reduceEqDiff, (fa29_0 S.p), (fa29_1 S.p), (fa29_2 S.p), (fa29_3 S.p), (fa29_4 S.p), (fa47_1 S.p), (fa47_3 S.p), (fa47_4 S.p), iaddr_ptr (un40 S.p) (sz3 S.p), part_all (ag29 S.p) (sz29 S.p), part_at (ag29 S.p) (sz29 S.p), part_sc (ag3 S.p), part_all (ag47 S.p) (sz47 S.p), part_at (ag47 S.p) (sz47 S.p), store_last (sz3 S.p), (sz3 S.p), store_last (sz47 S.p), (sz47 S.p), hz, hpV, hpe, gm, e0, e1, e2, e3, e4, f81, d1, d2, f82, v1, v2, fc, hpW, splC, splice_one, beqI_t, beqI_f, bneI_t, bneI_f, bne_self_eq_false, idx_ok, cells_self, cells_other, Int.toNat_natCast, Nat.mul_one, Nat.zero_add, Nat.add_zero, wrap_i64]
        exact Ends.some (by rw [hn, hcode])
      · have hA : AppV V e = none := by rw [hApp, hB, if_neg ca]
        obtain ⟨hn, hcode⟩ := no_of hA
        simp (maxSteps := 1000000) (disch := first | omega | (simp (disch := first | omega | (simp only [EvV.len, MonV.len, refC_len, List.length_append, List.length_cons, List.length_nil, List.length_set]; first | done | omega)) only [EvV.len, MonV.len, refC_len, amSide, Int.reduceToNat, Nat.reducePow, Nat.reduceMul]; first | done | omega)) only  [↓amPre, amPost, ↓s_lit', Nat.reduceAdd, Nat.reduceSub, List.replicate, retA, resultsA, resultA, toC, toCL, Nat.reduceEqDiff, (fa29_0 S.p), (fa29_1 S.p), (fa29_2 S.p), (fa29_3 S.p), (fa29_4 S.p), (fa47_1 S.p), (fa47_3 S.p), (fa47_4 S.p), iaddr_ptr (un40 S.p) (sz3 S.p), part_all (ag29 S.p) (sz29 S.p), part_at (ag29 S.p) (sz29 S.p), part_sc (ag3 S.p), part_all (ag47 S.p) (sz47 S.p), part_at (ag47 S.p) (sz47 S.p), store_last (sz3 S.p), (sz3 S.p), store_last (sz47 S.p), (sz47 S.p), hz, hpV, hpe, gm, e0, e1, e2, e3, e4, f81, d1, d2, f82, v1, v2, fc, hpW, splC, splice_one, beqI_t, beqI_f, bneI_t, bneI_f, bne_self_eq_false, idx_ok, cells_self, cells_other, Int.toNat_natCast, Nat.mul_one, Nat.zero_add, Nat.add_zero, wrap_i64]
        exact Ends.some (by rw [hn, hcode])
  by_cases k6 : e.k = 6
  · skip
    have hB : applyV V e o f = if e.a = 0 then endV V e o else none := by unfold applyV; rw [if_neg (by omega), if_neg (by omega), if_neg (by omega), if_neg (by omega), if_pos k6]
    by_cases hee : 0 ≤ e.e ∧ e.e < 100
    rotate_left
    · have hX : endV V e o = none := by
        unfold endV
        cases hg : getP (e.o, e.t) V.left with
        | none => rfl
        | some l =>
          have hw := Wy _ (getP_mem hg)
          simp only at hw
          simp only
          rw [if_pos (Or.inr (by omega))]
      have hA : AppV V e = none := by rw [hApp, hB, hX]; split <;> rfl
      by_cases cg : e.e ≥ 0
      · have v1 : decide (e.e ≥ 0) = true := decide_eq_true cg
        have v2 : decide (e.e < 100) = false := decide_eq_false (fun q => hee ⟨cg, q⟩)
        obtain ⟨hn, hcode⟩ := no_of hA
        simp (maxSteps := 1000000) (disch := first | omega | (simp (disch := first | omega | (simp only [EvV.len, MonV.len, refC_len, List.length_append, List.length_cons, List.length_nil, List.length_set]; first | done | omega)) only [EvV.len, MonV.len, refC_len, amSide, Int.reduceToNat, Nat.reducePow, Nat.reduceMul]; first | done | omega)) only  [↓amPre, amPost, ↓s_lit', Nat.reduceAdd, Nat.reduceSub, List.replicate, retA, resultsA, resultA, toC, toCL, Nat.reduceEqDiff, (fa29_0 S.p), (fa29_1 S.p), (fa29_2 S.p), (fa29_3 S.p), (fa29_4 S.p), (fa47_1 S.p), (fa47_3 S.p), (fa47_4 S.p), iaddr_ptr (un40 S.p) (sz3 S.p), part_all (ag29 S.p) (sz29 S.p), part_at (ag29 S.p) (sz29 S.p), part_sc (ag3 S.p), part_all (ag47 S.p) (sz47 S.p), part_at (ag47 S.p) (sz47 S.p), store_last (sz3 S.p), (sz3 S.p), store_last (sz47 S.p), (sz47 S.p), hz, hpV, hpe, gm, e0, e1, e2, e3, e4, f81, d1, d2, f82, v1, v2, splC, splice_one, beqI_t, beqI_f, bneI_t, bneI_f, bne_self_eq_false, idx_ok, cells_self, cells_other, Int.toNat_natCast, Nat.mul_one, Nat.zero_add, Nat.add_zero, wrap_i64]
        exact Ends.some (by rw [hn, hcode])
      · have v1 : decide (e.e ≥ 0) = false := decide_eq_false cg
        obtain ⟨hn, hcode⟩ := no_of hA
        simp (maxSteps := 1000000) (disch := first | omega | (simp (disch := first | omega | (simp only [EvV.len, MonV.len, refC_len, List.length_append, List.length_cons, List.length_nil, List.length_set]; first | done | omega)) only [EvV.len, MonV.len, refC_len, amSide, Int.reduceToNat, Nat.reducePow, Nat.reduceMul]; first | done | omega)) only  [↓amPre, amPost, ↓s_lit', Nat.reduceAdd, Nat.reduceSub, List.replicate, retA, resultsA, resultA, toC, toCL, Nat.reduceEqDiff, (fa29_0 S.p), (fa29_1 S.p), (fa29_2 S.p), (fa29_3 S.p), (fa29_4 S.p), (fa47_1 S.p), (fa47_3 S.p), (fa47_4 S.p), iaddr_ptr (un40 S.p) (sz3 S.p), part_all (ag29 S.p) (sz29 S.p), part_at (ag29 S.p) (sz29 S.p), part_sc (ag3 S.p), part_all (ag47 S.p) (sz47 S.p), part_at (ag47 S.p) (sz47 S.p), store_last (sz3 S.p), (sz3 S.p), store_last (sz47 S.p), (sz47 S.p), hz, hpV, hpe, gm, e0, e1, e2, e3, e4, f81, d1, d2, f82, v1, splC, splice_one, beqI_t, beqI_f, bneI_t, bneI_f, bne_self_eq_false, idx_ok, cells_self, cells_other, Int.toNat_natCast, Nat.mul_one, Nat.zero_add, Nat.add_zero, wrap_i64]
        exact Ends.some (by rw [hn, hcode])
    have v1 : decide (e.e ≥ 0) = true := decide_eq_true hee.1
    have v2 : decide (e.e < 100) = true := decide_eq_true hee.2
    have fc := fun lk h => s54c S (show 1 ≤ d by omega) I Wy hc e hob ho hth hf hee k6 lk h
    unfold tupM at fc
    cases hX : endV V e o with
    | none =>
      have hA : AppV V e = none := by rw [hApp, hB, hX]; split <;> rfl
      rw [hX] at fc
      simp only [Option.getD_none, Option.isSome_none] at fc
      obtain ⟨hn, hcode⟩ := no_of hA
      simp (maxSteps := 1000000) (disch := first | omega | (simp (disch := first | omega | (simp only [EvV.len, MonV.len, refC_len, List.length_append, List.length_cons, List.length_nil, List.length_set]; first | done | omega)) only [EvV.len, MonV.len, refC_len, amSide, Int.reduceToNat, Nat.reducePow, Nat.reduceMul]; first | done | omega)) only  [↓amPre, amPost, ↓s_lit', Nat.reduceAdd, Nat.reduceSub, List.replicate, retA, resultsA, resultA, toC, toCL, Nat.reduceEqDiff, (fa29_0 S.p), (fa29_1 S.p), (fa29_2 S.p), (fa29_3 S.p), (fa29_4 S.p), (fa47_1 S.p), (fa47_3 S.p), (fa47_4 S.p), iaddr_ptr (un40 S.p) (sz3 S.p), part_all (ag29 S.p) (sz29 S.p), part_at (ag29 S.p) (sz29 S.p), part_sc (ag3 S.p), part_all (ag47 S.p) (sz47 S.p), part_at (ag47 S.p) (sz47 S.p), store_last (sz3 S.p), (sz3 S.p), store_last (sz47 S.p), (sz47 S.p), hz, hpV, hpe, gm, e0, e1, e2, e3, e4, f81, d1, d2, f82, v1, v2, fc, splC, splice_one, beqI_t, beqI_f, bneI_t, bneI_f, bne_self_eq_false, idx_ok, cells_self, cells_other, Int.toNat_natCast, Nat.mul_one, Nat.zero_add, Nat.add_zero, wrap_i64]
      exact Ends.some (by rw [hn, hcode])
    | some W =>
      rw [hX] at fc
      simp only [Option.getD_some, Option.isSome_some] at fc
      have hpW := partV S W
      by_cases ca : e.a = 0
      · obtain ⟨hn, hcode⟩ := yes_of (show AppV V e = some W by rw [hApp, hB, if_pos ca, hX])
        simp (maxSteps := 1000000) (disch := first | omega | (simp (disch := first | omega | (simp only [EvV.len, MonV.len, refC_len, List.length_append, List.length_cons, List.length_nil, List.length_set]; first | done | omega)) only [EvV.len, MonV.len, refC_len, amSide, Int.reduceToNat, Nat.reducePow, Nat.reduceMul]; first | done | omega)) only  [↓amPre, amPost, ↓s_lit', Nat.reduceAdd, Nat.reduceSub, List.replicate, retA, resultsA, resultA, toC, toCL, Nat.reduceEqDiff, (fa29_0 S.p), (fa29_1 S.p), (fa29_2 S.p), (fa29_3 S.p), (fa29_4 S.p), (fa47_1 S.p), (fa47_3 S.p), (fa47_4 S.p), iaddr_ptr (un40 S.p) (sz3 S.p), part_all (ag29 S.p) (sz29 S.p), part_at (ag29 S.p) (sz29 S.p), part_sc (ag3 S.p), part_all (ag47 S.p) (sz47 S.p), part_at (ag47 S.p) (sz47 S.p), store_last (sz3 S.p), (sz3 S.p), store_last (sz47 S.p), (sz47 S.p), hz, hpV, hpe, gm, e0, e1, e2, e3, e4, f81, d1, d2, f82, v1, v2, fc, hpW, splC, splice_one, beqI_t, beqI_f, bneI_t, bneI_f, bne_self_eq_false, idx_ok, cells_self, cells_other, Int.toNat_natCast, Nat.mul_one, Nat.zero_add, Nat.add_zero, wrap_i64]
        exact Ends.some (by rw [hn, hcode])
      · have hA : AppV V e = none := by rw [hApp, hB, if_neg ca]
        obtain ⟨hn, hcode⟩ := no_of hA
        simp (maxSteps := 1000000) (disch := first | omega | (simp (disch := first | omega | (simp only [EvV.len, MonV.len, refC_len, List.length_append, List.length_cons, List.length_nil, List.length_set]; first | done | omega)) only [EvV.len, MonV.len, refC_len, amSide, Int.reduceToNat, Nat.reducePow, Nat.reduceMul]; first | done | omega)) only  [↓amPre, amPost, ↓s_lit', Nat.reduceAdd, Nat.reduceSub, List.replicate, retA, resultsA, resultA, toC, toCL, Nat.reduceEqDiff, (fa29_0 S.p), (fa29_1 S.p), (fa29_2 S.p), (fa29_3 S.p), (fa29_4 S.p), (fa47_1 S.p), (fa47_3 S.p), (fa47_4 S.p), iaddr_ptr (un40 S.p) (sz3 S.p), part_all (ag29 S.p) (sz29 S.p), part_at (ag29 S.p) (sz29 S.p), part_sc (ag3 S.p), part_all (ag47 S.p) (sz47 S.p), part_at (ag47 S.p) (sz47 S.p), store_last (sz3 S.p), (sz3 S.p), store_last (sz47 S.p), (sz47 S.p), hz, hpV, hpe, gm, e0, e1, e2, e3, e4, f81, d1, d2, f82, v1, v2, fc, hpW, splC, splice_one, beqI_t, beqI_f, bneI_t, bneI_f, bne_self_eq_false, idx_ok, cells_self, cells_other, Int.toNat_natCast, Nat.mul_one, Nat.zero_add, Nat.add_zero, wrap_i64]
        exact Ends.some (by rw [hn, hcode])
  by_cases k7 : e.k = 7
  · skip
    rw [hgo (by omega) (by omega)] at f82
    have hB : applyV V e o f = tellV V e o := by unfold applyV; rw [if_neg (by omega), if_neg (by omega), if_neg (by omega), if_neg (by omega), if_neg (by omega), if_pos (by omega)]
    have fc := fun lk h => s55a S (show 2 ≤ d by omega) I hc e hob ho hth thn k7 lk h
    unfold tupM at fc
    cases hX : tellV V e o with
    | none =>
      have hA : AppV V e = none := by rw [hApp, hB, hX]
      rw [hX] at fc
      simp only [Option.getD_none, Option.isSome_none] at fc
      obtain ⟨hn, hcode⟩ := no_of hA
      simp (maxSteps := 1000000) (disch := first | omega | (simp (disch := first | omega | (simp only [EvV.len, MonV.len, refC_len, List.length_append, List.length_cons, List.length_nil, List.length_set]; first | done | omega)) only [EvV.len, MonV.len, refC_len, amSide, Int.reduceToNat, Nat.reducePow, Nat.reduceMul]; first | done | omega)) only  [↓amPre, amPost, ↓s_lit', Nat.reduceAdd, Nat.reduceSub, List.replicate, retA, resultsA, resultA, toC, toCL, Nat.reduceEqDiff, (fa29_0 S.p), (fa29_1 S.p), (fa29_2 S.p), (fa29_3 S.p), (fa29_4 S.p), (fa47_1 S.p), (fa47_3 S.p), (fa47_4 S.p), iaddr_ptr (un40 S.p) (sz3 S.p), part_all (ag29 S.p) (sz29 S.p), part_at (ag29 S.p) (sz29 S.p), part_sc (ag3 S.p), part_all (ag47 S.p) (sz47 S.p), part_at (ag47 S.p) (sz47 S.p), store_last (sz3 S.p), (sz3 S.p), store_last (sz47 S.p), (sz47 S.p), hz, hpV, hpe, gm, e0, e1, e2, e3, e4, f81, d1, d2, f82, fc, splC, splice_one, beqI_t, beqI_f, bneI_t, bneI_f, bne_self_eq_false, idx_ok, cells_self, cells_other, Int.toNat_natCast, Nat.mul_one, Nat.zero_add, Nat.add_zero, wrap_i64]
      exact Ends.some (by rw [hn, hcode])
    | some W =>
      rw [hX] at fc
      simp only [Option.getD_some, Option.isSome_some] at fc
      have hpW := partV S W
      obtain ⟨hn, hcode⟩ := yes_of (show AppV V e = some W by rw [hApp, hB, hX])
      simp (maxSteps := 1000000) (disch := first | omega | (simp (disch := first | omega | (simp only [EvV.len, MonV.len, refC_len, List.length_append, List.length_cons, List.length_nil, List.length_set]; first | done | omega)) only [EvV.len, MonV.len, refC_len, amSide, Int.reduceToNat, Nat.reducePow, Nat.reduceMul]; first | done | omega)) only  [↓amPre, amPost, ↓s_lit', Nat.reduceAdd, Nat.reduceSub, List.replicate, retA, resultsA, resultA, toC, toCL, Nat.reduceEqDiff, (fa29_0 S.p), (fa29_1 S.p), (fa29_2 S.p), (fa29_3 S.p), (fa29_4 S.p), (fa47_1 S.p), (fa47_3 S.p), (fa47_4 S.p), iaddr_ptr (un40 S.p) (sz3 S.p), part_all (ag29 S.p) (sz29 S.p), part_at (ag29 S.p) (sz29 S.p), part_sc (ag3 S.p), part_all (ag47 S.p) (sz47 S.p), part_at (ag47 S.p) (sz47 S.p), store_last (sz3 S.p), (sz3 S.p), store_last (sz47 S.p), (sz47 S.p), hz, hpV, hpe, gm, e0, e1, e2, e3, e4, f81, d1, d2, f82, fc, hpW, splC, splice_one, beqI_t, beqI_f, bneI_t, bneI_f, bne_self_eq_false, idx_ok, cells_self, cells_other, Int.toNat_natCast, Nat.mul_one, Nat.zero_add, Nat.add_zero, wrap_i64]
      exact Ends.some (by rw [hn, hcode])
  by_cases k8 : e.k = 8
  · skip
    rw [hgo (by omega) (by omega)] at f82
    have hB : applyV V e o f = tellV V e o := by unfold applyV; rw [if_neg (by omega), if_neg (by omega), if_neg (by omega), if_neg (by omega), if_neg (by omega), if_pos (by omega)]
    have fc := fun lk h => s55b S (show 2 ≤ d by omega) I hc e hob ho hth thn k8 lk h
    unfold tupM at fc
    cases hX : tellV V e o with
    | none =>
      have hA : AppV V e = none := by rw [hApp, hB, hX]
      rw [hX] at fc
      simp only [Option.getD_none, Option.isSome_none] at fc
      obtain ⟨hn, hcode⟩ := no_of hA
      simp (maxSteps := 1000000) (disch := first | omega | (simp (disch := first | omega | (simp only [EvV.len, MonV.len, refC_len, List.length_append, List.length_cons, List.length_nil, List.length_set]; first | done | omega)) only [EvV.len, MonV.len, refC_len, amSide, Int.reduceToNat, Nat.reducePow, Nat.reduceMul]; first | done | omega)) only  [↓amPre, amPost, ↓s_lit', Nat.reduceAdd, Nat.reduceSub, List.replicate, retA, resultsA, resultA, toC, toCL, Nat.reduceEqDiff, (fa29_0 S.p), (fa29_1 S.p), (fa29_2 S.p), (fa29_3 S.p), (fa29_4 S.p), (fa47_1 S.p), (fa47_3 S.p), (fa47_4 S.p), iaddr_ptr (un40 S.p) (sz3 S.p), part_all (ag29 S.p) (sz29 S.p), part_at (ag29 S.p) (sz29 S.p), part_sc (ag3 S.p), part_all (ag47 S.p) (sz47 S.p), part_at (ag47 S.p) (sz47 S.p), store_last (sz3 S.p), (sz3 S.p), store_last (sz47 S.p), (sz47 S.p), hz, hpV, hpe, gm, e0, e1, e2, e3, e4, f81, d1, d2, f82, fc, splC, splice_one, beqI_t, beqI_f, bneI_t, bneI_f, bne_self_eq_false, idx_ok, cells_self, cells_other, Int.toNat_natCast, Nat.mul_one, Nat.zero_add, Nat.add_zero, wrap_i64]
      exact Ends.some (by rw [hn, hcode])
    | some W =>
      rw [hX] at fc
      simp only [Option.getD_some, Option.isSome_some] at fc
      have hpW := partV S W
      obtain ⟨hn, hcode⟩ := yes_of (show AppV V e = some W by rw [hApp, hB, hX])
      simp (maxSteps := 1000000) (disch := first | omega | (simp (disch := first | omega | (simp only [EvV.len, MonV.len, refC_len, List.length_append, List.length_cons, List.length_nil, List.length_set]; first | done | omega)) only [EvV.len, MonV.len, refC_len, amSide, Int.reduceToNat, Nat.reducePow, Nat.reduceMul]; first | done | omega)) only  [↓amPre, amPost, ↓s_lit', Nat.reduceAdd, Nat.reduceSub, List.replicate, retA, resultsA, resultA, toC, toCL, Nat.reduceEqDiff, (fa29_0 S.p), (fa29_1 S.p), (fa29_2 S.p), (fa29_3 S.p), (fa29_4 S.p), (fa47_1 S.p), (fa47_3 S.p), (fa47_4 S.p), iaddr_ptr (un40 S.p) (sz3 S.p), part_all (ag29 S.p) (sz29 S.p), part_at (ag29 S.p) (sz29 S.p), part_sc (ag3 S.p), part_all (ag47 S.p) (sz47 S.p), part_at (ag47 S.p) (sz47 S.p), store_last (sz3 S.p), (sz3 S.p), store_last (sz47 S.p), (sz47 S.p), hz, hpV, hpe, gm, e0, e1, e2, e3, e4, f81, d1, d2, f82, fc, hpW, splC, splice_one, beqI_t, beqI_f, bneI_t, bneI_f, bne_self_eq_false, idx_ok, cells_self, cells_other, Int.toNat_natCast, Nat.mul_one, Nat.zero_add, Nat.add_zero, wrap_i64]
      exact Ends.some (by rw [hn, hcode])
  by_cases k9 : e.k = 9
  · skip
    rw [hgo (by omega) (by omega)] at f82
    have hB : applyV V e o f = tellV V e o := by unfold applyV; rw [if_neg (by omega), if_neg (by omega), if_neg (by omega), if_neg (by omega), if_neg (by omega), if_pos (by omega)]
    have fc := fun lk h => s55c S (show 2 ≤ d by omega) I hc e hob ho hth thn k9 lk h
    unfold tupM at fc
    cases hX : tellV V e o with
    | none =>
      have hA : AppV V e = none := by rw [hApp, hB, hX]
      rw [hX] at fc
      simp only [Option.getD_none, Option.isSome_none] at fc
      obtain ⟨hn, hcode⟩ := no_of hA
      simp (maxSteps := 1000000) (disch := first | omega | (simp (disch := first | omega | (simp only [EvV.len, MonV.len, refC_len, List.length_append, List.length_cons, List.length_nil, List.length_set]; first | done | omega)) only [EvV.len, MonV.len, refC_len, amSide, Int.reduceToNat, Nat.reducePow, Nat.reduceMul]; first | done | omega)) only  [↓amPre, amPost, ↓s_lit', Nat.reduceAdd, Nat.reduceSub, List.replicate, retA, resultsA, resultA, toC, toCL, Nat.reduceEqDiff, (fa29_0 S.p), (fa29_1 S.p), (fa29_2 S.p), (fa29_3 S.p), (fa29_4 S.p), (fa47_1 S.p), (fa47_3 S.p), (fa47_4 S.p), iaddr_ptr (un40 S.p) (sz3 S.p), part_all (ag29 S.p) (sz29 S.p), part_at (ag29 S.p) (sz29 S.p), part_sc (ag3 S.p), part_all (ag47 S.p) (sz47 S.p), part_at (ag47 S.p) (sz47 S.p), store_last (sz3 S.p), (sz3 S.p), store_last (sz47 S.p), (sz47 S.p), hz, hpV, hpe, gm, e0, e1, e2, e3, e4, f81, d1, d2, f82, fc, splC, splice_one, beqI_t, beqI_f, bneI_t, bneI_f, bne_self_eq_false, idx_ok, cells_self, cells_other, Int.toNat_natCast, Nat.mul_one, Nat.zero_add, Nat.add_zero, wrap_i64]
      exact Ends.some (by rw [hn, hcode])
    | some W =>
      rw [hX] at fc
      simp only [Option.getD_some, Option.isSome_some] at fc
      have hpW := partV S W
      obtain ⟨hn, hcode⟩ := yes_of (show AppV V e = some W by rw [hApp, hB, hX])
      simp (maxSteps := 1000000) (disch := first | omega | (simp (disch := first | omega | (simp only [EvV.len, MonV.len, refC_len, List.length_append, List.length_cons, List.length_nil, List.length_set]; first | done | omega)) only [EvV.len, MonV.len, refC_len, amSide, Int.reduceToNat, Nat.reducePow, Nat.reduceMul]; first | done | omega)) only  [↓amPre, amPost, ↓s_lit', Nat.reduceAdd, Nat.reduceSub, List.replicate, retA, resultsA, resultA, toC, toCL, Nat.reduceEqDiff, (fa29_0 S.p), (fa29_1 S.p), (fa29_2 S.p), (fa29_3 S.p), (fa29_4 S.p), (fa47_1 S.p), (fa47_3 S.p), (fa47_4 S.p), iaddr_ptr (un40 S.p) (sz3 S.p), part_all (ag29 S.p) (sz29 S.p), part_at (ag29 S.p) (sz29 S.p), part_sc (ag3 S.p), part_all (ag47 S.p) (sz47 S.p), part_at (ag47 S.p) (sz47 S.p), store_last (sz3 S.p), (sz3 S.p), store_last (sz47 S.p), (sz47 S.p), hz, hpV, hpe, gm, e0, e1, e2, e3, e4, f81, d1, d2, f82, fc, hpW, splC, splice_one, beqI_t, beqI_f, bneI_t, bneI_f, bne_self_eq_false, idx_ok, cells_self, cells_other, Int.toNat_natCast, Nat.mul_one, Nat.zero_add, Nat.add_zero, wrap_i64]
      exact Ends.some (by rw [hn, hcode])
  by_cases k10 : e.k = 10
  · skip
    rw [hgo (by omega) (by omega)] at f82
    have hB : applyV V e o f = hashV V e o := by unfold applyV; rw [if_neg (by omega), if_neg (by omega), if_neg (by omega), if_neg (by omega), if_neg (by omega), if_neg (by omega), if_pos k10]
    have fc := fun lk h => s56a S (show 2 ≤ d by omega) I hc e hob ho hth thn k10 (Hh ob o ho) lk h
    unfold tupM at fc
    cases hX : hashV V e o with
    | none =>
      have hA : AppV V e = none := by rw [hApp, hB, hX]
      rw [hX] at fc
      simp only [Option.getD_none, Option.isSome_none] at fc
      obtain ⟨hn, hcode⟩ := no_of hA
      simp (maxSteps := 1000000) (disch := first | omega | (simp (disch := first | omega | (simp only [EvV.len, MonV.len, refC_len, List.length_append, List.length_cons, List.length_nil, List.length_set]; first | done | omega)) only [EvV.len, MonV.len, refC_len, amSide, Int.reduceToNat, Nat.reducePow, Nat.reduceMul]; first | done | omega)) only  [↓amPre, amPost, ↓s_lit', Nat.reduceAdd, Nat.reduceSub, List.replicate, retA, resultsA, resultA, toC, toCL, Nat.reduceEqDiff, (fa29_0 S.p), (fa29_1 S.p), (fa29_2 S.p), (fa29_3 S.p), (fa29_4 S.p), (fa47_1 S.p), (fa47_3 S.p), (fa47_4 S.p), iaddr_ptr (un40 S.p) (sz3 S.p), part_all (ag29 S.p) (sz29 S.p), part_at (ag29 S.p) (sz29 S.p), part_sc (ag3 S.p), part_all (ag47 S.p) (sz47 S.p), part_at (ag47 S.p) (sz47 S.p), store_last (sz3 S.p), (sz3 S.p), store_last (sz47 S.p), (sz47 S.p), hz, hpV, hpe, gm, e0, e1, e2, e3, e4, f81, d1, d2, f82, fc, splC, splice_one, beqI_t, beqI_f, bneI_t, bneI_f, bne_self_eq_false, idx_ok, cells_self, cells_other, Int.toNat_natCast, Nat.mul_one, Nat.zero_add, Nat.add_zero, wrap_i64]
      exact Ends.some (by rw [hn, hcode])
    | some W =>
      rw [hX] at fc
      simp only [Option.getD_some, Option.isSome_some] at fc
      have hpW := partV S W
      obtain ⟨hn, hcode⟩ := yes_of (show AppV V e = some W by rw [hApp, hB, hX])
      simp (maxSteps := 1000000) (disch := first | omega | (simp (disch := first | omega | (simp only [EvV.len, MonV.len, refC_len, List.length_append, List.length_cons, List.length_nil, List.length_set]; first | done | omega)) only [EvV.len, MonV.len, refC_len, amSide, Int.reduceToNat, Nat.reducePow, Nat.reduceMul]; first | done | omega)) only  [↓amPre, amPost, ↓s_lit', Nat.reduceAdd, Nat.reduceSub, List.replicate, retA, resultsA, resultA, toC, toCL, Nat.reduceEqDiff, (fa29_0 S.p), (fa29_1 S.p), (fa29_2 S.p), (fa29_3 S.p), (fa29_4 S.p), (fa47_1 S.p), (fa47_3 S.p), (fa47_4 S.p), iaddr_ptr (un40 S.p) (sz3 S.p), part_all (ag29 S.p) (sz29 S.p), part_at (ag29 S.p) (sz29 S.p), part_sc (ag3 S.p), part_all (ag47 S.p) (sz47 S.p), part_at (ag47 S.p) (sz47 S.p), store_last (sz3 S.p), (sz3 S.p), store_last (sz47 S.p), (sz47 S.p), hz, hpV, hpe, gm, e0, e1, e2, e3, e4, f81, d1, d2, f82, fc, hpW, splC, splice_one, beqI_t, beqI_f, bneI_t, bneI_f, bne_self_eq_false, idx_ok, cells_self, cells_other, Int.toNat_natCast, Nat.mul_one, Nat.zero_add, Nat.add_zero, wrap_i64]
      exact Ends.some (by rw [hn, hcode])
  by_cases k11 : e.k = 11
  · skip
    rw [hgo (by omega) (by omega)] at f82
    have hB : applyV V e o f = holdsV V e o := by unfold applyV; rw [if_neg (by omega), if_neg (by omega), if_neg (by omega), if_neg (by omega), if_neg (by omega), if_neg (by omega), if_neg (by omega), if_pos k11]
    have fc := fun lk h => s56b S (show 2 ≤ d by omega) I hc e hob ho hth thn k11 lk h
    unfold tupM at fc
    cases hX : holdsV V e o with
    | none =>
      have hA : AppV V e = none := by rw [hApp, hB, hX]
      rw [hX] at fc
      simp only [Option.getD_none, Option.isSome_none] at fc
      obtain ⟨hn, hcode⟩ := no_of hA
      simp (maxSteps := 1000000) (disch := first | omega | (simp (disch := first | omega | (simp only [EvV.len, MonV.len, refC_len, List.length_append, List.length_cons, List.length_nil, List.length_set]; first | done | omega)) only [EvV.len, MonV.len, refC_len, amSide, Int.reduceToNat, Nat.reducePow, Nat.reduceMul]; first | done | omega)) only  [↓amPre, amPost, ↓s_lit', Nat.reduceAdd, Nat.reduceSub, List.replicate, retA, resultsA, resultA, toC, toCL, Nat.reduceEqDiff, (fa29_0 S.p), (fa29_1 S.p), (fa29_2 S.p), (fa29_3 S.p), (fa29_4 S.p), (fa47_1 S.p), (fa47_3 S.p), (fa47_4 S.p), iaddr_ptr (un40 S.p) (sz3 S.p), part_all (ag29 S.p) (sz29 S.p), part_at (ag29 S.p) (sz29 S.p), part_sc (ag3 S.p), part_all (ag47 S.p) (sz47 S.p), part_at (ag47 S.p) (sz47 S.p), store_last (sz3 S.p), (sz3 S.p), store_last (sz47 S.p), (sz47 S.p), hz, hpV, hpe, gm, e0, e1, e2, e3, e4, f81, d1, d2, f82, fc, splC, splice_one, beqI_t, beqI_f, bneI_t, bneI_f, bne_self_eq_false, idx_ok, cells_self, cells_other, Int.toNat_natCast, Nat.mul_one, Nat.zero_add, Nat.add_zero, wrap_i64]
      exact Ends.some (by rw [hn, hcode])
    | some W =>
      rw [hX] at fc
      simp only [Option.getD_some, Option.isSome_some] at fc
      have hpW := partV S W
      obtain ⟨hn, hcode⟩ := yes_of (show AppV V e = some W by rw [hApp, hB, hX])
      simp (maxSteps := 1000000) (disch := first | omega | (simp (disch := first | omega | (simp only [EvV.len, MonV.len, refC_len, List.length_append, List.length_cons, List.length_nil, List.length_set]; first | done | omega)) only [EvV.len, MonV.len, refC_len, amSide, Int.reduceToNat, Nat.reducePow, Nat.reduceMul]; first | done | omega)) only  [↓amPre, amPost, ↓s_lit', Nat.reduceAdd, Nat.reduceSub, List.replicate, retA, resultsA, resultA, toC, toCL, Nat.reduceEqDiff, (fa29_0 S.p), (fa29_1 S.p), (fa29_2 S.p), (fa29_3 S.p), (fa29_4 S.p), (fa47_1 S.p), (fa47_3 S.p), (fa47_4 S.p), iaddr_ptr (un40 S.p) (sz3 S.p), part_all (ag29 S.p) (sz29 S.p), part_at (ag29 S.p) (sz29 S.p), part_sc (ag3 S.p), part_all (ag47 S.p) (sz47 S.p), part_at (ag47 S.p) (sz47 S.p), store_last (sz3 S.p), (sz3 S.p), store_last (sz47 S.p), (sz47 S.p), hz, hpV, hpe, gm, e0, e1, e2, e3, e4, f81, d1, d2, f82, fc, hpW, splC, splice_one, beqI_t, beqI_f, bneI_t, bneI_f, bne_self_eq_false, idx_ok, cells_self, cells_other, Int.toNat_natCast, Nat.mul_one, Nat.zero_add, Nat.add_zero, wrap_i64]
      exact Ends.some (by rw [hn, hcode])
  by_cases k12 : e.k = 12
  · skip
    rw [hgo (by omega) (by omega)] at f82
    have hB : applyV V e o f = intrV V e := by unfold applyV; rw [if_neg (by omega), if_neg (by omega), if_neg (by omega), if_neg (by omega), if_neg (by omega), if_neg (by omega), if_neg (by omega), if_neg (by omega), if_pos k12]
    have fc := fun lk h => s56c S (show 2 ≤ d by omega) I hc e hob ho hth thn k12 lk h
    unfold tupM at fc
    cases hX : intrV V e with
    | none =>
      have hA : AppV V e = none := by rw [hApp, hB, hX]
      rw [hX] at fc
      simp only [Option.getD_none, Option.isSome_none] at fc
      obtain ⟨hn, hcode⟩ := no_of hA
      simp (maxSteps := 1000000) (disch := first | omega | (simp (disch := first | omega | (simp only [EvV.len, MonV.len, refC_len, List.length_append, List.length_cons, List.length_nil, List.length_set]; first | done | omega)) only [EvV.len, MonV.len, refC_len, amSide, Int.reduceToNat, Nat.reducePow, Nat.reduceMul]; first | done | omega)) only  [↓amPre, amPost, ↓s_lit', Nat.reduceAdd, Nat.reduceSub, List.replicate, retA, resultsA, resultA, toC, toCL, Nat.reduceEqDiff, (fa29_0 S.p), (fa29_1 S.p), (fa29_2 S.p), (fa29_3 S.p), (fa29_4 S.p), (fa47_1 S.p), (fa47_3 S.p), (fa47_4 S.p), iaddr_ptr (un40 S.p) (sz3 S.p), part_all (ag29 S.p) (sz29 S.p), part_at (ag29 S.p) (sz29 S.p), part_sc (ag3 S.p), part_all (ag47 S.p) (sz47 S.p), part_at (ag47 S.p) (sz47 S.p), store_last (sz3 S.p), (sz3 S.p), store_last (sz47 S.p), (sz47 S.p), hz, hpV, hpe, gm, e0, e1, e2, e3, e4, f81, d1, d2, f82, fc, splC, splice_one, beqI_t, beqI_f, bneI_t, bneI_f, bne_self_eq_false, idx_ok, cells_self, cells_other, Int.toNat_natCast, Nat.mul_one, Nat.zero_add, Nat.add_zero, wrap_i64]
      exact Ends.some (by rw [hn, hcode])
    | some W =>
      rw [hX] at fc
      simp only [Option.getD_some, Option.isSome_some] at fc
      have hpW := partV S W
      obtain ⟨hn, hcode⟩ := yes_of (show AppV V e = some W by rw [hApp, hB, hX])
      simp (maxSteps := 1000000) (disch := first | omega | (simp (disch := first | omega | (simp only [EvV.len, MonV.len, refC_len, List.length_append, List.length_cons, List.length_nil, List.length_set]; first | done | omega)) only [EvV.len, MonV.len, refC_len, amSide, Int.reduceToNat, Nat.reducePow, Nat.reduceMul]; first | done | omega)) only  [↓amPre, amPost, ↓s_lit', Nat.reduceAdd, Nat.reduceSub, List.replicate, retA, resultsA, resultA, toC, toCL, Nat.reduceEqDiff, (fa29_0 S.p), (fa29_1 S.p), (fa29_2 S.p), (fa29_3 S.p), (fa29_4 S.p), (fa47_1 S.p), (fa47_3 S.p), (fa47_4 S.p), iaddr_ptr (un40 S.p) (sz3 S.p), part_all (ag29 S.p) (sz29 S.p), part_at (ag29 S.p) (sz29 S.p), part_sc (ag3 S.p), part_all (ag47 S.p) (sz47 S.p), part_at (ag47 S.p) (sz47 S.p), store_last (sz3 S.p), (sz3 S.p), store_last (sz47 S.p), (sz47 S.p), hz, hpV, hpe, gm, e0, e1, e2, e3, e4, f81, d1, d2, f82, fc, hpW, splC, splice_one, beqI_t, beqI_f, bneI_t, bneI_f, bne_self_eq_false, idx_ok, cells_self, cells_other, Int.toNat_natCast, Nat.mul_one, Nat.zero_add, Nat.add_zero, wrap_i64]
      exact Ends.some (by rw [hn, hcode])
  rw [hgo (by omega) (by omega)] at f82
  have hA : AppV V e = none := by rw [hApp]; unfold applyV; rw [if_neg (by omega), if_neg (by omega), if_neg (by omega), if_neg (by omega), if_neg (by omega), if_neg (by omega), if_neg (by omega), if_neg (by omega), if_neg (by omega)]
  obtain ⟨hn, hcode⟩ := no_of hA
  simp (maxSteps := 1000000) (disch := first | omega | (simp (disch := first | omega | (simp only [EvV.len, MonV.len, refC_len, List.length_append, List.length_cons, List.length_nil, List.length_set]; first | done | omega)) only [EvV.len, MonV.len, refC_len, amSide, Int.reduceToNat, Nat.reducePow, Nat.reduceMul]; first | done | omega)) only  [↓amPre, amPost, ↓s_lit', Nat.reduceAdd, Nat.reduceSub, List.replicate, retA, resultsA, resultA, toC, toCL, Nat.reduceEqDiff, (fa29_0 S.p), (fa29_1 S.p), (fa29_2 S.p), (fa29_3 S.p), (fa29_4 S.p), (fa47_1 S.p), (fa47_3 S.p), (fa47_4 S.p), iaddr_ptr (un40 S.p) (sz3 S.p), part_all (ag29 S.p) (sz29 S.p), part_at (ag29 S.p) (sz29 S.p), part_sc (ag3 S.p), part_all (ag47 S.p) (sz47 S.p), part_at (ag47 S.p) (sz47 S.p), store_last (sz3 S.p), (sz3 S.p), store_last (sz47 S.p), (sz47 S.p), hz, hpV, hpe, gm, e0, e1, e2, e3, e4, f81, d1, d2, f82, splC, splice_one, beqI_t, beqI_f, bneI_t, bneI_f, bne_self_eq_false, idx_ok, cells_self, cells_other, Int.toNat_natCast, Nat.mul_one, Nat.zero_add, Nat.add_zero, wrap_i64]
  exact Ends.some (by rw [hn, hcode])
end
end Go.AM
/- Monitors' model: the document's New; plays. Conditions: none. -/
set_option linter.unusedVariables false
set_option linter.unusedSimpArgs false
set_option maxRecDepth 100000
-- NOTY: ze47, bu47
namespace Go.AM
open Go.Proofs
-- LENS: EvV.len, MonV.len, refC_len
theorem ownR_rep {V : MdV} {k : Nat} (h : V.mons = List.replicate k ⟨-1, 0, 0⟩) (o : Nat) : ownR V o = 0 ∧ cntR V o = 0 ∧ hshR V o = 0 := by
  unfold ownR cntR hshR
  rw [h]
  cases hg : (List.replicate k (⟨-1, 0, 0⟩ : MonV))[o]? with
  | none => exact ⟨rfl, rfl, rfl⟩
  | some x =>
    have := List.mem_of_getElem? hg
    rw [List.mem_replicate] at this
    rw [this.2]; exact ⟨rfl, rfl, rfl⟩
theorem flgR_rep {V : MdV} {k : Nat} (h : V.flags = List.replicate k false) (t : Nat) : flgR V t = false := by
  unfold flgR
  rw [h]
  cases hg : (List.replicate k false)[t]? with
  | none => rfl
  | some x =>
    have := List.mem_of_getElem? hg
    rw [List.mem_replicate] at this
    rw [this.2]
theorem refC_new (n m : Nat) (c : Int) : (((refC nilM).set 0 (.int .i64 n)).set 1 (.int .i64 m)).set 2 (.int .i64 c) = refC (newV n m c) := by
  have A : ∀ (V : MdV) (a b : Nat), V.mons = List.replicate a ⟨-1, 0, 0⟩ → V.flags = List.replicate b false → V.waits = [] → V.left = [] → ∀ (W : MdV) (a' b' : Nat), W.mons = List.replicate a' ⟨-1, 0, 0⟩ → W.flags = List.replicate b' false → W.waits = [] → W.left = [] → ∀ j, j < 227 → j ≠ 0 → j ≠ 1 → j ≠ 2 → refF W j = refF V j := fun V a b v1 v2 v3 v4 W a' b' w1 w2 w3 w4 j hj h0 h1 h2 => by
    have hV := ownR_rep v1
    have hW := ownR_rep w1
    have p1 : ∀ o, ownR W o = ownR V o := fun o => by rw [(hW o).1, (hV o).1]
    have p2 : ∀ o, cntR W o = cntR V o := fun o => by rw [(hW o).2.1, (hV o).2.1]
    have p3 : ∀ o, hshR W o = hshR V o := fun o => by rw [(hW o).2.2, (hV o).2.2]
    have p4 : ∀ o, flgR W o = flgR V o := fun o => by rw [flgR_rep w2, flgR_rep v2]
    have p5 : ∀ o t, wtR W o t = wtR V o t := fun o t => by unfold wtR; rw [w3, v3]
    have p6 : ∀ o t, lcR W o t = lcR V o t := fun o t => by unfold lcR; rw [w4, v4]
    have p7 : ∀ o t, lwR W o t = lwR V o t := fun o t => by unfold lwR; rw [w4, v4]
    unfold refF
    rw [if_neg h0, if_neg h0, if_neg h1, if_neg h1, if_neg h2, if_neg h2]
    simp only [p1, p2, p3, p4, p5, p6, p7]
  have s1 : (refC nilM).set 0 (.int .i64 n) = refC ⟨0, [], List.replicate n false, [], []⟩ := refC_set (by omega) (by simp [refF]) fun j hj hne => by
    by_cases h1 : j = 1
    · subst h1; rfl
    · by_cases h2 : j = 2
      · subst h2; rfl
      · exact A nilM 0 0 rfl rfl rfl rfl ⟨0, [], List.replicate n false, [], []⟩ 0 n rfl rfl rfl rfl j hj hne h1 h2
  have s2 : (refC ⟨0, [], List.replicate n false, [], []⟩).set 1 (.int .i64 m) = refC ⟨0, List.replicate m ⟨-1, 0, 0⟩, List.replicate n false, [], []⟩ := refC_set (by omega) (by simp [refF]) fun j hj hne => by
    by_cases h1 : j = 0
    · subst h1; rfl
    · by_cases h2 : j = 2
      · subst h2; rfl
      · exact A ⟨0, [], List.replicate n false, [], []⟩ 0 n rfl rfl rfl rfl ⟨0, List.replicate m ⟨-1, 0, 0⟩, List.replicate n false, [], []⟩ m n rfl rfl rfl rfl j hj h1 hne h2
  have s3 : (refC ⟨0, List.replicate m ⟨-1, 0, 0⟩, List.replicate n false, [], []⟩).set 2 (.int .i64 c) = refC (newV n m c) := refC_set (by omega) rfl fun j hj hne => by
    by_cases h1 : j = 0
    · subst h1; rfl
    · by_cases h2 : j = 1
      · subst h2; rfl
      · exact A ⟨0, List.replicate m ⟨-1, 0, 0⟩, List.replicate n false, [], []⟩ m n rfl rfl rfl rfl (newV n m c) m n rfl rfl rfl rfl j hj h1 h2 hne
  rw [s1, s2, s3]
theorem newV_H (n m : Nat) (c : Int) : MdH (newV n m c) := fun i o h => by
  have := List.mem_of_getElem? h
  rw [newV, List.mem_replicate] at this
  rw [this.2]; simp
section
variable {P : Program} {T : Tab} {K d : Nat} (S : Sd P T K)
include S
theorem bu47r (ps : List (Nat × AV)) : ∃ pl : List (Nat × Nat), pl.take 3 = [(0, 1), (1, 1), (2, 1)] ∧ buildA P 47 ps = (fillA (fun i => pl[i]?) (refC nilM) ps).map fun cs => .v (.ag cs) := by
  have h := bu47 S.p ps
  rw [Option.some.inj ((ze47 S.p).symm.trans (ze47r S))] at h
  exact ⟨_, rfl, h⟩
theorem bu47n : buildA P 47 [] = some (.v (.ag (refC nilM))) := by
  obtain ⟨pl, _, h⟩ := bu47r S []
  rw [h, fill_nil]; rfl
theorem bu47m (n m : Nat) (c : Int) : buildA P 47 [(0, .v (.sc (.int .i64 n))), (1, .v (.sc (.int .i64 m))), (2, .v (.sc (.int .i64 c)))] = some (.v (.ag (refC (newV n m c)))) := by
  obtain ⟨pl, hp, h⟩ := bu47r S [(0, .v (.sc (.int .i64 n))), (1, .v (.sc (.int .i64 m))), (2, .v (.sc (.int .i64 c)))]
  have p0 : pl[0]? = some (0, 1) := by have := congrArg (·[0]?) hp; simpa [List.getElem?_take] using this
  have p1 : pl[1]? = some (1, 1) := by have := congrArg (·[1]?) hp; simpa [List.getElem?_take] using this
  have p2 : pl[2]? = some (2, 1) := by have := congrArg (·[2]?) hp; simpa [List.getElem?_take] using this
  have q0 : splice (refC nilM) 0 [SV.int .i64 n] = (refC nilM).set 0 (.int .i64 n) := splice_one _ _ _ (by rw [refC_len]; omega)
  have q1 : splice ((refC nilM).set 0 (.int .i64 n)) 1 [SV.int .i64 m] = ((refC nilM).set 0 (.int .i64 n)).set 1 (.int .i64 m) := splice_one _ _ _ (by rw [List.length_set, refC_len]; omega)
  have q2 : splice (((refC nilM).set 0 (.int .i64 n)).set 1 (.int .i64 m)) 2 [SV.int .i64 c] = (((refC nilM).set 0 (.int .i64 n)).set 1 (.int .i64 m)).set 2 (.int .i64 c) := splice_one _ _ _ (by rw [List.length_set, List.length_set, refC_len]; omega)
  rw [h, fill_cons, p0, fillP_some 0 1 (.sc (.int .i64 n)) _ _ rfl (by rw [refC_len]; omega)]
  show Option.map _ (fillA _ (splice (refC nilM) 0 [SV.int .i64 n]) _) = _
  rw [q0, fill_cons, p1, fillP_some 1 1 (.sc (.int .i64 m)) _ _ rfl (by rw [List.length_set, refC_len]; omega)]
  show Option.map _ (fillA _ (splice _ 1 [SV.int .i64 m]) _) = _
  rw [q1, fill_cons, p2, fillP_some 2 1 (.sc (.int .i64 c)) _ _ rfl (by rw [List.length_set, List.length_set, refC_len]; omega)]
  show Option.map _ (fillA _ (splice _ 2 [SV.int .i64 c]) _) = _
  rw [q2, fill_nil, refC_new]; rfl
theorem s31f (hd : 1 ≤ d) (n m c : Int) (hb : ¬ ((1 ≤ n ∧ n ≤ 8) ∧ (1 ≤ m ∧ m ≤ 8) ∧ 1 ≤ c ∧ c ≤ 60)) (lk : Nat) (h : List AO) : ev P T K d 31 [.sc (.int .i64 n), .sc (.int .i64 m), .sc (.int .i64 c)] lk h = some (.tup [.ag (refC nilM), .sc (.int .i64 1)], h) := by
  obtain ⟨d, rfl⟩ : ∃ k, d = k + 1 := ⟨d - 1, by omega⟩
  refine ev_pure (at31 S.t) (refC_fr2 _ _) ?_
  unfold i31 Try.f31
  have hz := ze47r S
  have hb0 := bu47n S
  have hpV := partV S nilM
  by_cases c1 : n < 1
  · simp (maxSteps := 1000000) (disch := first | omega | (simp (disch := first | omega | (simp only [EvV.len, MonV.len, refC_len, List.length_append, List.length_cons, List.length_nil, List.length_set]; first | done | omega)) only [EvV.len, MonV.len, refC_len, amSide, Int.reduceToNat, Nat.reducePow, Nat.reduceMul]; first | done | omega)) only  [↓amPre, amPost, ↓s_lit', Nat.reduceAdd, Nat.reduceSub, List.replicate, retA, resultsA, resultA, toC, toCL, Nat.reduceEqDiff, part_all (ag47 S.p) (sz47 S.p), part_at (ag47 S.p) (sz47 S.p), store_last (sz47 S.p), (sz47 S.p), hz, hb0, hpV, splC, dec_t, dec_f, cells_self, cells_other, Nat.zero_add, Nat.add_zero]
    exact Ends.some rfl
  by_cases c2 : n > 8
  · simp (maxSteps := 1000000) (disch := first | omega | (simp (disch := first | omega | (simp only [EvV.len, MonV.len, refC_len, List.length_append, List.length_cons, List.length_nil, List.length_set]; first | done | omega)) only [EvV.len, MonV.len, refC_len, amSide, Int.reduceToNat, Nat.reducePow, Nat.reduceMul]; first | done | omega)) only  [↓amPre, amPost, ↓s_lit', Nat.reduceAdd, Nat.reduceSub, List.replicate, retA, resultsA, resultA, toC, toCL, Nat.reduceEqDiff, part_all (ag47 S.p) (sz47 S.p), part_at (ag47 S.p) (sz47 S.p), store_last (sz47 S.p), (sz47 S.p), hz, hb0, hpV, splC, dec_t, dec_f, cells_self, cells_other, Nat.zero_add, Nat.add_zero]
    exact Ends.some rfl
  by_cases c3 : m < 1
  · simp (maxSteps := 1000000) (disch := first | omega | (simp (disch := first | omega | (simp only [EvV.len, MonV.len, refC_len, List.length_append, List.length_cons, List.length_nil, List.length_set]; first | done | omega)) only [EvV.len, MonV.len, refC_len, amSide, Int.reduceToNat, Nat.reducePow, Nat.reduceMul]; first | done | omega)) only  [↓amPre, amPost, ↓s_lit', Nat.reduceAdd, Nat.reduceSub, List.replicate, retA, resultsA, resultA, toC, toCL, Nat.reduceEqDiff, part_all (ag47 S.p) (sz47 S.p), part_at (ag47 S.p) (sz47 S.p), store_last (sz47 S.p), (sz47 S.p), hz, hb0, hpV, splC, dec_t, dec_f, cells_self, cells_other, Nat.zero_add, Nat.add_zero]
    exact Ends.some rfl
  by_cases c4 : m > 8
  · simp (maxSteps := 1000000) (disch := first | omega | (simp (disch := first | omega | (simp only [EvV.len, MonV.len, refC_len, List.length_append, List.length_cons, List.length_nil, List.length_set]; first | done | omega)) only [EvV.len, MonV.len, refC_len, amSide, Int.reduceToNat, Nat.reducePow, Nat.reduceMul]; first | done | omega)) only  [↓amPre, amPost, ↓s_lit', Nat.reduceAdd, Nat.reduceSub, List.replicate, retA, resultsA, resultA, toC, toCL, Nat.reduceEqDiff, part_all (ag47 S.p) (sz47 S.p), part_at (ag47 S.p) (sz47 S.p), store_last (sz47 S.p), (sz47 S.p), hz, hb0, hpV, splC, dec_t, dec_f, cells_self, cells_other, Nat.zero_add, Nat.add_zero]
    exact Ends.some rfl
  by_cases c5 : c < 1
  · simp (maxSteps := 1000000) (disch := first | omega | (simp (disch := first | omega | (simp only [EvV.len, MonV.len, refC_len, List.length_append, List.length_cons, List.length_nil, List.length_set]; first | done | omega)) only [EvV.len, MonV.len, refC_len, amSide, Int.reduceToNat, Nat.reducePow, Nat.reduceMul]; first | done | omega)) only  [↓amPre, amPost, ↓s_lit', Nat.reduceAdd, Nat.reduceSub, List.replicate, retA, resultsA, resultA, toC, toCL, Nat.reduceEqDiff, part_all (ag47 S.p) (sz47 S.p), part_at (ag47 S.p) (sz47 S.p), store_last (sz47 S.p), (sz47 S.p), hz, hb0, hpV, splC, dec_t, dec_f, cells_self, cells_other, Nat.zero_add, Nat.add_zero]
    exact Ends.some rfl
  have c6 : c > 60 := by omega
  simp (maxSteps := 1000000) (disch := first | omega | (simp (disch := first | omega | (simp only [EvV.len, MonV.len, refC_len, List.length_append, List.length_cons, List.length_nil, List.length_set]; first | done | omega)) only [EvV.len, MonV.len, refC_len, amSide, Int.reduceToNat, Nat.reducePow, Nat.reduceMul]; first | done | omega)) only  [↓amPre, amPost, ↓s_lit', Nat.reduceAdd, Nat.reduceSub, List.replicate, retA, resultsA, resultA, toC, toCL, Nat.reduceEqDiff, part_all (ag47 S.p) (sz47 S.p), part_at (ag47 S.p) (sz47 S.p), store_last (sz47 S.p), (sz47 S.p), hz, hb0, hpV, splC, dec_t, dec_f, cells_self, cells_other, Nat.zero_add, Nat.add_zero]
  exact Ends.some rfl
theorem s31 (hd : 1 ≤ d) {n m : Nat} {c : Int} (h1 : 1 ≤ n ∧ n ≤ 8) (h2 : 1 ≤ m ∧ m ≤ 8) (h3 : 1 ≤ c ∧ c ≤ 60) (lk : Nat) (h : List AO) : ev P T K d 31 [.sc (.int .i64 n), .sc (.int .i64 m), .sc (.int .i64 c)] lk h = some (.tup [.ag (refC (newV n m c)), .sc (.int .i64 0)], h) := by
  obtain ⟨d, rfl⟩ : ∃ k, d = k + 1 := ⟨d - 1, by omega⟩
  refine ev_pure (at31 S.t) (refC_fr2 _ _) ?_
  unfold i31 Try.f31
  have hz := ze47r S
  have hb0 := bu47m S n m c
  have hpV := partV S (newV n m c)
  simp (maxSteps := 1000000) (disch := first | omega | (simp (disch := first | omega | (simp only [EvV.len, MonV.len, refC_len, List.length_append, List.length_cons, List.length_nil, List.length_set]; first | done | omega)) only [EvV.len, MonV.len, refC_len, amSide, Int.reduceToNat, Nat.reducePow, Nat.reduceMul]; first | done | omega)) only  [↓amPre, amPost, ↓s_lit', Nat.reduceAdd, Nat.reduceSub, List.replicate, retA, resultsA, resultA, toC, toCL, Nat.reduceEqDiff, part_all (ag47 S.p) (sz47 S.p), part_at (ag47 S.p) (sz47 S.p), store_last (sz47 S.p), (sz47 S.p), hz, hb0, hpV, splC, dec_t, dec_f, cells_self, cells_other, Nat.zero_add, Nat.add_zero]
  exact Ends.some rfl
structure PlSt where
  i : Nat
  V : MdV
  h : List AO
end
end Go.AM
