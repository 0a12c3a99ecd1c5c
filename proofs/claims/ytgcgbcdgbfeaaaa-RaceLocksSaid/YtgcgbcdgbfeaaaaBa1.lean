/- Races: the states of all cells. Conditions: none. -/
import Derived.Test.YtgcgbcdgbfeaaaaAmTypes
import Derived.Test.YtgcgbcdgbfeaaaaAmAll
import Derived.KernelRfl
import Derived.Test.YtgcgbcdgbfeaaaaRaV
import Derived.Test.YtgcgbcdgbfeaaaaDictC
set_option linter.unusedVariables false
set_option linter.unusedSimpArgs false
set_option maxRecDepth 100000
namespace Go.AM
open Go.Proofs
-- LENS: ck_len, AcV.len, AcV.hk, StV.len
noncomputable def j59 : Info := { fn := Try.f59, c := Try.f59.body.getD .skip, er := fun id => [], dr := fun id => none }
noncomputable def j60 : Info := { fn := Try.f60, c := Try.f60.body.getD .skip, er := fun id => if id = 3 then [5, 10, 11, 12, 13, 14, 15, 16, 17, 18, 19, 20, 21, 22] else [], dr := fun id => if id = 5 then some (Go.AM.Way.any [] [] [.m, .m, .r [], .m, .m, .r [], .r [], .r [], .r [], .w]) else none }
noncomputable def j100 : Info := { fn := Try.f100, c := Try.f100.body.getD .skip, er := fun id => [], dr := fun id => none }
noncomputable def j119 : Info := { fn := Try.f119, c := Try.f119.body.getD .skip, er := fun id => [], dr := fun id => none }
/-- This program, a table that has these functions, and fuel enough. -/
structure Sb (P : Program) (T : Tab) (K : Nat) : Prop where
  p : P = Try.prog
  k : 1000 ≤ K
  t59 : T.at 59 = some (.pure j59)
  t60 : T.at 60 = some (.run j60)
  t100 : T.at 100 = some (.pure j100)
  t119 : T.at 119 = some (.pure j119)
theorem b59 {P : Program} {T : Tab} {K d : Nat} (S : Sb P T K) (hd : 1 ≤ d) (x : AcV) (lk : Nat) (h : List AO) : ev P T K d 59 [.ag x.cells] lk h = some (.v (.sc (.bool x.one)), h) := by
  obtain ⟨d, rfl⟩ : ∃ k, d = k + 1 := ⟨d - 1, by omega⟩
  refine ev_pure S.t59 rfl ?_
  unfold j59 Try.f59
  have h0 := AcV.c0 x
  unfold AcV.one
  by_cases c1 : 0 ≤ x.t
  · by_cases c2 : x.t ≤ 7
    · simp (maxSteps := 1000000) (disch := first | omega | (simp (disch := first | omega | (simp only [ck_len, AcV.len, AcV.hk, StV.len, List.length_append, List.length_cons, List.length_nil, List.length_set]; first | done | omega)) only [ck_len, AcV.len, AcV.hk, StV.len, amSide, Int.reduceToNat, Nat.reducePow, Nat.reduceMul]; first | done | omega)) only  [↓amPre, amPost, ↓s_lit', Nat.reduceAdd, Nat.reduceSub, List.replicate, retA, resultsA, resultA, toC, toCL, Nat.reduceEqDiff, (fa41_0 S.p), part_sc (ag3 S.p), cells_self, h0, dec_t, Nat.zero_add]
      exact Ends.some rfl
    · simp (maxSteps := 1000000) (disch := first | omega | (simp (disch := first | omega | (simp only [ck_len, AcV.len, AcV.hk, StV.len, List.length_append, List.length_cons, List.length_nil, List.length_set]; first | done | omega)) only [ck_len, AcV.len, AcV.hk, StV.len, amSide, Int.reduceToNat, Nat.reducePow, Nat.reduceMul]; first | done | omega)) only  [↓amPre, amPost, ↓s_lit', Nat.reduceAdd, Nat.reduceSub, List.replicate, retA, resultsA, resultA, toC, toCL, Nat.reduceEqDiff, (fa41_0 S.p), part_sc (ag3 S.p), cells_self, h0, dec_t, dec_f, Nat.zero_add]
      exact Ends.some rfl
  · simp (maxSteps := 1000000) (disch := first | omega | (simp (disch := first | omega | (simp only [ck_len, AcV.len, AcV.hk, StV.len, List.length_append, List.length_cons, List.length_nil, List.length_set]; first | done | omega)) only [ck_len, AcV.len, AcV.hk, StV.len, amSide, Int.reduceToNat, Nat.reducePow, Nat.reduceMul]; first | done | omega)) only  [↓amPre, amPost, ↓s_lit', Nat.reduceAdd, Nat.reduceSub, List.replicate, retA, resultsA, resultA, toC, toCL, Nat.reduceEqDiff, (fa41_0 S.p), part_sc (ag3 S.p), cells_self, h0, dec_f, Nat.zero_add]
    exact Ends.some rfl
theorem b119 {P : Program} {T : Tab} {K d : Nat} (S : Sb P T K) (hd : 1 ≤ d) (k L : Int) (lk : Nat) (h : List AO) : ev P T K d 119 [.sc (.int .i64 k), .sc (.int .u64 L)] lk h = some (.v (.ag (metV k L).cells), h) := by
  obtain ⟨d, rfl⟩ : ∃ k, d = k + 1 := ⟨d - 1, by omega⟩
  refine ev_pure S.t119 rfl ?_
  unfold j119 Try.f119
  by_cases c1 : k = 3
  · subst c1
    by_cases c2 : L = 0
    · subst c2
      simp (maxSteps := 1000000) (disch := first | omega | (simp (disch := first | omega | (simp only [ck_len, AcV.len, AcV.hk, StV.len, List.length_append, List.length_cons, List.length_nil, List.length_set]; first | done | omega)) only [ck_len, AcV.len, AcV.hk, StV.len, amSide, Int.reduceToNat, Nat.reducePow, Nat.reduceMul]; first | done | omega)) only  [↓amPre, amPost, ↓s_lit', Nat.reduceAdd, Nat.reduceSub, List.replicate, retA, resultsA, resultA, toC, toCL, Nat.reduceEqDiff, (ze45 S.p), (bu45 S.p), part_all (ag45 S.p) (sz45 S.p), part_at (ag45 S.p) (sz45 S.p), store_last (sz45 S.p), (sz45 S.p), cells_self, beqI_t, beq_self_eq_true, splice_one, List.set_cons_zero, List.set_cons_succ]
      exact Ends.some rfl
    · simp (maxSteps := 1000000) (disch := first | omega | (simp (disch := first | omega | (simp only [ck_len, AcV.len, AcV.hk, StV.len, List.length_append, List.length_cons, List.length_nil, List.length_set]; first | done | omega)) only [ck_len, AcV.len, AcV.hk, StV.len, amSide, Int.reduceToNat, Nat.reducePow, Nat.reduceMul]; first | done | omega)) only  [↓amPre, amPost, ↓s_lit', Nat.reduceAdd, Nat.reduceSub, List.replicate, retA, resultsA, resultA, toC, toCL, Nat.reduceEqDiff, (ze45 S.p), (bu45 S.p), part_all (ag45 S.p) (sz45 S.p), part_at (ag45 S.p) (sz45 S.p), store_last (sz45 S.p), (sz45 S.p), cells_self, beqI_t, beqI_f, beq_self_eq_true]
      exact Ends.some (by simp [metV, c2, StV.cells])
  · simp (maxSteps := 1000000) (disch := first | omega | (simp (disch := first | omega | (simp only [ck_len, AcV.len, AcV.hk, StV.len, List.length_append, List.length_cons, List.length_nil, List.length_set]; first | done | omega)) only [ck_len, AcV.len, AcV.hk, StV.len, amSide, Int.reduceToNat, Nat.reducePow, Nat.reduceMul]; first | done | omega)) only  [↓amPre, amPost, ↓s_lit', Nat.reduceAdd, Nat.reduceSub, List.replicate, retA, resultsA, resultA, toC, toCL, Nat.reduceEqDiff, (ze45 S.p), (bu45 S.p), part_all (ag45 S.p) (sz45 S.p), part_at (ag45 S.p) (sz45 S.p), store_last (sz45 S.p), (sz45 S.p), cells_self, beqI_f]
    exact Ends.some (by simp [metV, c1, StV.cells])
end Go.AM
