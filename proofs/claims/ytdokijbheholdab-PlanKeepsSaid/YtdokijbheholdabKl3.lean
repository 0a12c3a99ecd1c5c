/- Classes: policies, and the law on counts. Conditions: none. -/
import Derived.Test.YtdokijbheholdabKl2
set_option linter.unusedVariables false
set_option linter.unusedSimpArgs false
set_option maxRecDepth 100000
namespace Go.AM
open Go.Proofs
-- LENS: Hdr.len, Hdr.fr, Kls.len, Kls.fr
theorem cells_mid {h : List AO} (l : Nat) (t : TypeId) (cs : List SV) (j : List AO) (hl : l = h.length) : cellsAt (h ++ [.rw t cs] ++ j) l = some cs := by
  subst hl; simp [cellsAt]
theorem store_mid {P : Program} {h : List AO} {lk : Nat} {t el : TypeId} {n : Nat} (hs : szT P t = some n) (l o : Nat) (cs : List SV) (c : CV) (j : List AO) (hl : l = h.length) (hk : lk ≤ l) (hn : c.cells.length = n) (ho : o + n ≤ cs.length) :
    storeA P (h ++ [.rw el cs] ++ j) lk t (.v (.sc (.ptr l o))) (.v c) = some (h ++ [.rw el (splice cs o c.cells)] ++ j) := by
  subst hl
  rw [store_at (el := el) (cs := cs) (n := n) (by simp) hk hs hn ho]
  simp
/-- What is to be done; the class behind it. -/
def polC (c : Kls) : Kls := { c with cnt := if c.cnt < 1000 then c.cnt + 1 else c.cnt }
def polW (c : Kls) (rb rv : Int) : Int := if c.bias then if (polC c).cnt ≥ rv then 2 else if (polC c).cnt.tmod (if rb < 1 then 1 else rb) = 0 then 1 else 0 else 0
theorem s37 {P : Program} {T : Tab} {K d : Nat} (S : Sd P T K) (hd : 1 ≤ d) (c : Kls) (hc : -9223372036854775808 ≤ c.cnt) (rb rv : Int) (lk : Nat) (h : List AO) :
    ev P T K d 37 [.ag c.cells, .sc (.int .i64 rb), .sc (.int .i64 rv)] lk h = some (.tup [.sc (.int .i64 (polW c rb rv)), .ag (polC c).cells], h) := by
  obtain ⟨d, rfl⟩ : ∃ k, d = k + 1 := ⟨d - 1, by omega⟩
  refine ev_pure (at37 S.t) (by simp only [freeA, freeCL, freeC, Kls.cells, freeL, freeS, Option.bind_some, Option.map_some, Option.isSome_some]) ?_
  unfold i37 Try.f37 polW
  have hne : ¬ (if rb < 1 then 1 else rb) = 0 := by split <;> omega
  have key : ∀ y : Kls, y = polC c → y.bias = c.bias := fun y hy => by subst hy; rfl
  by_cases h1 : c.cnt < 1000
  · have d1 : decide (c.cnt < 1000) = true := decide_eq_true h1
    have e2 : c.cells.set 2 (.int .i64 (c.cnt + 1)) = (polC c).cells := by simp only [polC, h1, if_true]; rfl
    generalize hy : polC c = y at *
    have hb := key y rfl
    cases hbi : c.bias
    · rw [hbi] at hb
      simp (maxSteps := 1000000) (disch := first | omega | (simp (disch := first | omega | (simp only [Hdr.len, Hdr.fr, Kls.len, Kls.fr, List.length_append, List.length_cons, List.length_nil, List.length_set]; first | done | omega)) only [Hdr.len, Hdr.fr, Kls.len, Kls.fr, amSide, Int.reduceToNat, Nat.reducePow, Nat.reduceMul]; first | done | omega)) only  [↓amPre, amPost, ↓s_lit', Nat.reduceAdd, Nat.reduceSub, List.replicate, retA, resultsA, resultA, toC, toCL, Nat.reduceEqDiff, (ze50 S.p), (fa50_0 S.p), (fa50_2 S.p), part_sc (ag3 S.p), part_sc (ag4 S.p), part_all (ag50 S.p) (sz50 S.p), part_at (ag50 S.p) (sz50 S.p), store_last (sz3 S.p), (sz3 S.p), store_last (sz50 S.p), (sz50 S.p), cells_self, cells_other, set_self, set_other, Kls.len, Kls.c0, Kls.c1, Kls.c2, d1, e2, hb, hbi, wrap_i64, Bool.false_eq_true, decide_true, decide_false]
      exact Ends.some rfl
    · rw [hbi] at hb
      by_cases h2 : y.cnt ≥ rv
      · have d2 : decide (y.cnt ≥ rv) = true := decide_eq_true h2
        simp (maxSteps := 1000000) (disch := first | omega | (simp (disch := first | omega | (simp only [Hdr.len, Hdr.fr, Kls.len, Kls.fr, List.length_append, List.length_cons, List.length_nil, List.length_set]; first | done | omega)) only [Hdr.len, Hdr.fr, Kls.len, Kls.fr, amSide, Int.reduceToNat, Nat.reducePow, Nat.reduceMul]; first | done | omega)) only  [↓amPre, amPost, ↓s_lit', Nat.reduceAdd, Nat.reduceSub, List.replicate, retA, resultsA, resultA, toC, toCL, Nat.reduceEqDiff, (ze50 S.p), (fa50_0 S.p), (fa50_2 S.p), part_sc (ag3 S.p), part_sc (ag4 S.p), part_all (ag50 S.p) (sz50 S.p), part_at (ag50 S.p) (sz50 S.p), store_last (sz3 S.p), (sz3 S.p), store_last (sz50 S.p), (sz50 S.p), cells_self, cells_other, set_self, set_other, Kls.len, Kls.c0, Kls.c1, Kls.c2, d1, d2, h2, e2, hb, hbi, wrap_i64, decide_true, decide_false]
        exact Ends.some rfl
      · have d2 : decide (y.cnt ≥ rv) = false := decide_eq_false h2
        by_cases h3 : y.cnt.tmod (if rb < 1 then 1 else rb) = 0
        · simp (maxSteps := 1000000) (disch := first | omega | (simp (disch := first | omega | (simp only [Hdr.len, Hdr.fr, Kls.len, Kls.fr, List.length_append, List.length_cons, List.length_nil, List.length_set]; first | done | omega)) only [Hdr.len, Hdr.fr, Kls.len, Kls.fr, amSide, Int.reduceToNat, Nat.reducePow, Nat.reduceMul]; first | done | omega)) only  [↓amPre, amPost, ↓s_lit', Nat.reduceAdd, Nat.reduceSub, List.replicate, retA, resultsA, resultA, toC, toCL, Nat.reduceEqDiff, (ze50 S.p), (fa50_0 S.p), (fa50_2 S.p), part_sc (ag3 S.p), part_sc (ag4 S.p), part_all (ag50 S.p) (sz50 S.p), part_at (ag50 S.p) (sz50 S.p), store_last (sz3 S.p), (sz3 S.p), store_last (sz50 S.p), (sz50 S.p), cells_self, cells_other, set_self, set_other, Kls.len, Kls.c0, Kls.c1, Kls.c2, d1, d2, h2, h3, hne, e2, hb, hbi, wrap_i64, beq_self_eq_true, decide_true, decide_false]
          exact Ends.some rfl
        · have d3 : (y.cnt.tmod (if rb < 1 then 1 else rb) == 0) = false := beq_false_of_ne h3
          simp (maxSteps := 1000000) (disch := first | omega | (simp (disch := first | omega | (simp only [Hdr.len, Hdr.fr, Kls.len, Kls.fr, List.length_append, List.length_cons, List.length_nil, List.length_set]; first | done | omega)) only [Hdr.len, Hdr.fr, Kls.len, Kls.fr, amSide, Int.reduceToNat, Nat.reducePow, Nat.reduceMul]; first | done | omega)) only  [↓amPre, amPost, ↓s_lit', Nat.reduceAdd, Nat.reduceSub, List.replicate, retA, resultsA, resultA, toC, toCL, Nat.reduceEqDiff, (ze50 S.p), (fa50_0 S.p), (fa50_2 S.p), part_sc (ag3 S.p), part_sc (ag4 S.p), part_all (ag50 S.p) (sz50 S.p), part_at (ag50 S.p) (sz50 S.p), store_last (sz3 S.p), (sz3 S.p), store_last (sz50 S.p), (sz50 S.p), cells_self, cells_other, set_self, set_other, Kls.len, Kls.c0, Kls.c1, Kls.c2, d1, d2, d3, h2, h3, hne, e2, hb, hbi, wrap_i64, decide_true, decide_false]
          exact Ends.some rfl
  · have d1 : decide (c.cnt < 1000) = false := decide_eq_false h1
    have e2 : polC c = c := by simp only [polC, h1, if_false]
    rw [e2]
    cases hbi : c.bias
    · simp (maxSteps := 1000000) (disch := first | omega | (simp (disch := first | omega | (simp only [Hdr.len, Hdr.fr, Kls.len, Kls.fr, List.length_append, List.length_cons, List.length_nil, List.length_set]; first | done | omega)) only [Hdr.len, Hdr.fr, Kls.len, Kls.fr, amSide, Int.reduceToNat, Nat.reducePow, Nat.reduceMul]; first | done | omega)) only  [↓amPre, amPost, ↓s_lit', Nat.reduceAdd, Nat.reduceSub, List.replicate, retA, resultsA, resultA, toC, toCL, Nat.reduceEqDiff, (ze50 S.p), (fa50_0 S.p), (fa50_2 S.p), part_sc (ag3 S.p), part_sc (ag4 S.p), part_all (ag50 S.p) (sz50 S.p), part_at (ag50 S.p) (sz50 S.p), store_last (sz3 S.p), (sz3 S.p), store_last (sz50 S.p), (sz50 S.p), cells_self, cells_other, set_self, set_other, Kls.len, Kls.c0, Kls.c1, Kls.c2, d1, hbi, wrap_i64, Bool.false_eq_true, decide_true, decide_false]
      exact Ends.some rfl
    · by_cases h2 : c.cnt ≥ rv
      · have d2 : decide (c.cnt ≥ rv) = true := decide_eq_true h2
        simp (maxSteps := 1000000) (disch := first | omega | (simp (disch := first | omega | (simp only [Hdr.len, Hdr.fr, Kls.len, Kls.fr, List.length_append, List.length_cons, List.length_nil, List.length_set]; first | done | omega)) only [Hdr.len, Hdr.fr, Kls.len, Kls.fr, amSide, Int.reduceToNat, Nat.reducePow, Nat.reduceMul]; first | done | omega)) only  [↓amPre, amPost, ↓s_lit', Nat.reduceAdd, Nat.reduceSub, List.replicate, retA, resultsA, resultA, toC, toCL, Nat.reduceEqDiff, (ze50 S.p), (fa50_0 S.p), (fa50_2 S.p), part_sc (ag3 S.p), part_sc (ag4 S.p), part_all (ag50 S.p) (sz50 S.p), part_at (ag50 S.p) (sz50 S.p), store_last (sz3 S.p), (sz3 S.p), store_last (sz50 S.p), (sz50 S.p), cells_self, cells_other, set_self, set_other, Kls.len, Kls.c0, Kls.c1, Kls.c2, d1, d2, h2, hbi, wrap_i64, decide_true, decide_false]
        exact Ends.some rfl
      · have d2 : decide (c.cnt ≥ rv) = false := decide_eq_false h2
        by_cases h3 : c.cnt.tmod (if rb < 1 then 1 else rb) = 0
        · simp (maxSteps := 1000000) (disch := first | omega | (simp (disch := first | omega | (simp only [Hdr.len, Hdr.fr, Kls.len, Kls.fr, List.length_append, List.length_cons, List.length_nil, List.length_set]; first | done | omega)) only [Hdr.len, Hdr.fr, Kls.len, Kls.fr, amSide, Int.reduceToNat, Nat.reducePow, Nat.reduceMul]; first | done | omega)) only  [↓amPre, amPost, ↓s_lit', Nat.reduceAdd, Nat.reduceSub, List.replicate, retA, resultsA, resultA, toC, toCL, Nat.reduceEqDiff, (ze50 S.p), (fa50_0 S.p), (fa50_2 S.p), part_sc (ag3 S.p), part_sc (ag4 S.p), part_all (ag50 S.p) (sz50 S.p), part_at (ag50 S.p) (sz50 S.p), store_last (sz3 S.p), (sz3 S.p), store_last (sz50 S.p), (sz50 S.p), cells_self, cells_other, set_self, set_other, Kls.len, Kls.c0, Kls.c1, Kls.c2, d1, d2, h2, h3, hne, hbi, wrap_i64, beq_self_eq_true, decide_true, decide_false]
          exact Ends.some rfl
        · have d3 : (c.cnt.tmod (if rb < 1 then 1 else rb) == 0) = false := beq_false_of_ne h3
          simp (maxSteps := 1000000) (disch := first | omega | (simp (disch := first | omega | (simp only [Hdr.len, Hdr.fr, Kls.len, Kls.fr, List.length_append, List.length_cons, List.length_nil, List.length_set]; first | done | omega)) only [Hdr.len, Hdr.fr, Kls.len, Kls.fr, amSide, Int.reduceToNat, Nat.reducePow, Nat.reduceMul]; first | done | omega)) only  [↓amPre, amPost, ↓s_lit', Nat.reduceAdd, Nat.reduceSub, List.replicate, retA, resultsA, resultA, toC, toCL, Nat.reduceEqDiff, (ze50 S.p), (fa50_0 S.p), (fa50_2 S.p), part_sc (ag3 S.p), part_sc (ag4 S.p), part_all (ag50 S.p) (sz50 S.p), part_at (ag50 S.p) (sz50 S.p), store_last (sz3 S.p), (sz3 S.p), store_last (sz50 S.p), (sz50 S.p), cells_self, cells_other, set_self, set_other, Kls.len, Kls.c0, Kls.c1, Kls.c2, d1, d2, d3, h2, h3, hne, hbi, wrap_i64, decide_true, decide_false]
          exact Ends.some rfl
theorem s10 {P : Program} {T : Tab} {K d : Nat} (S : Sd P T K) (hd : 12 ≤ d) (many : Nat) (hm : many < 65536) (rb rv : Int) (lk : Nat) (h : List AO) :
    ev P T K d 10 [.sc (.int .u16 (many : Nat)), .sc (.int .i64 rb), .sc (.int .i64 rv)] lk h = some (.v (.sc (.bool true)), h) := by
  obtain ⟨d, rfl⟩ : ∃ k, d = k + 1 := ⟨d - 1, by omega⟩
  refine ev_pure (at10 S.t) rfl ?_
  unfold i10 Try.f10
  have hbe : ∀ q : Bool, (q != q) = false := fun q => by cases q <;> rfl
  simp (maxSteps := 1000000) (disch := first | omega | (simp (disch := first | omega | (simp only [Hdr.len, Hdr.fr, Kls.len, Kls.fr, List.length_append, List.length_cons, List.length_nil, List.length_set]; first | done | omega)) only [Hdr.len, Hdr.fr, Kls.len, Kls.fr, amSide, Int.reduceToNat, Nat.reducePow, Nat.reduceMul]; first | done | omega)) only  [↓amPre, amPost, ↓s_lit', Nat.reduceAdd, Nat.reduceSub, List.replicate, retA, resultsA, resultA, toC, toCL, Nat.reduceEqDiff, (ze50 S.p), eql_bool (un4 S.p), neq_bool (un4 S.p), (bu50 S.p), conv_int (un23 S.p) (un3 S.p), (fa50_0 S.p), (fa50_2 S.p), part_sc (ag3 S.p), part_sc (ag4 S.p), part_all (ag50 S.p) (sz50 S.p), part_at (ag50 S.p) (sz50 S.p), store_last (sz50 S.p), (sz50 S.p), splice_def, cells_self, cells_other, set_self, set_other, wrap_i64, tmod_i, Int.reduceEq, Int.reduceToNat, Int.toNat_natCast]
  refine ends_loop (X := Nat × Kls × List AO) (0, ⟨true, 0, 0⟩, h ++ [.rw 50 (Kls.cells ⟨true, 0, 0⟩)] ++ []) [6, 8, 9, 10, 16, 17, 18, 19, 20, 21, 22, 23, 24, 25, 26, 27, 28, 29, 30, 31, 32, 33, 34, 35, 36, 37, 38, 39, 40, 41, 42, 43, 44, 45, 46, 47, 48, 49, 50, 51, 52] (fun x => x.1 ≤ many % 1200 ∧ x.2.1.cnt = (if 1000 < (x.1 : Int) then 1000 else (x.1 : Int)) ∧ ∃ j, x.2.2 = h ++ [.rw 50 x.2.1.cells] ++ j) (fun x => many % 1200 - x.1) (fun x e => e.set 15 (.v (.sc (.int .i64 x.1)))) (fun x => x.2.2)
    (by have := S.k; show _ < K; simp only; omega) ⟨by simp only; omega, rfl, ⟨[], rfl⟩⟩ rfl (by simp only [List.append_nil]; rfl) ?_
  rintro ⟨i, c, hh⟩ ⟨hi, hcn, j, hj⟩ again hag e he
  simp only at hi hcn hj hag he
  subst hj
  simp only [↓amPre, amPost, ↓s_lit', Nat.reduceAdd, Nat.reduceSub, List.replicate, retA, resultsA, resultA, toC, toCL, Nat.reduceEqDiff] at he
  simp only [↓amPre, amPost, ↓s_lit', Nat.reduceAdd, Nat.reduceSub, List.replicate, retA, resultsA, resultA, toC, toCL, Nat.reduceEqDiff, he]
  refine ends_cond (fun hc => ?_) (fun hc => ?_)
  · simp only [decide_eq_true_eq] at hc
    have hcb : -9223372036854775808 ≤ c.cnt := by rw [hcn]; split <;> omega
    have e1 : (polC c).cnt = if 1000 < ((i : Int) + 1) then 1000 else (i : Int) + 1 := by
      simp only [polC]; rw [hcn]
      repeat' split
      all_goals omega
    have e2 : (polC c).bias = c.bias := rfl
    have e3 : c.bias = false → polW c rb rv = 0 := fun hb => by simp [polW, hb]
    have fin : ∀ c2 : Kls, c2.cnt = (polC c).cnt → c2.cnt = if 1000 < ((i + 1 : Nat) : Int) then 1000 else ((i + 1 : Nat) : Int) := fun c2 h2 => by rw [h2, e1]; simp only [Int.natCast_add, Int.cast_ofNat_Int]
    cases hb : c.bias
    · have w0 := e3 hb
      simp (maxSteps := 1000000) (disch := first | omega | (simp (disch := first | omega | (simp only [Hdr.len, Hdr.fr, Kls.len, Kls.fr, List.length_append, List.length_cons, List.length_nil, List.length_set]; first | done | omega)) only [Hdr.len, Hdr.fr, Kls.len, Kls.fr, amSide, Int.reduceToNat, Nat.reducePow, Nat.reduceMul]; first | done | omega)) only  [↓amPre, amPost, ↓s_lit', Nat.reduceAdd, Nat.reduceSub, List.replicate, retA, resultsA, resultA, toC, toCL, Nat.reduceEqDiff, he, (ze50 S.p), eql_bool (un4 S.p), neq_bool (un4 S.p), (bu50 S.p), conv_int (un23 S.p) (un3 S.p), (fa50_0 S.p), (fa50_2 S.p), part_sc (ag3 S.p), part_sc (ag4 S.p), part_all (ag50 S.p) (sz50 S.p), part_at (ag50 S.p) (sz50 S.p), store_last (sz50 S.p), (sz50 S.p), cells_self, cells_other, cells_mid, store_mid (sz50 S.p), set_self, set_other, s37 S _ c hcb, s36 S, wrap_i64, e1, e2, hb, w0, hbe, Kls.len, Kls.c0, Kls.c1, Kls.c2, Int.reduceBNe, Int.reduceBEq, bne_self_eq_false]
      refine hag (i + 1, polC c, _) ⟨by simp only; omega, fin _ rfl, ⟨j ++ [.rw 50 (polC c).cells], by simp only [List.append_assoc]⟩⟩ (by simp only; omega) _ ?_
      simp only [↓amPre, amPost, ↓s_lit', Nat.reduceAdd, Nat.reduceSub, List.replicate, retA, resultsA, resultA, toC, toCL, Nat.reduceEqDiff, Int.natCast_add, Int.cast_ofNat_Int]
    · by_cases hw : polW c rb rv = 2
      · simp (maxSteps := 1000000) (disch := first | omega | (simp (disch := first | omega | (simp only [Hdr.len, Hdr.fr, Kls.len, Kls.fr, List.length_append, List.length_cons, List.length_nil, List.length_set]; first | done | omega)) only [Hdr.len, Hdr.fr, Kls.len, Kls.fr, amSide, Int.reduceToNat, Nat.reducePow, Nat.reduceMul]; first | done | omega)) only  [↓amPre, amPost, ↓s_lit', Nat.reduceAdd, Nat.reduceSub, List.replicate, retA, resultsA, resultA, toC, toCL, Nat.reduceEqDiff, he, (ze50 S.p), eql_bool (un4 S.p), neq_bool (un4 S.p), (bu50 S.p), conv_int (un23 S.p) (un3 S.p), (fa50_0 S.p), (fa50_2 S.p), part_sc (ag3 S.p), part_sc (ag4 S.p), part_all (ag50 S.p) (sz50 S.p), part_at (ag50 S.p) (sz50 S.p), store_last (sz50 S.p), (sz50 S.p), cells_self, cells_other, cells_mid, store_mid (sz50 S.p), set_self, set_other, s37 S _ c hcb, s36 S, wrap_i64, e1, e2, hb, hw, hbe, Kls.len, Kls.c0, Kls.c1, Kls.c2, Int.reduceBNe, Int.reduceBEq, bne_self_eq_false, beq_self_eq_true]
        refine hag (i + 1, never (polC c), _) ⟨by simp only; omega, fin _ rfl, ⟨j ++ [.rw 50 (polC c).cells], by simp only [List.append_assoc]⟩⟩ (by simp only; omega) _ ?_
        simp only [↓amPre, amPost, ↓s_lit', Nat.reduceAdd, Nat.reduceSub, List.replicate, retA, resultsA, resultA, toC, toCL, Nat.reduceEqDiff, Int.natCast_add, Int.cast_ofNat_Int]
      · have hw2 : (polW c rb rv == 2) = false := beq_false_of_ne hw
        simp (maxSteps := 1000000) (disch := first | omega | (simp (disch := first | omega | (simp only [Hdr.len, Hdr.fr, Kls.len, Kls.fr, List.length_append, List.length_cons, List.length_nil, List.length_set]; first | done | omega)) only [Hdr.len, Hdr.fr, Kls.len, Kls.fr, amSide, Int.reduceToNat, Nat.reducePow, Nat.reduceMul]; first | done | omega)) only  [↓amPre, amPost, ↓s_lit', Nat.reduceAdd, Nat.reduceSub, List.replicate, retA, resultsA, resultA, toC, toCL, Nat.reduceEqDiff, he, (ze50 S.p), eql_bool (un4 S.p), neq_bool (un4 S.p), (bu50 S.p), conv_int (un23 S.p) (un3 S.p), (fa50_0 S.p), (fa50_2 S.p), part_sc (ag3 S.p), part_sc (ag4 S.p), part_all (ag50 S.p) (sz50 S.p), part_at (ag50 S.p) (sz50 S.p), store_last (sz50 S.p), (sz50 S.p), cells_self, cells_other, cells_mid, store_mid (sz50 S.p), set_self, set_other, s37 S _ c hcb, s36 S, wrap_i64, e1, e2, hb, hw2, hbe, Kls.len, Kls.c0, Kls.c1, Kls.c2, Int.reduceBNe, Int.reduceBEq, bne_self_eq_false, beq_self_eq_true]
        refine hag (i + 1, polC c, _) ⟨by simp only; omega, fin _ rfl, ⟨j ++ [.rw 50 (polC c).cells], by simp only [List.append_assoc]⟩⟩ (by simp only; omega) _ ?_
        simp only [↓amPre, amPost, ↓s_lit', Nat.reduceAdd, Nat.reduceSub, List.replicate, retA, resultsA, resultA, toC, toCL, Nat.reduceEqDiff, Int.natCast_add, Int.cast_ofNat_Int]
  · simp only [decide_eq_false_iff_not] at hc
    simp (maxSteps := 1000000) (disch := first | omega | (simp (disch := first | omega | (simp only [Hdr.len, Hdr.fr, Kls.len, Kls.fr, List.length_append, List.length_cons, List.length_nil, List.length_set]; first | done | omega)) only [Hdr.len, Hdr.fr, Kls.len, Kls.fr, amSide, Int.reduceToNat, Nat.reducePow, Nat.reduceMul]; first | done | omega)) only  [↓amPre, amPost, ↓s_lit', Nat.reduceAdd, Nat.reduceSub, List.replicate, retA, resultsA, resultA, toC, toCL, Nat.reduceEqDiff, he, (ze50 S.p), eql_bool (un4 S.p), neq_bool (un4 S.p), (bu50 S.p), conv_int (un23 S.p) (un3 S.p), (fa50_0 S.p), (fa50_2 S.p), part_sc (ag3 S.p), part_sc (ag4 S.p), part_all (ag50 S.p) (sz50 S.p), part_at (ag50 S.p) (sz50 S.p), store_last (sz50 S.p), (sz50 S.p), s34 S]
    exact Ends.some rfl
end Go.AM
