/- Races: the next state; the states of all cells. Conditions: none. -/
import Derived.Test.YtgcgbcdgbfeaaaaBa1
import Derived.Test.YtgcgbcdgbfeaaaaAmOwn
set_option linter.unusedVariables false
set_option linter.unusedSimpArgs false
set_option maxRecDepth 100000
namespace Go.AM
open Go.Proofs
-- LENS: ck_len, AcV.len, AcV.hk, StV.len
theorem StV.c0 (x : StV) : x.cells[0]? = some (.int .i64 x.k) := nrfl rfl
theorem StV.c1 (x : StV) : x.cells[1]? = some (.int .i64 x.t) := nrfl rfl
theorem StV.c2 (x : StV) : x.cells[2]? = some (.int .u64 x.L) := nrfl rfl
theorem splN (a : List SV) (x : StV) (h : a.length = 3) : splice a 0 x.cells = x.cells := by
  unfold splice
  have e : x.cells.length = 3 := StV.len x
  rw [List.take_zero, List.nil_append, Nat.zero_add, e, List.drop_eq_nil_of_le (by omega), List.append_nil]
set_option maxHeartbeats 4000000 in
theorem b100 {P : Program} {T : Tab} {K d : Nat} (S : Sb P T K) (hd : 2 ≤ d) (s : StV) (a : AcV) (lk : Nat) (h : List AO) : ev P T K d 100 [.ag s.cells, .ag a.cells] lk h = some (.v (.ag (nextV s a).cells), h) := by
  obtain ⟨d, rfl⟩ : ∃ k, d = k + 1 := ⟨d - 1, by omega⟩
  refine ev_pure S.t100 rfl ?_
  unfold j100 Try.f100
  have x0 := AcV.c0 a
  have x2 := AcV.c2 a
  have x4 := AcV.c11 a
  have s0 := StV.c0 s
  have s1 := StV.c1 s
  have s2 := StV.c2 s
  have f1 := fun lk h => b59 S (show 1 ≤ d by omega) a lk h
  have f2 := fun k L lk h => b119 S (show 1 ≤ d by omega) k L lk h
  have hN : nextV s a = if a.one = false then s else if s.k = 0 then ⟨1, a.t, 0⟩ else if s.k = 1 then (if a.t = s.t then s else metV (wrV a) a.L) else if s.k = 2 then metV (wrV a) (andV s.L a.L) else metV s.k (andV s.L a.L) := rfl
  have hW : wrV a = if a.w = true then 3 else 2 := rfl
  rw [hN, hW]
  generalize ho : a.one = o at *
  generalize hw : a.w = w at *
  have hA : bitsA .and .u64 s.L a.L = andV s.L a.L := rfl
  have hsl : s.cells.length = 3 := StV.len s
  have hal : a.cells.length = 12 := AcV.len a
  have m1 := fun k L => StV.len (metV k L)
  have sp := fun (c : List SV) (x : StV) (h : c.length = 3) => splN c x h
  have sp3 : splice [.int .i64 0, .int .i64 0, .int .u64 0] 0 [.int .i64 1, .int .i64 a.t, .int .u64 0] = StV.cells ⟨1, a.t, 0⟩ := rfl
  cases o with
  | false =>
    cases w
    · simp (maxSteps := 1000000) (disch := first | omega | (simp (disch := first | omega | (simp only [ck_len, AcV.len, AcV.hk, StV.len, List.length_append, List.length_cons, List.length_nil, List.length_set]; first | done | omega)) only [ck_len, AcV.len, AcV.hk, StV.len, amSide, Int.reduceToNat, Nat.reducePow, Nat.reduceMul]; first | done | omega)) only  [↓amPre, amPost, ↓s_lit', Nat.reduceAdd, Nat.reduceSub, List.replicate, retA, resultsA, resultA, toC, toCL, Nat.reduceEqDiff, (ze45 S.p), (bu45 S.p), (fa41_0 S.p), (fa41_2 S.p), (fa41_4 S.p), (fa45_0 S.p), (fa45_1 S.p), (fa45_2 S.p), part_sc (ag3 S.p), part_sc (ag39 S.p), part_sc (ag4 S.p), part_all (ag41 S.p) (sz41 S.p), part_at (ag41 S.p) (sz41 S.p), part_all (ag45 S.p) (sz45 S.p), part_at (ag45 S.p) (sz45 S.p), store_last (sz45 S.p), (sz45 S.p), cells_self, cells_other, x0, x2, x4, s0, s1, s2, f1, sp, beqI_t, beqI_f, Nat.zero_add]
      exact Ends.some rfl
    · simp (maxSteps := 1000000) (disch := first | omega | (simp (disch := first | omega | (simp only [ck_len, AcV.len, AcV.hk, StV.len, List.length_append, List.length_cons, List.length_nil, List.length_set]; first | done | omega)) only [ck_len, AcV.len, AcV.hk, StV.len, amSide, Int.reduceToNat, Nat.reducePow, Nat.reduceMul]; first | done | omega)) only  [↓amPre, amPost, ↓s_lit', Nat.reduceAdd, Nat.reduceSub, List.replicate, retA, resultsA, resultA, toC, toCL, Nat.reduceEqDiff, (ze45 S.p), (bu45 S.p), (fa41_0 S.p), (fa41_2 S.p), (fa41_4 S.p), (fa45_0 S.p), (fa45_1 S.p), (fa45_2 S.p), part_sc (ag3 S.p), part_sc (ag39 S.p), part_sc (ag4 S.p), part_all (ag41 S.p) (sz41 S.p), part_at (ag41 S.p) (sz41 S.p), part_all (ag45 S.p) (sz45 S.p), part_at (ag45 S.p) (sz45 S.p), store_last (sz45 S.p), (sz45 S.p), cells_self, cells_other, x0, x2, x4, s0, s1, s2, f1, sp, beqI_t, beqI_f, Nat.zero_add]
      exact Ends.some rfl
  | true =>
    by_cases k0 : s.k = 0
    · cases w
      · simp (maxSteps := 1000000) (disch := first | omega | (simp (disch := first | omega | (simp only [ck_len, AcV.len, AcV.hk, StV.len, List.length_append, List.length_cons, List.length_nil, List.length_set]; first | done | omega)) only [ck_len, AcV.len, AcV.hk, StV.len, amSide, Int.reduceToNat, Nat.reducePow, Nat.reduceMul]; first | done | omega)) only  [↓amPre, amPost, ↓s_lit', Nat.reduceAdd, Nat.reduceSub, List.replicate, retA, resultsA, resultA, toC, toCL, Nat.reduceEqDiff, (ze45 S.p), (bu45 S.p), (fa41_0 S.p), (fa41_2 S.p), (fa41_4 S.p), (fa45_0 S.p), (fa45_1 S.p), (fa45_2 S.p), part_sc (ag3 S.p), part_sc (ag39 S.p), part_sc (ag4 S.p), part_all (ag41 S.p) (sz41 S.p), part_at (ag41 S.p) (sz41 S.p), part_all (ag45 S.p) (sz45 S.p), part_at (ag45 S.p) (sz45 S.p), store_last (sz45 S.p), (sz45 S.p), cells_self, cells_other, x0, x2, x4, s0, s1, s2, f1, f2, sp, sp3, hA, beqI_t, beqI_f, Nat.zero_add]
        exact Ends.some (by simp [*])
      · simp (maxSteps := 1000000) (disch := first | omega | (simp (disch := first | omega | (simp only [ck_len, AcV.len, AcV.hk, StV.len, List.length_append, List.length_cons, List.length_nil, List.length_set]; first | done | omega)) only [ck_len, AcV.len, AcV.hk, StV.len, amSide, Int.reduceToNat, Nat.reducePow, Nat.reduceMul]; first | done | omega)) only  [↓amPre, amPost, ↓s_lit', Nat.reduceAdd, Nat.reduceSub, List.replicate, retA, resultsA, resultA, toC, toCL, Nat.reduceEqDiff, (ze45 S.p), (bu45 S.p), (fa41_0 S.p), (fa41_2 S.p), (fa41_4 S.p), (fa45_0 S.p), (fa45_1 S.p), (fa45_2 S.p), part_sc (ag3 S.p), part_sc (ag39 S.p), part_sc (ag4 S.p), part_all (ag41 S.p) (sz41 S.p), part_at (ag41 S.p) (sz41 S.p), part_all (ag45 S.p) (sz45 S.p), part_at (ag45 S.p) (sz45 S.p), store_last (sz45 S.p), (sz45 S.p), cells_self, cells_other, x0, x2, x4, s0, s1, s2, f1, f2, sp, sp3, hA, beqI_t, beqI_f, Nat.zero_add]
        exact Ends.some (by simp [*])
    · by_cases k1 : s.k = 1
      · by_cases t1 : a.t = s.t
        · cases w
          · simp (maxSteps := 1000000) (disch := first | omega | (simp (disch := first | omega | (simp only [ck_len, AcV.len, AcV.hk, StV.len, List.length_append, List.length_cons, List.length_nil, List.length_set]; first | done | omega)) only [ck_len, AcV.len, AcV.hk, StV.len, amSide, Int.reduceToNat, Nat.reducePow, Nat.reduceMul]; first | done | omega)) only  [↓amPre, amPost, ↓s_lit', Nat.reduceAdd, Nat.reduceSub, List.replicate, retA, resultsA, resultA, toC, toCL, Nat.reduceEqDiff, (ze45 S.p), (bu45 S.p), (fa41_0 S.p), (fa41_2 S.p), (fa41_4 S.p), (fa45_0 S.p), (fa45_1 S.p), (fa45_2 S.p), part_sc (ag3 S.p), part_sc (ag39 S.p), part_sc (ag4 S.p), part_all (ag41 S.p) (sz41 S.p), part_at (ag41 S.p) (sz41 S.p), part_all (ag45 S.p) (sz45 S.p), part_at (ag45 S.p) (sz45 S.p), store_last (sz45 S.p), (sz45 S.p), cells_self, cells_other, x0, x2, x4, s0, s1, s2, f1, f2, sp, sp3, hA, beqI_t, beqI_f, Nat.zero_add]
            exact Ends.some (by simp [*])
          · simp (maxSteps := 1000000) (disch := first | omega | (simp (disch := first | omega | (simp only [ck_len, AcV.len, AcV.hk, StV.len, List.length_append, List.length_cons, List.length_nil, List.length_set]; first | done | omega)) only [ck_len, AcV.len, AcV.hk, StV.len, amSide, Int.reduceToNat, Nat.reducePow, Nat.reduceMul]; first | done | omega)) only  [↓amPre, amPost, ↓s_lit', Nat.reduceAdd, Nat.reduceSub, List.replicate, retA, resultsA, resultA, toC, toCL, Nat.reduceEqDiff, (ze45 S.p), (bu45 S.p), (fa41_0 S.p), (fa41_2 S.p), (fa41_4 S.p), (fa45_0 S.p), (fa45_1 S.p), (fa45_2 S.p), part_sc (ag3 S.p), part_sc (ag39 S.p), part_sc (ag4 S.p), part_all (ag41 S.p) (sz41 S.p), part_at (ag41 S.p) (sz41 S.p), part_all (ag45 S.p) (sz45 S.p), part_at (ag45 S.p) (sz45 S.p), store_last (sz45 S.p), (sz45 S.p), cells_self, cells_other, x0, x2, x4, s0, s1, s2, f1, f2, sp, sp3, hA, beqI_t, beqI_f, Nat.zero_add]
            exact Ends.some (by simp [*])
        · cases w
          · simp (maxSteps := 1000000) (disch := first | omega | (simp (disch := first | omega | (simp only [ck_len, AcV.len, AcV.hk, StV.len, List.length_append, List.length_cons, List.length_nil, List.length_set]; first | done | omega)) only [ck_len, AcV.len, AcV.hk, StV.len, amSide, Int.reduceToNat, Nat.reducePow, Nat.reduceMul]; first | done | omega)) only  [↓amPre, amPost, ↓s_lit', Nat.reduceAdd, Nat.reduceSub, List.replicate, retA, resultsA, resultA, toC, toCL, Nat.reduceEqDiff, (ze45 S.p), (bu45 S.p), (fa41_0 S.p), (fa41_2 S.p), (fa41_4 S.p), (fa45_0 S.p), (fa45_1 S.p), (fa45_2 S.p), part_sc (ag3 S.p), part_sc (ag39 S.p), part_sc (ag4 S.p), part_all (ag41 S.p) (sz41 S.p), part_at (ag41 S.p) (sz41 S.p), part_all (ag45 S.p) (sz45 S.p), part_at (ag45 S.p) (sz45 S.p), store_last (sz45 S.p), (sz45 S.p), cells_self, cells_other, x0, x2, x4, s0, s1, s2, f1, f2, sp, sp3, hA, beqI_t, beqI_f, Nat.zero_add]
            exact Ends.some (by simp [*])
          · simp (maxSteps := 1000000) (disch := first | omega | (simp (disch := first | omega | (simp only [ck_len, AcV.len, AcV.hk, StV.len, List.length_append, List.length_cons, List.length_nil, List.length_set]; first | done | omega)) only [ck_len, AcV.len, AcV.hk, StV.len, amSide, Int.reduceToNat, Nat.reducePow, Nat.reduceMul]; first | done | omega)) only  [↓amPre, amPost, ↓s_lit', Nat.reduceAdd, Nat.reduceSub, List.replicate, retA, resultsA, resultA, toC, toCL, Nat.reduceEqDiff, (ze45 S.p), (bu45 S.p), (fa41_0 S.p), (fa41_2 S.p), (fa41_4 S.p), (fa45_0 S.p), (fa45_1 S.p), (fa45_2 S.p), part_sc (ag3 S.p), part_sc (ag39 S.p), part_sc (ag4 S.p), part_all (ag41 S.p) (sz41 S.p), part_at (ag41 S.p) (sz41 S.p), part_all (ag45 S.p) (sz45 S.p), part_at (ag45 S.p) (sz45 S.p), store_last (sz45 S.p), (sz45 S.p), cells_self, cells_other, x0, x2, x4, s0, s1, s2, f1, f2, sp, sp3, hA, beqI_t, beqI_f, Nat.zero_add]
            exact Ends.some (by simp [*])
      · by_cases k2 : s.k = 2
        · cases w
          · simp (maxSteps := 1000000) (disch := first | omega | (simp (disch := first | omega | (simp only [ck_len, AcV.len, AcV.hk, StV.len, List.length_append, List.length_cons, List.length_nil, List.length_set]; first | done | omega)) only [ck_len, AcV.len, AcV.hk, StV.len, amSide, Int.reduceToNat, Nat.reducePow, Nat.reduceMul]; first | done | omega)) only  [↓amPre, amPost, ↓s_lit', Nat.reduceAdd, Nat.reduceSub, List.replicate, retA, resultsA, resultA, toC, toCL, Nat.reduceEqDiff, (ze45 S.p), (bu45 S.p), (fa41_0 S.p), (fa41_2 S.p), (fa41_4 S.p), (fa45_0 S.p), (fa45_1 S.p), (fa45_2 S.p), part_sc (ag3 S.p), part_sc (ag39 S.p), part_sc (ag4 S.p), part_all (ag41 S.p) (sz41 S.p), part_at (ag41 S.p) (sz41 S.p), part_all (ag45 S.p) (sz45 S.p), part_at (ag45 S.p) (sz45 S.p), store_last (sz45 S.p), (sz45 S.p), cells_self, cells_other, x0, x2, x4, s0, s1, s2, f1, f2, sp, sp3, hA, beqI_t, beqI_f, Nat.zero_add]
            exact Ends.some (by simp [*])
          · simp (maxSteps := 1000000) (disch := first | omega | (simp (disch := first | omega | (simp only [ck_len, AcV.len, AcV.hk, StV.len, List.length_append, List.length_cons, List.length_nil, List.length_set]; first | done | omega)) only [ck_len, AcV.len, AcV.hk, StV.len, amSide, Int.reduceToNat, Nat.reducePow, Nat.reduceMul]; first | done | omega)) only  [↓amPre, amPost, ↓s_lit', Nat.reduceAdd, Nat.reduceSub, List.replicate, retA, resultsA, resultA, toC, toCL, Nat.reduceEqDiff, (ze45 S.p), (bu45 S.p), (fa41_0 S.p), (fa41_2 S.p), (fa41_4 S.p), (fa45_0 S.p), (fa45_1 S.p), (fa45_2 S.p), part_sc (ag3 S.p), part_sc (ag39 S.p), part_sc (ag4 S.p), part_all (ag41 S.p) (sz41 S.p), part_at (ag41 S.p) (sz41 S.p), part_all (ag45 S.p) (sz45 S.p), part_at (ag45 S.p) (sz45 S.p), store_last (sz45 S.p), (sz45 S.p), cells_self, cells_other, x0, x2, x4, s0, s1, s2, f1, f2, sp, sp3, hA, beqI_t, beqI_f, Nat.zero_add]
            exact Ends.some (by simp [*])
        · cases w
          · simp (maxSteps := 1000000) (disch := first | omega | (simp (disch := first | omega | (simp only [ck_len, AcV.len, AcV.hk, StV.len, List.length_append, List.length_cons, List.length_nil, List.length_set]; first | done | omega)) only [ck_len, AcV.len, AcV.hk, StV.len, amSide, Int.reduceToNat, Nat.reducePow, Nat.reduceMul]; first | done | omega)) only  [↓amPre, amPost, ↓s_lit', Nat.reduceAdd, Nat.reduceSub, List.replicate, retA, resultsA, resultA, toC, toCL, Nat.reduceEqDiff, (ze45 S.p), (bu45 S.p), (fa41_0 S.p), (fa41_2 S.p), (fa41_4 S.p), (fa45_0 S.p), (fa45_1 S.p), (fa45_2 S.p), part_sc (ag3 S.p), part_sc (ag39 S.p), part_sc (ag4 S.p), part_all (ag41 S.p) (sz41 S.p), part_at (ag41 S.p) (sz41 S.p), part_all (ag45 S.p) (sz45 S.p), part_at (ag45 S.p) (sz45 S.p), store_last (sz45 S.p), (sz45 S.p), cells_self, cells_other, x0, x2, x4, s0, s1, s2, f1, f2, sp, sp3, hA, beqI_t, beqI_f, Nat.zero_add]
            exact Ends.some (by simp [*])
          · simp (maxSteps := 1000000) (disch := first | omega | (simp (disch := first | omega | (simp only [ck_len, AcV.len, AcV.hk, StV.len, List.length_append, List.length_cons, List.length_nil, List.length_set]; first | done | omega)) only [ck_len, AcV.len, AcV.hk, StV.len, amSide, Int.reduceToNat, Nat.reducePow, Nat.reduceMul]; first | done | omega)) only  [↓amPre, amPost, ↓s_lit', Nat.reduceAdd, Nat.reduceSub, List.replicate, retA, resultsA, resultA, toC, toCL, Nat.reduceEqDiff, (ze45 S.p), (bu45 S.p), (fa41_0 S.p), (fa41_2 S.p), (fa41_4 S.p), (fa45_0 S.p), (fa45_1 S.p), (fa45_2 S.p), part_sc (ag3 S.p), part_sc (ag39 S.p), part_sc (ag4 S.p), part_all (ag41 S.p) (sz41 S.p), part_at (ag41 S.p) (sz41 S.p), part_all (ag45 S.p) (sz45 S.p), part_at (ag45 S.p) (sz45 S.p), store_last (sz45 S.p), (sz45 S.p), cells_self, cells_other, x0, x2, x4, s0, s1, s2, f1, f2, sp, sp3, hA, beqI_t, beqI_f, Nat.zero_add]
            exact Ends.some (by simp [*])
/-- The map behind so many accesses. -/
def mC (l : List AcV) : Nat → List (Int × CV)
  | 0 => []
  | n + 1 => match l[n]? with | some x => updC x.c (.ag (cellV l x.c (n + 1)).cells) (mC l n) | none => mC l n
theorem mC_succ {l : List AcV} {n : Nat} {x : AcV} (h : l[n]? = some x) : mC l (n + 1) = updC x.c (.ag (nextV (cellV l x.c n) x).cells) (mC l n) := by
  show (match l[n]? with | some x => updC x.c (.ag (cellV l x.c (n + 1)).cells) (mC l n) | none => mC l n) = _
  rw [h]
  simp only
  rw [cellV_succ h, if_pos rfl]
theorem mC_nd (l : List AcV) : ∀ n, NdC (mC l n)
  | 0 => trivial
  | n + 1 => by
    unfold mC
    split
    · exact (mC_nd l n).upd _ _
    · exact mC_nd l n
theorem mC_get (l : List AcV) (c : Int) : ∀ n, getC (.ag [.int .i64 0, .int .i64 0, .int .u64 0]) c (mC l n) = .ag (cellV l c n).cells
  | 0 => rfl
  | n + 1 => by
    cases h : l[n]? with
    | none =>
      have e1 : mC l (n + 1) = mC l n := by
        show (match l[n]? with | some x => updC x.c (.ag (cellV l x.c (n + 1)).cells) (mC l n) | none => mC l n) = _
        rw [h]
      have e2 : cellV l c (n + 1) = cellV l c n := by
        show (match l[n]? with | some x => if x.c = c then nextV (cellV l c n) x else cellV l c n | none => cellV l c n) = _
        rw [h]
      rw [e1, e2]; exact mC_get l c n
    | some x =>
      rw [mC_succ h, getC_upd, cellV_succ h]
      by_cases e : c = x.c
      · subst e; rw [if_pos rfl, if_pos rfl]
      · rw [if_neg e, if_neg e]; exact mC_get l c n
theorem StV.fr (x : StV) : (freeA (.v (.ag x.cells))).isSome = true := nrfl rfl
/-- A slice that is a block's beginning. -/
def Rp {α : Type} (f : α → List SV) (s : Nat) (h : List AO) (q : SV) (l : List α) : Prop := (q = .nils ∧ l = []) ∨ ∃ b t, q = .sl b 0 l.length s ∧ b < h.length ∧ cellsAt h b = some (recs f (l ++ t))
theorem Rs.rp {α : Type} {f : α → List SV} {s : Nat} {h : List AO} {q : SV} {l : List α} (H : Rs f s h q l) : Rp f s h q l := by
  rcases H with H | ⟨b, h1, h2, h3⟩
  · exact .inl H
  · exact .inr ⟨b, [], h1, h2, by rw [List.append_nil]; exact h3⟩
theorem Rp.len {α : Type} {f : α → List SV} {s : Nat} {P : Program} {t el : TypeId} (hu : P.underlying t = some (.slice el)) {h : List AO} {q : SV} {l : List α} (H : Rp f s h q l) (hh : List AO) : lenA P hh t (.v (.sc q)) = some (.v (.sc (.int .i64 (l.length : Int)))) := by
  rcases H with ⟨rfl, rfl⟩ | ⟨b, r, rfl, h2, h3⟩
  · exact Rs.len hu (f := f) (s := s) (h := [.ro (recs f ([] : List α))]) (.inl ⟨rfl, rfl⟩) hh
  · exact Rs.len hu (f := f) (s := s) (h := (List.replicate b .dead) ++ [.ro (recs f l)]) (.inr ⟨b, rfl, by simp, by simp [cellsAt]⟩) hh
theorem Rp.at {α : Type} {f : α → List SV} {s : Nat} {h : List AO} {q : SV} {l : List α} (H : Rp f s h q l) (h0 : 0 < l.length) : ∃ b t, q = .sl b 0 l.length s ∧ b < h.length ∧ cellsAt h b = some (recs f (l ++ t)) := by
  rcases H with ⟨rfl, rfl⟩ | H
  · simp at h0
  · exact H
theorem Rp.ext {α : Type} {f : α → List SV} {s : Nat} {h h' : List AO} {q : SV} {l : List α} (H : Rp f s h q l) (hx : Ext1 h h') : Rp f s h' q l := by
  rcases H with H | ⟨b, t, h1, h2, h3⟩
  · exact .inl H
  · exact .inr ⟨b, t, h1, by have := hx.len; omega, by rw [hx.cells h2]; exact h3⟩
structure ThB where
  i : Nat
  h : List AO
set_option maxHeartbeats 4000000 in
theorem b60 {P : Program} {T : Tab} {K d : Nat} (S : Sb P T K) (hd : 3 ≤ d) (q : SV) (l : List AcV) (hl : l.length ≤ 300) (lk : Nat) (h : List AO) (hlk : lk ≤ h.length) (hq : Rp AcV.cells 12 h q l) :
    Ends (fun v h' => Ext1 h h' ∧ v = .v (.sc (.mp h.length)) ∧ h.length < h'.length ∧ h'[h.length]? = some (.map (entsC (mC l l.length)))) (ev P T K d 60 [.sc q] lk h) := by
  obtain ⟨d, rfl⟩ : ∃ k, d = k + 1 := ⟨d - 1, by omega⟩
  rw [ev_run S.t60]
  unfold j60 Try.f60
  have hlen := hq.len (un27 S.p)
  simp (maxSteps := 1000000) (disch := first | omega | (simp (disch := first | omega | (simp only [ck_len, AcV.len, AcV.hk, StV.len, List.length_append, List.length_cons, List.length_nil, List.length_set]; first | done | omega)) only [ck_len, AcV.len, AcV.hk, StV.len, amSide, Int.reduceToNat, Nat.reducePow, Nat.reduceMul]; first | done | omega)) only  [↓amPre, amPost, ↓s_lit', Nat.reduceAdd, Nat.reduceSub, List.replicate, retA, resultsA, resultA, toC, toCL, Nat.reduceEqDiff, (ze41 S.p), (fa41_1 S.p), iaddr_sl (un27 S.p) (sz41 S.p), len_sl (un27 S.p), len_nils (un27 S.p), part_sc (ag3 S.p), part_all (ag41 S.p) (sz41 S.p), part_at (ag41 S.p) (sz41 S.p), store_last (sz41 S.p), (sz41 S.p), hlen]
  refine ends_loop (X := ThB) ⟨0, h ++ [.map []]⟩ [5, 10, 11, 12, 13, 14, 15, 16, 17, 18, 19, 20, 21, 22]
    (fun x => x.i ≤ l.length ∧ Ext1 h x.h ∧ h.length < x.h.length ∧ x.h[h.length]? = some (.map (entsC (mC l x.i)))) (fun x => l.length - x.i)
    (fun x e => e.set 9 (.v (.sc (.int .i64 x.i)))) (fun x => x.h)
    (by have := S.k; show _ < K; simp only; omega) ⟨by simp only; omega, (Ext1.refl h).push _, by simp, by simp [mC, entsC]⟩ rfl rfl ?_
  rintro ⟨i, hj⟩ ⟨hi, hx, hlt, hM⟩ again hag e he
  simp only at hi hx hlt hM hag he
  simp only [↓amPre, amPost, ↓s_lit', Nat.reduceAdd, Nat.reduceSub, List.replicate, retA, resultsA, resultA, toC, toCL, Nat.reduceEqDiff] at he
  simp only [↓amPre, amPost, ↓s_lit', Nat.reduceAdd, Nat.reduceSub, List.replicate, retA, resultsA, resultA, toC, toCL, Nat.reduceEqDiff, he]
  refine ends_cond (fun hc1 => ?_) (fun hc1 => ?_)
  · simp only [decide_eq_true_eq] at hc1
    obtain ⟨b, t, rfl, hb, hc⟩ := hq.at (by omega)
    have hcj : cellsAt hj b = some (recs AcV.cells (l ++ t)) := by rw [hx.cells hb]; exact hc
    obtain ⟨y, hy⟩ : ∃ y, l[i]? = some y := ⟨_, List.getElem?_eq_getElem (by omega)⟩
    have hpt := recs_part (ag41 S.p) (sz41 S.p) AcV.len (show (l ++ t)[i]? = some y by rw [List.getElem?_append_left (by omega)]; exact hy)
    have hle := hx.len
    have hM1 : (hj ++ [AO.rw 41 y.cells])[h.length]? = some (.map (entsC (mC l i))) := by rw [List.getElem?_append_left hlt]; exact hM
    have gc1 := AcV.c1 y
    have hpy : partA P 41 y.cells 0 = some (.ag y.cells) := by
      have := recs_part (ag41 S.p) (sz41 S.p) AcV.len (l := [y]) (i := 0) rfl
      rw [show recs AcV.cells [y] = y.cells by simp [recs]] at this; exact this
    have hmu : lookupA P (hj ++ [AO.rw 41 y.cells]) 134 (.v (.sc (.mp h.length))) (.v (.sc (.int .i64 y.c))) false = _ := lookup_entsC (un134 S.p) (un3 S.p) (zc45 S.p) hM1 y.c
    rw [mC_get] at hmu
    have f100 := fun lk h => b100 S (show 2 ≤ d by omega) (cellV l y.c i) y lk h
    have hup := upd_entsC (P := P) (un134 S.p) (un3 S.p) hM1 hlk y.c (.ag (nextV (cellV l y.c i) y).cells)
    rw [← mC_succ hy] at hup
    simp (maxSteps := 1000000) (disch := first | omega | (simp (disch := first | omega | (simp only [ck_len, AcV.len, AcV.hk, StV.len, List.length_append, List.length_cons, List.length_nil, List.length_set]; first | done | omega)) only [ck_len, AcV.len, AcV.hk, StV.len, amSide, Int.reduceToNat, Nat.reducePow, Nat.reduceMul]; first | done | omega)) only  [↓amPre, amPost, ↓s_lit', Nat.reduceAdd, Nat.reduceSub, List.replicate, retA, resultsA, resultA, toC, toCL, Nat.reduceEqDiff, he, (ze41 S.p), (fa41_1 S.p), iaddr_sl (un27 S.p) (sz41 S.p), len_sl (un27 S.p), len_nils (un27 S.p), part_sc (ag3 S.p), part_all (ag41 S.p) (sz41 S.p), part_at (ag41 S.p) (sz41 S.p), store_last (sz41 S.p), (sz41 S.p), idx_ok, hcj, hpt, hpy, gc1, hmu, f100, effQ_some _ (StV.fr (nextV (cellV l y.c i) y)), hup, cells_self, cells_other, Int.toNat_natCast, Nat.zero_add, wrap_i64]
    refine hag ⟨i + 1, _⟩ ⟨by simp only; omega, (hx.push _).set (by omega) _, by simp; omega, List.getElem?_set_self (by simp; omega)⟩ (by simp only; omega) _ ?_
    simp (maxSteps := 1000000) (disch := first | omega | (simp (disch := first | omega | (simp only [ck_len, AcV.len, AcV.hk, StV.len, List.length_append, List.length_cons, List.length_nil, List.length_set]; first | done | omega)) only [ck_len, AcV.len, AcV.hk, StV.len, amSide, Int.reduceToNat, Nat.reducePow, Nat.reduceMul]; first | done | omega)) only [↓amPre, amPost, ↓s_lit', Nat.reduceAdd, Nat.reduceSub, List.replicate, retA, resultsA, resultA, toC, toCL, Nat.reduceEqDiff, Int.natCast_add, Int.cast_ofNat_Int, dec_t, dec_f]
  · simp only [decide_eq_false_iff_not] at hc1
    obtain rfl : i = l.length := by omega
    simp (maxSteps := 1000000) (disch := first | omega | (simp (disch := first | omega | (simp only [ck_len, AcV.len, AcV.hk, StV.len, List.length_append, List.length_cons, List.length_nil, List.length_set]; first | done | omega)) only [ck_len, AcV.len, AcV.hk, StV.len, amSide, Int.reduceToNat, Nat.reducePow, Nat.reduceMul]; first | done | omega)) only  [↓amPre, amPost, ↓s_lit', Nat.reduceAdd, Nat.reduceSub, List.replicate, retA, resultsA, resultA, toC, toCL, Nat.reduceEqDiff, he, (ze41 S.p), (fa41_1 S.p), iaddr_sl (un27 S.p) (sz41 S.p), len_sl (un27 S.p), len_nils (un27 S.p), part_sc (ag3 S.p), part_all (ag41 S.p) (sz41 S.p), part_at (ag41 S.p) (sz41 S.p), store_last (sz41 S.p), (sz41 S.p)]
    exact Ends.some ⟨hx, rfl, hlt, hM⟩
end Go.AM
