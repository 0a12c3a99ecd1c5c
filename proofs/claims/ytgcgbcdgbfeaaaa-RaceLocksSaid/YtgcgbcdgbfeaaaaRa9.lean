/- Races: they do not hang on which is the first one; without clocks side by side there is none. Conditions: none. -/
import Derived.Test.YtgcgbcdgbfeaaaaRa8
set_option linter.unusedVariables false
set_option linter.unusedSimpArgs false
set_option maxRecDepth 100000
namespace Go.AM
open Go.Proofs
-- LENS: freeL_ck, ck_len, AcV.len, AcV.hk, PrV.len, StV.len
theorem besV_comm (a b : List Int) : besV a b = besV b a := by unfold besV; rw [Bool.and_comm]
theorem raceV_comm (x y : AcV) : raceV x y = raceV y x := by
  unfold raceV
  rw [besV_comm x.k y.k, Bool.and_comm x.one y.one, Bool.or_comm x.w y.w, show decide (x.c = y.c) = decide (y.c = x.c) from decide_eq_decide.2 eq_comm, show decide (x.t ≠ y.t) = decide (y.t ≠ x.t) from decide_eq_decide.2 ne_comm]
theorem raceV_t {x y : AcV} (h : raceV x y = true) : x.t ≠ y.t := by
  unfold raceV at h
  simp only [Bool.and_eq_true, decide_eq_true_eq] at h
  exact h.1.1.2
theorem raceV_b {x y : AcV} (h : raceV x y = true) : besV x.k y.k = true := by
  unfold raceV at h
  simp only [Bool.and_eq_true] at h
  exact h.2
theorem rowP_mem {l : List AcV} {k : Nat} {y : AcV} {n : Nat} (h : 0 < (rowP l k y n).length) : ∃ x ∈ l, raceV x y = true := by
  unfold rowP at h
  rw [List.length_map] at h
  obtain ⟨i, hi⟩ := List.exists_mem_of_length_pos h
  rw [List.mem_filter] at hi
  cases hx : l[i]? with
  | none => rw [hx] at hi; simp at hi
  | some x => rw [hx] at hi; exact ⟨x, List.mem_of_getElem? hx, hi.2⟩
theorem allP_mem {l : List AcV} : ∀ n, 0 < (allP l n).length → ∃ x ∈ l, ∃ y ∈ l, raceV x y = true
  | 0, h => by simp [allP] at h
  | n + 1, h => by
    cases hy : l[n]? with
    | none =>
      unfold allP at h
      rw [hy] at h
      exact allP_mem n h
    | some y =>
      rw [allP_succ hy, List.length_append] at h
      by_cases h0 : 0 < (allP l n).length
      · exact allP_mem n h0
      · obtain ⟨x, hx, hr⟩ := rowP_mem (show 0 < (rowP l n y n).length by omega)
        exact ⟨x, hx, y, List.mem_of_getElem? hy, hr⟩
/-- Are two of so many clocks, and of all, side by side? -/
def bsO (l : List AcV) (i : Nat) : Bool := (l.take i).any fun a => l.any fun b => besV a.k b.k
theorem bsO_all {l : List AcV} (h : 0 < (allP l l.length).length) : bsO l l.length = true := by
  obtain ⟨x, hx, y, hy, hr⟩ := allP_mem _ h
  unfold bsO
  rw [List.take_length, List.any_eq_true]
  exact ⟨x, hx, List.any_eq_true.2 ⟨y, hy, raceV_b hr⟩⟩
theorem any_take_succ {α : Type} {l : List α} {i : Nat} {x : α} (h : l[i]? = some x) (f : α → Bool) : (l.take (i + 1)).any f = ((l.take i).any f || f x) := by
  rw [List.take_add_one, h]; simp
structure ThE where
  i : Nat
  b : Bool
  h : List AO
set_option maxHeartbeats 8000000 in
theorem s4 {P : Program} {T : Tab} {K d : Nat} (S : Sd P T K) (hd : 8 ≤ d) (q : SV) (l : List AcV) (lk : Nat) (h : List AO) (hq : Rs AcV.cells 12 h q l) :
    ev P T K d 4 [.sc q] lk h = some (.v (.sc (.bool true)), h) := by
  obtain ⟨d, rfl⟩ : ∃ k, d = k + 1 := ⟨d - 1, by omega⟩
  refine ev_pure (at4 S.t) rfl ?_
  unfold i4 Try.f4
  have e0 := s14 S (show 1 ≤ d by omega) q l h.length h hq
  have f15 := fun lk h => s15 S (show 7 ≤ d by omega) lk h
  by_cases hc : 40 < l.length
  · rw [dec_t hc] at e0
    simp (maxSteps := 1000000) (disch := first | omega | (simp (disch := first | omega | (simp only [freeL_ck, ck_len, AcV.len, AcV.hk, PrV.len, StV.len, List.length_append, List.length_cons, List.length_nil, List.length_set]; first | done | omega)) only [freeL_ck, ck_len, AcV.len, AcV.hk, PrV.len, StV.len, amSide, Int.reduceToNat, Nat.reducePow, Nat.reduceMul]; first | done | omega)) only  [↓amPre, amPost, ↓s_lit', Nat.reduceAdd, Nat.reduceSub, List.replicate, retA, resultsA, resultA, toC, toCL, Nat.reduceEqDiff, (ze32 S.p), (ze41 S.p), eql_bool (un4 S.p), neq_bool (un4 S.p), (fa41_0 S.p), (fa41_1 S.p), (fa41_3 S.p), iaddr_sl (un27 S.p) (sz41 S.p), len_sl (un27 S.p), len_nils (un27 S.p), part_sc (ag3 S.p), part_all (ag38 S.p) (sz38 S.p), part_at (ag38 S.p) (sz38 S.p), part_all (ag41 S.p) (sz41 S.p), part_at (ag41 S.p) (sz41 S.p), store_last (sz32 S.p), (sz32 S.p), store_last (sz41 S.p), (sz41 S.p), e0, f15]
    exact Ends.some rfl
  · rw [dec_f hc] at e0
    have hl : l.length ≤ 300 := by omega
    obtain ⟨v1, h1, e1, hx1, q1, rfl, hown1⟩ := s17 S (show 1 ≤ d by omega) q l hl h.length h (Nat.le_refl _) hq
    have hrs := hown1.rs (by omega) AcV.len
    have hlen := hrs.len (un27 S.p)
    have hle1 := hx1.len
    clear hown1
    simp (maxSteps := 1000000) (disch := first | omega | (simp (disch := first | omega | (simp only [freeL_ck, ck_len, AcV.len, AcV.hk, PrV.len, StV.len, List.length_append, List.length_cons, List.length_nil, List.length_set]; first | done | omega)) only [freeL_ck, ck_len, AcV.len, AcV.hk, PrV.len, StV.len, amSide, Int.reduceToNat, Nat.reducePow, Nat.reduceMul]; first | done | omega)) only  [↓amPre, amPost, ↓s_lit', Nat.reduceAdd, Nat.reduceSub, List.replicate, retA, resultsA, resultA, toC, toCL, Nat.reduceEqDiff, (ze32 S.p), (ze41 S.p), eql_bool (un4 S.p), neq_bool (un4 S.p), (fa41_0 S.p), (fa41_1 S.p), (fa41_3 S.p), iaddr_sl (un27 S.p) (sz41 S.p), len_sl (un27 S.p), len_nils (un27 S.p), part_sc (ag3 S.p), part_all (ag38 S.p) (sz38 S.p), part_at (ag38 S.p) (sz38 S.p), part_all (ag41 S.p) (sz41 S.p), part_at (ag41 S.p) (sz41 S.p), store_last (sz32 S.p), (sz32 S.p), store_last (sz41 S.p), (sz41 S.p), e0, e1, hlen]
    refine ends_loop (X := ThE) ⟨0, false, h1⟩ [2, 6, 8, 19, 20, 21, 22, 23, 24, 25, 26, 27, 28, 29, 30, 31, 32, 33, 34, 35, 36, 37, 38, 39, 40, 41, 42, 43, 44, 45, 46, 47, 48, 49, 50, 51, 52, 53, 54, 55, 56, 57, 58, 59, 60, 61, 62, 63] (fun x => x.i ≤ l.length ∧ Ext1 h1 x.h ∧ x.b = bsO l x.i) (fun x => l.length - x.i)
      (fun x e => (e.set 4 (.v (.sc (.bool x.b)))).set 18 (.v (.sc (.int .i64 x.i)))) (fun x => x.h)
      (by have := S.k; show _ < K; simp only; omega) ⟨by simp only; omega, Ext1.refl _, rfl⟩ rfl rfl ?_
    rintro ⟨i, b, hj⟩ ⟨hi, hx, hb⟩ again hag e he
    simp only at hi hx hb hag he
    simp only [↓amPre, amPost, ↓s_lit', Nat.reduceAdd, Nat.reduceSub, List.replicate, retA, resultsA, resultA, toC, toCL, Nat.reduceEqDiff] at he
    simp only [↓amPre, amPost, ↓s_lit', Nat.reduceAdd, Nat.reduceSub, List.replicate, retA, resultsA, resultA, toC, toCL, Nat.reduceEqDiff, he]
    refine ends_cond (fun hc1 => ?_) (fun hc1 => ?_)
    · simp only [decide_eq_true_eq] at hc1
      have hio : i < l.length := by omega
      obtain ⟨bl, rfl, hbl, hcl⟩ := hrs.at (by omega)
      obtain ⟨x, hxi⟩ : ∃ x, l[i]? = some x := ⟨_, List.getElem?_eq_getElem hio⟩
      have hpx := recs_part (ag41 S.p) (sz41 S.p) AcV.len hxi
      have hcj : cellsAt hj bl = some (recs AcV.cells l) := by rw [hx.cells hbl]; exact hcl
      have hle := hx.len
      simp (maxSteps := 1000000) (disch := first | omega | (simp (disch := first | omega | (simp only [freeL_ck, ck_len, AcV.len, AcV.hk, PrV.len, StV.len, List.length_append, List.length_cons, List.length_nil, List.length_set]; first | done | omega)) only [freeL_ck, ck_len, AcV.len, AcV.hk, PrV.len, StV.len, amSide, Int.reduceToNat, Nat.reducePow, Nat.reduceMul]; first | done | omega)) only  [↓amPre, amPost, ↓s_lit', Nat.reduceAdd, Nat.reduceSub, List.replicate, retA, resultsA, resultA, toC, toCL, Nat.reduceEqDiff, he, (ze32 S.p), (ze41 S.p), eql_bool (un4 S.p), neq_bool (un4 S.p), (fa41_0 S.p), (fa41_1 S.p), (fa41_3 S.p), iaddr_sl (un27 S.p) (sz41 S.p), len_sl (un27 S.p), len_nils (un27 S.p), part_sc (ag3 S.p), part_all (ag38 S.p) (sz38 S.p), part_at (ag38 S.p) (sz38 S.p), part_all (ag41 S.p) (sz41 S.p), part_at (ag41 S.p) (sz41 S.p), store_last (sz32 S.p), (sz32 S.p), store_last (sz41 S.p), (sz41 S.p), idx_ok, hcj, hpx, hlen, cells_self, cells_other, Int.toNat_natCast, Nat.zero_add]
      refine ends_loop (X := ThE) ⟨0, b, hj ++ [.rw 41 x.cells]⟩ [2, 8, 25, 26, 27, 28, 29, 30, 31, 32, 33, 34, 35, 36, 37, 38, 39, 40, 41, 42, 43, 44, 45, 46, 47, 48, 49, 50, 51, 52, 53, 54, 55, 56, 57, 58, 59, 60, 61, 62] (fun y => y.i ≤ l.length ∧ Ext1 (hj ++ [.rw 41 x.cells]) y.h ∧ y.b = (b || (l.take y.i).any fun z => besV x.k z.k)) (fun y => l.length - y.i)
        (fun y e => (e.set 4 (.v (.sc (.bool y.b)))).set 24 (.v (.sc (.int .i64 y.i)))) (fun y => y.h)
        (by have := S.k; show _ < K; simp only; omega) ⟨by simp only; omega, Ext1.refl _, by simp⟩ rfl rfl ?_
      rintro ⟨j, b2, h2⟩ ⟨hj2, hx2, hb2⟩ again2 hag2 e2 he2
      simp only at hj2 hx2 hb2 hag2 he2
      simp only [↓amPre, amPost, ↓s_lit', Nat.reduceAdd, Nat.reduceSub, List.replicate, retA, resultsA, resultA, toC, toCL, Nat.reduceEqDiff] at he2
      simp only [↓amPre, amPost, ↓s_lit', Nat.reduceAdd, Nat.reduceSub, List.replicate, retA, resultsA, resultA, toC, toCL, Nat.reduceEqDiff, he2]
      refine ends_cond (fun hc2 => ?_) (fun hc2 => ?_)
      · simp only [decide_eq_true_eq] at hc2
        have hjo : j < l.length := by omega
        obtain ⟨y, hyj⟩ : ∃ y, l[j]? = some y := ⟨_, List.getElem?_eq_getElem hjo⟩
        have hpy := recs_part (ag41 S.p) (sz41 S.p) AcV.len hyj
        have hl2 := hx2.len
        simp only [List.length_append, List.length_singleton] at hl2
        have hc2b : cellsAt h2 bl = some (recs AcV.cells l) := by rw [(((Ext1.refl hj).push _).trans hx2).cells (by omega)]; exact hcj
        have gx : cellsAt (h2 ++ [AO.rw 41 y.cells]) hj.length = some x.cells := by
          have := hx2.push (AO.rw 41 y.cells)
          rw [this.cells (by simp)]; exact cells_self _ _ _ rfl
        have gy : cellsAt (h2 ++ [AO.rw 41 y.cells]) h2.length = some y.cells := cells_self _ _ _ rfl
        have px := part_self (ag41 S.p) (sz41 S.p) x.cells (AcV.len x)
        have py := part_self (ag41 S.p) (sz41 S.p) y.cells (AcV.len y)
        have cx := AcV.clk (ag38 S.p) (sz38 S.p) x
        have cy := AcV.clk (ag38 S.p) (sz38 S.p) y
        have x0 := AcV.c0 x
        have y0 := AcV.c0 y
        have x1 := AcV.c1 x
        have y1 := AcV.c1 y
        have f20 := fun lk h => s20 S (show 3 ≤ d by omega) x.k y.k x.hk y.hk lk h
        have f21 := fun lk h => s21 S (show 4 ≤ d by omega) x y lk h
        have f21' := fun lk h => s21 S (show 4 ≤ d by omega) y x lk h
        rw [← raceV_comm x y] at f21'
        have hbes : (!decide (join x.k y.k = y.k) && !decide (join y.k x.k = x.k)) = besV x.k y.k := rfl
        rw [hbes] at f20
        have hsn := any_take_succ hyj fun z => besV x.k z.k
        have hinv : ∀ b3, b3 = (b2 || besV x.k y.k) → b3 = (b || (l.take (j + 1)).any fun z => besV x.k z.k) := by
          intro b3 h3
          rw [h3, hb2, hsn, Bool.or_assoc]
        cases hR : raceV x y with
        | true =>
          rw [hR] at f21 f21'
          have ht := raceV_t hR
          have hcc := raceV_c hR
          cases b2 with
          | true =>
            simp (maxSteps := 1000000) (disch := first | omega | (simp (disch := first | omega | (simp only [freeL_ck, ck_len, AcV.len, AcV.hk, PrV.len, StV.len, List.length_append, List.length_cons, List.length_nil, List.length_set]; first | done | omega)) only [freeL_ck, ck_len, AcV.len, AcV.hk, PrV.len, StV.len, amSide, Int.reduceToNat, Nat.reducePow, Nat.reduceMul]; first | done | omega)) only  [↓amPre, amPost, ↓s_lit', Nat.reduceAdd, Nat.reduceSub, List.replicate, retA, resultsA, resultA, toC, toCL, Nat.reduceEqDiff, he2, (ze32 S.p), (ze41 S.p), eql_bool (un4 S.p), neq_bool (un4 S.p), (fa41_0 S.p), (fa41_1 S.p), (fa41_3 S.p), iaddr_sl (un27 S.p) (sz41 S.p), len_sl (un27 S.p), len_nils (un27 S.p), part_sc (ag3 S.p), part_all (ag38 S.p) (sz38 S.p), part_at (ag38 S.p) (sz38 S.p), part_all (ag41 S.p) (sz41 S.p), part_at (ag41 S.p) (sz41 S.p), store_last (sz32 S.p), (sz32 S.p), store_last (sz41 S.p), (sz41 S.p), idx_ok, hc2b, hpy, gx, gy, px, py, cx, cy, AcV.clk2, x0, y0, x1, y1, f20, f21, f21', cells_self, beqI_t, beqI_f, bneI_t, bneI_f, bne_self_eq_false, Int.toNat_natCast, Nat.zero_add, wrap_i64]
            refine hag2 ⟨j + 1, true, h2 ++ [.rw 41 y.cells]⟩ ⟨by simp only; omega, hx2.push _, hinv _ (by simp)⟩ (by simp only; omega) _ ?_
            simp (maxSteps := 1000000) (disch := first | omega | (simp (disch := first | omega | (simp only [freeL_ck, ck_len, AcV.len, AcV.hk, PrV.len, StV.len, List.length_append, List.length_cons, List.length_nil, List.length_set]; first | done | omega)) only [freeL_ck, ck_len, AcV.len, AcV.hk, PrV.len, StV.len, amSide, Int.reduceToNat, Nat.reducePow, Nat.reduceMul]; first | done | omega)) only [↓amPre, amPost, ↓s_lit', Nat.reduceAdd, Nat.reduceSub, List.replicate, retA, resultsA, resultA, toC, toCL, Nat.reduceEqDiff, Int.natCast_add, Int.cast_ofNat_Int, dec_t, dec_f]
          | false =>
            simp (maxSteps := 1000000) (disch := first | omega | (simp (disch := first | omega | (simp only [freeL_ck, ck_len, AcV.len, AcV.hk, PrV.len, StV.len, List.length_append, List.length_cons, List.length_nil, List.length_set]; first | done | omega)) only [freeL_ck, ck_len, AcV.len, AcV.hk, PrV.len, StV.len, amSide, Int.reduceToNat, Nat.reducePow, Nat.reduceMul]; first | done | omega)) only  [↓amPre, amPost, ↓s_lit', Nat.reduceAdd, Nat.reduceSub, List.replicate, retA, resultsA, resultA, toC, toCL, Nat.reduceEqDiff, he2, (ze32 S.p), (ze41 S.p), eql_bool (un4 S.p), neq_bool (un4 S.p), (fa41_0 S.p), (fa41_1 S.p), (fa41_3 S.p), iaddr_sl (un27 S.p) (sz41 S.p), len_sl (un27 S.p), len_nils (un27 S.p), part_sc (ag3 S.p), part_all (ag38 S.p) (sz38 S.p), part_at (ag38 S.p) (sz38 S.p), part_all (ag41 S.p) (sz41 S.p), part_at (ag41 S.p) (sz41 S.p), store_last (sz32 S.p), (sz32 S.p), store_last (sz41 S.p), (sz41 S.p), idx_ok, hc2b, hpy, gx, gy, px, py, cx, cy, AcV.clk2, x0, y0, x1, y1, f20, f21, f21', cells_self, beqI_t, beqI_f, bneI_t, bneI_f, bne_self_eq_false, Int.toNat_natCast, Nat.zero_add, wrap_i64]
            refine hag2 ⟨j + 1, besV x.k y.k, h2 ++ [.rw 41 y.cells]⟩ ⟨by simp only; omega, hx2.push _, hinv _ (by simp)⟩ (by simp only; omega) _ ?_
            simp (maxSteps := 1000000) (disch := first | omega | (simp (disch := first | omega | (simp only [freeL_ck, ck_len, AcV.len, AcV.hk, PrV.len, StV.len, List.length_append, List.length_cons, List.length_nil, List.length_set]; first | done | omega)) only [freeL_ck, ck_len, AcV.len, AcV.hk, PrV.len, StV.len, amSide, Int.reduceToNat, Nat.reducePow, Nat.reduceMul]; first | done | omega)) only [↓amPre, amPost, ↓s_lit', Nat.reduceAdd, Nat.reduceSub, List.replicate, retA, resultsA, resultA, toC, toCL, Nat.reduceEqDiff, Int.natCast_add, Int.cast_ofNat_Int, dec_t, dec_f]
        | false =>
          rw [hR] at f21 f21'
          cases b2 with
          | true =>
            simp (maxSteps := 1000000) (disch := first | omega | (simp (disch := first | omega | (simp only [freeL_ck, ck_len, AcV.len, AcV.hk, PrV.len, StV.len, List.length_append, List.length_cons, List.length_nil, List.length_set]; first | done | omega)) only [freeL_ck, ck_len, AcV.len, AcV.hk, PrV.len, StV.len, amSide, Int.reduceToNat, Nat.reducePow, Nat.reduceMul]; first | done | omega)) only  [↓amPre, amPost, ↓s_lit', Nat.reduceAdd, Nat.reduceSub, List.replicate, retA, resultsA, resultA, toC, toCL, Nat.reduceEqDiff, he2, (ze32 S.p), (ze41 S.p), eql_bool (un4 S.p), neq_bool (un4 S.p), (fa41_0 S.p), (fa41_1 S.p), (fa41_3 S.p), iaddr_sl (un27 S.p) (sz41 S.p), len_sl (un27 S.p), len_nils (un27 S.p), part_sc (ag3 S.p), part_all (ag38 S.p) (sz38 S.p), part_at (ag38 S.p) (sz38 S.p), part_all (ag41 S.p) (sz41 S.p), part_at (ag41 S.p) (sz41 S.p), store_last (sz32 S.p), (sz32 S.p), store_last (sz41 S.p), (sz41 S.p), idx_ok, hc2b, hpy, gx, gy, px, py, cx, cy, AcV.clk2, x0, y0, x1, y1, f20, f21, f21', cells_self, beqI_t, beqI_f, bneI_t, bneI_f, bne_self_eq_false, Int.toNat_natCast, Nat.zero_add, wrap_i64]
            refine hag2 ⟨j + 1, true, h2 ++ [.rw 41 y.cells]⟩ ⟨by simp only; omega, hx2.push _, hinv _ (by simp)⟩ (by simp only; omega) _ ?_
            simp (maxSteps := 1000000) (disch := first | omega | (simp (disch := first | omega | (simp only [freeL_ck, ck_len, AcV.len, AcV.hk, PrV.len, StV.len, List.length_append, List.length_cons, List.length_nil, List.length_set]; first | done | omega)) only [freeL_ck, ck_len, AcV.len, AcV.hk, PrV.len, StV.len, amSide, Int.reduceToNat, Nat.reducePow, Nat.reduceMul]; first | done | omega)) only [↓amPre, amPost, ↓s_lit', Nat.reduceAdd, Nat.reduceSub, List.replicate, retA, resultsA, resultA, toC, toCL, Nat.reduceEqDiff, Int.natCast_add, Int.cast_ofNat_Int, dec_t, dec_f]
          | false =>
            simp (maxSteps := 1000000) (disch := first | omega | (simp (disch := first | omega | (simp only [freeL_ck, ck_len, AcV.len, AcV.hk, PrV.len, StV.len, List.length_append, List.length_cons, List.length_nil, List.length_set]; first | done | omega)) only [freeL_ck, ck_len, AcV.len, AcV.hk, PrV.len, StV.len, amSide, Int.reduceToNat, Nat.reducePow, Nat.reduceMul]; first | done | omega)) only  [↓amPre, amPost, ↓s_lit', Nat.reduceAdd, Nat.reduceSub, List.replicate, retA, resultsA, resultA, toC, toCL, Nat.reduceEqDiff, he2, (ze32 S.p), (ze41 S.p), eql_bool (un4 S.p), neq_bool (un4 S.p), (fa41_0 S.p), (fa41_1 S.p), (fa41_3 S.p), iaddr_sl (un27 S.p) (sz41 S.p), len_sl (un27 S.p), len_nils (un27 S.p), part_sc (ag3 S.p), part_all (ag38 S.p) (sz38 S.p), part_at (ag38 S.p) (sz38 S.p), part_all (ag41 S.p) (sz41 S.p), part_at (ag41 S.p) (sz41 S.p), store_last (sz32 S.p), (sz32 S.p), store_last (sz41 S.p), (sz41 S.p), idx_ok, hc2b, hpy, gx, gy, px, py, cx, cy, AcV.clk2, x0, y0, x1, y1, f20, f21, f21', cells_self, beqI_t, beqI_f, bneI_t, bneI_f, bne_self_eq_false, Int.toNat_natCast, Nat.zero_add, wrap_i64]
            refine hag2 ⟨j + 1, besV x.k y.k, h2 ++ [.rw 41 y.cells]⟩ ⟨by simp only; omega, hx2.push _, hinv _ (by simp)⟩ (by simp only; omega) _ ?_
            simp (maxSteps := 1000000) (disch := first | omega | (simp (disch := first | omega | (simp only [freeL_ck, ck_len, AcV.len, AcV.hk, PrV.len, StV.len, List.length_append, List.length_cons, List.length_nil, List.length_set]; first | done | omega)) only [freeL_ck, ck_len, AcV.len, AcV.hk, PrV.len, StV.len, amSide, Int.reduceToNat, Nat.reducePow, Nat.reduceMul]; first | done | omega)) only [↓amPre, amPost, ↓s_lit', Nat.reduceAdd, Nat.reduceSub, List.replicate, retA, resultsA, resultA, toC, toCL, Nat.reduceEqDiff, Int.natCast_add, Int.cast_ofNat_Int, dec_t, dec_f]
      · simp only [decide_eq_false_iff_not] at hc2
        obtain rfl : j = l.length := by omega
        simp (maxSteps := 1000000) (disch := first | omega | (simp (disch := first | omega | (simp only [freeL_ck, ck_len, AcV.len, AcV.hk, PrV.len, StV.len, List.length_append, List.length_cons, List.length_nil, List.length_set]; first | done | omega)) only [freeL_ck, ck_len, AcV.len, AcV.hk, PrV.len, StV.len, amSide, Int.reduceToNat, Nat.reducePow, Nat.reduceMul]; first | done | omega)) only  [↓amPre, amPost, ↓s_lit', Nat.reduceAdd, Nat.reduceSub, List.replicate, retA, resultsA, resultA, toC, toCL, Nat.reduceEqDiff, he2, (ze32 S.p), (ze41 S.p), eql_bool (un4 S.p), neq_bool (un4 S.p), (fa41_0 S.p), (fa41_1 S.p), (fa41_3 S.p), iaddr_sl (un27 S.p) (sz41 S.p), len_sl (un27 S.p), len_nils (un27 S.p), part_sc (ag3 S.p), part_all (ag38 S.p) (sz38 S.p), part_at (ag38 S.p) (sz38 S.p), part_all (ag41 S.p) (sz41 S.p), part_at (ag41 S.p) (sz41 S.p), store_last (sz32 S.p), (sz32 S.p), store_last (sz41 S.p), (sz41 S.p), wrap_i64]
        refine hag ⟨i + 1, b2, h2⟩ ⟨by simp only; omega, ?_, ?_⟩ (by simp only; omega) _ ?_
        · exact (hx.push _).trans hx2
        · simp only
          rw [hb2, hb, List.take_length]
          unfold bsO
          rw [any_take_succ hxi]
        · simp (maxSteps := 1000000) (disch := first | omega | (simp (disch := first | omega | (simp only [freeL_ck, ck_len, AcV.len, AcV.hk, PrV.len, StV.len, List.length_append, List.length_cons, List.length_nil, List.length_set]; first | done | omega)) only [freeL_ck, ck_len, AcV.len, AcV.hk, PrV.len, StV.len, amSide, Int.reduceToNat, Nat.reducePow, Nat.reduceMul]; first | done | omega)) only [↓amPre, amPost, ↓s_lit', Nat.reduceAdd, Nat.reduceSub, List.replicate, retA, resultsA, resultA, toC, toCL, Nat.reduceEqDiff, Int.natCast_add, Int.cast_ofNat_Int, dec_t, dec_f]
    · simp only [decide_eq_false_iff_not] at hc1
      obtain rfl : i = l.length := by omega
      have e5 := s19 S (show 6 ≤ d by omega) q1 l hl h.length hj (hrs.ext hx)
      have hpf := PrV.len (firP l)
      have hle := hx.len
      by_cases hz : 0 < (allP l l.length).length
      · have := bsO_all hz
        rw [this] at hb
        subst hb
        simp (maxSteps := 1000000) (disch := first | omega | (simp (disch := first | omega | (simp only [freeL_ck, ck_len, AcV.len, AcV.hk, PrV.len, StV.len, List.length_append, List.length_cons, List.length_nil, List.length_set]; first | done | omega)) only [freeL_ck, ck_len, AcV.len, AcV.hk, PrV.len, StV.len, amSide, Int.reduceToNat, Nat.reducePow, Nat.reduceMul]; first | done | omega)) only  [↓amPre, amPost, ↓s_lit', Nat.reduceAdd, Nat.reduceSub, List.replicate, retA, resultsA, resultA, toC, toCL, Nat.reduceEqDiff, he, (ze32 S.p), (ze41 S.p), eql_bool (un4 S.p), neq_bool (un4 S.p), (fa41_0 S.p), (fa41_1 S.p), (fa41_3 S.p), iaddr_sl (un27 S.p) (sz41 S.p), len_sl (un27 S.p), len_nils (un27 S.p), part_sc (ag3 S.p), part_all (ag38 S.p) (sz38 S.p), part_at (ag38 S.p) (sz38 S.p), part_all (ag41 S.p) (sz41 S.p), part_at (ag41 S.p) (sz41 S.p), store_last (sz32 S.p), (sz32 S.p), store_last (sz41 S.p), (sz41 S.p), e5, f15]
        exact Ends.some rfl
      · rw [dec_f hz] at e5
        cases b
        · simp (maxSteps := 1000000) (disch := first | omega | (simp (disch := first | omega | (simp only [freeL_ck, ck_len, AcV.len, AcV.hk, PrV.len, StV.len, List.length_append, List.length_cons, List.length_nil, List.length_set]; first | done | omega)) only [freeL_ck, ck_len, AcV.len, AcV.hk, PrV.len, StV.len, amSide, Int.reduceToNat, Nat.reducePow, Nat.reduceMul]; first | done | omega)) only  [↓amPre, amPost, ↓s_lit', Nat.reduceAdd, Nat.reduceSub, List.replicate, retA, resultsA, resultA, toC, toCL, Nat.reduceEqDiff, he, (ze32 S.p), (ze41 S.p), eql_bool (un4 S.p), neq_bool (un4 S.p), (fa41_0 S.p), (fa41_1 S.p), (fa41_3 S.p), iaddr_sl (un27 S.p) (sz41 S.p), len_sl (un27 S.p), len_nils (un27 S.p), part_sc (ag3 S.p), part_all (ag38 S.p) (sz38 S.p), part_at (ag38 S.p) (sz38 S.p), part_all (ag41 S.p) (sz41 S.p), part_at (ag41 S.p) (sz41 S.p), store_last (sz32 S.p), (sz32 S.p), store_last (sz41 S.p), (sz41 S.p), e5, f15]
          exact Ends.some rfl
        · simp (maxSteps := 1000000) (disch := first | omega | (simp (disch := first | omega | (simp only [freeL_ck, ck_len, AcV.len, AcV.hk, PrV.len, StV.len, List.length_append, List.length_cons, List.length_nil, List.length_set]; first | done | omega)) only [freeL_ck, ck_len, AcV.len, AcV.hk, PrV.len, StV.len, amSide, Int.reduceToNat, Nat.reducePow, Nat.reduceMul]; first | done | omega)) only  [↓amPre, amPost, ↓s_lit', Nat.reduceAdd, Nat.reduceSub, List.replicate, retA, resultsA, resultA, toC, toCL, Nat.reduceEqDiff, he, (ze32 S.p), (ze41 S.p), eql_bool (un4 S.p), neq_bool (un4 S.p), (fa41_0 S.p), (fa41_1 S.p), (fa41_3 S.p), iaddr_sl (un27 S.p) (sz41 S.p), len_sl (un27 S.p), len_nils (un27 S.p), part_sc (ag3 S.p), part_all (ag38 S.p) (sz38 S.p), part_at (ag38 S.p) (sz38 S.p), part_all (ag41 S.p) (sz41 S.p), part_at (ag41 S.p) (sz41 S.p), store_last (sz32 S.p), (sz32 S.p), store_last (sz41 S.p), (sz41 S.p), e5, f15]
          exact Ends.some rfl
end Go.AM
