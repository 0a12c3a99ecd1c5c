/- Races: all that race, and the first one, are the document's. Conditions: none. -/
import Derived.Test.YtgcgbcdgbfeaaaaRa7
import Derived.Test.YtgcgbcdgbfeaaaaFlat
set_option linter.unusedVariables false
set_option linter.unusedSimpArgs false
set_option maxRecDepth 100000
namespace Go.AM
open Go.Proofs
-- LENS: freeL_ck, ck_len, AcV.len, AcV.hk, PrV.len, StV.len
abbrev sU4 : Sh := .int .u32
abbrev shAc : Sh := .pair 1 (.int .i64) (.pair 1 (.int .i64) (.pair 1 .bool (.pair 8 (.pair 1 sU4 (.pair 1 sU4 (.pair 1 sU4 (.pair 1 sU4 (.pair 1 sU4 (.pair 1 sU4 (.pair 1 sU4 (.pair 1 sU4 .nil)))))))) (.pair 1 (.int .u64) .nil))))
theorem acv_of {h : List AO} {xs : List SV} (H : Fits shAc h xs) : ∃ x : AcV, ((Lit.int .i64 x.c).wf = true ∧ (Lit.int .u64 x.L).wf = true) ∧ xs = x.cells := by
  obtain ⟨hl, ho⟩ := fits_flat shAc _ h xs rfl H
  match xs, hl with
  | [a0, a1, a2, a3, a4, a5, a6, a7, a8, a9, b0, b1], _ =>
    have h0 := ho 0 _ rfl
    have h1 := ho 1 _ rfl
    have h2 := ho 2 _ rfl
    have h3 := ho 3 _ rfl
    have h4 := ho 4 _ rfl
    have h5 := ho 5 _ rfl
    have h6 := ho 6 _ rfl
    have h7 := ho 7 _ rfl
    have h8 := ho 8 _ rfl
    have h9 := ho 9 _ rfl
    have g0 := ho 10 _ rfl
    have g1 := ho 11 _ rfl
    clear ho H
    simp only [List.getElem?_cons_zero, List.getElem?_cons_succ, Option.some.injEq, exists_eq_left', FK.ok] at h0 h1 h2 h3 h4 h5 h6 h7 h8 h9 g0 g1
    obtain ⟨n0, rfl, _⟩ := h0
    obtain ⟨n1, rfl, w1⟩ := h1
    obtain ⟨n2, rfl⟩ := h2
    obtain ⟨n3, rfl, _⟩ := h3
    obtain ⟨n4, rfl, _⟩ := h4
    obtain ⟨n5, rfl, _⟩ := h5
    obtain ⟨n6, rfl, _⟩ := h6
    obtain ⟨n7, rfl, _⟩ := h7
    obtain ⟨n8, rfl, _⟩ := h8
    obtain ⟨n9, rfl, _⟩ := h9
    obtain ⟨m0, rfl, _⟩ := g0
    obtain ⟨m1, rfl, w2⟩ := g1
    exact ⟨⟨n0, n1, n2, [n3, n4, n5, n6, n7, n8, n9, m0], m1, rfl⟩, ⟨w1, w2⟩, rfl⟩
theorem acvs_of {h : List AO} {xs : List SV} (H : Fits (.slice 12 shAc) h xs) : ∃ q l, xs = [q] ∧ Rs AcV.cells 12 h q l ∧ ∀ x ∈ l, (Lit.int .i64 x.c).wf = true ∧ (Lit.int .u64 x.L).wf = true :=
  rs_of AcV.len (fun ys hy => acv_of hy) H
structure ThN where
  i : Nat
set_option maxHeartbeats 8000000 in
theorem s3 {P : Program} {T : Tab} {K d : Nat} (S : Sd P T K) (hd : 8 ≤ d) (q : SV) (l : List AcV) (lk : Nat) (h : List AO) (hq : Rs AcV.cells 12 h q l) :
    ev P T K d 3 [.sc q] lk h = some (.v (.sc (.bool true)), h) := by
  obtain ⟨d, rfl⟩ : ∃ k, d = k + 1 := ⟨d - 1, by omega⟩
  refine ev_pure (at3 S.t) rfl ?_
  unfold i3 Try.f3
  have e0 := s14 S (show 1 ≤ d by omega) q l h.length h hq
  have f15 := fun lk h => s15 S (show 7 ≤ d by omega) lk h
  by_cases hc : 40 < l.length
  · rw [dec_t hc] at e0
    simp (maxSteps := 1000000) (disch := first | omega | (simp (disch := first | omega | (simp only [freeL_ck, ck_len, AcV.len, AcV.hk, PrV.len, StV.len, List.length_append, List.length_cons, List.length_nil, List.length_set]; first | done | omega)) only [freeL_ck, ck_len, AcV.len, AcV.hk, PrV.len, StV.len, amSide, Int.reduceToNat, Nat.reducePow, Nat.reduceMul]; first | done | omega)) only  [↓amPre, amPost, ↓s_lit', Nat.reduceAdd, Nat.reduceSub, List.replicate, retA, resultsA, resultA, toC, toCL, Nat.reduceEqDiff, (ze32 S.p), eql_ag, neq_ag, (eq32 S.p), eql_bool (un4 S.p), neq_bool (un4 S.p), (fa32_0 S.p), (fa32_1 S.p), (fa35_0 S.p), (fa35_1 S.p), iaddr_sl (un25 S.p) (sz32 S.p), iaddr_sl (un29 S.p) (sz35 S.p), len_sl (un25 S.p), len_nils (un25 S.p), len_sl (un29 S.p), len_nils (un29 S.p), part_sc (ag3 S.p), part_all (ag32 S.p) (sz32 S.p), part_at (ag32 S.p) (sz32 S.p), store_last (sz32 S.p), (sz32 S.p), e0, f15]
    exact Ends.some rfl
  · rw [dec_f hc] at e0
    have hl : l.length ≤ 300 := by omega
    obtain ⟨v1, h1, e1, hx1, q1, rfl, hown1⟩ := s17 S (show 1 ≤ d by omega) q l hl h.length h (Nat.le_refl _) hq
    have hrs1 := hown1.rs (by omega) AcV.len
    obtain ⟨v2, h2, e2, hx2, q2, rfl, hown2⟩ := s16 S (show 5 ≤ d by omega) q1 l hl h.length h1 hx1.len hrs1
    have hx12 := hx1.trans hx2
    obtain ⟨v3, h3, e3, hx3, q3, rfl, hown3⟩ := s18 S (show 3 ≤ d by omega) q l hl h.length h2 hx12.len (hq.ext hx12)
    have hx13 := hx12.trans hx3
    obtain ⟨v4, h4, e4, hx4, q4, rfl, hown4⟩ := s17 S (show 1 ≤ d by omega) q l hl h.length h3 hx13.len (hq.ext hx13)
    have e5 := s19 S (show 6 ≤ d by omega) q4 l hl h.length h4 (hown4.rs (by omega) AcV.len)
    have hx34 := hx3.trans hx4
    have r2 := ((hown2.rs (by omega) PrV.len).ext hx34).ext ((Ext1.refl h4).push (.rw 32 (firP l).cells))
    have r3 := ((hown3.rs (by omega) PrV.len).ext hx4).ext ((Ext1.refl h4).push (.rw 32 (firP l).cells))
    have n2 := r2.len (un25 S.p)
    have n3 := r3.len (un29 S.p)
    have hall := allP_len l l.length
    have hii : l.length * l.length ≤ 300 * 300 := Nat.mul_le_mul hl hl
    have hln := hx13.len
    have hln4 := hx4.len
    have hfl : firP l = (allP l l.length).headD ⟨0, 0⟩ := rfl
    have hpf := PrV.len (firP l)
    generalize hA : allP l l.length = A at *
    have hb : ((decide (0 < A.length)) != (decide ((0 : Int) < (A.length : Nat)))) = false := by
      by_cases hz : 0 < A.length
      · rw [dec_t hz, dec_t (by omega)]; rfl
      · rw [dec_f hz, dec_f (by omega)]; rfl
    simp (maxSteps := 1000000) (disch := first | omega | (simp (disch := first | omega | (simp only [freeL_ck, ck_len, AcV.len, AcV.hk, PrV.len, StV.len, List.length_append, List.length_cons, List.length_nil, List.length_set]; first | done | omega)) only [freeL_ck, ck_len, AcV.len, AcV.hk, PrV.len, StV.len, amSide, Int.reduceToNat, Nat.reducePow, Nat.reduceMul]; first | done | omega)) only  [↓amPre, amPost, ↓s_lit', Nat.reduceAdd, Nat.reduceSub, List.replicate, retA, resultsA, resultA, toC, toCL, Nat.reduceEqDiff, (ze32 S.p), eql_ag, neq_ag, (eq32 S.p), eql_bool (un4 S.p), neq_bool (un4 S.p), (fa32_0 S.p), (fa32_1 S.p), (fa35_0 S.p), (fa35_1 S.p), iaddr_sl (un25 S.p) (sz32 S.p), iaddr_sl (un29 S.p) (sz35 S.p), len_sl (un25 S.p), len_nils (un25 S.p), len_sl (un29 S.p), len_nils (un29 S.p), part_sc (ag3 S.p), part_all (ag32 S.p) (sz32 S.p), part_at (ag32 S.p) (sz32 S.p), store_last (sz32 S.p), (sz32 S.p), e0, e1, e2, e3, e4, e5, n2, n3, hb, bneI_t, bneI_f]
    refine ends_loop (X := ThN) ⟨0⟩ [2, 7, 37, 38, 39, 40, 41, 42, 43, 44, 45, 46, 47, 48, 49, 50, 51, 52, 53, 54, 55, 56, 57, 58, 59, 60, 61, 62, 63, 64, 65, 66, 67, 68, 69, 70, 71, 72, 73, 74] (fun x => x.i ≤ A.length) (fun x => A.length - x.i)
      (fun x e => e.set 36 (.v (.sc (.int .i64 x.i)))) (fun x => h4 ++ [.rw 32 (firP l).cells])
      (by have := S.k; show _ < K; simp only; omega) (by simp only; omega) rfl rfl ?_
    rintro ⟨i⟩ hi again hag e he
    simp only at hi hag he
    simp only [↓amPre, amPost, ↓s_lit', Nat.reduceAdd, Nat.reduceSub, List.replicate, retA, resultsA, resultA, toC, toCL, Nat.reduceEqDiff] at he
    simp only [↓amPre, amPost, ↓s_lit', Nat.reduceAdd, Nat.reduceSub, List.replicate, retA, resultsA, resultA, toC, toCL, Nat.reduceEqDiff, he]
    refine ends_cond (fun hc1 => ?_) (fun hc1 => ?_)
    · simp only [decide_eq_true_eq] at hc1
      obtain ⟨b2, rfl, hb2, hc2⟩ := r2.at (by omega)
      obtain ⟨b3, rfl, hb3, hc3⟩ := r3.at (by omega)
      obtain ⟨y, hy⟩ : ∃ y, A[i]? = some y := ⟨_, List.getElem?_eq_getElem (by omega)⟩
      have p20 := recs_get0 PrV.len hy (by omega)
      have p21 := recs_get PrV.len hy 1 (by omega)
      rw [show y.cells[0]? = some (.int .i64 y.a) from rfl] at p20
      rw [show y.cells[1]? = some (.int .i64 y.b) from rfl] at p21
      have hpt := recs_part (ag32 S.p) (sz32 S.p) PrV.len hy
      have g5 : cellsAt (h4 ++ [AO.rw 32 (firP l).cells]) h4.length = some (firP l).cells := cells_self _ _ _ rfl
      have k3 := part_self (ag32 S.p) (sz32 S.p) (firP l).cells hpf
      by_cases hi0 : i = 0
      · have hf : firP l = y := by
          rw [hfl]
          cases hA2 : A with
          | nil => rw [hA2] at hy; cases hy
          | cons a t => rw [hA2, hi0] at hy; exact Option.some.inj hy
        rw [hf] at he g5 k3 hag hc2 hc3 ⊢
        rw [hi0, Nat.zero_mul] at hpt
        have heq : eqL [1, 1] y.cells y.cells = some true := by simp [eqL, eqS, PrV.cells]
        simp (maxSteps := 1000000) (disch := first | omega | (simp (disch := first | omega | (simp only [freeL_ck, ck_len, AcV.len, AcV.hk, PrV.len, StV.len, List.length_append, List.length_cons, List.length_nil, List.length_set]; first | done | omega)) only [freeL_ck, ck_len, AcV.len, AcV.hk, PrV.len, StV.len, amSide, Int.reduceToNat, Nat.reducePow, Nat.reduceMul]; first | done | omega)) only  [↓amPre, amPost, ↓s_lit', Nat.reduceAdd, Nat.reduceSub, List.replicate, retA, resultsA, resultA, toC, toCL, Nat.reduceEqDiff, he, (ze32 S.p), eql_ag, neq_ag, (eq32 S.p), eql_bool (un4 S.p), neq_bool (un4 S.p), (fa32_0 S.p), (fa32_1 S.p), (fa35_0 S.p), (fa35_1 S.p), iaddr_sl (un25 S.p) (sz32 S.p), iaddr_sl (un29 S.p) (sz35 S.p), len_sl (un25 S.p), len_nils (un25 S.p), len_sl (un29 S.p), len_nils (un29 S.p), part_sc (ag3 S.p), part_all (ag32 S.p) (sz32 S.p), part_at (ag32 S.p) (sz32 S.p), store_last (sz32 S.p), (sz32 S.p), idx_ok, hc2, hc3, p20, p21, hpt, g5, k3, heq, bneI_t, bneI_f, beqI_t, beqI_f, Int.toNat_natCast, Int.toNat_zero, Nat.zero_mul, Nat.add_zero, wrap_i64]
        refine hag ⟨i + 1⟩ (by simp only; omega) (by simp only; omega) _ ?_
        simp (maxSteps := 1000000) (disch := first | omega | (simp (disch := first | omega | (simp only [freeL_ck, ck_len, AcV.len, AcV.hk, PrV.len, StV.len, List.length_append, List.length_cons, List.length_nil, List.length_set]; first | done | omega)) only [freeL_ck, ck_len, AcV.len, AcV.hk, PrV.len, StV.len, amSide, Int.reduceToNat, Nat.reducePow, Nat.reduceMul]; first | done | omega)) only [↓amPre, amPost, ↓s_lit', Nat.reduceAdd, Nat.reduceSub, List.replicate, retA, resultsA, resultA, toC, toCL, Nat.reduceEqDiff, Int.natCast_add, Int.cast_ofNat_Int, dec_t, dec_f]
      · simp (maxSteps := 1000000) (disch := first | omega | (simp (disch := first | omega | (simp only [freeL_ck, ck_len, AcV.len, AcV.hk, PrV.len, StV.len, List.length_append, List.length_cons, List.length_nil, List.length_set]; first | done | omega)) only [freeL_ck, ck_len, AcV.len, AcV.hk, PrV.len, StV.len, amSide, Int.reduceToNat, Nat.reducePow, Nat.reduceMul]; first | done | omega)) only  [↓amPre, amPost, ↓s_lit', Nat.reduceAdd, Nat.reduceSub, List.replicate, retA, resultsA, resultA, toC, toCL, Nat.reduceEqDiff, he, (ze32 S.p), eql_ag, neq_ag, (eq32 S.p), eql_bool (un4 S.p), neq_bool (un4 S.p), (fa32_0 S.p), (fa32_1 S.p), (fa35_0 S.p), (fa35_1 S.p), iaddr_sl (un25 S.p) (sz32 S.p), iaddr_sl (un29 S.p) (sz35 S.p), len_sl (un25 S.p), len_nils (un25 S.p), len_sl (un29 S.p), len_nils (un29 S.p), part_sc (ag3 S.p), part_all (ag32 S.p) (sz32 S.p), part_at (ag32 S.p) (sz32 S.p), store_last (sz32 S.p), (sz32 S.p), idx_ok, hc2, hc3, p20, p21, bneI_t, bneI_f, beqI_t, beqI_f, Int.toNat_natCast, Nat.add_zero, wrap_i64]
        refine hag ⟨i + 1⟩ (by simp only; omega) (by simp only; omega) _ ?_
        simp (maxSteps := 1000000) (disch := first | omega | (simp (disch := first | omega | (simp only [freeL_ck, ck_len, AcV.len, AcV.hk, PrV.len, StV.len, List.length_append, List.length_cons, List.length_nil, List.length_set]; first | done | omega)) only [freeL_ck, ck_len, AcV.len, AcV.hk, PrV.len, StV.len, amSide, Int.reduceToNat, Nat.reducePow, Nat.reduceMul]; first | done | omega)) only [↓amPre, amPost, ↓s_lit', Nat.reduceAdd, Nat.reduceSub, List.replicate, retA, resultsA, resultA, toC, toCL, Nat.reduceEqDiff, Int.natCast_add, Int.cast_ofNat_Int, dec_t, dec_f]
    · simp only [decide_eq_false_iff_not] at hc1
      simp (maxSteps := 1000000) (disch := first | omega | (simp (disch := first | omega | (simp only [freeL_ck, ck_len, AcV.len, AcV.hk, PrV.len, StV.len, List.length_append, List.length_cons, List.length_nil, List.length_set]; first | done | omega)) only [freeL_ck, ck_len, AcV.len, AcV.hk, PrV.len, StV.len, amSide, Int.reduceToNat, Nat.reducePow, Nat.reduceMul]; first | done | omega)) only  [↓amPre, amPost, ↓s_lit', Nat.reduceAdd, Nat.reduceSub, List.replicate, retA, resultsA, resultA, toC, toCL, Nat.reduceEqDiff, he, (ze32 S.p), eql_ag, neq_ag, (eq32 S.p), eql_bool (un4 S.p), neq_bool (un4 S.p), (fa32_0 S.p), (fa32_1 S.p), (fa35_0 S.p), (fa35_1 S.p), iaddr_sl (un25 S.p) (sz32 S.p), iaddr_sl (un29 S.p) (sz35 S.p), len_sl (un25 S.p), len_nils (un25 S.p), len_sl (un29 S.p), len_nils (un29 S.p), part_sc (ag3 S.p), part_all (ag32 S.p) (sz32 S.p), part_at (ag32 S.p) (sz32 S.p), store_last (sz32 S.p), (sz32 S.p), f15]
      exact Ends.some rfl
end Go.AM
