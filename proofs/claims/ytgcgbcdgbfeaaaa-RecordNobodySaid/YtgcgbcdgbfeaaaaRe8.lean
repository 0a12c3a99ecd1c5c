/- Records: the law of a stack that nobody made. Conditions: none. -/
import Derived.Test.YtgcgbcdgbfeaaaaRe7
set_option linter.unusedVariables false
set_option linter.unusedSimpArgs false
set_option maxRecDepth 100000
namespace Go.AM
open Go.Proofs
-- LENS: Rec.len
set_option maxHeartbeats 4000000 in
theorem s9 {P : Program} {T : Tab} {K d : Nat} (S : Sd P T K) (hd : 7 ≤ d) (k o s : Int) (lk : Nat) (h : List AO) :
    ev P T K d 9 [.ag [.int .u8 k, .int .i64 o, .int .u64 s]] lk h = some (.v (.sc (.bool true)), h) := by
  obtain ⟨d, rfl⟩ : ∃ k, d = k + 1 := ⟨d - 1, by omega⟩
  refine ev_pure (at9 S.t) rfl ?_
  unfold i9 Try.f9
  have f24 := fun lk h => s24k S (show 1 ≤ d by omega) lk h
  simp (disch := first | omega | (simp (disch := first | omega | (simp only [Rec.len, List.length_append, List.length_cons, List.length_nil, List.length_set]; first | done | omega)) only [Rec.len, amSide, Int.reduceToNat, Nat.reducePow, Nat.reduceMul]; first | done | omega)) only  [↓amPre, amPost, ↓s_lit', Nat.reduceAdd, Nat.reduceSub, List.replicate, retA, resultsA, resultA, toC, toCL, Nat.reduceEqDiff, (ze62 S.p), eql_ag, neq_ag, (eq62 S.p), (bu62 S.p), (bu88 S.p), lit_fill (un89 S.p) (sz51 S.p) (ze51 S.p), (fa56_1 S.p), (fa56_2 S.p), iaddr_sl (un89 S.p) (sz51 S.p), len_sl (un47 S.p), len_nils (un47 S.p), len_sl (un89 S.p), len_nils (un89 S.p), part_sc (ag3 S.p), part_sc (ag39 S.p), part_sc (ag51 S.p), part_all (ag62 S.p) (sz62 S.p), part_at (ag62 S.p) (sz62 S.p), store_last (sz62 S.p), (sz62 S.p), List.nil_append, List.append_nil, List.cons_append, List.flatten_cons, List.flatten_nil, splice_def, Nat.zero_mul, Nat.one_mul]
  refine ends_loop (X := Bk1) ⟨0, .nils, h ++ [.rw 56 [.int .u8 k, .int .i64 o, .int .u64 s]] ++ [.rw 88 [.int .i64 0, .nils]] ++ [.rw 51 [.nilp, .ptr (h.length + 1) 0]]⟩ [2, 4, 5, 6, 7, 8, 9, 10, 11, 12, 13, 14, 20, 21, 22, 23, 24, 25, 26, 27, 28, 29, 30, 31, 32, 33, 34, 35, 36, 37, 38, 39, 40, 41, 42, 43, 44, 45, 46, 47, 48, 49, 50, 51, 52, 53, 54, 55, 56, 57, 58, 59, 60, 61, 62, 63, 64, 65, 66, 67, 68, 69, 70, 71, 72, 73, 74, 75, 76, 77, 78, 79, 80, 81, 82, 83, 84, 85, 86, 87, 88, 89, 90, 91, 92, 93, 94, 95, 96, 97, 98, 99, 100, 101, 102, 103, 104, 105, 106, 107, 108, 109, 110, 111, 112, 113, 114, 115, 116, 117, 118, 119, 120, 121] (fun x => x.i ≤ 2 ∧ Ext1 (h ++ [.rw 56 [.int .u8 k, .int .i64 o, .int .u64 s]] ++ [.rw 88 [.int .i64 0, .nils]] ++ [.rw 51 [.nilp, .ptr (h.length + 1) 0]]) x.h) (fun x => 2 - x.i)
    (fun x e => e.set 19 (.v (.sc (.int .i64 x.i)))) (fun x => x.h)
    (by have := S.k; show _ < K; simp only; omega) ⟨by simp only; omega, Ext1.refl _⟩ rfl rfl ?_
  rintro ⟨i, q, hj⟩ ⟨hi, hx⟩ again hag e he
  simp only at hi hx hag he
  simp only [↓amPre, amPost, ↓s_lit', Nat.reduceAdd, Nat.reduceSub, List.replicate, retA, resultsA, resultA, toC, toCL, Nat.reduceEqDiff] at he
  simp only [↓amPre, amPost, ↓s_lit', Nat.reduceAdd, Nat.reduceSub, List.replicate, retA, resultsA, resultA, toC, toCL, Nat.reduceEqDiff, he]
  refine ends_cond (fun hc1 => ?_) (fun hc1 => ?_)
  · simp only [decide_eq_true_eq] at hc1
    have hl1 : h.length + 3 ≤ hj.length := by have := hx.len; simp at this; omega
    have g0 : hj[h.length]? = some (.rw 56 [.int .u8 k, .int .i64 o, .int .u64 s]) := ext1_get hx (by simp)
    have g1 : hj[h.length + 1]? = some (.rw 88 [.int .i64 0, .nils]) := ext1_get hx (by simp [List.getElem?_append])
    have g2 : hj[h.length + 2]? = some (.rw 51 [.nilp, .ptr (h.length + 1) 0]) := ext1_get hx (by simp [List.getElem?_append])
    have c0 := cells_at g0
    have c2 := cells_at g2
    obtain ⟨x, hxi, f65⟩ : ∃ x, ([SV.nilp, SV.ptr (h.length + 1) 0] : List SV)[i]? = some x ∧ ∀ d lk hh', 1 ≤ d → Ext1 hj hh' → ev P T K d 65 [.sc x] lk hh' = some (.v (.sc (.bool false)), hh') := by
      rcases (show i = 0 ∨ i = 1 by omega) with rfl | rfl
      · exact ⟨_, rfl, fun d lk hh' hd _ => s65n S hd lk hh'⟩
      · refine ⟨_, rfl, fun d lk hh' hd hx' => ?_⟩
        have hst : Stk (h.length + 2) (h.length + 1) hh' .nils 0 [] := ⟨ext1_get hx' g1, .inl ⟨rfl, rfl⟩, by omega⟩
        rw [s65 S hd hst lk]; rfl
    have f26 := fun lk => s26n S (show 2 ≤ d by omega) x o s lk hj f65
    have f29 := s29n S (show 5 ≤ d by omega) x o h.length hj (by omega) f65
    have hx1 := (Ext1.refl hj).push (.rw 62 [.int .i64 0, .int .u64 0])
    have F : ∀ hh', Ext1 hj hh' → (∀ lk, ev P T K d 28 [.sc x, .sc (.int .i64 o)] lk hh' = some (.tup [.ag [.int .i64 0, .int .u64 0], .sc (.int .i64 2)], hh')) ∧
        (∀ lk, ev P T K d 34 [.sc x, .sc (.int .i64 o)] lk hh' = some (.tup [.sc (.int .i64 (-1)), .sc (.bool false)], hh')) ∧
        (∀ lk, ev P T K d 33 [.sc x, .sc (.int .i64 o)] lk hh' = some (.tup [.sc (.int .i64 (-1)), .sc (.bool false)], hh')) ∧
        (∀ lk, ev P T K d 32 [.sc x, .sc (.int .i64 o)] lk hh' = some (.v (.sc (.int .i64 0)), hh')) ∧
        (∀ lk, ev P T K d 27 [.sc x] lk hh' = some (.v (.sc (.int .i64 0)), hh')) ∧
        (∀ lk, ev P T K d 31 [.sc x] lk hh' = some (.v (.sc .nils), hh')) ∧
        (ev P T K d 37 [.sc x, .sc (.int .i64 o), .sc (.int .u64 s)] h.length hh' = some (.v (.sc (.int .i64 2)), hh' ++ [.rw 62 [.int .i64 0, .int .u64 0]])) ∧
        cellsAt hh' h.length = some [.int .u8 k, .int .i64 o, .int .u64 s] := fun hh' hx' => by
      have f : ∀ d lk h2, 1 ≤ d → Ext1 hh' h2 → ev P T K d 65 [.sc x] lk h2 = some (.v (.sc (.bool false)), h2) := fun d lk h2 hd h3 => f65 d lk h2 hd (hx'.trans h3)
      have hl := hx'.len
      exact ⟨fun lk => s28n S (by omega) x o lk _ f, fun lk => s34n S (by omega) x o lk _ f, fun lk => s33n S (by omega) x o lk _ f, fun lk => s32n S (by omega) x o lk _ f, fun lk => s27n S (by omega) x lk _ f, fun lk => s31n S (by omega) x lk _ f, s37n S (by omega) x o s h.length _ (by omega) f, cells_at (ext1_get hx' g0)⟩
    have hx2 := hx1.push (.rw 62 [.int .i64 0, .int .u64 0])
    have hx3 := hx2.push (.rw 62 [.int .i64 0, .int .u64 0])
    obtain ⟨a1, a2, a3, a4, a5, a6, a7, a8⟩ := F _ hx1
    obtain ⟨b1, b2, b3, b4, b5, b6, b7, b8⟩ := F _ hx2
    obtain ⟨d1, d2, d3, d4, d5, d6, d7, d8⟩ := F _ hx3
    clear F f65
    have hln := fun hh => len_nils (P := P) (h := hh) (un47 S.p)
    have hre : eqL [1, 1] [SV.int .i64 0, .int .u64 0] [SV.int .i64 0, .int .u64 0] = some true := rfl
    simp (disch := first | omega | (simp (disch := first | omega | (simp only [Rec.len, List.length_append, List.length_cons, List.length_nil, List.length_set]; first | done | omega)) only [Rec.len, amSide, Int.reduceToNat, Nat.reducePow, Nat.reduceMul]; first | done | omega)) only  [↓amPre, amPost, ↓s_lit', Nat.reduceAdd, Nat.reduceSub, List.replicate, retA, resultsA, resultA, toC, toCL, Nat.reduceEqDiff, he, (ze62 S.p), eql_ag, neq_ag, (eq62 S.p), (bu62 S.p), (bu88 S.p), lit_fill (un89 S.p) (sz51 S.p) (ze51 S.p), (fa56_1 S.p), (fa56_2 S.p), iaddr_sl (un89 S.p) (sz51 S.p), len_sl (un47 S.p), len_nils (un47 S.p), len_sl (un89 S.p), len_nils (un89 S.p), part_sc (ag3 S.p), part_sc (ag39 S.p), part_sc (ag51 S.p), part_all (ag62 S.p) (sz62 S.p), part_at (ag62 S.p) (sz62 S.p), store_last (sz62 S.p), (sz62 S.p), idx_ok, c0, c2, hxi, f26, f29, a1, a2, a3, a4, a5, a6, a7, a8, b1, b2, b3, b4, b5, b6, b7, b8, d1, d2, d3, d4, d5, d6, d7, d8, cells_self, cells_other, hln, hre, bneI_f, bneI_t, Int.toNat_natCast, Nat.mul_one, Nat.zero_add, wrap_i64]
    refine hag ⟨i + 1, q, _⟩ ⟨by simp only; omega, hx.trans (hx3.push _)⟩ (by simp only; omega) _ ?_
    simp (disch := first | omega | (simp (disch := first | omega | (simp only [Rec.len, List.length_append, List.length_cons, List.length_nil, List.length_set]; first | done | omega)) only [Rec.len, amSide, Int.reduceToNat, Nat.reducePow, Nat.reduceMul]; first | done | omega)) only [↓amPre, amPost, ↓s_lit', Nat.reduceAdd, Nat.reduceSub, List.replicate, retA, resultsA, resultA, toC, toCL, Nat.reduceEqDiff, Int.natCast_add, Int.cast_ofNat_Int, dec_t, dec_f]
  · simp (disch := first | omega | (simp (disch := first | omega | (simp only [Rec.len, List.length_append, List.length_cons, List.length_nil, List.length_set]; first | done | omega)) only [Rec.len, amSide, Int.reduceToNat, Nat.reducePow, Nat.reduceMul]; first | done | omega)) only  [↓amPre, amPost, ↓s_lit', Nat.reduceAdd, Nat.reduceSub, List.replicate, retA, resultsA, resultA, toC, toCL, Nat.reduceEqDiff, he, (ze62 S.p), eql_ag, neq_ag, (eq62 S.p), (bu62 S.p), (bu88 S.p), lit_fill (un89 S.p) (sz51 S.p) (ze51 S.p), (fa56_1 S.p), (fa56_2 S.p), iaddr_sl (un89 S.p) (sz51 S.p), len_sl (un47 S.p), len_nils (un47 S.p), len_sl (un89 S.p), len_nils (un89 S.p), part_sc (ag3 S.p), part_sc (ag39 S.p), part_sc (ag51 S.p), part_all (ag62 S.p) (sz62 S.p), part_at (ag62 S.p) (sz62 S.p), store_last (sz62 S.p), (sz62 S.p), f24]
    exact Ends.some rfl
end Go.AM
