/- Logs: a log that nobody made; what is told may be written over. Conditions: none. -/
import Derived.Test.YtjhhjmngjmflaaaGh7
set_option linter.unusedVariables false
set_option linter.unusedSimpArgs false
set_option maxRecDepth 100000
namespace Go.AM
open Go.Proofs
-- LENS: EvV.len, MonV.len, ThV.len, EnV.len
structure NbSt where
  i : Nat
  h : List AO
def nb1 : EnV := ⟨1, 0, 0, 1, 0, 0, noEv, 0, 0⟩
def nbG : LgV := ⟨1, (newL 1 1 1).V, [⟨1, 0, 0, 1, true, 0, noEv⟩], [nb1]⟩
theorem nb_1 : addL (newL 1 1 1) nb1 = some nbG := by rfl
def nbE : EvV := ⟨1, 0, 0, 0, 0⟩
section
variable {P : Program} {T : Tab} {K d : Nat} (S : Sd P T K)
include S
set_option maxHeartbeats 8000000 in
theorem s5 (hd : 8 ≤ d) (x : EnV) (lk : Nat) (h : List AO) : ev P T K d 5 [.ag x.cells] lk h = some (.v (.sc (.bool true)), h) := by
  obtain ⟨d, rfl⟩ : ∃ k, d = k + 1 := ⟨d - 1, by omega⟩
  refine ev_pure (at5 S.t) rfl ?_
  unfold i5 Try.f5
  have f13 := fun lk h => s13 S (show 7 ≤ d by omega) lk h
  have hpx := partRn S x
  have x1 := x.c1
  simp (maxSteps := 1000000) (disch := first | omega | (simp (disch := first | omega | (simp only [EvV.len, MonV.len, ThV.len, EnV.len, List.length_append, List.length_cons, List.length_nil, List.length_set]; first | done | omega)) only [EvV.len, MonV.len, ThV.len, EnV.len, amSide, Int.reduceToNat, Nat.reducePow, Nat.reduceMul]; first | done | omega)) only  [↓amPre, amPost, ↓s_lit', Nat.reduceAdd, Nat.reduceSub, List.replicate, retA, resultsA, resultA, toC, toCL, Nat.reduceEqDiff, (ze27 S.p), eql_ag, neq_ag, (eq27 S.p), (bu27 S.p), (bu34 S.p), (bu36 S.p), (bu67 S.p), lit_fill (un68 S.p) (sz56 S.p) (ze56 S.p), (fa31_1 S.p), (fa36_0 S.p), iaddr_sl (un25 S.p) (sz36 S.p), iaddr_sl (un68 S.p) (sz56 S.p), len_sl (un25 S.p), len_nils (un25 S.p), len_sl (un68 S.p), len_nils (un68 S.p), part_all (ag27 S.p) (sz27 S.p), part_at (ag27 S.p) (sz27 S.p), part_sc (ag3 S.p), part_all (ag31 S.p) (sz31 S.p), part_at (ag31 S.p) (sz31 S.p), part_sc (ag56 S.p), store_last (sz27 S.p), (sz27 S.p), store_last (sz3 S.p), (sz3 S.p), List.nil_append, List.append_nil, List.cons_append, List.flatten_cons, List.flatten_nil, splice_def, Nat.zero_mul, Nat.one_mul]
  generalize hH0 : h ++ [AO.rw 31 x.cells] ++ [AO.rw 67 [.int .i64 0, .nilp, .nils, .nils]] ++ [AO.rw 56 [.nilp, .ptr (h.length + 1) 0]] = H0
  have hl0 : H0.length = h.length + 3 := by rw [← hH0]; simp
  have w0 : H0[h.length]? = some (.rw 31 x.cells) := by rw [← hH0]; simp [List.getElem?_append]
  have w1 : H0[h.length + 1]? = some (.rw 67 [.int .i64 0, .nilp, .nils, .nils]) := by rw [← hH0]; simp [List.getElem?_append]
  have w2 : H0[h.length + 2]? = some (.rw 56 [.nilp, .ptr (h.length + 1) 0]) := by rw [← hH0]; simp [List.getElem?_append]
  refine ends_loop (X := NbSt) ⟨0, H0⟩ [2, 4, 5, 6, 16, 17, 18, 19, 20, 21, 22, 23, 24, 25, 26, 27, 28, 29, 30, 31, 32, 33, 34, 35, 36, 37, 38, 39, 40, 41, 42, 43, 44, 45, 46, 47, 48, 49, 50, 51, 52, 53] (fun x => x.i ≤ 2 ∧ Ext1 H0 x.h) (fun x => 2 - x.i)
    (fun x e => e.set 15 (.v (.sc (.int .i64 x.i)))) (fun x => x.h)
    (by have := S.k; show _ < K; simp only; omega) ⟨by simp only; omega, Ext1.refl _⟩ rfl rfl ?_
  rintro ⟨i, hj⟩ ⟨hi, hx⟩ again hag e he
  simp only at hi hx hag he
  simp only [↓amPre, amPost, ↓s_lit', Nat.reduceAdd, Nat.reduceSub, List.replicate, retA, resultsA, resultA, toC, toCL, Nat.reduceEqDiff] at he
  simp only [↓amPre, amPost, ↓s_lit', Nat.reduceAdd, Nat.reduceSub, List.replicate, retA, resultsA, resultA, toC, toCL, Nat.reduceEqDiff, he]
  have hxl := hx.len
  refine ends_cond (fun hc1 => ?_) (fun hc1 => ?_)
  · simp only [decide_eq_true_eq] at hc1
    have c0 := cells_at (ext1_get hx w0)
    have c2 := cells_at (ext1_get hx w2)
    obtain ⟨y, hy, f38⟩ : ∃ y, ([SV.nilp, SV.ptr (h.length + 1) 0] : List SV)[i]? = some y ∧ ∀ d lk hh', 1 ≤ d → Ext1 hj hh' → ev P T K d 38 [.sc y] lk hh' = some (.v (.sc (.bool false)), hh') := by
      rcases (show i = 0 ∨ i = 1 by omega) with rfl | rfl
      · exact ⟨_, rfl, fun d lk hh' hd _ => s38n S hd lk hh'⟩
      · exact ⟨_, rfl, fun d lk hh' hd hx' => s38z S hd (cells_at (ext1_get (hx.trans hx') w1)) lk⟩
    have f17 := fun lk => s17n S (show 2 ≤ d by omega) (x := y) (h := hj) (fun lk hh hx' => f38 _ lk hh (by omega) hx') x.th lk
    have f10 := fun lk h => s10 S (show 1 ≤ d by omega) x lk h
    have x2 := (Ext1.refl hj).push (.rw 27 [.int .i64 0, .int .i64 0, .int .i64 0])
    have f15 := s15n S (show 2 ≤ d by omega) (x := y) (h := hj ++ [.rw 27 [.int .i64 0, .int .i64 0, .int .i64 0]]) x (fun lk hh hx' => f38 _ lk hh (by omega) (x2.trans hx'))
    have x3 := x2.push (.rw 36 x.cells)
    have f16 := fun lk => s16n S (show 2 ≤ d by omega) (x := y) (h := hj ++ [.rw 27 [.int .i64 0, .int .i64 0, .int .i64 0]] ++ [.rw 36 x.cells]) (fun lk => f38 _ lk _ (by omega) x3) lk
    have f18 := fun lk => s18n S (show 2 ≤ d by omega) (x := y) (h := hj ++ [.rw 27 [.int .i64 0, .int .i64 0, .int .i64 0]] ++ [.rw 36 x.cells]) (fun lk => f38 _ lk _ (by omega) x3) lk
    have f19 := fun lk => s19n S (show 2 ≤ d by omega) (x := y) (h := hj ++ [.rw 27 [.int .i64 0, .int .i64 0, .int .i64 0]] ++ [.rw 36 x.cells]) (fun lk => f38 _ lk _ (by omega) x3) lk
    have hln := fun hh => len_nils (P := P) (h := hh) (un25 S.p)
    have hre : eqL [1, 1, 1] [SV.int .i64 0, .int .i64 0, .int .i64 0] [SV.int .i64 0, .int .i64 0, .int .i64 0] = some true := rfl
    have n2 : binOpA P .neq 64 (.v (.sc .nilp)) (.v (.sc .nilp)) = some (.v (.sc (.bool false))) := by simp [binOpA, eqA, un64 S.p]
    have hxl3 := x.len
    have q27 : cellsAt (hj ++ [AO.rw 27 [.int .i64 0, .int .i64 0, .int .i64 0]] ++ [AO.rw 36 x.cells]) hj.length = some [.int .i64 0, .int .i64 0, .int .i64 0] := by rw [cells_other _ _ (by simp)]; exact cells_self _ _ _ rfl
    simp (maxSteps := 1000000) (disch := first | omega | (simp (disch := first | omega | (simp only [EvV.len, MonV.len, ThV.len, EnV.len, List.length_append, List.length_cons, List.length_nil, List.length_set]; first | done | omega)) only [EvV.len, MonV.len, ThV.len, EnV.len, amSide, Int.reduceToNat, Nat.reducePow, Nat.reduceMul]; first | done | omega)) only  [↓amPre, amPost, ↓s_lit', Nat.reduceAdd, Nat.reduceSub, List.replicate, retA, resultsA, resultA, toC, toCL, Nat.reduceEqDiff, he, (ze27 S.p), eql_ag, neq_ag, (eq27 S.p), (bu27 S.p), (bu34 S.p), (bu36 S.p), (bu67 S.p), lit_fill (un68 S.p) (sz56 S.p) (ze56 S.p), (fa31_1 S.p), (fa36_0 S.p), iaddr_sl (un25 S.p) (sz36 S.p), iaddr_sl (un68 S.p) (sz56 S.p), len_sl (un25 S.p), len_nils (un25 S.p), len_sl (un68 S.p), len_nils (un68 S.p), part_all (ag27 S.p) (sz27 S.p), part_at (ag27 S.p) (sz27 S.p), part_sc (ag3 S.p), part_all (ag31 S.p) (sz31 S.p), part_at (ag31 S.p) (sz31 S.p), part_sc (ag56 S.p), store_last (sz27 S.p), (sz27 S.p), store_last (sz3 S.p), (sz3 S.p), c0, c2, hy, hpx, x1, f17, f10, f15, f16, f18, f19, hln, hre, n2, q27, beqI_t, beqI_f, bneI_t, bneI_f, bne_self_eq_false, beq_self_eq_true, dec_t, dec_f, cells_self, cells_other, idx_ok, Int.toNat_natCast, Nat.zero_add, Nat.add_zero, Nat.mul_one, wrap_i64]
    refine hag ⟨i + 1, _⟩ ⟨by simp only; omega, hx.trans x3⟩ (by simp only; omega) _ ?_
    simp (maxSteps := 1000000) (disch := first | omega | (simp (disch := first | omega | (simp only [EvV.len, MonV.len, ThV.len, EnV.len, List.length_append, List.length_cons, List.length_nil, List.length_set]; first | done | omega)) only [EvV.len, MonV.len, ThV.len, EnV.len, amSide, Int.reduceToNat, Nat.reducePow, Nat.reduceMul]; first | done | omega)) only [↓amPre, amPost, ↓s_lit', Nat.reduceAdd, Nat.reduceSub, List.replicate, retA, resultsA, resultA, toC, toCL, Nat.reduceEqDiff, Int.natCast_add, Int.cast_ofNat_Int, dec_t, dec_f]
  · clear hag hc1 w0 w1 w2 hH0
    obtain ⟨v, h1, e14, X1, p, pm, bm, bf, bw, bl, bt, rfl, L0, b0, b1, b2, b3, b4, b5⟩ := s14 S (show 3 ≤ d by omega) (n := 1) (m := 1) (c := 1) (by omega) (by omega) (by omega) h.length hj (by omega)
    have I0 : LgI 1 1 1 (newL 1 1 1) := newL_I (by omega) (by omega) (by omega)
    have I1 := I0.add (by omega) nb_1
    have hn1 : binOpA P .eql 56 (.v (.sc (.ptr p 0))) (.v (.sc .nilp)) = some (.v (.sc (.bool false))) := by simp [binOpA, eqA, un56 S.p]
    obtain ⟨v, h2, e15, rfl, q1, L1, F1, Q1⟩ := s15 S (show 6 ≤ d by omega) (by omega) L0 I0 (by omega) (by simp [newL]) nb1 h.length (by omega)
    rw [nb_1] at e15 L1
    simp only [Option.isSome_some, if_true, Option.getD_some] at e15 L1
    have hF1 := F1.1
    obtain ⟨v, h3, e16, X3, q3, rfl, O3⟩ := s16 S (show 2 ≤ d by omega) L1 (by simp [nbG]) h.length (by have := X1.len; omega)
    have hrec : recs EnV.cells nbG.ents = nb1.cells := by simp [nbG, recs]
    rw [hrec] at O3
    obtain ⟨b, hb1, hb2, rfl, hb4, _⟩ : ∃ b, h2.length ≤ b ∧ b < h3.length ∧ q3 = .sl b 0 1 13 ∧ h3[b]? = some (.rw 36 nb1.cells) ∧ True := by
      rcases O3 with ⟨_, hc⟩ | ⟨b, a1, a2, a3, a4, _⟩
      · have := nb1.len; rw [hc] at this; cases this
      · exact ⟨b, a1, a2, by rw [a3, nb1.len], a4, trivial⟩
    have hxl2 := X1.len
    have st : storeA P h3 h.length 3 (.v (.sc (.ptr b 0))) (.v (.sc (.int .i64 9))) = some (h3.set b (.rw 36 (nb1.cells.set 0 (.int .i64 9)))) := by
      rw [store_at hb4 (by omega) (sz3 S.p) (c := .sc (.int .i64 9)) rfl (by rw [nb1.len]; omega)]
      rw [show splice nb1.cells 0 (CV.sc (.int .i64 9)).cells = nb1.cells.set 0 (.int .i64 9) from splice_one _ _ _ (by rw [nb1.len]; omega)]
    have X4 : Ext1 h2 (h3.set b (.rw 36 (nb1.cells.set 0 (.int .i64 9)))) := X3.set hb1 _
    generalize h3.set b (.rw 36 (nb1.cells.set 0 (.int .i64 9))) = h4 at st X4
    have hX4 := X4.len
    have L4 := L1.ext X4
    obtain ⟨v, h5, e19, X5, p', bm', bf', bw', bl', rfl, M5, c0, c1, c2, c3, c4⟩ := s19 S (show 3 ≤ d by omega) L4 (by simp [nbG, newL]) (by simp [nbG, newL]) h.length (by omega)
    have hX5 := X5.len
    obtain ⟨v, h6, e20, rfl, M6, F6⟩ := s20 S (show 5 ≤ d by omega) M5 I1.I.ok nbE h.length (by omega)
    have X6 : Ext1 h2 h6 := F6.ext1 (X4.trans X5) (by omega) (by omega) (by omega) (by omega)
    have hX6 := X6.len
    have L6 := L1.ext X6
    obtain ⟨v, h7, e16b, X7, q7, rfl, O7⟩ := s16 S (show 2 ≤ d by omega) L6 (by simp [nbG]) h.length (by omega)
    rw [hrec] at O7
    obtain ⟨b7, hc2, rfl, hc4⟩ : ∃ b, b < h7.length ∧ q7 = .sl b 0 1 13 ∧ cellsAt h7 b = some nb1.cells := by
      rcases O7 with ⟨_, hc⟩ | ⟨b, a1, a2, a3, a4, _⟩
      · have := nb1.len; rw [hc] at this; cases this
      · exact ⟨b, a2, by rw [a3, nb1.len], cells_at a4⟩
    have L7 := L6.ext X7
    have hX7 := X7.len
    obtain ⟨v, h8, e19b, X8, p8, bm8, bf8, bw8, bl8, rfl, M8, _⟩ := s19 S (show 3 ≤ d by omega) L7 (by simp [nbG, newL]) (by simp [nbG, newL]) h.length (by omega)
    have e21 := fun lk => s21 S (show 3 ≤ d by omega) M8 (by simp [nbG, newL]) 0 lk
    rw [show (atV nbG.V 0).own = -1 from rfl] at e21
    have n0 := nb1.c0
    rw [show nb1.kd = 1 from rfl] at n0
    rw [show ((1 : Nat) : Int) = 1 from rfl] at e14
    have i0 : ((0 : Int) ≤ 0 ∧ (0 : Int) < 1) = True := by simp
    have hz1 : ((1 : Nat) : Int) = 1 := rfl
    unfold EnV.cells nb1 noEv at e15
    unfold EvV.cells nbE at e20
    simp (maxSteps := 1000000) (disch := first | omega | (simp (disch := first | omega | (simp only [EvV.len, MonV.len, ThV.len, EnV.len, List.length_append, List.length_cons, List.length_nil, List.length_set]; first | done | omega)) only [EvV.len, MonV.len, ThV.len, EnV.len, amSide, Int.reduceToNat, Nat.reducePow, Nat.reduceMul]; first | done | omega)) only  [↓amPre, amPost, ↓s_lit', Nat.reduceAdd, Nat.reduceSub, List.replicate, retA, resultsA, resultA, toC, toCL, Nat.reduceEqDiff, he, (ze27 S.p), eql_ag, neq_ag, (eq27 S.p), (bu27 S.p), (bu34 S.p), (bu36 S.p), (bu67 S.p), lit_fill (un68 S.p) (sz56 S.p) (ze56 S.p), (fa31_1 S.p), (fa36_0 S.p), iaddr_sl (un25 S.p) (sz36 S.p), iaddr_sl (un68 S.p) (sz56 S.p), len_sl (un25 S.p), len_nils (un25 S.p), len_sl (un68 S.p), len_nils (un68 S.p), part_all (ag27 S.p) (sz27 S.p), part_at (ag27 S.p) (sz27 S.p), part_sc (ag3 S.p), part_all (ag31 S.p) (sz31 S.p), part_at (ag31 S.p) (sz31 S.p), part_sc (ag56 S.p), store_last (sz27 S.p), (sz27 S.p), store_last (sz3 S.p), (sz3 S.p), e14, hn1, e15, e16, st, e19, e20, e16b, hc4, n0, e19b, e21, f13, i0, hz1, splice_def, Int.reduceToNat, Nat.zero_mul, beqI_t, beqI_f, bneI_t, bneI_f, bne_self_eq_false, beq_self_eq_true, dec_t, dec_f, cells_self, cells_other, idx_ok, Int.toNat_natCast, Nat.zero_add, Nat.add_zero, Nat.mul_one, wrap_i64]
    exact Ends.some rfl
end
end Go.AM
