/- Logs: how many entries are right together. Conditions: none. -/
import Derived.Test.YtjhhjmngjmflaaaGh9
set_option linter.unusedVariables false
set_option linter.unusedSimpArgs false
set_option maxRecDepth 100000
-- NOTY: ze47, bu47
namespace Go.AM
open Go.Proofs
-- LENS: EvV.len, MonV.len, ThV.len, EnV.len, refC_len
structure GrSt where
  i : Nat
  q : SV
  h : List AO
/-- What both count. -/
def nR (a b c : Int) (l : List EnV) : Nat := if (1 ≤ a ∧ a ≤ 8) ∧ (1 ≤ b ∧ b ≤ 8) ∧ 1 ≤ c ∧ c ≤ 60 then manyL (newL a.toNat b.toNat c) l else 0
theorem nR_le (a b c : Int) (l : List EnV) : nR a b c l ≤ l.length := by
  unfold nR
  split
  · exact many_le _ _
  · exact Nat.zero_le _
theorem nR_take (a b c : Int) (l : List EnV) {k : Nat} (hk : k ≤ nR a b c l) : nR a b c (l.take k) = k := by
  unfold nR at hk ⊢
  split
  · rename_i hc; rw [if_pos hc] at hk; exact many_take _ _ _ hk
  · rename_i hc; rw [if_neg hc] at hk; omega
section
variable {P : Program} {T : Tab} {K d : Nat} (S : Sd P T K)
include S
theorem s11a (hd : 7 ≤ d) (a b c : Int) {q : SV} {l : List EnV} {k : Nat} (hk : k ≤ 1000 ∧ k ≤ l.length) (lk : Nat) (h : List AO) (hq : Rs2 EnV.cells 13 h q l k) :
    ev P T K d 11 [.sc (.int .i64 a), .sc (.int .i64 b), .sc (.int .i64 c), .sc q] lk h = some (.tup [.sc (.int .i64 (nR a b c (l.take k))), .sc (.bool (decide (nR a b c (l.take k) = k)))], h) := by
  unfold nR
  split
  · rename_i hc
    obtain ⟨n, rfl⟩ := Int.eq_ofNat_of_zero_le (show 0 ≤ a by omega)
    obtain ⟨m, rfl⟩ := Int.eq_ofNat_of_zero_le (show 0 ≤ b by omega)
    simp only [Int.toNat_natCast]
    exact s11 S hd (by omega) (by omega) hc.2.2 hk lk h hq
  · rename_i hc
    rw [s11f S (by omega) a b c hc lk h hq]
    have : decide (k = 0) = decide ((0 : Nat) = k) := decide_eq_decide.2 ⟨Eq.symm, Eq.symm⟩
    rw [this]; rfl
theorem s12a (hd : 6 ≤ d) (a b c : Int) {q : SV} {l : List EnV} {k : Nat} (hk : k ≤ 1000 ∧ k ≤ l.length) (lk : Nat) (h : List AO) (hlk : lk ≤ h.length) (hq : Rs2 EnV.cells 13 h q l k) :
    Ends (Ri h (nR a b c (l.take k))) (ev P T K d 12 [.sc (.int .i64 a), .sc (.int .i64 b), .sc (.int .i64 c), .sc q] lk h) := by
  unfold nR
  split
  · rename_i hc
    obtain ⟨n, rfl⟩ := Int.eq_ofNat_of_zero_le (show 0 ≤ a by omega)
    obtain ⟨m, rfl⟩ := Int.eq_ofNat_of_zero_le (show 0 ≤ b by omega)
    simp only [Int.toNat_natCast]
    exact s12 S hd (by omega) (by omega) hc.2.2 hk lk h hlk hq
  · rename_i hc
    exact s12f S (by omega) a b c hc q lk h hlk
set_option maxHeartbeats 8000000 in
theorem s3 (hd : 8 ≤ d) (a b c : Int) (q : SV) (l : List EnV) (at' : Int) (ha : 0 ≤ at' ∧ at' < 256) (lk : Nat) (h : List AO) (hq : Rs EnV.cells 13 h q l) :
    ev P T K d 3 [.ag [.int .i64 a, .int .i64 b, .int .i64 c], .sc q, .sc (.int .u8 at')] lk h = some (.v (.sc (.bool true)), h) := by
  obtain ⟨d, rfl⟩ : ∃ k, d = k + 1 := ⟨d - 1, by omega⟩
  refine ev_pure (at3 S.t) rfl ?_
  unfold i3 Try.f3
  have f13 := fun lk h => s13 S (show 7 ≤ d by omega) lk h
  obtain ⟨q', e9, hE⟩ := s9 S (show 1 ≤ d by omega) q l h.length (h ++ [.rw 22 [.int .i64 a, .int .i64 b, .int .i64 c]]) (hq.ext ((Ext1.refl h).push _))
  have hlen := (hE h hq).len (un23 S.p)
  simp (maxSteps := 1000000) (disch := first | omega | (simp (disch := first | omega | (simp only [EvV.len, MonV.len, ThV.len, EnV.len, refC_len, List.length_append, List.length_cons, List.length_nil, List.length_set]; first | done | omega)) only [EvV.len, MonV.len, ThV.len, EnV.len, refC_len, amSide, Int.reduceToNat, Nat.reducePow, Nat.reduceMul]; first | done | omega)) only  [↓amPre, amPost, ↓s_lit', Nat.reduceAdd, Nat.reduceSub, List.replicate, retA, resultsA, resultA, toC, toCL, Nat.reduceEqDiff, (ze31 S.p), (ze51 S.p), append_at (un25 S.p) (sz36 S.p) (by36 S.p) (ze36 S.p) (by decide) (by decide) rfl, copy_at (un25 S.p) (sz36 S.p) (by36 S.p) (ze36 S.p) (by decide) (by decide) rfl, sl_cells (sz36 S.p), eql_bool (un4 S.p), neq_bool (un4 S.p), lit_fill (un25 S.p) (sz36 S.p) (ze36 S.p), conv_int (un5 S.p) (un3 S.p), iaddr_ptr (un22 S.p) (sz3 S.p), iaddr_sl (un23 S.p) (sz31 S.p), len_sl (un23 S.p), len_nils (un23 S.p), len_sl (un25 S.p), len_nils (un25 S.p), part_sc (ag3 S.p), part_all (ag31 S.p) (sz31 S.p), part_at (ag31 S.p) (sz31 S.p), slice_lo (un25 S.p) (sz36 S.p), slice_hi (un25 S.p) (sz36 S.p), slice_lohi (un25 S.p) (sz36 S.p), slice_nil (un25 S.p) (sz36 S.p), slice_none (un25 S.p), sliceE_lohi (un25 S.p) (sz36 S.p) (by decide), sliceE_hi (un25 S.p) (sz36 S.p) (by decide), slice_mx (un25 S.p), sliceE_mx (un25 S.p) (sz36 S.p) (by decide), store_last (sz31 S.p), (sz31 S.p), store_last (sz47 S.p), (sz47 S.p), store_last (sz51 S.p), (sz51 S.p), e9, hlen, beqI_t, beqI_f, bneI_t, bneI_f, bne_self_eq_false, beq_self_eq_true, dec_t, dec_f, cells_self, cells_other, cells_set, cells_set_ne, idx_ok, Int.toNat_natCast, Nat.zero_add, Nat.add_zero, wrap_i64]
  have hN : min l.length 120 ≤ 120 ∧ min l.length 120 ≤ l.length := by omega
  generalize min l.length 120 = N at *
  obtain ⟨H0, hH0⟩ : ∃ H0, H0 = h ++ [AO.rw 22 [.int .i64 a, .int .i64 b, .int .i64 c]] := ⟨_, rfl⟩
  have hl0 : H0.length = h.length + 1 := by rw [hH0]; simp
  have hx0 : Ext1 h H0 := by rw [hH0]; exact (Ext1.refl h).push _
  have g0 : H0[h.length]? = some (.rw 22 [.int .i64 a, .int .i64 b, .int .i64 c]) := by rw [hH0, obj_self _ _ rfl]
  rw [← hH0]
  clear e9 hH0
  refine ends_loop (X := GrSt) ⟨0, .nils, H0⟩ [9, 23, 24, 25, 26, 27, 28, 29, 30, 31] (fun x => x.i ≤ N ∧ Ext1 H0 x.h ∧ Own 36 13 (h.length + 1) x.h x.q (recs EnV.cells (l.take x.i))) (fun x => N - x.i)
    (fun x e => (e.set 7 (.v (.sc x.q))).set 22 (.v (.sc (.int .i64 x.i)))) (fun x => x.h)
    (by have := S.k; show _ < K; simp only; omega) ⟨by simp only; omega, Ext1.refl _, Own.nil _ _ _ _⟩ rfl rfl ?_
  rintro ⟨i, qx, hj⟩ ⟨hi, hx, ho⟩ again hag e he
  simp only at hi hx ho hag he
  simp only [↓amPre, amPost, ↓s_lit', Nat.reduceAdd, Nat.reduceSub, List.replicate, retA, resultsA, resultA, toC, toCL, Nat.reduceEqDiff] at he
  simp only [↓amPre, amPost, ↓s_lit', Nat.reduceAdd, Nat.reduceSub, List.replicate, retA, resultsA, resultA, toC, toCL, Nat.reduceEqDiff, he]
  have hxl := hx.len
  refine ends_cond (fun hc1 => ?_) (fun hc1 => ?_)
  · simp only [decide_eq_true_eq] at hc1
    rcases hE hj (hq.ext (hx0.trans hx)) with ⟨rfl, hz⟩ | ⟨b1, rfl, hbl, hcb, hkl⟩
    · omega
    obtain ⟨y, hy⟩ : ∃ y, l[i]? = some y := ⟨_, List.getElem?_eq_getElem (by omega)⟩
    have hpt := recs_part (ag31 S.p) (sz31 S.p) EnV.len hy
    have hpy := partRn S y
    have hyl := EnV.len y
    have f10 := fun lk h => s10 S (show 1 ≤ d by omega) y lk h
    have hrl : (recs EnV.cells (l.take i)).length = i * 13 := by rw [recs_len EnV.len, List.length_take]; omega
    obtain ⟨q2, h2, happ, hown, hl2, _, hx2, _, _⟩ := grow_own (b := 104) (lk := h.length) ((ho.push (.rw 31 y.cells)).push (.rw 36 y.cells)) y.cells (by omega) (by omega) (by omega) (by omega) (by simp; omega) (by rw [hrl, hyl]; omega)
    have hsn : recs EnV.cells (l.take i) ++ y.cells = recs EnV.cells (l.take (i + 1)) := by
      rw [List.take_succ_eq_append_getElem (show i < l.length by omega), recs_app]
      rw [show l[i] = y from by have := List.getElem?_eq_getElem (show i < l.length by omega); rw [this] at hy; exact Option.some.inj hy]
      simp [recs]
    rw [hsn] at hown
    have htk : List.take 13 y.cells = y.cells := List.take_of_length_le (by omega)
    simp (maxSteps := 1000000) (disch := first | omega | (simp (disch := first | omega | (simp only [EvV.len, MonV.len, ThV.len, EnV.len, refC_len, List.length_append, List.length_cons, List.length_nil, List.length_set]; first | done | omega)) only [EvV.len, MonV.len, ThV.len, EnV.len, refC_len, amSide, Int.reduceToNat, Nat.reducePow, Nat.reduceMul]; first | done | omega)) only  [↓amPre, amPost, ↓s_lit', Nat.reduceAdd, Nat.reduceSub, List.replicate, retA, resultsA, resultA, toC, toCL, Nat.reduceEqDiff, he, (ze31 S.p), (ze51 S.p), append_at (un25 S.p) (sz36 S.p) (by36 S.p) (ze36 S.p) (by decide) (by decide) rfl, copy_at (un25 S.p) (sz36 S.p) (by36 S.p) (ze36 S.p) (by decide) (by decide) rfl, sl_cells (sz36 S.p), eql_bool (un4 S.p), neq_bool (un4 S.p), lit_fill (un25 S.p) (sz36 S.p) (ze36 S.p), conv_int (un5 S.p) (un3 S.p), iaddr_ptr (un22 S.p) (sz3 S.p), iaddr_sl (un23 S.p) (sz31 S.p), len_sl (un23 S.p), len_nils (un23 S.p), len_sl (un25 S.p), len_nils (un25 S.p), part_sc (ag3 S.p), part_all (ag31 S.p) (sz31 S.p), part_at (ag31 S.p) (sz31 S.p), slice_lo (un25 S.p) (sz36 S.p), slice_hi (un25 S.p) (sz36 S.p), slice_lohi (un25 S.p) (sz36 S.p), slice_nil (un25 S.p) (sz36 S.p), slice_none (un25 S.p), sliceE_lohi (un25 S.p) (sz36 S.p) (by decide), sliceE_hi (un25 S.p) (sz36 S.p) (by decide), slice_mx (un25 S.p), sliceE_mx (un25 S.p) (sz36 S.p) (by decide), store_last (sz31 S.p), (sz31 S.p), store_last (sz47 S.p), (sz47 S.p), store_last (sz51 S.p), (sz51 S.p), hcb, hpt, hpy, hyl, f10, happ, htk, List.flatten_cons, List.flatten_nil, List.append_nil, Nat.zero_mul, Nat.one_mul, beqI_t, beqI_f, bneI_t, bneI_f, bne_self_eq_false, beq_self_eq_true, dec_t, dec_f, cells_self, cells_other, cells_set, cells_set_ne, idx_ok, Int.toNat_natCast, Nat.zero_add, Nat.add_zero, wrap_i64]
    refine hag ⟨i + 1, q2, h2⟩ ⟨by simp only; omega, hx2 _ ((hx.push _).push _) (by omega), hown⟩ (by simp only; omega) _ ?_
    simp (maxSteps := 1000000) (disch := first | omega | (simp (disch := first | omega | (simp only [EvV.len, MonV.len, ThV.len, EnV.len, refC_len, List.length_append, List.length_cons, List.length_nil, List.length_set]; first | done | omega)) only [EvV.len, MonV.len, ThV.len, EnV.len, refC_len, amSide, Int.reduceToNat, Nat.reducePow, Nat.reduceMul]; first | done | omega)) only [↓amPre, amPost, ↓s_lit', Nat.reduceAdd, Nat.reduceSub, List.replicate, retA, resultsA, resultA, toC, toCL, Nat.reduceEqDiff, Int.natCast_add, Int.cast_ofNat_Int, dec_t, dec_f]
  · simp only [decide_eq_false_iff_not] at hc1
    obtain rfl : i = N := by omega
    clear hag
    have hq2 := hE hj (hq.ext (hx0.trans hx))
    have htl : (l.take i).length = i := by rw [List.length_take]; omega
    have hrs : Rs EnV.cells 13 hj qx (l.take i) := ho.rs (by omega) EnV.len
    have hr2 := hrs.rs2
    rw [htl] at hr2
    have hlx := fun hh => hrs.len (un25 S.p) hh
    rw [htl] at hlx
    have hlq := fun hh => hq2.len (un23 S.p) hh
    have c0 := cells_at (ext1_get hx g0)
    have f11 := fun lk => s11a S (show 7 ≤ d by omega) a b c (k := i) (by omega) lk hj hr2
    rw [List.take_of_length_le (show (l.take i).length ≤ i by omega)] at f11
    have hM := nR_le a b c (l.take i)
    obtain ⟨v, h2, f12, ms, qs, rfl, hms, hqs, X2⟩ := s12a S (show 6 ≤ d by omega) a b c (k := i) (by omega) h.length hj (by omega) hq2
    have c0b := cells_at (ext1_get X2 (ext1_get hx g0))
    have hz := ze47r S
    have hx2l := X2.len
    generalize hMM : nR a b c (l.take i) = M at *
    obtain ⟨k, hk⟩ : ∃ k : Nat, at'.toNat % (M + 1) = k := ⟨_, rfl⟩
    have hkM : k ≤ M := by rw [← hk]; exact Nat.le_of_lt_succ (Nat.mod_lt _ (by omega))
    have hrem : at'.tmod ((M : Int) + 1) = (k : Int) := by
      obtain ⟨w, rfl⟩ := Int.eq_ofNat_of_zero_le ha.1
      rw [← hk]
      simp only [Int.toNat_natCast]
      exact (Int.ofNat_tmod w (M + 1)).symm
    have hne : ((M : Int) + 1 = 0) = False := by simp; omega
    have hbn : (decide (M = i) != ((M : Int) == (i : Int))) = false := by
      by_cases q : M = i
      · simp [q]
      · have q2 : ¬ (M : Int) = (i : Int) := by omega
        simp [q, q2]
    rw [htl] at hM
    have hnt := nR_take a b c (l.take i) (k := k) (by rw [hMM]; exact hkM)
    rcases hrs with ⟨rfl, hn⟩ | ⟨b', rfl, hb', hcb'⟩
    · have hi0 : i = 0 := by rw [← htl, hn]; rfl
      have hk0 : k = 0 := by rw [hi0] at hM; omega
      have f11b := fun lk => s11a S (show 7 ≤ d by omega) a b c (q := .nils) (l := l.take i) (k := k) (by omega) lk (h2 ++ [.rw 47 ms] ++ [.rw 51 qs]) (.inl ⟨rfl, hk0⟩)
      rw [hnt] at f11b
      simp (maxSteps := 1000000) (disch := first | omega | (simp (disch := first | omega | (simp only [EvV.len, MonV.len, ThV.len, EnV.len, refC_len, List.length_append, List.length_cons, List.length_nil, List.length_set]; first | done | omega)) only [EvV.len, MonV.len, ThV.len, EnV.len, refC_len, amSide, Int.reduceToNat, Nat.reducePow, Nat.reduceMul]; first | done | omega)) only  [↓amPre, amPost, ↓s_lit', Nat.reduceAdd, Nat.reduceSub, List.replicate, retA, resultsA, resultA, toC, toCL, Nat.reduceEqDiff, he, (ze31 S.p), (ze51 S.p), append_at (un25 S.p) (sz36 S.p) (by36 S.p) (ze36 S.p) (by decide) (by decide) rfl, copy_at (un25 S.p) (sz36 S.p) (by36 S.p) (ze36 S.p) (by decide) (by decide) rfl, sl_cells (sz36 S.p), eql_bool (un4 S.p), neq_bool (un4 S.p), lit_fill (un25 S.p) (sz36 S.p) (ze36 S.p), conv_int (un5 S.p) (un3 S.p), iaddr_ptr (un22 S.p) (sz3 S.p), iaddr_sl (un23 S.p) (sz31 S.p), len_sl (un23 S.p), len_nils (un23 S.p), len_sl (un25 S.p), len_nils (un25 S.p), part_sc (ag3 S.p), part_all (ag31 S.p) (sz31 S.p), part_at (ag31 S.p) (sz31 S.p), slice_lo (un25 S.p) (sz36 S.p), slice_hi (un25 S.p) (sz36 S.p), slice_lohi (un25 S.p) (sz36 S.p), slice_nil (un25 S.p) (sz36 S.p), slice_none (un25 S.p), sliceE_lohi (un25 S.p) (sz36 S.p) (by decide), sliceE_hi (un25 S.p) (sz36 S.p) (by decide), slice_mx (un25 S.p), sliceE_mx (un25 S.p) (sz36 S.p) (by decide), store_last (sz31 S.p), (sz31 S.p), store_last (sz47 S.p), (sz47 S.p), store_last (sz51 S.p), (sz51 S.p), hlx, hlq, c0, c0b, f11, f12, hz, hms, hqs, hrem, hne, hbn, f11b, f13, splice_all, set_self, set_other, slice_nil, Int.reduceToNat, Nat.reduceMul, beqI_t, beqI_f, bneI_t, bneI_f, bne_self_eq_false, beq_self_eq_true, dec_t, dec_f, cells_self, cells_other, cells_set, cells_set_ne, idx_ok, Int.toNat_natCast, Nat.zero_add, Nat.add_zero, wrap_i64]
      exact Ends.some rfl
    · have f11b := fun lk => s11a S (show 7 ≤ d by omega) a b c (q := .sl b' 0 k 13) (l := l.take i) (k := k) (by omega) lk (h2 ++ [.rw 47 ms] ++ [.rw 51 qs]) (.inr ⟨b', rfl, by simp; omega, by
        rw [cells_other _ _ (by simp; omega), cells_other _ _ (by omega), X2.cells hb']; exact hcb', by omega⟩)
      rw [hnt] at f11b
      rw [htl] at f11
      simp (maxSteps := 1000000) (disch := first | omega | (simp (disch := first | omega | (simp only [EvV.len, MonV.len, ThV.len, EnV.len, refC_len, List.length_append, List.length_cons, List.length_nil, List.length_set]; first | done | omega)) only [EvV.len, MonV.len, ThV.len, EnV.len, refC_len, amSide, Int.reduceToNat, Nat.reducePow, Nat.reduceMul]; first | done | omega)) only  [↓amPre, amPost, ↓s_lit', Nat.reduceAdd, Nat.reduceSub, List.replicate, retA, resultsA, resultA, toC, toCL, Nat.reduceEqDiff, he, (ze31 S.p), (ze51 S.p), append_at (un25 S.p) (sz36 S.p) (by36 S.p) (ze36 S.p) (by decide) (by decide) rfl, copy_at (un25 S.p) (sz36 S.p) (by36 S.p) (ze36 S.p) (by decide) (by decide) rfl, sl_cells (sz36 S.p), eql_bool (un4 S.p), neq_bool (un4 S.p), lit_fill (un25 S.p) (sz36 S.p) (ze36 S.p), conv_int (un5 S.p) (un3 S.p), iaddr_ptr (un22 S.p) (sz3 S.p), iaddr_sl (un23 S.p) (sz31 S.p), len_sl (un23 S.p), len_nils (un23 S.p), len_sl (un25 S.p), len_nils (un25 S.p), part_sc (ag3 S.p), part_all (ag31 S.p) (sz31 S.p), part_at (ag31 S.p) (sz31 S.p), slice_lo (un25 S.p) (sz36 S.p), slice_hi (un25 S.p) (sz36 S.p), slice_lohi (un25 S.p) (sz36 S.p), slice_nil (un25 S.p) (sz36 S.p), slice_none (un25 S.p), sliceE_lohi (un25 S.p) (sz36 S.p) (by decide), sliceE_hi (un25 S.p) (sz36 S.p) (by decide), slice_mx (un25 S.p), sliceE_mx (un25 S.p) (sz36 S.p) (by decide), store_last (sz31 S.p), (sz31 S.p), store_last (sz47 S.p), (sz47 S.p), store_last (sz51 S.p), (sz51 S.p), hlx, hlq, htl, c0, c0b, f11, f12, hz, hms, hqs, hrem, hne, hbn, f11b, f13, splice_all, set_self, set_other, Int.reduceToNat, Nat.reduceMul, beqI_t, beqI_f, bneI_t, bneI_f, bne_self_eq_false, beq_self_eq_true, dec_t, dec_f, cells_self, cells_other, cells_set, cells_set_ne, idx_ok, Int.toNat_natCast, Nat.zero_add, Nat.add_zero, wrap_i64]
      exact Ends.some rfl
end
end Go.AM
