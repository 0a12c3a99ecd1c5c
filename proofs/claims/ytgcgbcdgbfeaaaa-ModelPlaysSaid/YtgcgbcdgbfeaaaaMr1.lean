/- Monitors' model: both models told the same. Conditions: none. -/
import Derived.Test.YtgcgbcdgbfeaaaaMq7
set_option linter.unusedVariables false
set_option linter.unusedSimpArgs false
set_option maxRecDepth 100000
-- NOTY: ze112, bu112
namespace Go.AM
open Go.Proofs
-- LENS: EvV.len, MonV.len, refC_len
theorem thr_out {α : Type} {l : List (Pk × α)} {o : Int} {m : Nat} (hk : ∀ x ∈ l, (0 ≤ x.1.1 ∧ x.1.1 < (m : Int)) ∧ 0 ≤ x.1.2) (ho : ¬ (0 ≤ o ∧ o < m)) : sortL (thrV l o) = [] := by
  have : thrV l o = [] := List.eq_nil_iff_forall_not_mem.2 fun t ht => by
    obtain ⟨v, hv⟩ := mem_thrV.1 ht
    have := (hk _ hv).1
    simp only at this
    exact ho this
  rw [this]; simp [sortL]
section
variable {P : Program} {T : Tab} {K d : Nat} (S : Sd P T K)
include S
theorem tl53 (hd : 2 ≤ d) {n m : Nat} {c : Int} {p bm bf bw bl : Nat} {V : MdV} {h : List AO} (M : MdAt h p bm bf bw bl V) (I : MdI n m c V) (o : Int) {q9 q10 : SV} {lo : Nat}
    (H9 : Own 3 1 lo h q9 ((sortL (thrV V.waits o)).map (SV.int .i64))) (H10 : Own 3 1 lo h q10 ((sortL (thrV V.left o)).map (SV.int .i64))) (hl9 : (sortL (thrV V.waits o)).length ≤ 1000) (hl10 : (sortL (thrV V.left o)).length ≤ 1000) (lk : Nat) :
    ∃ q1 h1 q2 h2, ev P T K d 48 [.sc (.ptr p 0), .sc (.int .i64 o)] lk h = some (.v (.sc q1), h1) ∧ ev P T K d 87 [.sc q1, .sc q9] lk h1 = some (.v (.sc (.bool true)), h1) ∧
      ev P T K d 49 [.sc (.ptr p 0), .sc (.int .i64 o)] lk h1 = some (.v (.sc q2), h2) ∧ ev P T K d 87 [.sc q2, .sc q10] lk h2 = some (.v (.sc (.bool true)), h2) ∧ Ext1 h h2 := by
  obtain ⟨v1, h1, e1, x1, q1, rfl, o1⟩ := s48 S hd M I.ok o lk
  obtain ⟨v2, h2, e2, x2, q2, rfl, o2⟩ := s49 S hd (M.ext x1) I.ok o lk
  exact ⟨q1, h1, q2, h2, e1, s87 S (by omega) o1 (H9.ext x1) hl9 lk, e2, s87 S (by omega) o2 (H10.ext (x1.trans x2)) hl10 lk, x1.trans x2⟩
set_option maxHeartbeats 16000000 in
theorem s53 (hd : 4 ≤ d) {n m : Nat} {c : Int} {p bm bf bw bl : Nat} {V : MdV} {h : List AO} (M : MdAt h p bm bf bw bl V) (I : MdI n m c V) (hc : 1 ≤ c ∧ c ≤ 60) (lk : Nat) :
    ev P T K d 53 [.sc (.ptr p 0), .ag (refC V)] lk h = some (.v (.sc (.bool true)), h) := by
  obtain ⟨d, rfl⟩ : ∃ k, d = k + 1 := ⟨d - 1, by omega⟩
  refine ev_pure (at53 S.t) rfl ?_
  unfold i53 Try.f53
  have hm8 := I.ok.m
  have hn8 := I.ok.n
  have gm := refC_m V
  have gn := refC_n V
  simp (maxSteps := 1000000) (disch := first | omega | (simp (disch := first | omega | (simp only [EvV.len, MonV.len, refC_len, List.length_append, List.length_cons, List.length_nil, List.length_set]; first | done | omega)) only [EvV.len, MonV.len, refC_len, amSide, Int.reduceToNat, Nat.reducePow, Nat.reduceMul]; first | done | omega)) only  [↓amPre, amPost, ↓s_lit', Nat.reduceAdd, Nat.reduceSub, List.replicate, retA, resultsA, resultA, toC, toCL, Nat.reduceEqDiff, append_at (un47 S.p) (sz3 S.p) (by3 S.p) (ze3 S.p) (by decide) (by decide) rfl, copy_at (un47 S.p) (sz3 S.p) (by3 S.p) (ze3 S.p) (by decide) (by decide) rfl, sl_cells (sz3 S.p), eql_bool (un4 S.p), neq_bool (un4 S.p), lit_fill (un47 S.p) (sz3 S.p) (ze3 S.p), (fa108_0 S.p), (fa108_1 S.p), (fa112_0 S.p), (fa112_1 S.p), (fa112_3 S.p), (fa112_4 S.p), (fa112_5 S.p), (fa112_6 S.p), (fa112_7 S.p), iaddr_ptr (un105 S.p) (sz3 S.p), iaddr_ptr (un106 S.p) (sz4 S.p), iaddr_ptr (un109 S.p) (sz108 S.p), iaddr_ptr (un110 S.p) (sz109 S.p), part_sc (ag3 S.p), part_sc (ag4 S.p)]
  refine ends_loop (X := SmSt) ⟨-1, _⟩ [4, 6, 7, 8, 9, 10, 11, 13, 14, 15, 16, 17, 18, 19, 20, 21, 22, 23, 24, 25, 26, 27, 28, 29, 30, 31, 32, 33, 34, 35, 36, 37, 38, 39, 40, 41, 42, 43, 44, 45, 46, 47, 48, 49, 50, 51, 52, 53, 54, 55, 56, 57, 58, 59, 60, 61, 62, 63, 64, 65, 66, 67, 68, 69, 70, 71, 72, 73, 74, 75, 76, 77, 78, 79, 80, 81, 82, 83, 84, 85, 86, 87, 88, 89, 90, 91, 92, 93, 94, 95, 96, 97, 98, 99, 100, 101, 102] (fun x => (-1 ≤ x.o ∧ x.o ≤ 9) ∧ Ext1 (h ++ [.rw 112 (refC V)]) x.h) (fun x => (9 - x.o).toNat)
    (fun x e => e.set 5 (.v (.sc (.int .i64 x.o)))) (fun x => x.h)
    (by have := S.k; show _ < K; simp only; omega) ⟨by simp only; omega, Ext1.refl _⟩ rfl rfl ?_
  rintro ⟨o, hj⟩ ⟨⟨ho1, ho2⟩, hx⟩ again hag e he
  simp only at ho1 ho2 hx hag he
  simp only [↓amPre, amPost, ↓s_lit', Nat.reduceAdd, Nat.reduceSub, List.replicate, retA, resultsA, resultA, toC, toCL, Nat.reduceEqDiff] at he
  simp only [↓amPre, amPost, ↓s_lit', Nat.reduceAdd, Nat.reduceSub, List.replicate, retA, resultsA, resultA, toC, toCL, Nat.reduceEqDiff, he]
  have hxh : Ext1 h hj := ((Ext1.refl h).push _).trans hx
  have Mj := M.ext hxh
  have hle := hx.len
  simp only [List.length_append, List.length_cons, List.length_nil] at hle
  have hcb : cellsAt hj h.length = some (refC V) := by rw [hx.cells (by simp)]; exact cells_self _ _ _ rfl
  refine ends_cond (fun hc1 => ?_) (fun hc1 => ?_)
  · simp only [decide_eq_true_eq] at hc1
    by_cases hin : 0 ≤ o ∧ o < V.mons.length
    · obtain ⟨k, rfl⟩ := Int.eq_ofNat_of_zero_le hin.1
      have hk8 : k < 8 := by omega
      obtain ⟨x, hxk⟩ : ∃ x, V.mons[k]? = some x := ⟨_, List.getElem?_eq_getElem (by omega)⟩
      have hat : atV V (k : Int) = x := by
        unfold atV
        rw [if_pos ⟨by omega, by omega⟩, Int.toNat_natCast, List.getD_eq_getElem?_getD, hxk]; rfl
      have f45 := fun lk => s45 S (show 3 ≤ d by omega) Mj (by omega) (k : Int) lk
      rw [hat] at f45
      have g3 := refC_own V hk8
      have g4 := refC_cnt V hk8
      have g5 := refC_hsh V hk8
      have e3 : ownR V k = x.own + 1 := by unfold ownR; rw [hxk]
      have e4 : cntR V k = x.cnt := by unfold cntR; rw [hxk]
      have e5 : hshR V k = x.hsh := by unfold hshR; rw [hxk]
      rw [e3] at g3
      rw [e4] at g4
      rw [e5] at g5
      have hown := I.own k x hxk
      have hfn := I.fn
      have hw : IntKind.i64.wrap (x.own + 1 - 1) = x.own := by rw [wrap_i64 (by omega) (by omega)]; omega
      have hkM : (k : Int) < V.mons.length := hin.2
      simp (maxSteps := 1000000) (disch := first | omega | (simp (disch := first | omega | (simp only [EvV.len, MonV.len, refC_len, List.length_append, List.length_cons, List.length_nil, List.length_set]; first | done | omega)) only [EvV.len, MonV.len, refC_len, amSide, Int.reduceToNat, Nat.reducePow, Nat.reduceMul]; first | done | omega)) only  [↓amPre, amPost, ↓s_lit', Nat.reduceAdd, Nat.reduceSub, List.replicate, retA, resultsA, resultA, toC, toCL, Nat.reduceEqDiff, he, append_at (un47 S.p) (sz3 S.p) (by3 S.p) (ze3 S.p) (by decide) (by decide) rfl, copy_at (un47 S.p) (sz3 S.p) (by3 S.p) (ze3 S.p) (by decide) (by decide) rfl, sl_cells (sz3 S.p), eql_bool (un4 S.p), neq_bool (un4 S.p), lit_fill (un47 S.p) (sz3 S.p) (ze3 S.p), (fa108_0 S.p), (fa108_1 S.p), (fa112_0 S.p), (fa112_1 S.p), (fa112_3 S.p), (fa112_4 S.p), (fa112_5 S.p), (fa112_6 S.p), (fa112_7 S.p), iaddr_ptr (un105 S.p) (sz3 S.p), iaddr_ptr (un106 S.p) (sz4 S.p), iaddr_ptr (un109 S.p) (sz108 S.p), iaddr_ptr (un110 S.p) (sz109 S.p), part_sc (ag3 S.p), part_sc (ag4 S.p), hcb, gm, gn, g3, g4, g5, hw, dec_t, dec_f, idx_ok, Int.toNat_natCast, Nat.mul_one, Nat.zero_add, Nat.add_zero]
      refine ends_loop (X := SnSt) ⟨0, .nils, .nils, hj⟩ [11, 41, 42, 43, 44, 45, 46, 47, 48, 49, 50, 51, 52, 53, 54, 55, 56, 57, 58, 59, 60, 61, 62, 63, 64, 65, 66, 67] (fun y => y.t ≤ V.flags.length ∧ Ext1 hj y.h ∧ Own 3 1 hj.length y.h y.q9 ((upL V.waits k y.t).map (SV.int .i64)) ∧ Own 3 1 hj.length y.h y.q10 ((upL V.left k y.t).map (SV.int .i64)) ∧ Apart y.q9 y.q10) (fun y => V.flags.length - y.t)
        (fun y e => ((e.set 9 (.v (.sc y.q9))).set 10 (.v (.sc y.q10))).set 40 (.v (.sc (.int .i64 y.t)))) (fun y => y.h)
        (by have := S.k; show _ < K; simp only; omega) ⟨by simp only; omega, Ext1.refl _, Own.nil _ _ _ _, Own.nil _ _ _ _, Apart.nil _⟩ rfl rfl ?_
      rintro ⟨t, q9, q10, ht⟩ ⟨hti, hxt, o9, o10, hap⟩ again2 hag2 e2 he2
      simp only at hti hxt o9 o10 hap hag2 he2
      simp only [↓amPre, amPost, ↓s_lit', Nat.reduceAdd, Nat.reduceSub, List.replicate, retA, resultsA, resultA, toC, toCL, Nat.reduceEqDiff] at he2
      simp only [↓amPre, amPost, ↓s_lit', Nat.reduceAdd, Nat.reduceSub, List.replicate, retA, resultsA, resultA, toC, toCL, Nat.reduceEqDiff, he2]
      have hct : cellsAt ht h.length = some (refC V) := by rw [hxt.cells (by omega)]; exact hcb
      have hlt := hxt.len
      refine ends_cond (fun hc2 => ?_) (fun hc2 => ?_)
      · simp only [decide_eq_true_eq] at hc2
        have ht8 : t < 8 := by omega
        have p1 := wtR_pos I k t
        have p2 := lcR_pos I k t
        have gw := refC_wt V hk8 ht8
        have gl := refC_lc V hk8 ht8
        have u9 := upL_succ V.waits k t
        have u10 := upL_succ V.left k t
        have n9 := upL_len V.waits k t
        have n10 := upL_len V.left k t
        cases q1 : (getP ((k : Int), (t : Int)) V.waits).isSome with
        | true =>
          rw [q1] at p1
          rw [if_pos q1] at u9
          obtain ⟨a9, ha9, happa9, howna9, hla9, _, hxa9, _, hka9⟩ := grow_own (b := 8) (lk := h.length) (o9.push (.rw 3 [.int .i64 (t : Nat)])) [.int .i64 (t : Nat)] (by omega) (by simp) (by simp) (by omega) (by simp; omega) (by simp; omega)
          have hm9 : (upL V.waits k t).map (SV.int .i64) ++ [.int .i64 (t : Nat)] = (upL V.waits k (t + 1)).map (SV.int .i64) := by rw [u9]; simp
          rw [hm9] at howna9
          have hx9 := hxa9 hj (hxt.push (.rw 3 [.int .i64 (t : Nat)])) (Nat.le_refl _)
          obtain ⟨o10b, hap9⟩ := own_keep (o10.push (.rw 3 [.int .i64 (t : Nat)])) hap.symm hka9 (by omega)
          simp only [List.length_append, List.length_cons, List.length_nil] at hla9
          have hc9 : cellsAt ha9 h.length = some (refC V) := by rw [hx9.cells (by omega)]; exact hcb
          cases q2 : (getP ((k : Int), (t : Int)) V.left).isSome with
          | true =>
            rw [q2] at p2
            rw [if_pos q2] at u10
            obtain ⟨b9, hb9, happb9, hownb9, hlb9, _, hxb9, _, hkb9⟩ := grow_own (b := 8) (lk := h.length) (o10b.push (.rw 3 [.int .i64 (t : Nat)])) [.int .i64 (t : Nat)] (by omega) (by simp) (by simp) (by omega) (by simp; omega) (by simp; omega)
            have hm10 : (upL V.left k t).map (SV.int .i64) ++ [.int .i64 (t : Nat)] = (upL V.left k (t + 1)).map (SV.int .i64) := by rw [u10]; simp
            rw [hm10] at hownb9
            have hx10 := hxb9 hj (hx9.push (.rw 3 [.int .i64 (t : Nat)])) (Nat.le_refl _)
            obtain ⟨o9b, hap10⟩ := own_keep (howna9.push (.rw 3 [.int .i64 (t : Nat)])) hap9.symm hkb9 (by omega)
            clear o9 o10 hka9 hkb9 hxa9 hxb9 hap o10b howna9
            simp (maxSteps := 1000000) (disch := first | omega | (simp (disch := first | omega | (simp only [EvV.len, MonV.len, refC_len, List.length_append, List.length_cons, List.length_nil, List.length_set]; first | done | omega)) only [EvV.len, MonV.len, refC_len, amSide, Int.reduceToNat, Nat.reducePow, Nat.reduceMul]; first | done | omega)) only  [↓amPre, amPost, ↓s_lit', Nat.reduceAdd, Nat.reduceSub, List.replicate, retA, resultsA, resultA, toC, toCL, Nat.reduceEqDiff, he2, append_at (un47 S.p) (sz3 S.p) (by3 S.p) (ze3 S.p) (by decide) (by decide) rfl, copy_at (un47 S.p) (sz3 S.p) (by3 S.p) (ze3 S.p) (by decide) (by decide) rfl, sl_cells (sz3 S.p), eql_bool (un4 S.p), neq_bool (un4 S.p), lit_fill (un47 S.p) (sz3 S.p) (ze3 S.p), (fa108_0 S.p), (fa108_1 S.p), (fa112_0 S.p), (fa112_1 S.p), (fa112_3 S.p), (fa112_4 S.p), (fa112_5 S.p), (fa112_6 S.p), (fa112_7 S.p), iaddr_ptr (un105 S.p) (sz3 S.p), iaddr_ptr (un106 S.p) (sz4 S.p), iaddr_ptr (un109 S.p) (sz108 S.p), iaddr_ptr (un110 S.p) (sz109 S.p), part_sc (ag3 S.p), part_sc (ag4 S.p), hct, hc9, gw, gl, p1, p2, happa9, happb9, dec_t, idx_ok, cells_self, cells_other, List.flatten_cons, List.flatten_nil, List.append_nil, Nat.zero_mul, Nat.one_mul, Int.toNat_natCast, Nat.mul_one, Nat.zero_add, Nat.add_zero, wrap_i64]
            refine hag2 ⟨t + 1, a9, b9, hb9⟩ ⟨by simp only; omega, hx10, o9b, hownb9, hap10⟩ (by simp only; omega) _ ?_
            simp (maxSteps := 1000000) (disch := first | omega | (simp (disch := first | omega | (simp only [EvV.len, MonV.len, refC_len, List.length_append, List.length_cons, List.length_nil, List.length_set]; first | done | omega)) only [EvV.len, MonV.len, refC_len, amSide, Int.reduceToNat, Nat.reducePow, Nat.reduceMul]; first | done | omega)) only [↓amPre, amPost, ↓s_lit', Nat.reduceAdd, Nat.reduceSub, List.replicate, retA, resultsA, resultA, toC, toCL, Nat.reduceEqDiff, Int.natCast_add, Int.cast_ofNat_Int, dec_t, dec_f]
          | false =>
            rw [q2] at p2
            rw [q2, if_neg (by simp)] at u10
            clear hka9 hxa9
            simp (maxSteps := 1000000) (disch := first | omega | (simp (disch := first | omega | (simp only [EvV.len, MonV.len, refC_len, List.length_append, List.length_cons, List.length_nil, List.length_set]; first | done | omega)) only [EvV.len, MonV.len, refC_len, amSide, Int.reduceToNat, Nat.reducePow, Nat.reduceMul]; first | done | omega)) only  [↓amPre, amPost, ↓s_lit', Nat.reduceAdd, Nat.reduceSub, List.replicate, retA, resultsA, resultA, toC, toCL, Nat.reduceEqDiff, he2, append_at (un47 S.p) (sz3 S.p) (by3 S.p) (ze3 S.p) (by decide) (by decide) rfl, copy_at (un47 S.p) (sz3 S.p) (by3 S.p) (ze3 S.p) (by decide) (by decide) rfl, sl_cells (sz3 S.p), eql_bool (un4 S.p), neq_bool (un4 S.p), lit_fill (un47 S.p) (sz3 S.p) (ze3 S.p), (fa108_0 S.p), (fa108_1 S.p), (fa112_0 S.p), (fa112_1 S.p), (fa112_3 S.p), (fa112_4 S.p), (fa112_5 S.p), (fa112_6 S.p), (fa112_7 S.p), iaddr_ptr (un105 S.p) (sz3 S.p), iaddr_ptr (un106 S.p) (sz4 S.p), iaddr_ptr (un109 S.p) (sz108 S.p), iaddr_ptr (un110 S.p) (sz109 S.p), part_sc (ag3 S.p), part_sc (ag4 S.p), hct, hc9, gw, gl, p1, p2, happa9, dec_t, idx_ok, cells_self, cells_other, List.flatten_cons, List.flatten_nil, List.append_nil, Nat.zero_mul, Nat.one_mul, Int.toNat_natCast, Nat.mul_one, Nat.zero_add, Nat.add_zero, wrap_i64]
            refine hag2 ⟨t + 1, a9, q10, ha9⟩ ⟨by simp only; omega, hx9, howna9, by rw [u10]; exact o10b, hap9.symm⟩ (by simp only; omega) _ ?_
            simp (maxSteps := 1000000) (disch := first | omega | (simp (disch := first | omega | (simp only [EvV.len, MonV.len, refC_len, List.length_append, List.length_cons, List.length_nil, List.length_set]; first | done | omega)) only [EvV.len, MonV.len, refC_len, amSide, Int.reduceToNat, Nat.reducePow, Nat.reduceMul]; first | done | omega)) only [↓amPre, amPost, ↓s_lit', Nat.reduceAdd, Nat.reduceSub, List.replicate, retA, resultsA, resultA, toC, toCL, Nat.reduceEqDiff, Int.natCast_add, Int.cast_ofNat_Int, dec_t, dec_f]
        | false =>
          rw [q1] at p1
          rw [q1, if_neg (by simp)] at u9
          cases q2 : (getP ((k : Int), (t : Int)) V.left).isSome with
          | true =>
            rw [q2] at p2
            rw [if_pos q2] at u10
            obtain ⟨b9, hb9, happb9, hownb9, hlb9, _, hxb9, _, hkb9⟩ := grow_own (b := 8) (lk := h.length) (o10.push (.rw 3 [.int .i64 (t : Nat)])) [.int .i64 (t : Nat)] (by omega) (by simp) (by simp) (by omega) (by simp; omega) (by simp; omega)
            have hm10 : (upL V.left k t).map (SV.int .i64) ++ [.int .i64 (t : Nat)] = (upL V.left k (t + 1)).map (SV.int .i64) := by rw [u10]; simp
            rw [hm10] at hownb9
            have hx10 := hxb9 hj (hxt.push (.rw 3 [.int .i64 (t : Nat)])) (Nat.le_refl _)
            obtain ⟨o9b, hap10⟩ := own_keep (o9.push (.rw 3 [.int .i64 (t : Nat)])) hap hkb9 (by omega)
            clear hkb9 hxb9
            simp (maxSteps := 1000000) (disch := first | omega | (simp (disch := first | omega | (simp only [EvV.len, MonV.len, refC_len, List.length_append, List.length_cons, List.length_nil, List.length_set]; first | done | omega)) only [EvV.len, MonV.len, refC_len, amSide, Int.reduceToNat, Nat.reducePow, Nat.reduceMul]; first | done | omega)) only  [↓amPre, amPost, ↓s_lit', Nat.reduceAdd, Nat.reduceSub, List.replicate, retA, resultsA, resultA, toC, toCL, Nat.reduceEqDiff, he2, append_at (un47 S.p) (sz3 S.p) (by3 S.p) (ze3 S.p) (by decide) (by decide) rfl, copy_at (un47 S.p) (sz3 S.p) (by3 S.p) (ze3 S.p) (by decide) (by decide) rfl, sl_cells (sz3 S.p), eql_bool (un4 S.p), neq_bool (un4 S.p), lit_fill (un47 S.p) (sz3 S.p) (ze3 S.p), (fa108_0 S.p), (fa108_1 S.p), (fa112_0 S.p), (fa112_1 S.p), (fa112_3 S.p), (fa112_4 S.p), (fa112_5 S.p), (fa112_6 S.p), (fa112_7 S.p), iaddr_ptr (un105 S.p) (sz3 S.p), iaddr_ptr (un106 S.p) (sz4 S.p), iaddr_ptr (un109 S.p) (sz108 S.p), iaddr_ptr (un110 S.p) (sz109 S.p), part_sc (ag3 S.p), part_sc (ag4 S.p), hct, gw, gl, p1, p2, happb9, dec_t, idx_ok, cells_self, cells_other, List.flatten_cons, List.flatten_nil, List.append_nil, Nat.zero_mul, Nat.one_mul, Int.toNat_natCast, Nat.mul_one, Nat.zero_add, Nat.add_zero, wrap_i64]
            refine hag2 ⟨t + 1, q9, b9, hb9⟩ ⟨by simp only; omega, hx10, by rw [u9]; exact o9b, hownb9, hap10⟩ (by simp only; omega) _ ?_
            simp (maxSteps := 1000000) (disch := first | omega | (simp (disch := first | omega | (simp only [EvV.len, MonV.len, refC_len, List.length_append, List.length_cons, List.length_nil, List.length_set]; first | done | omega)) only [EvV.len, MonV.len, refC_len, amSide, Int.reduceToNat, Nat.reducePow, Nat.reduceMul]; first | done | omega)) only [↓amPre, amPost, ↓s_lit', Nat.reduceAdd, Nat.reduceSub, List.replicate, retA, resultsA, resultA, toC, toCL, Nat.reduceEqDiff, Int.natCast_add, Int.cast_ofNat_Int, dec_t, dec_f]
          | false =>
            rw [q2] at p2
            rw [q2, if_neg (by simp)] at u10
            simp (maxSteps := 1000000) (disch := first | omega | (simp (disch := first | omega | (simp only [EvV.len, MonV.len, refC_len, List.length_append, List.length_cons, List.length_nil, List.length_set]; first | done | omega)) only [EvV.len, MonV.len, refC_len, amSide, Int.reduceToNat, Nat.reducePow, Nat.reduceMul]; first | done | omega)) only  [↓amPre, amPost, ↓s_lit', Nat.reduceAdd, Nat.reduceSub, List.replicate, retA, resultsA, resultA, toC, toCL, Nat.reduceEqDiff, he2, append_at (un47 S.p) (sz3 S.p) (by3 S.p) (ze3 S.p) (by decide) (by decide) rfl, copy_at (un47 S.p) (sz3 S.p) (by3 S.p) (ze3 S.p) (by decide) (by decide) rfl, sl_cells (sz3 S.p), eql_bool (un4 S.p), neq_bool (un4 S.p), lit_fill (un47 S.p) (sz3 S.p) (ze3 S.p), (fa108_0 S.p), (fa108_1 S.p), (fa112_0 S.p), (fa112_1 S.p), (fa112_3 S.p), (fa112_4 S.p), (fa112_5 S.p), (fa112_6 S.p), (fa112_7 S.p), iaddr_ptr (un105 S.p) (sz3 S.p), iaddr_ptr (un106 S.p) (sz4 S.p), iaddr_ptr (un109 S.p) (sz108 S.p), iaddr_ptr (un110 S.p) (sz109 S.p), part_sc (ag3 S.p), part_sc (ag4 S.p), hct, gw, gl, p1, p2, dec_t, idx_ok, Int.toNat_natCast, Nat.mul_one, Nat.zero_add, Nat.add_zero, wrap_i64]
            refine hag2 ⟨t + 1, q9, q10, ht⟩ ⟨by simp only; omega, hxt, by rw [u9]; exact o9, by rw [u10]; exact o10, hap⟩ (by simp only; omega) _ ?_
            simp (maxSteps := 1000000) (disch := first | omega | (simp (disch := first | omega | (simp only [EvV.len, MonV.len, refC_len, List.length_append, List.length_cons, List.length_nil, List.length_set]; first | done | omega)) only [EvV.len, MonV.len, refC_len, amSide, Int.reduceToNat, Nat.reducePow, Nat.reduceMul]; first | done | omega)) only [↓amPre, amPost, ↓s_lit', Nat.reduceAdd, Nat.reduceSub, List.replicate, retA, resultsA, resultA, toC, toCL, Nat.reduceEqDiff, Int.natCast_add, Int.cast_ofNat_Int, dec_t, dec_f]
      · simp only [decide_eq_false_iff_not] at hc2
        obtain rfl : t = V.flags.length := by omega
        clear hag2
        have w1 := sort_thr I.ok.wd k V.flags.length (fun x hx => (I.ok.wk x hx).2)
        have w2 := sort_thr I.ok.ld k V.flags.length (fun x hx => (I.ok.lk x hx).2)
        rw [← w1] at o9
        rw [← w2] at o10
        have n9 := upL_len V.waits k V.flags.length
        have n10 := upL_len V.left k V.flags.length
        rw [← w1] at n9
        rw [← w2] at n10
        have Mt := Mj.ext hxt
        have f45 := fun lk => s45 S (show 3 ≤ d by omega) Mt (by omega) (k : Int) lk
        have f46 := fun lk => s46 S (show 3 ≤ d by omega) Mt (by omega) (k : Int) lk
        have f47 := fun lk => s47 S (show 3 ≤ d by omega) Mt (by omega) (k : Int) lk
        rw [hat] at f45 f46 f47
        obtain ⟨r1, h1, r2, h2, e48, e87, e49, e87b, hx2⟩ := tl53 S (show 2 ≤ d by omega) Mt I (k : Int) o9 o10 (by omega) (by omega) h.length
        simp (maxSteps := 1000000) (disch := first | omega | (simp (disch := first | omega | (simp only [EvV.len, MonV.len, refC_len, List.length_append, List.length_cons, List.length_nil, List.length_set]; first | done | omega)) only [EvV.len, MonV.len, refC_len, amSide, Int.reduceToNat, Nat.reducePow, Nat.reduceMul]; first | done | omega)) only  [↓amPre, amPost, ↓s_lit', Nat.reduceAdd, Nat.reduceSub, List.replicate, retA, resultsA, resultA, toC, toCL, Nat.reduceEqDiff, he2, append_at (un47 S.p) (sz3 S.p) (by3 S.p) (ze3 S.p) (by decide) (by decide) rfl, copy_at (un47 S.p) (sz3 S.p) (by3 S.p) (ze3 S.p) (by decide) (by decide) rfl, sl_cells (sz3 S.p), eql_bool (un4 S.p), neq_bool (un4 S.p), lit_fill (un47 S.p) (sz3 S.p) (ze3 S.p), (fa108_0 S.p), (fa108_1 S.p), (fa112_0 S.p), (fa112_1 S.p), (fa112_3 S.p), (fa112_4 S.p), (fa112_5 S.p), (fa112_6 S.p), (fa112_7 S.p), iaddr_ptr (un105 S.p) (sz3 S.p), iaddr_ptr (un106 S.p) (sz4 S.p), iaddr_ptr (un109 S.p) (sz108 S.p), iaddr_ptr (un110 S.p) (sz109 S.p), part_sc (ag3 S.p), part_sc (ag4 S.p), f45, f46, f47, e48, e87, e49, e87b, bneI_f, bne_self_eq_false, wrap_i64]
        refine hag ⟨(k : Int) + 1, h2⟩ ⟨by simp only; omega, (hx.trans hxt).trans hx2⟩ (by simp only; omega) _ ?_
        simp (maxSteps := 1000000) (disch := first | omega | (simp (disch := first | omega | (simp only [EvV.len, MonV.len, refC_len, List.length_append, List.length_cons, List.length_nil, List.length_set]; first | done | omega)) only [EvV.len, MonV.len, refC_len, amSide, Int.reduceToNat, Nat.reducePow, Nat.reduceMul]; first | done | omega)) only [↓amPre, amPost, ↓s_lit', Nat.reduceAdd, Nat.reduceSub, List.replicate, retA, resultsA, resultA, toC, toCL, Nat.reduceEqDiff, Int.natCast_add, Int.cast_ofNat_Int, dec_t, dec_f]
    · have s1 := thr_out (l := V.waits) (fun x hx => ⟨(I.ok.wk x hx).1, (I.ok.wk x hx).2.1⟩) hin
      have s2 := thr_out (l := V.left) (fun x hx => ⟨(I.ok.lk x hx).1, (I.ok.lk x hx).2.1⟩) hin
      have hat : atV V o = ⟨-1, 0, 0⟩ := by unfold atV; rw [if_neg hin]
      have f45 := fun lk => s45 S (show 3 ≤ d by omega) Mj (by omega) o lk
      have f46 := fun lk => s46 S (show 3 ≤ d by omega) Mj (by omega) o lk
      have f47 := fun lk => s47 S (show 3 ≤ d by omega) Mj (by omega) o lk
      rw [hat] at f45 f46 f47
      obtain ⟨r1, h1, r2, h2, e48, e87, e49, e87b, hx2⟩ := tl53 S (show 2 ≤ d by omega) Mj I o (q9 := .nils) (q10 := .nils) (lo := 0) (by rw [s1]; exact Own.nil _ _ _ _) (by rw [s2]; exact Own.nil _ _ _ _) (by rw [s1]; simp) (by rw [s2]; simp) h.length
      by_cases ho0 : 0 ≤ o
      · have hoM : ¬ o < V.mons.length := fun q => hin ⟨ho0, q⟩
        simp (maxSteps := 1000000) (disch := first | omega | (simp (disch := first | omega | (simp only [EvV.len, MonV.len, refC_len, List.length_append, List.length_cons, List.length_nil, List.length_set]; first | done | omega)) only [EvV.len, MonV.len, refC_len, amSide, Int.reduceToNat, Nat.reducePow, Nat.reduceMul]; first | done | omega)) only  [↓amPre, amPost, ↓s_lit', Nat.reduceAdd, Nat.reduceSub, List.replicate, retA, resultsA, resultA, toC, toCL, Nat.reduceEqDiff, he, append_at (un47 S.p) (sz3 S.p) (by3 S.p) (ze3 S.p) (by decide) (by decide) rfl, copy_at (un47 S.p) (sz3 S.p) (by3 S.p) (ze3 S.p) (by decide) (by decide) rfl, sl_cells (sz3 S.p), eql_bool (un4 S.p), neq_bool (un4 S.p), lit_fill (un47 S.p) (sz3 S.p) (ze3 S.p), (fa108_0 S.p), (fa108_1 S.p), (fa112_0 S.p), (fa112_1 S.p), (fa112_3 S.p), (fa112_4 S.p), (fa112_5 S.p), (fa112_6 S.p), (fa112_7 S.p), iaddr_ptr (un105 S.p) (sz3 S.p), iaddr_ptr (un106 S.p) (sz4 S.p), iaddr_ptr (un109 S.p) (sz108 S.p), iaddr_ptr (un110 S.p) (sz109 S.p), part_sc (ag3 S.p), part_sc (ag4 S.p), hcb, gm, f45, f46, f47, e48, e87, e49, e87b, dec_t, dec_f, bneI_f, bne_self_eq_false, Nat.zero_add, Nat.add_zero, wrap_i64]
        refine hag ⟨o + 1, h2⟩ ⟨by simp only; omega, hx.trans hx2⟩ (by simp only; omega) _ ?_
        simp (maxSteps := 1000000) (disch := first | omega | (simp (disch := first | omega | (simp only [EvV.len, MonV.len, refC_len, List.length_append, List.length_cons, List.length_nil, List.length_set]; first | done | omega)) only [EvV.len, MonV.len, refC_len, amSide, Int.reduceToNat, Nat.reducePow, Nat.reduceMul]; first | done | omega)) only [↓amPre, amPost, ↓s_lit', Nat.reduceAdd, Nat.reduceSub, List.replicate, retA, resultsA, resultA, toC, toCL, Nat.reduceEqDiff, Int.natCast_add, Int.cast_ofNat_Int, dec_t, dec_f]
      · simp (maxSteps := 1000000) (disch := first | omega | (simp (disch := first | omega | (simp only [EvV.len, MonV.len, refC_len, List.length_append, List.length_cons, List.length_nil, List.length_set]; first | done | omega)) only [EvV.len, MonV.len, refC_len, amSide, Int.reduceToNat, Nat.reducePow, Nat.reduceMul]; first | done | omega)) only  [↓amPre, amPost, ↓s_lit', Nat.reduceAdd, Nat.reduceSub, List.replicate, retA, resultsA, resultA, toC, toCL, Nat.reduceEqDiff, he, append_at (un47 S.p) (sz3 S.p) (by3 S.p) (ze3 S.p) (by decide) (by decide) rfl, copy_at (un47 S.p) (sz3 S.p) (by3 S.p) (ze3 S.p) (by decide) (by decide) rfl, sl_cells (sz3 S.p), eql_bool (un4 S.p), neq_bool (un4 S.p), lit_fill (un47 S.p) (sz3 S.p) (ze3 S.p), (fa108_0 S.p), (fa108_1 S.p), (fa112_0 S.p), (fa112_1 S.p), (fa112_3 S.p), (fa112_4 S.p), (fa112_5 S.p), (fa112_6 S.p), (fa112_7 S.p), iaddr_ptr (un105 S.p) (sz3 S.p), iaddr_ptr (un106 S.p) (sz4 S.p), iaddr_ptr (un109 S.p) (sz108 S.p), iaddr_ptr (un110 S.p) (sz109 S.p), part_sc (ag3 S.p), part_sc (ag4 S.p), hcb, gm, f45, f46, f47, e48, e87, e49, e87b, dec_t, dec_f, bneI_f, bne_self_eq_false, Nat.zero_add, Nat.add_zero, wrap_i64]
        refine hag ⟨o + 1, h2⟩ ⟨by simp only; omega, hx.trans hx2⟩ (by simp only; omega) _ ?_
        simp (maxSteps := 1000000) (disch := first | omega | (simp (disch := first | omega | (simp only [EvV.len, MonV.len, refC_len, List.length_append, List.length_cons, List.length_nil, List.length_set]; first | done | omega)) only [EvV.len, MonV.len, refC_len, amSide, Int.reduceToNat, Nat.reducePow, Nat.reduceMul]; first | done | omega)) only [↓amPre, amPost, ↓s_lit', Nat.reduceAdd, Nat.reduceSub, List.replicate, retA, resultsA, resultA, toC, toCL, Nat.reduceEqDiff, Int.natCast_add, Int.cast_ofNat_Int, dec_t, dec_f]
  · simp only [decide_eq_false_iff_not] at hc1
    obtain rfl : o = 9 := by omega
    simp (maxSteps := 1000000) (disch := first | omega | (simp (disch := first | omega | (simp only [EvV.len, MonV.len, refC_len, List.length_append, List.length_cons, List.length_nil, List.length_set]; first | done | omega)) only [EvV.len, MonV.len, refC_len, amSide, Int.reduceToNat, Nat.reducePow, Nat.reduceMul]; first | done | omega)) only  [↓amPre, amPost, ↓s_lit', Nat.reduceAdd, Nat.reduceSub, List.replicate, retA, resultsA, resultA, toC, toCL, Nat.reduceEqDiff, he, append_at (un47 S.p) (sz3 S.p) (by3 S.p) (ze3 S.p) (by decide) (by decide) rfl, copy_at (un47 S.p) (sz3 S.p) (by3 S.p) (ze3 S.p) (by decide) (by decide) rfl, sl_cells (sz3 S.p), eql_bool (un4 S.p), neq_bool (un4 S.p), lit_fill (un47 S.p) (sz3 S.p) (ze3 S.p), (fa108_0 S.p), (fa108_1 S.p), (fa112_0 S.p), (fa112_1 S.p), (fa112_3 S.p), (fa112_4 S.p), (fa112_5 S.p), (fa112_6 S.p), (fa112_7 S.p), iaddr_ptr (un105 S.p) (sz3 S.p), iaddr_ptr (un106 S.p) (sz4 S.p), iaddr_ptr (un109 S.p) (sz108 S.p), iaddr_ptr (un110 S.p) (sz109 S.p), part_sc (ag3 S.p), part_sc (ag4 S.p)]
    refine ends_loop (X := LsSt) ⟨0⟩ [4, 12, 104, 105, 106, 107, 108, 109, 110, 111, 112, 113, 114] (fun x => x.i ≤ 8) (fun x => 8 - x.i)
      (fun x e => e.set 103 (.v (.sc (.int .i64 x.i)))) (fun x => hj)
      (by have := S.k; show _ < K; simp only; omega) (by simp only; omega) rfl rfl ?_
    rintro ⟨t⟩ ht again2 hag2 e2 he2
    simp only at ht hag2 he2
    simp only [↓amPre, amPost, ↓s_lit', Nat.reduceAdd, Nat.reduceSub, List.replicate, retA, resultsA, resultA, toC, toCL, Nat.reduceEqDiff] at he2
    simp only [↓amPre, amPost, ↓s_lit', Nat.reduceAdd, Nat.reduceSub, List.replicate, retA, resultsA, resultA, toC, toCL, Nat.reduceEqDiff, he2]
    refine ends_cond (fun hc2 => ?_) (fun hc2 => ?_)
    · simp only [decide_eq_true_eq] at hc2
      have t8 : t < 8 := by omega
      have gf := refC_flg V t8
      have f56 := fun lk => s56 S (show 3 ≤ d by omega) Mj (by omega) (t : Int) lk
      rw [flag_flg] at f56
      simp (maxSteps := 1000000) (disch := first | omega | (simp (disch := first | omega | (simp only [EvV.len, MonV.len, refC_len, List.length_append, List.length_cons, List.length_nil, List.length_set]; first | done | omega)) only [EvV.len, MonV.len, refC_len, amSide, Int.reduceToNat, Nat.reducePow, Nat.reduceMul]; first | done | omega)) only  [↓amPre, amPost, ↓s_lit', Nat.reduceAdd, Nat.reduceSub, List.replicate, retA, resultsA, resultA, toC, toCL, Nat.reduceEqDiff, he2, append_at (un47 S.p) (sz3 S.p) (by3 S.p) (ze3 S.p) (by decide) (by decide) rfl, copy_at (un47 S.p) (sz3 S.p) (by3 S.p) (ze3 S.p) (by decide) (by decide) rfl, sl_cells (sz3 S.p), eql_bool (un4 S.p), neq_bool (un4 S.p), lit_fill (un47 S.p) (sz3 S.p) (ze3 S.p), (fa108_0 S.p), (fa108_1 S.p), (fa112_0 S.p), (fa112_1 S.p), (fa112_3 S.p), (fa112_4 S.p), (fa112_5 S.p), (fa112_6 S.p), (fa112_7 S.p), iaddr_ptr (un105 S.p) (sz3 S.p), iaddr_ptr (un106 S.p) (sz4 S.p), iaddr_ptr (un109 S.p) (sz108 S.p), iaddr_ptr (un110 S.p) (sz109 S.p), part_sc (ag3 S.p), part_sc (ag4 S.p), hcb, gf, f56, idx_ok, bne_self_eq_false, Int.toNat_natCast, Nat.mul_one, Nat.zero_add, wrap_i64]
      refine hag2 ⟨t + 1⟩ (by simp only; omega) (by simp only; omega) _ ?_
      simp (maxSteps := 1000000) (disch := first | omega | (simp (disch := first | omega | (simp only [EvV.len, MonV.len, refC_len, List.length_append, List.length_cons, List.length_nil, List.length_set]; first | done | omega)) only [EvV.len, MonV.len, refC_len, amSide, Int.reduceToNat, Nat.reducePow, Nat.reduceMul]; first | done | omega)) only [↓amPre, amPost, ↓s_lit', Nat.reduceAdd, Nat.reduceSub, List.replicate, retA, resultsA, resultA, toC, toCL, Nat.reduceEqDiff, Int.natCast_add, Int.cast_ofNat_Int, dec_t, dec_f]
    · simp (maxSteps := 1000000) (disch := first | omega | (simp (disch := first | omega | (simp only [EvV.len, MonV.len, refC_len, List.length_append, List.length_cons, List.length_nil, List.length_set]; first | done | omega)) only [EvV.len, MonV.len, refC_len, amSide, Int.reduceToNat, Nat.reducePow, Nat.reduceMul]; first | done | omega)) only  [↓amPre, amPost, ↓s_lit', Nat.reduceAdd, Nat.reduceSub, List.replicate, retA, resultsA, resultA, toC, toCL, Nat.reduceEqDiff, he2, append_at (un47 S.p) (sz3 S.p) (by3 S.p) (ze3 S.p) (by decide) (by decide) rfl, copy_at (un47 S.p) (sz3 S.p) (by3 S.p) (ze3 S.p) (by decide) (by decide) rfl, sl_cells (sz3 S.p), eql_bool (un4 S.p), neq_bool (un4 S.p), lit_fill (un47 S.p) (sz3 S.p) (ze3 S.p), (fa108_0 S.p), (fa108_1 S.p), (fa112_0 S.p), (fa112_1 S.p), (fa112_3 S.p), (fa112_4 S.p), (fa112_5 S.p), (fa112_6 S.p), (fa112_7 S.p), iaddr_ptr (un105 S.p) (sz3 S.p), iaddr_ptr (un106 S.p) (sz4 S.p), iaddr_ptr (un109 S.p) (sz108 S.p), iaddr_ptr (un110 S.p) (sz109 S.p), part_sc (ag3 S.p), part_sc (ag4 S.p)]
      exact Ends.some rfl
end
end Go.AM
