/- Waiting graphs: any edges make a graph, or are refused, that has, and reaches, what the document says. Conditions: none. -/
import Derived.Test.YtdokijbheholdaaDoorWj4
set_option linter.unusedVariables false
set_option linter.unusedSimpArgs false
set_option maxRecDepth 100000
namespace Go.AM
open Go.Proofs Go.Lib
-- LENS: gC_len, Edg.len, ixC_len, wC_len, bC_len
theorem eqL_gC : ∀ E : List Nat, eqL (List.replicate E.length 1) (gC E) (gC E) = some true
  | [] => rfl
  | a :: E => by
    have ih := eqL_gC E
    show eqL (1 :: List.replicate E.length 1) (SV.int .u64 (a : Nat) :: gC E) (SV.int .u64 (a : Nat) :: gC E) = some true
    simp only [eqL, ih, eqS]
    simp
theorem has_eq {E : List Nat} {L : List Edg} (G : GR E L) (a b : Int) : hasE E a b = decide ((⟨a, b⟩ : Edg) ∈ L) := by
  unfold hasE
  rw [Bool.eq_iff_iff, decide_eq_true_eq, Bool.and_eq_true, Bool.and_eq_true]
  constructor
  · rintro ⟨h1, h2, h3⟩
    obtain ⟨m, rfl, hm⟩ := isN_t h1
    obtain ⟨k, rfl, hk⟩ := isN_t h2
    exact (G.bit m k hm hk).1 h3
  · intro h
    obtain ⟨v1, v2, v3, v4⟩ := G.val _ h
    simp only at v1 v2 v3 v4
    obtain ⟨m, rfl⟩ := Int.eq_ofNat_of_zero_le v1
    obtain ⟨k, rfl⟩ := Int.eq_ofNat_of_zero_le v3
    refine ⟨by unfold isN; simp; omega, by unfold isN; simp; omega, ?_⟩
    exact (G.bit m k (by omega) (by omega)).2 h
theorem next_eq {E : List Nat} {L : List Edg} (G : GR E L) (a : Int) : nextE E a = nxL L a 64 := by
  unfold nextE nxL
  by_cases h : isN a = true
  · rw [if_pos h]
    obtain ⟨m, rfl, hm⟩ := isN_t h
    unfold bl blN
    refine List.filter_congr fun k hk => ?_
    have hk64 := List.mem_range.1 hk
    rw [Int.toNat_natCast, Bool.eq_iff_iff, decide_eq_true_eq]
    exact G.bit m k hm hk64
  · rw [if_neg h]
    symm
    rw [List.filter_eq_nil_iff]
    intro k _ hm
    obtain ⟨v1, v2, _, _⟩ := G.val _ (of_decide_eq_true hm)
    simp only at v1 v2
    exact h (by unfold isN; simp; omega)
theorem cnt_eq {E : List Nat} {L : List Edg} (G : GR E L) : cntE E 64 = L.length := by
  unfold cntE
  rw [List.take_of_length_le (by rw [G.len]; exact Nat.le_refl _)]
  exact G.cnt
theorem gL_add (l : List Edg) {n : Nat} {e : Edg} (h : l[n]? = some e) : gL l (n + 1) = addL (gL l n) e.f e.t := gL_succ h
theorem recs_ne {L : List Edg} {E : List Nat} (hE : E.length = 64) : recs Edg.cells L ≠ gC E := by
  intro h
  have hl := congrArg List.length h
  rw [recs_len Edg.len, gC_len, hE] at hl
  cases L with
  | nil => simp at hl
  | cons e L =>
    have h0 : (recs Edg.cells (e :: L))[0]? = (gC E)[0]? := by rw [h]
    rw [gC_at (by omega), recs_cons] at h0
    have h1 : (e.cells ++ recs Edg.cells L)[0]? = some (.int .i64 e.f) := rfl
    rw [h1] at h0
    cases h0
set_option maxHeartbeats 16000000 in
theorem s4 {P : Program} {T : Tab} {K d : Nat} (S : Sd P T K) (hd : 6 ≤ d) (q : SV) (l : List Edg) (n k : Int) (lk : Nat) (h : List AO) (hT : tabB 0 h = true) (hq : Rs Edg.cells 2 h q l) :
    ev P T K d 4 [.sc q, .sc (.int .i64 n), .sc (.int .i64 k)] lk h = some (.v (.sc (.bool true)), h) := by
  obtain ⟨d, rfl⟩ : ∃ k, d = k + 1 := ⟨d - 1, by omega⟩
  refine ev_pure (at4 S.t) rfl ?_
  unfold i4 Tryd.f4
  have hlen := hq.len (un22 S.p)
  by_cases hc : 100 < l.length
  · have f7 := fun lk => s7 S (show 5 ≤ d by omega) lk h hT
    simp (maxSteps := 1000000) (disch := first | omega | (simp (disch := first | omega | (simp only [gC_len, Edg.len, ixC_len, wC_len, bC_len, List.length_append, List.length_cons, List.length_nil, List.length_set]; first | done | omega)) only [gC_len, Edg.len, ixC_len, wC_len, bC_len, amSide, Int.reduceToNat, Nat.reducePow, Nat.reduceMul]; first | done | omega)) only  [↓amPre, amPost, ↓s_lit', Nat.reduceAdd, Nat.reduceSub, List.replicate, retA, resultsA, resultA, toC, toCL, Nat.reduceEqDiff, (ze26 S.p), (ze28 S.p), (ze33 S.p), eql_ag, neq_ag, (eq33 S.p), eql_bool (un4 S.p), neq_bool (un4 S.p), (fa26_0 S.p), (fa28_0 S.p), (fa28_1 S.p), iaddr_sl (un22 S.p) (sz28 S.p), len_sl (un22 S.p), len_nils (un22 S.p), part_sc (ag22 S.p), part_all (ag28 S.p) (sz28 S.p), part_at (ag28 S.p) (sz28 S.p), part_sc (ag3 S.p), part_all (ag33 S.p) (sz33 S.p), part_at (ag33 S.p) (sz33 S.p), store_last (sz28 S.p), (sz28 S.p), store_last (sz33 S.p), (sz33 S.p), hlen, f7, dec_t]
    exact Ends.some rfl
  · have hl : l.length ≤ 100 := by omega
    simp (maxSteps := 1000000) (disch := first | omega | (simp (disch := first | omega | (simp only [gC_len, Edg.len, ixC_len, wC_len, bC_len, List.length_append, List.length_cons, List.length_nil, List.length_set]; first | done | omega)) only [gC_len, Edg.len, ixC_len, wC_len, bC_len, amSide, Int.reduceToNat, Nat.reducePow, Nat.reduceMul]; first | done | omega)) only  [↓amPre, amPost, ↓s_lit', Nat.reduceAdd, Nat.reduceSub, List.replicate, retA, resultsA, resultA, toC, toCL, Nat.reduceEqDiff, (ze26 S.p), (ze28 S.p), (ze33 S.p), eql_ag, neq_ag, (eq33 S.p), eql_bool (un4 S.p), neq_bool (un4 S.p), (fa26_0 S.p), (fa28_0 S.p), (fa28_1 S.p), iaddr_sl (un22 S.p) (sz28 S.p), len_sl (un22 S.p), len_nils (un22 S.p), part_sc (ag22 S.p), part_all (ag28 S.p) (sz28 S.p), part_at (ag28 S.p) (sz28 S.p), part_sc (ag3 S.p), part_all (ag33 S.p) (sz33 S.p), part_at (ag33 S.p) (sz33 S.p), store_last (sz28 S.p), (sz28 S.p), store_last (sz33 S.p), (sz33 S.p), hlen, dec_f]
    refine ends_loop (X := ThH) ⟨0, h ++ [.rw 33 (gC (List.replicate 64 0))] ++ [.rw 26 [.nils]]⟩ [6, 10, 11, 12, 20, 21, 22, 23, 24, 25, 26, 27, 28, 29, 30, 31, 32, 33, 34, 35, 36, 37, 38, 39, 40, 41, 42, 43, 44, 45, 46, 47, 48, 49]
      (fun x => x.i ≤ l.length ∧ Ext1 h x.h ∧ h.length + 1 < x.h.length ∧ x.h[h.length]? = some (.rw 33 (gC (gE l x.i))) ∧ ∃ q', x.h[h.length + 1]? = some (.rw 26 [q']) ∧ Rs Edg.cells 2 x.h q' (gL l x.i)) (fun x => l.length - x.i)
      (fun x e => e.set 19 (.v (.sc (.int .i64 x.i)))) (fun x => x.h)
      (by have := S.k; show _ < K; simp only; omega) ⟨by simp only; omega, ((Ext1.refl h).push _).push _, by simp, by simp [gE_zero], .nils, by simp, .inl ⟨rfl, rfl⟩⟩ rfl rfl ?_
    rintro ⟨i, hj⟩ ⟨hi, hx, hlt, hg, q', hp, hr⟩ again hag e he
    simp only at hi hx hlt hg hp hr hag he
    simp only [↓amPre, amPost, ↓s_lit', Nat.reduceAdd, Nat.reduceSub, List.replicate, retA, resultsA, resultA, toC, toCL, Nat.reduceEqDiff] at he
    simp only [↓amPre, amPost, ↓s_lit', Nat.reduceAdd, Nat.reduceSub, List.replicate, retA, resultsA, resultA, toC, toCL, Nat.reduceEqDiff, he]
    have G := gr_of l i hi
    have Go := G.ok
    have hgl := Go.len
    have hgc := gC_len (gE l i)
    have hTj := tabB_ext hT hx
    have pE := part_self (ag33 S.p) (sz33 S.p) (gC (gE l i)) (by rw [gC_len]; exact hgl)
    have hLl := gL_len l i
    refine ends_cond (fun hc1 => ?_) (fun hc1 => ?_)
    · simp only [decide_eq_true_eq] at hc1
      obtain ⟨b, rfl, hb, hcl⟩ := hq.at (by omega)
      obtain ⟨y, hy⟩ : ∃ y, l[i]? = some y := ⟨_, List.getElem?_eq_getElem (by omega)⟩
      have hpt := recs_part (ag28 S.p) (sz28 S.p) Edg.len hy
      have hcj : cellsAt hj b = some (recs Edg.cells l) := by rw [hx.cells hb]; exact hcl
      have y0 := Edg.c0 y
      have y1 := Edg.c1 y
      have cg1 : cellsAt (hj ++ [AO.rw 28 y.cells]) h.length = some (gC (gE l i)) := by unfold cellsAt; rw [List.getElem?_append_left (by omega), hg]
      have e15 := fun lk h => s15 S (show 2 ≤ d by omega) Go y.f y.t lk h
      have hsu := gE_succ hy
      have Go2 := (gE_ok l (i + 1))
      have hgl2 := Go2.len
      rw [hsu] at hgl2
      have hgc2 := gC_len (addE (gE l i) y.f y.t)
      obtain ⟨H1, hH1⟩ : ∃ H1, H1 = hj ++ [AO.rw 28 y.cells] ++ [AO.rw 33 (gC (addE (gE l i) y.f y.t))] := ⟨_, rfl⟩
      have hl1 : H1.length = hj.length + 2 := by rw [hH1]; simp
      have x1 : Ext1 hj H1 := by rw [hH1]; exact ((Ext1.refl hj).push _).push _
      obtain ⟨v2, H2, e8, hv2, hl2, hE2, hK2, q2, hp2, hr2⟩ := s8 S (show 2 ≤ d by omega) (L := gL l i) (by omega) y.f y.t h.length H1 (show h.length ≤ h.length + 1 by omega) (by omega) (by rw [x1.get hlt]; exact hp) (hr.ext x1)
      subst hv2
      rw [hH1] at e8
      have cy : cellsAt (hj ++ [AO.rw 28 y.cells] ++ [AO.rw 33 (gC (addE (gE l i) y.f y.t))]) hj.length = some y.cells := by unfold cellsAt; simp
      have g2 : H2[h.length]? = some (.rw 33 (gC (gE l i))) := by rw [hK2 _ (by omega) (by omega), x1.get (by omega)]; exact hg
      have c2 : cellsAt H2 h.length = some (gC (gE l i)) := by unfold cellsAt; rw [g2]
      have cx2 : cellsAt H2 (hj.length + 1) = some (gC (addE (gE l i) y.f y.t)) := by
        unfold cellsAt; rw [hK2 _ (by omega) (by omega), hH1]; simp
      have pA := part_self (ag33 S.p) (sz33 S.p) (gC (addE (gE l i) y.f y.t)) (by rw [gC_len]; exact hgl2)
      obtain ⟨k1, k2⟩ := storeH (sz33 S.p) g2 (Nat.le_refl _) (gC (addE (gE l i) y.f y.t)) (by rw [gC_len]; exact hgl2) (by rw [gC_len]; exact hgl)
      have hagx := hag ⟨i + 1, H2.set h.length (.rw 33 (gC (addE (gE l i) y.f y.t)))⟩ ⟨by simp only; omega, (hE2 h (hx.trans x1) (by omega)).set (Nat.le_refl _) _, by simp only [List.length_set]; omega, by
        simp only; rw [hsu]; exact List.getElem?_set_self (by omega), q2, by simp only; rw [List.getElem?_set_ne (by omega)]; exact hp2, by
        simp only
        rw [gL_add l hy]
        rcases hr2 with z | ⟨w, w1, w2, w3⟩
        · exact .inl z
        · refine .inr ⟨w, w1, by rw [List.length_set]; exact w2, ?_⟩
          have hne : h.length ≠ w := fun z => by
            subst z
            rw [c2] at w3
            exact recs_ne hgl (Option.some.inj w3).symm
          rw [cells_ne _ hne]; exact w3⟩ (by simp only; omega)
      clear hag hE2 hK2 hp2 hr2 hsu
      by_cases hok : (isN y.f && isN y.t) = true
      · have h0 : addC y.f y.t = 0 := by unfold addC; rw [if_pos hok]
        rw [h0] at e8 e15
        simp (maxSteps := 1000000) (disch := first | omega | (simp (disch := first | omega | (simp only [gC_len, Edg.len, ixC_len, wC_len, bC_len, List.length_append, List.length_cons, List.length_nil, List.length_set]; first | done | omega)) only [gC_len, Edg.len, ixC_len, wC_len, bC_len, amSide, Int.reduceToNat, Nat.reducePow, Nat.reduceMul]; first | done | omega)) only  [↓amPre, amPost, ↓s_lit', Nat.reduceAdd, Nat.reduceSub, List.replicate, retA, resultsA, resultA, toC, toCL, Nat.reduceEqDiff, he, (ze26 S.p), (ze28 S.p), (ze33 S.p), eql_ag, neq_ag, (eq33 S.p), eql_bool (un4 S.p), neq_bool (un4 S.p), (fa26_0 S.p), (fa28_0 S.p), (fa28_1 S.p), iaddr_sl (un22 S.p) (sz28 S.p), len_sl (un22 S.p), len_nils (un22 S.p), part_sc (ag22 S.p), part_all (ag28 S.p) (sz28 S.p), part_at (ag28 S.p) (sz28 S.p), part_sc (ag3 S.p), part_all (ag33 S.p) (sz33 S.p), part_at (ag33 S.p) (sz33 S.p), store_last (sz28 S.p), (sz28 S.p), store_last (sz33 S.p), (sz33 S.p), idx_ok, hcj, hpt, y0, y1, cg1, pE, e15, cy, e8, cx2, pA, c2, k1, bneI_f, cells_self, cells_other, Int.toNat_natCast, Nat.zero_add, wrap_i64]
        refine hagx _ ?_
        simp (maxSteps := 1000000) (disch := first | omega | (simp (disch := first | omega | (simp only [gC_len, Edg.len, ixC_len, wC_len, bC_len, List.length_append, List.length_cons, List.length_nil, List.length_set]; first | done | omega)) only [gC_len, Edg.len, ixC_len, wC_len, bC_len, amSide, Int.reduceToNat, Nat.reducePow, Nat.reduceMul]; first | done | omega)) only [↓amPre, amPost, ↓s_lit', Nat.reduceAdd, Nat.reduceSub, List.replicate, retA, resultsA, resultA, toC, toCL, Nat.reduceEqDiff, Int.natCast_add, Int.cast_ofNat_Int, dec_t, dec_f]
      · have h0 : addC y.f y.t = 1 := by unfold addC; rw [if_neg hok]
        have hEq : addE (gE l i) y.f y.t = gE l i := by unfold addE; rw [if_neg hok]
        have heq := eqL_gC (gE l i)
        rw [hgl] at heq
        simp only [List.replicate] at heq
        rw [hEq] at e8 cy cx2 pA k1 hagx e15
        rw [h0] at e8 e15
        simp (maxSteps := 1000000) (disch := first | omega | (simp (disch := first | omega | (simp only [gC_len, Edg.len, ixC_len, wC_len, bC_len, List.length_append, List.length_cons, List.length_nil, List.length_set]; first | done | omega)) only [gC_len, Edg.len, ixC_len, wC_len, bC_len, amSide, Int.reduceToNat, Nat.reducePow, Nat.reduceMul]; first | done | omega)) only  [↓amPre, amPost, ↓s_lit', Nat.reduceAdd, Nat.reduceSub, List.replicate, retA, resultsA, resultA, toC, toCL, Nat.reduceEqDiff, he, (ze26 S.p), (ze28 S.p), (ze33 S.p), eql_ag, neq_ag, (eq33 S.p), eql_bool (un4 S.p), neq_bool (un4 S.p), (fa26_0 S.p), (fa28_0 S.p), (fa28_1 S.p), iaddr_sl (un22 S.p) (sz28 S.p), len_sl (un22 S.p), len_nils (un22 S.p), part_sc (ag22 S.p), part_all (ag28 S.p) (sz28 S.p), part_at (ag28 S.p) (sz28 S.p), part_sc (ag3 S.p), part_all (ag33 S.p) (sz33 S.p), part_at (ag33 S.p) (sz33 S.p), store_last (sz28 S.p), (sz28 S.p), store_last (sz33 S.p), (sz33 S.p), idx_ok, hcj, hpt, y0, y1, cg1, pE, e15, hEq, cy, e8, cx2, c2, heq, k1, bneI_t, bneI_f, cells_self, cells_other, Int.toNat_natCast, Nat.zero_add, wrap_i64]
        refine hagx _ ?_
        simp (maxSteps := 1000000) (disch := first | omega | (simp (disch := first | omega | (simp only [gC_len, Edg.len, ixC_len, wC_len, bC_len, List.length_append, List.length_cons, List.length_nil, List.length_set]; first | done | omega)) only [gC_len, Edg.len, ixC_len, wC_len, bC_len, amSide, Int.reduceToNat, Nat.reducePow, Nat.reduceMul]; first | done | omega)) only [↓amPre, amPost, ↓s_lit', Nat.reduceAdd, Nat.reduceSub, List.replicate, retA, resultsA, resultA, toC, toCL, Nat.reduceEqDiff, Int.natCast_add, Int.cast_ofNat_Int, dec_t, dec_f]
    · simp only [decide_eq_false_iff_not] at hc1
      obtain rfl : i = l.length := by omega
      clear hag
      have hLn : (gL l l.length).length ≤ 200 := by omega
      have hle := hx.len
      have cg : cellsAt hj h.length = some (gC (gE l l.length)) := by unfold cellsAt; rw [hg]
      have cp : cellsAt hj (h.length + 1) = some [q'] := by unfold cellsAt; rw [hp]
      have e16 := fun lk h => s16 S (show 2 ≤ d by omega) Go n k lk h
      rw [has_eq G] at e16
      have e17 := fun lk => s17 S (show 1 ≤ d by omega) hLn n k lk hj cp hr
      obtain ⟨v1, h1, e18, x1, q1, rfl, r1⟩ := s18 S (show 3 ≤ d by omega) Go n h.length hj (by omega) hTj
      rw [next_eq G] at r1
      obtain ⟨v2, h2, e19, x2, q2, rfl, r2⟩ := s19 S (show 2 ≤ d by omega) (p := h.length + 1) hLn n h.length h1 (by have := x1.len; omega) (by have := x1.len; omega) (by rw [x1.cells hlt]; exact cp) (hr.ext x1)
      have x12 := x1.trans x2
      have hnl : (nxL (gL l l.length) n 64).length ≤ 200 := by have := nxL_le (gL l l.length) n 64; omega
      have e12 := fun lk => s12 S (show 1 ≤ d by omega) hnl hnl lk h2 (r1.ext x2) r2
      obtain ⟨v3, h3, e20, x3, q3, rfl, r3⟩ := s20 S (show 4 ≤ d by omega) G n h.length h2 (by have := x12.len; omega) (tabB_ext hTj x12)
      have x13 := x12.trans x3
      obtain ⟨v4, h4, e21, x4, q4, rfl, r4⟩ := s21 S (show 1 ≤ d by omega) (p := h.length + 1) hLn G.val n h.length h3 (by have := x13.len; omega) (by have := x13.len; omega) (by rw [x13.cells hlt]; exact cp) (hr.ext x13)
      have x14 := x13.trans x4
      have hrl : (rchL (gL l l.length) n).length ≤ 200 := by
        unfold rchL
        split
        · have := List.length_filter_le (fun k => @decide (Rch (gL l l.length) n.toNat k) (Classical.propDecidable _)) (List.range 64)
          rw [List.length_range] at this
          exact Nat.le_trans this (by omega)
        · simp
      have e12' := fun lk => s12 S (show 1 ≤ d by omega) hrl hrl lk h4 (r3.ext x4) r4
      rw [decide_eq_true rfl] at e12 e12'
      have e22 := fun lk h => s22 S (show 2 ≤ d by omega) Go lk h
      rw [cnt_eq G] at e22
      have f7 := fun lk => s7 S (show 5 ≤ d by omega) lk h4 (tabB_ext hTj x14)
      have cg2 : cellsAt h2 h.length = some (gC (gE l l.length)) := by rw [x12.cells (by omega)]; exact cg
      have cg4 : cellsAt h4 h.length = some (gC (gE l l.length)) := by rw [x14.cells (by omega)]; exact cg
      have cp4 : cellsAt h4 (h.length + 1) = some [q'] := by rw [x14.cells hlt]; exact cp
      have hlenr := hr.len (un22 S.p)
      have g0 : ([q'] : List SV)[0]? = some q' := rfl
      clear r1 r2 r3 r4 x1 x2 x3 x4 x12 x13 x14 hr hnl hrl
      generalize hdec : decide ((⟨n, k⟩ : Edg) ∈ gL l l.length) = dm at e16 e17
      cases dm
      · simp (maxSteps := 1000000) (disch := first | omega | (simp (disch := first | omega | (simp only [gC_len, Edg.len, ixC_len, wC_len, bC_len, List.length_append, List.length_cons, List.length_nil, List.length_set]; first | done | omega)) only [gC_len, Edg.len, ixC_len, wC_len, bC_len, amSide, Int.reduceToNat, Nat.reducePow, Nat.reduceMul]; first | done | omega)) only  [↓amPre, amPost, ↓s_lit', Nat.reduceAdd, Nat.reduceSub, List.replicate, retA, resultsA, resultA, toC, toCL, Nat.reduceEqDiff, he, (ze26 S.p), (ze28 S.p), (ze33 S.p), eql_ag, neq_ag, (eq33 S.p), eql_bool (un4 S.p), neq_bool (un4 S.p), (fa26_0 S.p), (fa28_0 S.p), (fa28_1 S.p), iaddr_sl (un22 S.p) (sz28 S.p), len_sl (un22 S.p), len_nils (un22 S.p), part_sc (ag22 S.p), part_all (ag28 S.p) (sz28 S.p), part_at (ag28 S.p) (sz28 S.p), part_sc (ag3 S.p), part_all (ag33 S.p) (sz33 S.p), part_at (ag33 S.p) (sz33 S.p), store_last (sz28 S.p), (sz28 S.p), store_last (sz33 S.p), (sz33 S.p), cg, pE, e16, e17, e18, e19, e12, cg2, e20, e21, e12', cg4, e22, cp4, g0, hlenr, f7, beq_self_eq_true, beqI_t]
        exact Ends.some rfl
      · simp (maxSteps := 1000000) (disch := first | omega | (simp (disch := first | omega | (simp only [gC_len, Edg.len, ixC_len, wC_len, bC_len, List.length_append, List.length_cons, List.length_nil, List.length_set]; first | done | omega)) only [gC_len, Edg.len, ixC_len, wC_len, bC_len, amSide, Int.reduceToNat, Nat.reducePow, Nat.reduceMul]; first | done | omega)) only  [↓amPre, amPost, ↓s_lit', Nat.reduceAdd, Nat.reduceSub, List.replicate, retA, resultsA, resultA, toC, toCL, Nat.reduceEqDiff, he, (ze26 S.p), (ze28 S.p), (ze33 S.p), eql_ag, neq_ag, (eq33 S.p), eql_bool (un4 S.p), neq_bool (un4 S.p), (fa26_0 S.p), (fa28_0 S.p), (fa28_1 S.p), iaddr_sl (un22 S.p) (sz28 S.p), len_sl (un22 S.p), len_nils (un22 S.p), part_sc (ag22 S.p), part_all (ag28 S.p) (sz28 S.p), part_at (ag28 S.p) (sz28 S.p), part_sc (ag3 S.p), part_all (ag33 S.p) (sz33 S.p), part_at (ag33 S.p) (sz33 S.p), store_last (sz28 S.p), (sz28 S.p), store_last (sz33 S.p), (sz33 S.p), cg, pE, e16, e17, e18, e19, e12, cg2, e20, e21, e12', cg4, e22, cp4, g0, hlenr, f7, beq_self_eq_true, beqI_t]
        exact Ends.some rfl
end Go.AM
