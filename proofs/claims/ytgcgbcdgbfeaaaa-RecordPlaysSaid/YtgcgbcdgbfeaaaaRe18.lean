/- Records: the law of what a stack answers. Conditions: none. -/
import Derived.Test.YtgcgbcdgbfeaaaaRe17
set_option linter.unusedVariables false
set_option linter.unusedSimpArgs false
set_option maxRecDepth 100000
namespace Go.AM
open Go.Proofs
-- LENS: Rec.len, StV.len
theorem Two.ref' {lo p r : Nat} {hh h' : List AO} {qs qr' : SV} {n : Int} {l : List Rec} (H : Stk lo p hh qs n l) (ne : p ≠ r) (hrl : r < lo) (F : RFr r hh h' qr') (R : RSt lo r h' qr' n l) : Two lo p r h' qs qr' n l := by
  have hp := (List.getElem?_eq_some_iff.1 H.pp).1
  refine ⟨⟨by rw [F.get p hp ne]; exact H.pp, ?_, H.lt⟩, R, ne, fun j o m s e => ?_⟩
  · rcases H.q with h | ⟨b, g, h1, h2, h3, h4⟩
    · exact .inl h
    · have hb := (List.getElem?_eq_some_iff.1 h2).1
      exact .inr ⟨b, g, h1, by rw [F.get b hb (by omega)]; exact h2, h3, h4⟩
  · have hj := F.new j o m s e
    intro o' n' s' e'
    rcases H.q with ⟨h1, _⟩ | ⟨b, g, h1, h2, h3, h4⟩
    · rw [h1] at e'; cases e'
    · have hb := (List.getElem?_eq_some_iff.1 h2).1
      have e2 := h1.symm.trans e'
      simp only [SV.sl.injEq] at e2
      omega
theorem RFr.ext1 {r : Nat} {h0 hh h' : List AO} {q : SV} (F : RFr r hh h' q) (hx : Ext1 h0 hh) (h1 : h0.length ≤ r) : Ext1 h0 h' :=
  ext_of (Nat.le_trans hx.len F.len) fun j hj => by rw [F.get j (by have := hx.len; omega) (by omega), hx.get hj]
/-- Both stacks behind a Save. -/
theorem two_save {lo p r : Nat} {hh : List AO} {qs qr : SV} {n : Int} {l : List Rec} (H : Two lo p r hh qs qr n l) (hlo : lo ≤ hh.length) {i : Nat} (o : AO) (y : Rec) {b b' : Nat} {g : List SV} (hq : qs = .sl b 0 l.length 2) (hb : lo ≤ b) (hbl : b < hh.length) (hq' : qr = .sl b' 0 l.length 2) (hb' : lo ≤ b') (hbl' : b' < hh.length) (hg : g.length % 2 = 0) :
    RSt lo r ((hh ++ [o]).set b (.rw 62 (recs Rec.cells (l.set i y) ++ g))) qr n l ∧
    Two lo p r (((hh ++ [o]).set b (.rw 62 (recs Rec.cells (l.set i y) ++ g))).set b' (.rw 77 (recs Rec.cells (l.set i y)))) qs qr n (l.set i y) := by
  have hp := (List.getElem?_eq_some_iff.1 H.st.pp).1
  have hr := (List.getElem?_eq_some_iff.1 H.rt.pp).1
  have h1 := H.st.lt
  have h2 := H.rt.lt
  have hbb : b ≠ b' := fun e => H.ap b' _ _ _ hq' _ _ _ (by rw [hq, e])
  have hrl := recs_len Rec.len (l.set i y)
  have hsl : (l.set i y).length = l.length := List.length_set ..
  have hown : ∃ h5, hh[b']? = some (.rw 77 (recs Rec.cells l)) ∧ (recs Rec.cells l).length % 2 = h5 ∧ h5 = 0 := by
    rcases H.rt.q with ⟨h3, _⟩ | ⟨c, h3, h4, h5, h6, h7⟩
    · rw [h3] at hq'; cases hq'
    · have e := h5.symm.trans hq'
      simp only [SV.sl.injEq] at e
      obtain ⟨rfl, _⟩ := e
      exact ⟨0, h6, h7, rfl⟩
  obtain ⟨_, hb6, hb7, rfl⟩ := hown
  refine ⟨⟨?_, ?_, H.rt.lt⟩, ⟨⟨?_, ?_, H.st.lt⟩, ⟨?_, ?_, H.rt.lt⟩, H.ne, H.ap⟩⟩
  · rw [List.getElem?_set_ne (by omega), List.getElem?_append_left hr]; exact H.rt.pp
  · refine .inr ⟨b', hb', by simp; omega, by rw [hq', recs_len Rec.len, Nat.mul_div_cancel _ (by omega)], by rw [List.getElem?_set_ne hbb, List.getElem?_append_left hbl']; exact hb6, hb7⟩
  · rw [List.getElem?_set_ne (by omega), List.getElem?_set_ne (by omega), List.getElem?_append_left hp]; exact H.st.pp
  · refine .inr ⟨b, g, by rw [hq, hsl], by rw [List.getElem?_set_ne (Ne.symm hbb), List.getElem?_set_self (by simp; omega)], hg, hb⟩
  · rw [List.getElem?_set_ne (by omega), List.getElem?_set_ne (by omega), List.getElem?_append_left hr]; exact H.rt.pp
  · refine .inr ⟨b', hb', by simp; omega, by rw [hq', hrl, hsl, Nat.mul_div_cancel _ (by omega)], by rw [List.getElem?_set_self (by simp; omega)], by rw [hrl]; omega⟩
structure RpSt where
  i : Nat
  qs : SV
  qr : SV
  R : List Rec
  h : List AO
set_option maxHeartbeats 16000000 in
theorem s8 {P : Program} {T : Tab} {K d : Nat} (S : Sd P T K) (hd : 7 ≤ d) (n : Int) (q : SV) (xs : List StV) (lk : Nat) (h : List AO) (hq : Rs StV.cells 3 h q xs) :
    ev P T K d 8 [.sc (.int .i64 n), .sc q] lk h = some (.v (.sc (.bool true)), h) := by
  obtain ⟨d, rfl⟩ : ∃ k, d = k + 1 := ⟨d - 1, by omega⟩
  refine ev_pure (at8 S.t) rfl ?_
  unfold i8 Try.f8
  have f24 := fun lk h => s24k S (show 1 ≤ d by omega) lk h
  by_cases hn : ¬ (1 ≤ n ∧ n ≤ 512)
  · have e25 := s25f S (show 1 ≤ d by omega) n hn h.length h
    have e35 := s35f S (show 1 ≤ d by omega) n hn h.length h (Nat.le_refl _)
    simp (maxSteps := 1000000) (disch := first | omega | (simp (disch := first | omega | (simp only [Rec.len, StV.len, List.length_append, List.length_cons, List.length_nil, List.length_set]; first | done | omega)) only [Rec.len, StV.len, amSide, Int.reduceToNat, Nat.reducePow, Nat.reduceMul]; first | done | omega)) only  [↓amPre, amPost, ↓s_lit', Nat.reduceAdd, Nat.reduceSub, List.replicate, retA, resultsA, resultA, toC, toCL, Nat.reduceEqDiff, (ze56 S.p), (ze62 S.p), (ze74 S.p), (ze77 S.p), eql_bool (un4 S.p), neq_bool (un4 S.p), eql_ag, neq_ag, (eq77 S.p), (bu77 S.p), (fa56_0 S.p), (fa56_1 S.p), (fa56_2 S.p), (fa62_0 S.p), (fa62_1 S.p), iaddr_sl (un50 S.p) (sz56 S.p), len_sl (un50 S.p), len_nils (un50 S.p), part_sc (ag3 S.p), part_sc (ag39 S.p), part_sc (ag5 S.p), part_all (ag56 S.p) (sz56 S.p), part_at (ag56 S.p) (sz56 S.p), part_all (ag77 S.p) (sz77 S.p), part_at (ag77 S.p) (sz77 S.p), store_last (sz56 S.p), (sz56 S.p), store_last (sz62 S.p), (sz62 S.p), store_last (sz74 S.p), (sz74 S.p), store_last (sz77 S.p), (sz77 S.p), e25, e35, f24, neq_nn (un51 S.p), cells_self, splice_def, List.append_nil, bneI_t, bne_self_eq_false, beqI_f, beq_self_eq_true]
    exact Ends.some rfl
  replace hn := Classical.not_not.1 hn
  have e25 := s25 S (show 1 ≤ d by omega) n hn.1 hn.2 h.length h
  have x0 : Ext1 h (h ++ [.rw 88 [.int .i64 n, .nils]]) := (Ext1.refl h).push _
  have hl1 : (h ++ [AO.rw 88 [.int .i64 n, .nils]]).length = h.length + 1 := by simp
  have e35 := s35 S (show 1 ≤ d by omega) n hn.1 hn.2 h.length (h ++ [.rw 88 [.int .i64 n, .nils]]) (by simp)
  have H0 : Two (h.length + 3) h.length (h.length + 2) (h ++ [.rw 88 [.int .i64 n, .nils]] ++ [.rw 74 [.int .i64 n, .nils]] ++ [.rw 74 [.int .i64 n, .nils]]) .nils .nils n [] :=
    ⟨⟨by simp, .inl ⟨rfl, rfl⟩, by omega⟩, ⟨by simp, .inl ⟨rfl, rfl⟩, by omega⟩, by omega, fun j o m s e => by cases e⟩
  have x3 : Ext1 h (h ++ [.rw 88 [.int .i64 n, .nils]] ++ [.rw 74 [.int .i64 n, .nils]] ++ [.rw 74 [.int .i64 n, .nils]]) := (x0.push _).push _
  obtain ⟨q2, e30, hq2⟩ := s30 S (show 1 ≤ d by omega) q xs h hq
  have hxl : (xs.take 200).length ≤ 200 := List.length_take_le 200 xs
  generalize xs.take 200 = ys at *
  have l2 := hq2.len (un50 S.p)
  simp (maxSteps := 1000000) (disch := first | omega | (simp (disch := first | omega | (simp only [Rec.len, StV.len, List.length_append, List.length_cons, List.length_nil, List.length_set]; first | done | omega)) only [Rec.len, StV.len, amSide, Int.reduceToNat, Nat.reducePow, Nat.reduceMul]; first | done | omega)) only  [↓amPre, amPost, ↓s_lit', Nat.reduceAdd, Nat.reduceSub, List.replicate, retA, resultsA, resultA, toC, toCL, Nat.reduceEqDiff, (ze56 S.p), (ze62 S.p), (ze74 S.p), (ze77 S.p), eql_bool (un4 S.p), neq_bool (un4 S.p), eql_ag, neq_ag, (eq77 S.p), (bu77 S.p), (fa56_0 S.p), (fa56_1 S.p), (fa56_2 S.p), (fa62_0 S.p), (fa62_1 S.p), iaddr_sl (un50 S.p) (sz56 S.p), len_sl (un50 S.p), len_nils (un50 S.p), part_sc (ag3 S.p), part_sc (ag39 S.p), part_sc (ag5 S.p), part_all (ag56 S.p) (sz56 S.p), part_at (ag56 S.p) (sz56 S.p), part_all (ag77 S.p) (sz77 S.p), part_at (ag77 S.p) (sz77 S.p), store_last (sz56 S.p), (sz56 S.p), store_last (sz62 S.p), (sz62 S.p), store_last (sz74 S.p), (sz74 S.p), store_last (sz77 S.p), (sz77 S.p), e25, e35, e30, l2, eql_pn (un51 S.p), cells_self, splice_def, List.append_nil, bneI_t, bneI_f, bne_self_eq_false]
  refine ends_loop (X := RpSt) ⟨0, .nils, .nils, [], h ++ [.rw 88 [.int .i64 n, .nils]] ++ [.rw 74 [.int .i64 n, .nils]] ++ [.rw 74 [.int .i64 n, .nils]]⟩ [4, 10, 11, 12, 13, 14, 15, 16, 17, 18, 19, 58, 59, 60, 61, 62, 63, 64, 65, 66, 67, 68, 69, 70, 71, 72, 73, 74, 75, 76, 77, 78, 79, 80, 81, 82, 83, 84, 85, 86, 87, 88, 89, 90, 91, 92, 93, 94, 95, 96, 97, 98, 99, 100, 101, 102, 103, 104, 105, 106, 107, 108, 109, 110, 111, 112, 113, 114, 115, 116, 117, 118, 119, 120, 121, 122, 123, 124, 125, 126, 127, 128, 129, 130, 131, 132, 133, 134, 135, 136, 137, 138, 139]
    (fun x => x.i ≤ ys.length ∧ x.R.length ≤ x.i ∧ (x.R.length : Int) ≤ n ∧ Ext1 h x.h ∧ h.length + 3 ≤ x.h.length ∧ Two (h.length + 3) h.length (h.length + 2) x.h x.qs x.qr n x.R) (fun x => ys.length - x.i)
    (fun x e => e.set 57 (.v (.sc (.int .i64 x.i)))) (fun x => x.h)
    (by have := S.k; show _ < K; simp only; omega) ⟨by simp only; omega, by simp, by simp; omega, x3, by simp, H0⟩ rfl rfl ?_
  clear e25 e35 x0 x3 H0 hl1 e30
  rintro ⟨i, qs, qr, R, hh⟩ ⟨hi, hR, hRn, hx, hlh, HT⟩ again hag e he
  simp only at hi hR hRn hx hlh HT hag he
  simp only [↓amPre, amPost, ↓s_lit', Nat.reduceAdd, Nat.reduceSub, List.replicate, retA, resultsA, resultA, toC, toCL, Nat.reduceEqDiff] at he
  simp only [↓amPre, amPost, ↓s_lit', Nat.reduceAdd, Nat.reduceSub, List.replicate, retA, resultsA, resultA, toC, toCL, Nat.reduceEqDiff, he]
  refine ends_cond (fun hc1 => ?_) (fun hc1 => ?_)
  · simp only [decide_eq_true_eq] at hc1
    have hio : i < ys.length := by omega
    obtain ⟨b, g, rfl, hb, hc⟩ := hq2.at (by omega)
    obtain ⟨y, hy⟩ : ∃ y, ys[i]? = some y := ⟨_, List.getElem?_eq_getElem hio⟩
    have hcc : cellsAt hh b = some (recs StV.cells ys ++ g) := by rw [hx.cells hb]; exact hc
    have hpt := recs_gpart (ag56 S.p) (sz56 S.p) StV.len hy g
    have hx1 : Ext1 h (hh ++ [.rw 56 y.cells]) := hx.push _
    have H1 := HT.push (.rw 56 y.cells)
    have hlx : (hh ++ [AO.rw 56 y.cells]).length = hh.length + 1 := by simp
    have c10 : cellsAt (hh ++ [.rw 56 y.cells]) hh.length = some y.cells := cells_self _ _ _ rfl
    have y0 := StV.c0 y
    have y1 := StV.c1 y
    have y2 := StV.c2 y
    have h40 : ((4 : Int) = 0) = False := by simp
    have hrp : h.length + 2 ≠ h.length := by omega
    generalize hh1 : hh ++ [AO.rw 56 y.cells] = h1 at *
    by_cases hk : y.k.tmod 4 = 1
    · obtain ⟨r, hr⟩ := last_ex y.o R
      obtain ⟨n1, n2⟩ := s29 S (show 5 ≤ d by omega) H1.st (by omega) (by omega) y.o h.length (Nat.le_refl _) (by omega)
      cases r with
      | none =>
        obtain ⟨h', e29, hxe⟩ := n1 hr
        clear n1 n2
        have hl' := hxe.len
        have H2 := (H1.ext hxe).push (.rw 62 [.int .i64 0, .int .u64 0])
        obtain ⟨v, h2, e36, rfl, x2⟩ := s36f S (show 2 ≤ d by omega) H2.rt (by omega) y.o h.length (by omega) (by simp; omega) hr
        have hl2 := x2.len
        simp only [List.length_append, List.length_singleton] at hl2
        have H3 := (H2.ext x2).push (.rw 77 [.int .i64 0, .int .u64 0])
        have f40 := fun lk => s40 S (show 5 ≤ d by omega) H3 (by omega) (by omega) y.o lk
        have hz : eqL [1, 1] [.int .i64 0, .int .u64 0] [.int .i64 0, .int .u64 0] = some true := rec_eq ⟨0, 0⟩
        have c12 : cellsAt (h2 ++ [.rw 77 [.int .i64 0, .int .u64 0]]) h'.length = some [.int .i64 0, .int .u64 0] := by
          rw [cells_other _ _ (by omega), x2.cells (by simp)]; exact cells_self _ _ _ rfl
        have xf := (((Ext1.refl h1).trans hxe).push (.rw 62 [.int .i64 0, .int .u64 0])).trans x2
        have c10b : cellsAt (h2 ++ [.rw 77 [.int .i64 0, .int .u64 0]]) hh.length = some y.cells := by rw [cells_other _ _ (by omega), xf.cells (by omega)]; exact c10
        have c10a : cellsAt (h' ++ [.rw 62 [.int .i64 0, .int .u64 0]]) hh.length = some y.cells := by rw [cells_other _ _ (by omega), hxe.cells (by omega)]; exact c10
        simp (maxSteps := 1000000) (disch := first | omega | (simp (disch := first | omega | (simp only [Rec.len, StV.len, List.length_append, List.length_cons, List.length_nil, List.length_set]; first | done | omega)) only [Rec.len, StV.len, amSide, Int.reduceToNat, Nat.reducePow, Nat.reduceMul]; first | done | omega)) only  [↓amPre, amPost, ↓s_lit', Nat.reduceAdd, Nat.reduceSub, List.replicate, retA, resultsA, resultA, toC, toCL, Nat.reduceEqDiff, he, (ze56 S.p), (ze62 S.p), (ze74 S.p), (ze77 S.p), eql_bool (un4 S.p), neq_bool (un4 S.p), eql_ag, neq_ag, (eq77 S.p), (bu77 S.p), (fa56_0 S.p), (fa56_1 S.p), (fa56_2 S.p), (fa62_0 S.p), (fa62_1 S.p), iaddr_sl (un50 S.p) (sz56 S.p), len_sl (un50 S.p), len_nils (un50 S.p), part_sc (ag3 S.p), part_sc (ag39 S.p), part_sc (ag5 S.p), part_all (ag56 S.p) (sz56 S.p), part_at (ag56 S.p) (sz56 S.p), part_all (ag77 S.p) (sz77 S.p), part_at (ag77 S.p) (sz77 S.p), store_last (sz56 S.p), (sz56 S.p), store_last (sz62 S.p), (sz62 S.p), store_last (sz74 S.p), (sz74 S.p), store_last (sz77 S.p), (sz77 S.p), idx_ok, hcc, hpt, hh1, c10, c10a, c10b, y0, y1, y2, e29, e36, c12, f40, hz, hk, h40, cells_self, beq_self_eq_true, Int.toNat_natCast, Nat.zero_add, wrap_i64]
        refine hag ⟨i + 1, qs, qr, R, _⟩ ⟨hio, by simp only; omega, by simp only; omega, (hx1.trans xf).push _, by simp; omega, H3⟩ (by simp only; omega) _ ?_
        simp (maxSteps := 1000000) (disch := first | omega | (simp (disch := first | omega | (simp only [Rec.len, StV.len, List.length_append, List.length_cons, List.length_nil, List.length_set]; first | done | omega)) only [Rec.len, StV.len, amSide, Int.reduceToNat, Nat.reducePow, Nat.reduceMul]; first | done | omega)) only [↓amPre, amPost, ↓s_lit', Nat.reduceAdd, Nat.reduceSub, List.replicate, retA, resultsA, resultA, toC, toCL, Nat.reduceEqDiff, Int.natCast_add, Int.cast_ofNat_Int, dec_t, dec_f]
      | some j =>
        obtain ⟨x, hxj⟩ : ∃ x, R[j]? = some x := by cases hr with | some _ x hxj _ _ => exact ⟨x, hxj⟩
        obtain ⟨h', qs', e29, hst3, hF⟩ := n2 j x hxj hr
        clear n1 n2
        have hj := (List.getElem?_eq_some_iff.1 hxj).1
        have hR1 := RSt.frm H1 hF
        have hl' := hF.len
        have hx' := hF.ext1 H1.st hx1 (Nat.le_refl _)
        have hst4 := hst3.push (.rw 62 x.cells)
        obtain ⟨v, h2, e36, rfl, qr', hR3, hF2⟩ := s36 S (show 2 ≤ d by omega) (hR1.push (.rw 62 x.cells)) (by omega) y.o h.length (by omega) (by simp; omega) j x hxj hr
        have hl2 := hF2.len
        simp only [List.length_append, List.length_singleton] at hl2
        have H3 := (Two.ref' hst4 (by omega) (by omega) hF2 hR3).push (.rw 77 x.cells)
        have hRl : (R.take j ++ R.drop (j + 1)).length ≤ i := by simp; omega
        have hRl2 : (R.take j ++ R.drop (j + 1)).length ≤ R.length := by simp; omega
        have f40 := fun lk => s40 S (show 5 ≤ d by omega) H3 (by omega) (by omega) y.o lk
        have hz := rec_eq x
        have hbu : [SV.int .i64 x.o, SV.int .u64 x.s] = x.cells := rfl
        have x0 := Rec.c0 x
        have x1 := Rec.c1 x
        have c12 : cellsAt (h2 ++ [.rw 77 x.cells]) h'.length = some x.cells := by
          have e1 := hF2.get h'.length (by simp) (by omega)
          have e2 : cellsAt (h' ++ [.rw 62 x.cells]) h'.length = some x.cells := cells_self _ _ _ rfl
          rw [cells_other _ _ (by omega)]
          unfold cellsAt at e2 ⊢
          rw [e1]; exact e2
        have hny : NotAt qs hh.length := by
          rcases HT.st.q with ⟨h3, _⟩ | ⟨c, g', h3, h4, _⟩
          · rw [h3]; intro o m s e; cases e
          · have := (List.getElem?_eq_some_iff.1 h4).1
            rw [h3]; intro o m s e; simp only [SV.sl.injEq] at e; omega
        have ec : cellsAt h' hh.length = some y.cells := by
          have e1 := hF.get hh.length (by omega) (by omega) hny
          unfold cellsAt at c10 ⊢
          rw [e1]; exact c10
        have c10a : cellsAt (h' ++ [.rw 62 x.cells]) hh.length = some y.cells := by rw [cells_other _ _ (by omega)]; exact ec
        have c10b : cellsAt (h2 ++ [.rw 77 x.cells]) hh.length = some y.cells := by
          have e1 := hF2.get hh.length (by simp; omega) (by omega)
          rw [cells_other _ _ (by omega)]
          unfold cellsAt at c10a ⊢
          rw [e1]; exact c10a
        have hx2 := hF2.ext1 (hx'.push (.rw 62 x.cells)) (by omega)
        simp (maxSteps := 1000000) (disch := first | omega | (simp (disch := first | omega | (simp only [Rec.len, StV.len, List.length_append, List.length_cons, List.length_nil, List.length_set]; first | done | omega)) only [Rec.len, StV.len, amSide, Int.reduceToNat, Nat.reducePow, Nat.reduceMul]; first | done | omega)) only  [↓amPre, amPost, ↓s_lit', Nat.reduceAdd, Nat.reduceSub, List.replicate, retA, resultsA, resultA, toC, toCL, Nat.reduceEqDiff, he, (ze56 S.p), (ze62 S.p), (ze74 S.p), (ze77 S.p), eql_bool (un4 S.p), neq_bool (un4 S.p), eql_ag, neq_ag, (eq77 S.p), (bu77 S.p), (fa56_0 S.p), (fa56_1 S.p), (fa56_2 S.p), (fa62_0 S.p), (fa62_1 S.p), iaddr_sl (un50 S.p) (sz56 S.p), len_sl (un50 S.p), len_nils (un50 S.p), part_sc (ag3 S.p), part_sc (ag39 S.p), part_sc (ag5 S.p), part_all (ag56 S.p) (sz56 S.p), part_at (ag56 S.p) (sz56 S.p), part_all (ag77 S.p) (sz77 S.p), part_at (ag77 S.p) (sz77 S.p), store_last (sz56 S.p), (sz56 S.p), store_last (sz62 S.p), (sz62 S.p), store_last (sz74 S.p), (sz74 S.p), store_last (sz77 S.p), (sz77 S.p), idx_ok, hcc, hpt, hh1, c10, c10a, c10b, y0, y1, y2, e29, e36, c12, f40, hz, hbu, x0, x1, hk, h40, cells_self, beq_self_eq_true, Int.toNat_natCast, Nat.zero_add, wrap_i64]
        refine hag ⟨i + 1, qs', qr', R.take j ++ R.drop (j + 1), _⟩ ⟨hio, by simp only; omega, by simp only; omega, hx2.push _, by simp; omega, H3⟩ (by simp only; omega) _ ?_
        simp (maxSteps := 1000000) (disch := first | omega | (simp (disch := first | omega | (simp only [Rec.len, StV.len, List.length_append, List.length_cons, List.length_nil, List.length_set]; first | done | omega)) only [Rec.len, StV.len, amSide, Int.reduceToNat, Nat.reducePow, Nat.reduceMul]; first | done | omega)) only [↓amPre, amPost, ↓s_lit', Nat.reduceAdd, Nat.reduceSub, List.replicate, retA, resultsA, resultA, toC, toCL, Nat.reduceEqDiff, Int.natCast_add, Int.cast_ofNat_Int, dec_t, dec_f]
    · by_cases hk2 : y.k.tmod 4 = 2
      · have hlow : ∀ h2, h2[hh.length]? = h1[hh.length]? → ∀ r, lowIf [2 * hh.length + 1] h1.length h1 h2 r = r := fun h2 e r => lowIf_ok h2 r fun l hl hn => by
          rw [notin_keep1] at hn; subst hn; exact e
        by_cases hin : 0 ≤ y.o ∧ y.o < R.length
        · obtain ⟨m, hm⟩ := Int.eq_ofNat_of_zero_le hin.1
          obtain ⟨x, hxm⟩ : ∃ x, R[m]? = some x := ⟨_, List.getElem?_eq_getElem (by omega)⟩
          obtain ⟨b1, g1, hqs, hb1, hb1l, e37, hg1⟩ := s37 S (show 3 ≤ d by omega) H1.st (by omega) m y.s x hxm h.length (Nat.le_refl _) (by omega)
          have hb1h : b1 < hh.length := by
            rcases HT.st.q with ⟨h3, _⟩ | ⟨c, g', h3, h4, _⟩
            · rw [h3] at hqs; cases hqs
            · have e1 := h3.symm.trans hqs
              simp only [SV.sl.injEq] at e1
              have := (List.getElem?_eq_some_iff.1 h4).1
              omega
          obtain ⟨b2, hqr, hb2, hb2l⟩ : ∃ b2, qr = .sl b2 0 R.length 2 ∧ h.length + 3 ≤ b2 ∧ b2 < h1.length := by
            obtain ⟨b2, h3, _, h4, h5⟩ := H1.rt.at (show m < R.length by omega)
            exact ⟨b2, h3, h4, h5⟩
          have hb2h : b2 < hh.length := by
            obtain ⟨c, h3, _, _, h5⟩ := HT.rt.at (show m < R.length by omega)
            have e1 := h3.symm.trans hqr
            simp only [SV.sl.injEq] at e1
            omega
          obtain ⟨hR2, H3⟩ := two_save H1 (by omega) (i := m) (.rw 62 x.cells) { x with s := y.s } hqs hb1 hb1l hqr hb2 hb2l hg1
          obtain ⟨b3, hqr3, hb3, hb3l, e38⟩ := s38 S (show 1 ≤ d by omega) hR2 m y.s x hxm h.length (by omega)
          obtain rfl : b3 = b2 := by
            have e1 := hqr3.symm.trans hqr
            simp only [SV.sl.injEq] at e1
            exact e1.1
          have hRl : (R.set m { x with s := y.s }).length = R.length := List.length_set ..
          have f40 := fun lk => s40 S (show 5 ≤ d by omega) H3 (by omega) (by omega) y.o lk
          rw [← hm] at e37 e38
          have hlw := hlow ((h1 ++ [AO.rw 62 x.cells]).set b1 (AO.rw 62 (recs Rec.cells (R.set m { x with s := y.s }) ++ g1))) (by rw [List.getElem?_set_ne (by omega), List.getElem?_append_left (by omega)])
          have ca : cellsAt ((h1 ++ [AO.rw 62 x.cells]).set b1 (AO.rw 62 (recs Rec.cells (R.set m { x with s := y.s }) ++ g1))) hh.length = some y.cells := by
            unfold cellsAt at c10 ⊢
            rw [List.getElem?_set_ne (by omega), List.getElem?_append_left (by omega)]; exact c10
          have cb : cellsAt (((h1 ++ [AO.rw 62 x.cells]).set b1 (AO.rw 62 (recs Rec.cells (R.set m { x with s := y.s }) ++ g1))).set b3 (AO.rw 77 (recs Rec.cells (R.set m { x with s := y.s })))) hh.length = some y.cells := by
            unfold cellsAt at ca ⊢
            rw [List.getElem?_set_ne (by omega)]; exact ca
          have hx3 : Ext1 h (((h1 ++ [AO.rw 62 x.cells]).set b1 (AO.rw 62 (recs Rec.cells (R.set m { x with s := y.s }) ++ g1))).set b3 (AO.rw 77 (recs Rec.cells (R.set m { x with s := y.s })))) := ((hx1.push _).set (by omega) _).set (by omega) _
          have hl3 : (((h1 ++ [AO.rw 62 x.cells]).set b1 (AO.rw 62 (recs Rec.cells (R.set m { x with s := y.s }) ++ g1))).set b3 (AO.rw 77 (recs Rec.cells (R.set m { x with s := y.s })))).length = h1.length + 1 := by simp
          generalize hA : (h1 ++ [AO.rw 62 x.cells]).set b1 (AO.rw 62 (recs Rec.cells (R.set m { x with s := y.s }) ++ g1)) = hA1 at *
          generalize hB : hA1.set b3 (AO.rw 77 (recs Rec.cells (R.set m { x with s := y.s }))) = hB1 at *
          simp (maxSteps := 1000000) (disch := first | omega | (simp (disch := first | omega | (simp only [Rec.len, StV.len, List.length_append, List.length_cons, List.length_nil, List.length_set]; first | done | omega)) only [Rec.len, StV.len, amSide, Int.reduceToNat, Nat.reducePow, Nat.reduceMul]; first | done | omega)) only  [↓amPre, amPost, ↓s_lit', Nat.reduceAdd, Nat.reduceSub, List.replicate, retA, resultsA, resultA, toC, toCL, Nat.reduceEqDiff, he, (ze56 S.p), (ze62 S.p), (ze74 S.p), (ze77 S.p), eql_bool (un4 S.p), neq_bool (un4 S.p), eql_ag, neq_ag, (eq77 S.p), (bu77 S.p), (fa56_0 S.p), (fa56_1 S.p), (fa56_2 S.p), (fa62_0 S.p), (fa62_1 S.p), iaddr_sl (un50 S.p) (sz56 S.p), len_sl (un50 S.p), len_nils (un50 S.p), part_sc (ag3 S.p), part_sc (ag39 S.p), part_sc (ag5 S.p), part_all (ag56 S.p) (sz56 S.p), part_at (ag56 S.p) (sz56 S.p), part_all (ag77 S.p) (sz77 S.p), part_at (ag77 S.p) (sz77 S.p), store_last (sz56 S.p), (sz56 S.p), store_last (sz62 S.p), (sz62 S.p), store_last (sz74 S.p), (sz74 S.p), store_last (sz77 S.p), (sz77 S.p), idx_ok, hcc, hpt, hh1, c10, ca, cb, y0, y1, y2, e37, e38, hlw, f40, hk2, h40, beqI_f, beq_self_eq_true, Int.toNat_natCast, Nat.zero_add, wrap_i64]
          refine hag ⟨i + 1, qs, qr, _, _⟩ ⟨hio, by simp only; omega, by simp only; omega, hx3, by simp only; omega, H3⟩ (by simp only; omega) _ ?_
          simp (maxSteps := 1000000) (disch := first | omega | (simp (disch := first | omega | (simp only [Rec.len, StV.len, List.length_append, List.length_cons, List.length_nil, List.length_set]; first | done | omega)) only [Rec.len, StV.len, amSide, Int.reduceToNat, Nat.reducePow, Nat.reduceMul]; first | done | omega)) only [↓amPre, amPost, ↓s_lit', Nat.reduceAdd, Nat.reduceSub, List.replicate, retA, resultsA, resultA, toC, toCL, Nat.reduceEqDiff, Int.natCast_add, Int.cast_ofNat_Int, dec_t, dec_f]
        · have e37 := s37f S (show 3 ≤ d by omega) H1.st (by omega) y.o y.s hin h.length (by omega)
          have H3 := H1.push (.rw 62 [.int .i64 0, .int .u64 0])
          have e38 := s38f S (show 1 ≤ d by omega) H3.rt y.o y.s hin h.length
          have f40 := fun lk => s40 S (show 5 ≤ d by omega) H3 (by omega) (by omega) y.o lk
          have hlw := hlow (h1 ++ [.rw 62 [.int .i64 0, .int .u64 0]]) (by rw [List.getElem?_append_left (by omega)])
          have ca : cellsAt (h1 ++ [.rw 62 [.int .i64 0, .int .u64 0]]) hh.length = some y.cells := by rw [cells_other _ _ (by omega)]; exact c10
          simp (maxSteps := 1000000) (disch := first | omega | (simp (disch := first | omega | (simp only [Rec.len, StV.len, List.length_append, List.length_cons, List.length_nil, List.length_set]; first | done | omega)) only [Rec.len, StV.len, amSide, Int.reduceToNat, Nat.reducePow, Nat.reduceMul]; first | done | omega)) only  [↓amPre, amPost, ↓s_lit', Nat.reduceAdd, Nat.reduceSub, List.replicate, retA, resultsA, resultA, toC, toCL, Nat.reduceEqDiff, he, (ze56 S.p), (ze62 S.p), (ze74 S.p), (ze77 S.p), eql_bool (un4 S.p), neq_bool (un4 S.p), eql_ag, neq_ag, (eq77 S.p), (bu77 S.p), (fa56_0 S.p), (fa56_1 S.p), (fa56_2 S.p), (fa62_0 S.p), (fa62_1 S.p), iaddr_sl (un50 S.p) (sz56 S.p), len_sl (un50 S.p), len_nils (un50 S.p), part_sc (ag3 S.p), part_sc (ag39 S.p), part_sc (ag5 S.p), part_all (ag56 S.p) (sz56 S.p), part_at (ag56 S.p) (sz56 S.p), part_all (ag77 S.p) (sz77 S.p), part_at (ag77 S.p) (sz77 S.p), store_last (sz56 S.p), (sz56 S.p), store_last (sz62 S.p), (sz62 S.p), store_last (sz74 S.p), (sz74 S.p), store_last (sz77 S.p), (sz77 S.p), idx_ok, hcc, hpt, hh1, c10, ca, y0, y1, y2, e37, e38, hlw, f40, hk2, h40, beqI_f, beq_self_eq_true, Int.toNat_natCast, Nat.zero_add, wrap_i64]
          refine hag ⟨i + 1, qs, qr, R, _⟩ ⟨hio, by simp only; omega, by simp only; omega, hx1.push _, by simp; omega, H3⟩ (by simp only; omega) _ ?_
          simp (maxSteps := 1000000) (disch := first | omega | (simp (disch := first | omega | (simp only [Rec.len, StV.len, List.length_append, List.length_cons, List.length_nil, List.length_set]; first | done | omega)) only [Rec.len, StV.len, amSide, Int.reduceToNat, Nat.reducePow, Nat.reduceMul]; first | done | omega)) only [↓amPre, amPost, ↓s_lit', Nat.reduceAdd, Nat.reduceSub, List.replicate, retA, resultsA, resultA, toC, toCL, Nat.reduceEqDiff, Int.natCast_add, Int.cast_ofNat_Int, dec_t, dec_f]
      · obtain ⟨_, n2⟩ := s26 S (show 2 ≤ d by omega) H1.st (by omega) (by omega) y.o y.s h.length (Nat.le_refl _) (by omega)
        obtain ⟨p1, p2⟩ := s26x S (show 2 ≤ d by omega) H1.st (by omega) y.o y.s h.length
        by_cases hin : 0 ≤ y.o ∧ y.o < 65536
        · by_cases hfull : (R.length : Int) = n
          · have e26 := p2 hin hfull
            have e39 := (s39x S (show 1 ≤ d by omega) H1.rt y.o y.s h.length).2 hin (by omega)
            have f40 := fun lk => s40 S (show 5 ≤ d by omega) H1 (by omega) (by omega) y.o lk
            clear n2 p1 p2
            simp (maxSteps := 1000000) (disch := first | omega | (simp (disch := first | omega | (simp only [Rec.len, StV.len, List.length_append, List.length_cons, List.length_nil, List.length_set]; first | done | omega)) only [Rec.len, StV.len, amSide, Int.reduceToNat, Nat.reducePow, Nat.reduceMul]; first | done | omega)) only  [↓amPre, amPost, ↓s_lit', Nat.reduceAdd, Nat.reduceSub, List.replicate, retA, resultsA, resultA, toC, toCL, Nat.reduceEqDiff, he, (ze56 S.p), (ze62 S.p), (ze74 S.p), (ze77 S.p), eql_bool (un4 S.p), neq_bool (un4 S.p), eql_ag, neq_ag, (eq77 S.p), (bu77 S.p), (fa56_0 S.p), (fa56_1 S.p), (fa56_2 S.p), (fa62_0 S.p), (fa62_1 S.p), iaddr_sl (un50 S.p) (sz56 S.p), len_sl (un50 S.p), len_nils (un50 S.p), part_sc (ag3 S.p), part_sc (ag39 S.p), part_sc (ag5 S.p), part_all (ag56 S.p) (sz56 S.p), part_at (ag56 S.p) (sz56 S.p), part_all (ag77 S.p) (sz77 S.p), part_at (ag77 S.p) (sz77 S.p), store_last (sz56 S.p), (sz56 S.p), store_last (sz62 S.p), (sz62 S.p), store_last (sz74 S.p), (sz74 S.p), store_last (sz77 S.p), (sz77 S.p), idx_ok, hcc, hpt, hh1, c10, y0, y1, y2, e26, e39, f40, h40, beqI_f, beq_self_eq_true, Int.toNat_natCast, Nat.zero_add, wrap_i64]
            refine hag ⟨i + 1, qs, qr, R, _⟩ ⟨hio, by simp only; omega, by simp only; omega, hx1, by simp only; omega, H1⟩ (by simp only; omega) _ ?_
            simp (maxSteps := 1000000) (disch := first | omega | (simp (disch := first | omega | (simp only [Rec.len, StV.len, List.length_append, List.length_cons, List.length_nil, List.length_set]; first | done | omega)) only [Rec.len, StV.len, amSide, Int.reduceToNat, Nat.reducePow, Nat.reduceMul]; first | done | omega)) only [↓amPre, amPost, ↓s_lit', Nat.reduceAdd, Nat.reduceSub, List.replicate, retA, resultsA, resultA, toC, toCL, Nat.reduceEqDiff, Int.natCast_add, Int.cast_ofNat_Int, dec_t, dec_f]
          · have hle : (R.length : Int) < n ∨ n < (R.length : Int) := by omega
            rcases hle with hlt | hgt
            · obtain ⟨h', qs', e26, hst3, hF⟩ := n2 ⟨hin.1, hin.2, hfull⟩
              clear n2 p1 p2
              have hl' := hF.len
              have hx' := hF.ext1 H1.st hx1 (Nat.le_refl _)
              have hR1 := RSt.frm H1 hF
              obtain ⟨v, h2, e39, rfl, qr', hR3, hF2⟩ := s39 S (show 1 ≤ d by omega) hR1 (by omega) y.o y.s h.length (by omega) (by omega) hin.1 hin.2 hlt
              have hl2 := hF2.len
              have H3 := Two.ref' hst3 (by omega) (by omega) hF2 hR3
              have hRl : (R ++ [(⟨y.o, y.s⟩ : Rec)]).length = R.length + 1 := by simp
              have f40 := fun lk => s40 S (show 5 ≤ d by omega) H3 (by omega) (by omega) y.o lk
              have hx2 := hF2.ext1 hx' (by omega)
              have hny : NotAt qs hh.length := by
                rcases HT.st.q with ⟨h3, _⟩ | ⟨c, g', h3, h4, _⟩
                · rw [h3]; intro o m s e; cases e
                · have := (List.getElem?_eq_some_iff.1 h4).1
                  rw [h3]; intro o m s e; simp only [SV.sl.injEq] at e; omega
              have ca : cellsAt h' hh.length = some y.cells := by
                have e1 := hF.get hh.length (by omega) (by omega) hny
                unfold cellsAt at c10 ⊢
                rw [e1]; exact c10
              have cb : cellsAt h2 hh.length = some y.cells := by
                have e1 := hF2.get hh.length (by omega) (by omega)
                unfold cellsAt at ca ⊢
                rw [e1]; exact ca
              simp (maxSteps := 1000000) (disch := first | omega | (simp (disch := first | omega | (simp only [Rec.len, StV.len, List.length_append, List.length_cons, List.length_nil, List.length_set]; first | done | omega)) only [Rec.len, StV.len, amSide, Int.reduceToNat, Nat.reducePow, Nat.reduceMul]; first | done | omega)) only  [↓amPre, amPost, ↓s_lit', Nat.reduceAdd, Nat.reduceSub, List.replicate, retA, resultsA, resultA, toC, toCL, Nat.reduceEqDiff, he, (ze56 S.p), (ze62 S.p), (ze74 S.p), (ze77 S.p), eql_bool (un4 S.p), neq_bool (un4 S.p), eql_ag, neq_ag, (eq77 S.p), (bu77 S.p), (fa56_0 S.p), (fa56_1 S.p), (fa56_2 S.p), (fa62_0 S.p), (fa62_1 S.p), iaddr_sl (un50 S.p) (sz56 S.p), len_sl (un50 S.p), len_nils (un50 S.p), part_sc (ag3 S.p), part_sc (ag39 S.p), part_sc (ag5 S.p), part_all (ag56 S.p) (sz56 S.p), part_at (ag56 S.p) (sz56 S.p), part_all (ag77 S.p) (sz77 S.p), part_at (ag77 S.p) (sz77 S.p), store_last (sz56 S.p), (sz56 S.p), store_last (sz62 S.p), (sz62 S.p), store_last (sz74 S.p), (sz74 S.p), store_last (sz77 S.p), (sz77 S.p), idx_ok, hcc, hpt, hh1, c10, ca, cb, y0, y1, y2, e26, e39, f40, h40, beqI_f, beq_self_eq_true, Int.toNat_natCast, Nat.zero_add, wrap_i64]
              refine hag ⟨i + 1, qs', qr', _, _⟩ ⟨hio, by simp only; omega, by simp only; omega, hx2, by simp only; omega, H3⟩ (by simp only; omega) _ ?_
              simp (maxSteps := 1000000) (disch := first | omega | (simp (disch := first | omega | (simp only [Rec.len, StV.len, List.length_append, List.length_cons, List.length_nil, List.length_set]; first | done | omega)) only [Rec.len, StV.len, amSide, Int.reduceToNat, Nat.reducePow, Nat.reduceMul]; first | done | omega)) only [↓amPre, amPost, ↓s_lit', Nat.reduceAdd, Nat.reduceSub, List.replicate, retA, resultsA, resultA, toC, toCL, Nat.reduceEqDiff, Int.natCast_add, Int.cast_ofNat_Int, dec_t, dec_f]
            · omega
        · have e26 := p1 hin
          have e39 := (s39x S (show 1 ≤ d by omega) H1.rt y.o y.s h.length).1 hin
          have f40 := fun lk => s40 S (show 5 ≤ d by omega) H1 (by omega) (by omega) y.o lk
          clear n2 p1 p2
          simp (maxSteps := 1000000) (disch := first | omega | (simp (disch := first | omega | (simp only [Rec.len, StV.len, List.length_append, List.length_cons, List.length_nil, List.length_set]; first | done | omega)) only [Rec.len, StV.len, amSide, Int.reduceToNat, Nat.reducePow, Nat.reduceMul]; first | done | omega)) only  [↓amPre, amPost, ↓s_lit', Nat.reduceAdd, Nat.reduceSub, List.replicate, retA, resultsA, resultA, toC, toCL, Nat.reduceEqDiff, he, (ze56 S.p), (ze62 S.p), (ze74 S.p), (ze77 S.p), eql_bool (un4 S.p), neq_bool (un4 S.p), eql_ag, neq_ag, (eq77 S.p), (bu77 S.p), (fa56_0 S.p), (fa56_1 S.p), (fa56_2 S.p), (fa62_0 S.p), (fa62_1 S.p), iaddr_sl (un50 S.p) (sz56 S.p), len_sl (un50 S.p), len_nils (un50 S.p), part_sc (ag3 S.p), part_sc (ag39 S.p), part_sc (ag5 S.p), part_all (ag56 S.p) (sz56 S.p), part_at (ag56 S.p) (sz56 S.p), part_all (ag77 S.p) (sz77 S.p), part_at (ag77 S.p) (sz77 S.p), store_last (sz56 S.p), (sz56 S.p), store_last (sz62 S.p), (sz62 S.p), store_last (sz74 S.p), (sz74 S.p), store_last (sz77 S.p), (sz77 S.p), idx_ok, hcc, hpt, hh1, c10, y0, y1, y2, e26, e39, f40, h40, beqI_f, beq_self_eq_true, Int.toNat_natCast, Nat.zero_add, wrap_i64]
          refine hag ⟨i + 1, qs, qr, R, _⟩ ⟨hio, by simp only; omega, by simp only; omega, hx1, by simp only; omega, H1⟩ (by simp only; omega) _ ?_
          simp (maxSteps := 1000000) (disch := first | omega | (simp (disch := first | omega | (simp only [Rec.len, StV.len, List.length_append, List.length_cons, List.length_nil, List.length_set]; first | done | omega)) only [Rec.len, StV.len, amSide, Int.reduceToNat, Nat.reducePow, Nat.reduceMul]; first | done | omega)) only [↓amPre, amPost, ↓s_lit', Nat.reduceAdd, Nat.reduceSub, List.replicate, retA, resultsA, resultA, toC, toCL, Nat.reduceEqDiff, Int.natCast_add, Int.cast_ofNat_Int, dec_t, dec_f]
  · simp only [decide_eq_false_iff_not] at hc1
    simp (maxSteps := 1000000) (disch := first | omega | (simp (disch := first | omega | (simp only [Rec.len, StV.len, List.length_append, List.length_cons, List.length_nil, List.length_set]; first | done | omega)) only [Rec.len, StV.len, amSide, Int.reduceToNat, Nat.reducePow, Nat.reduceMul]; first | done | omega)) only  [↓amPre, amPost, ↓s_lit', Nat.reduceAdd, Nat.reduceSub, List.replicate, retA, resultsA, resultA, toC, toCL, Nat.reduceEqDiff, he, (ze56 S.p), (ze62 S.p), (ze74 S.p), (ze77 S.p), eql_bool (un4 S.p), neq_bool (un4 S.p), eql_ag, neq_ag, (eq77 S.p), (bu77 S.p), (fa56_0 S.p), (fa56_1 S.p), (fa56_2 S.p), (fa62_0 S.p), (fa62_1 S.p), iaddr_sl (un50 S.p) (sz56 S.p), len_sl (un50 S.p), len_nils (un50 S.p), part_sc (ag3 S.p), part_sc (ag39 S.p), part_sc (ag5 S.p), part_all (ag56 S.p) (sz56 S.p), part_at (ag56 S.p) (sz56 S.p), part_all (ag77 S.p) (sz77 S.p), part_at (ag77 S.p) (sz77 S.p), store_last (sz56 S.p), (sz56 S.p), store_last (sz62 S.p), (sz62 S.p), store_last (sz74 S.p), (sz74 S.p), store_last (sz77 S.p), (sz77 S.p), f24]
    exact Ends.some rfl
end Go.AM
