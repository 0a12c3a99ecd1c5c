/- Counts: the law of spans. Conditions: none. -/
import Derived.Test.YtdokijbheholdaaSt9
set_option linter.unusedVariables false
set_option linter.unusedSimpArgs false
set_option maxRecDepth 100000
namespace Go.AM
open Go.Proofs
theorem spT_at {th : Int} {L : List SpV} {i : Nat} {x : SpV} (hx : L[i]? = some x) (ht : x.t = th) : (spT th L)[(spT th (L.take i)).length]? = some x.n := by
  obtain ⟨hi, he⟩ := List.getElem?_eq_some_iff.1 hx
  have e : spT th L = spT th (L.take i) ++ x.n :: spT th (L.drop (i + 1)) := by
    have h1 : L = L.take i ++ ([x] ++ L.drop (i + 1)) := by
      rw [← he, List.singleton_append, ← List.drop_eq_getElem_cons hi, List.take_append_drop]
    have h2 : spT th L = spT th (L.take i ++ ([x] ++ L.drop (i + 1))) := by rw [← h1]
    rw [h2]
    unfold spT
    rw [List.filter_append, List.filter_append, List.map_append, List.map_append]
    simp [ht]
  rw [e, List.getElem?_append_right (Nat.le_refl _), Nat.sub_self]
  rfl
-- LENS: EnV.len, SpV.len
set_option maxHeartbeats 8000000 in
theorem s11 {P : Program} {T : Tab} {K d : Nat} (S : Sd P T K) (hd : 4 ≤ d) (q : SV) (l : List EnV) (th : Int) (lk : Nat) (h : List AO) (hq : Rs EnV.cells 13 h q l) :
    ev P T K d 11 [.sc q, .sc (.int .i64 th)] lk h = some (.v (.sc (.bool true)), h) := by
  obtain ⟨d, rfl⟩ : ∃ k, d = k + 1 := ⟨d - 1, by omega⟩
  refine ev_pure (at11 S.t) rfl ?_
  unfold i11 Try.f11
  have hlen := hq.len (un61 S.p)
  have f35 := fun lk h => s35k S (show 1 ≤ d by omega) lk h
  by_cases c1 : l.length > 300
  · simp (maxSteps := 1000000) (disch := first | omega | (simp (disch := first | omega | (simp only [EnV.len, SpV.len, List.length_append, List.length_cons, List.length_nil, List.length_set]; first | done | omega)) only [EnV.len, SpV.len, amSide, Int.reduceToNat, Nat.reducePow, Nat.reduceMul]; first | done | omega)) only  [↓amPre, amPost, ↓s_lit', Nat.reduceAdd, Nat.reduceSub, List.replicate, retA, resultsA, resultA, toC, toCL, Nat.reduceEqDiff, (ze68 S.p), (fa68_0 S.p), (fa68_1 S.p), iaddr_sl (un35 S.p) (sz3 S.p), iaddr_sl (un62 S.p) (sz68 S.p), len_sl (un35 S.p), len_nils (un35 S.p), len_sl (un61 S.p), len_nils (un61 S.p), len_sl (un62 S.p), len_nils (un62 S.p), part_sc (ag3 S.p), part_all (ag68 S.p) (sz68 S.p), part_at (ag68 S.p) (sz68 S.p), store_last (sz68 S.p), (sz68 S.p), hlen, dec_t, f35]
    exact Ends.some rfl
  obtain ⟨v, h1, e38, x1, q1, rfl, ho1⟩ := s38 S (show 1 ≤ d by omega) q l (by omega) h.length h (Nat.le_refl _) hq
  obtain ⟨v, h2, e40, x2, q2, rfl, ho2⟩ := s40 S (show 1 ≤ d by omega) q l (by omega) h.length h1 x1.len (hq.ext x1)
  have x12 := x1.trans x2
  obtain ⟨v, h3, e39, x3, q3, rfl, ho3⟩ := s39 S (show 2 ≤ d by omega) q2 l (by omega) th h.length h2 x12.len (ho2.rs (by omega) EnV.len)
  have x13 := x12.trans x3
  have hr1 := (ho1.rs (by omega) SpV.len).ext (x2.trans x3)
  have hr3 := ho3.rs (by omega) I1_len
  have hlen1 := hr1.len (un62 S.p)
  have hlen3 := hr3.len (un35 S.p)
  have hsl := spansN_len l l.length

  have hL : spansN l l.length = spansN l l.length := rfl
  have f41 : ∀ h q, Rs EnV.cells 13 h q l → ∀ lk, ev P T K d 41 [.sc q] lk h = _ := fun h q hq lk => s41 S (show 2 ≤ d by omega) q l (by omega) lk h hq
  generalize spansN l l.length = L at *
  simp (maxSteps := 1000000) (disch := first | omega | (simp (disch := first | omega | (simp only [EnV.len, SpV.len, List.length_append, List.length_cons, List.length_nil, List.length_set]; first | done | omega)) only [EnV.len, SpV.len, amSide, Int.reduceToNat, Nat.reducePow, Nat.reduceMul]; first | done | omega)) only  [↓amPre, amPost, ↓s_lit', Nat.reduceAdd, Nat.reduceSub, List.replicate, retA, resultsA, resultA, toC, toCL, Nat.reduceEqDiff, (ze68 S.p), (fa68_0 S.p), (fa68_1 S.p), iaddr_sl (un35 S.p) (sz3 S.p), iaddr_sl (un62 S.p) (sz68 S.p), len_sl (un35 S.p), len_nils (un35 S.p), len_sl (un61 S.p), len_nils (un61 S.p), len_sl (un62 S.p), len_nils (un62 S.p), part_sc (ag3 S.p), part_all (ag68 S.p) (sz68 S.p), part_at (ag68 S.p) (sz68 S.p), store_last (sz68 S.p), (sz68 S.p), hlen, dec_f, e38, e40, e39, hlen1]
  refine ends_loop (X := LgSt) ⟨0, h3⟩ [4, 11, 27, 28, 29, 30, 31, 32, 33, 34, 35, 36, 37, 38, 39, 40, 41, 42, 43, 44, 45, 46, 47, 48, 49, 50, 51, 52, 53, 54, 55, 56, 57, 58, 59, 60, 61, 62, 63, 64, 65, 66, 67]
    (fun x => x.i ≤ L.length ∧ Ext1 h3 x.h) (fun x => L.length - x.i)
    (fun x e => (((e.set 7 (.v (.sc (.int .i64 (lgS (L.take x.i)).t)))).set 8 (.v (.sc (.int .i64 (lgS (L.take x.i)).n)))).set 9 (.v (.sc (.int .i64 ((spT th (L.take x.i)).length : Nat))))).set 26 (.v (.sc (.int .i64 x.i)))) (fun x => x.h)
    (by have := S.k; show _ < K; simp only; omega) ⟨by simp only; omega, Ext1.refl _⟩ rfl rfl ?_
  rintro ⟨i, hj⟩ ⟨hi, hx⟩ again hag e he
  simp only at hi hx hag he
  simp only [↓amPre, amPost, ↓s_lit', Nat.reduceAdd, Nat.reduceSub, List.replicate, retA, resultsA, resultA, toC, toCL, Nat.reduceEqDiff] at he
  simp only [↓amPre, amPost, ↓s_lit', Nat.reduceAdd, Nat.reduceSub, List.replicate, retA, resultsA, resultA, toC, toCL, Nat.reduceEqDiff, he]
  clear e38 e39 e40 ho1 ho2 ho3
  have hle3 := x13.len
  have hle4 := hx.len
  refine ends_cond (fun hc1 => ?_) (fun hc1 => ?_)
  · simp only [decide_eq_true_eq] at hc1
    have hio : i < L.length := by omega
    obtain ⟨b, rfl, hb, hc⟩ := (hr1.ext hx).at (by omega)
    obtain ⟨x, hxi⟩ : ∃ x, L[i]? = some x := ⟨_, List.getElem?_eq_getElem hio⟩
    have hpt := recs_part (ag68 S.p) (sz68 S.p) SpV.len hxi
    have hsn := lgS_snoc (L.take i) x
    have hs2 := spT_snoc th (L.take i) x
    have hat0 := fun ht => spT_at (th := th) hxi ht
    rw [← take_snocP L i x hxi] at hsn hs2
    have gc0 := SpV.c0 x
    have gc1 := SpV.c1 x
    have hsl3 := spT_len th L
    generalize lgS (L.take i) = B at *
    clear f41 f35
    by_cases k1 : B.n < x.n
    · by_cases k3 : 0 ≤ x.t
      · by_cases k4 : x.t < 256
        · rw [if_pos ⟨k1, k3, k4⟩] at hsn
          by_cases k2 : x.t = th
          · have hat := hat0 k2
            rw [if_pos k2] at hs2
            have hlt := (List.getElem?_eq_some_iff.1 hat).1
            obtain ⟨b3, rfl, hb3, hc3⟩ := ((hr3.ext hx).at (by omega))
            rw [recs_I1] at hc3
            have hc4 : ((spT th L).map (SV.int .i64))[(spT th (L.take i)).length]? = some (.int .i64 x.n) := by simp [hat]
            generalize hNN : (spT th (L.take i)).length = N at *
            simp (maxSteps := 1000000) (disch := first | omega | (simp (disch := first | omega | (simp only [EnV.len, SpV.len, List.length_append, List.length_cons, List.length_nil, List.length_set]; first | done | omega)) only [EnV.len, SpV.len, amSide, Int.reduceToNat, Nat.reducePow, Nat.reduceMul]; first | done | omega)) only  [↓amPre, amPost, ↓s_lit', Nat.reduceAdd, Nat.reduceSub, List.replicate, retA, resultsA, resultA, toC, toCL, Nat.reduceEqDiff, he, (ze68 S.p), (fa68_0 S.p), (fa68_1 S.p), iaddr_sl (un35 S.p) (sz3 S.p), iaddr_sl (un62 S.p) (sz68 S.p), len_sl (un35 S.p), len_nils (un35 S.p), len_sl (un61 S.p), len_nils (un61 S.p), len_sl (un62 S.p), len_nils (un62 S.p), part_sc (ag3 S.p), part_all (ag68 S.p) (sz68 S.p), part_at (ag68 S.p) (sz68 S.p), store_last (sz68 S.p), (sz68 S.p), idx_ok, hc, hpt, hlen3, cells_self, cells_other, gc0, gc1, hc3, hc4, dec_t, dec_f, beqI_t, beqI_f, bneI_t, bneI_f, Int.toNat_natCast, Nat.zero_add, Nat.mul_one, wrap_i64]
            refine hag ⟨i + 1, _⟩ ⟨hio, hx.push _⟩ (by simp only; omega) _ ?_
            simp only [hsn, hs2, List.length_append, List.length_singleton, hNN]
            simp (maxSteps := 1000000) (disch := first | omega | (simp (disch := first | omega | (simp only [EnV.len, SpV.len, List.length_append, List.length_cons, List.length_nil, List.length_set]; first | done | omega)) only [EnV.len, SpV.len, amSide, Int.reduceToNat, Nat.reducePow, Nat.reduceMul]; first | done | omega)) only [↓amPre, amPost, ↓s_lit', Nat.reduceAdd, Nat.reduceSub, List.replicate, retA, resultsA, resultA, toC, toCL, Nat.reduceEqDiff, Int.natCast_add, Int.cast_ofNat_Int, dec_t, dec_f]
          · rw [if_neg k2] at hs2
            clear hat0
            simp (maxSteps := 1000000) (disch := first | omega | (simp (disch := first | omega | (simp only [EnV.len, SpV.len, List.length_append, List.length_cons, List.length_nil, List.length_set]; first | done | omega)) only [EnV.len, SpV.len, amSide, Int.reduceToNat, Nat.reducePow, Nat.reduceMul]; first | done | omega)) only  [↓amPre, amPost, ↓s_lit', Nat.reduceAdd, Nat.reduceSub, List.replicate, retA, resultsA, resultA, toC, toCL, Nat.reduceEqDiff, he, (ze68 S.p), (fa68_0 S.p), (fa68_1 S.p), iaddr_sl (un35 S.p) (sz3 S.p), iaddr_sl (un62 S.p) (sz68 S.p), len_sl (un35 S.p), len_nils (un35 S.p), len_sl (un61 S.p), len_nils (un61 S.p), len_sl (un62 S.p), len_nils (un62 S.p), part_sc (ag3 S.p), part_all (ag68 S.p) (sz68 S.p), part_at (ag68 S.p) (sz68 S.p), store_last (sz68 S.p), (sz68 S.p), idx_ok, hc, hpt, hlen3, cells_self, cells_other, gc0, gc1, dec_t, dec_f, beqI_t, beqI_f, bneI_t, bneI_f, Int.toNat_natCast, Nat.zero_add, Nat.mul_one, wrap_i64]
            refine hag ⟨i + 1, _⟩ ⟨hio, hx.push _⟩ (by simp only; omega) _ ?_
            simp only [hsn, hs2]
            simp (maxSteps := 1000000) (disch := first | omega | (simp (disch := first | omega | (simp only [EnV.len, SpV.len, List.length_append, List.length_cons, List.length_nil, List.length_set]; first | done | omega)) only [EnV.len, SpV.len, amSide, Int.reduceToNat, Nat.reducePow, Nat.reduceMul]; first | done | omega)) only [↓amPre, amPost, ↓s_lit', Nat.reduceAdd, Nat.reduceSub, List.replicate, retA, resultsA, resultA, toC, toCL, Nat.reduceEqDiff, Int.natCast_add, Int.cast_ofNat_Int, dec_t, dec_f]
        · rw [if_neg (fun q => k4 q.2.2)] at hsn
          by_cases k2 : x.t = th
          · have hat := hat0 k2
            rw [if_pos k2] at hs2
            have hlt := (List.getElem?_eq_some_iff.1 hat).1
            obtain ⟨b3, rfl, hb3, hc3⟩ := ((hr3.ext hx).at (by omega))
            rw [recs_I1] at hc3
            have hc4 : ((spT th L).map (SV.int .i64))[(spT th (L.take i)).length]? = some (.int .i64 x.n) := by simp [hat]
            generalize hNN : (spT th (L.take i)).length = N at *
            simp (maxSteps := 1000000) (disch := first | omega | (simp (disch := first | omega | (simp only [EnV.len, SpV.len, List.length_append, List.length_cons, List.length_nil, List.length_set]; first | done | omega)) only [EnV.len, SpV.len, amSide, Int.reduceToNat, Nat.reducePow, Nat.reduceMul]; first | done | omega)) only  [↓amPre, amPost, ↓s_lit', Nat.reduceAdd, Nat.reduceSub, List.replicate, retA, resultsA, resultA, toC, toCL, Nat.reduceEqDiff, he, (ze68 S.p), (fa68_0 S.p), (fa68_1 S.p), iaddr_sl (un35 S.p) (sz3 S.p), iaddr_sl (un62 S.p) (sz68 S.p), len_sl (un35 S.p), len_nils (un35 S.p), len_sl (un61 S.p), len_nils (un61 S.p), len_sl (un62 S.p), len_nils (un62 S.p), part_sc (ag3 S.p), part_all (ag68 S.p) (sz68 S.p), part_at (ag68 S.p) (sz68 S.p), store_last (sz68 S.p), (sz68 S.p), idx_ok, hc, hpt, hlen3, cells_self, cells_other, gc0, gc1, hc3, hc4, dec_t, dec_f, beqI_t, beqI_f, bneI_t, bneI_f, Int.toNat_natCast, Nat.zero_add, Nat.mul_one, wrap_i64]
            refine hag ⟨i + 1, _⟩ ⟨hio, hx.push _⟩ (by simp only; omega) _ ?_
            simp only [hsn, hs2, List.length_append, List.length_singleton, hNN]
            simp (maxSteps := 1000000) (disch := first | omega | (simp (disch := first | omega | (simp only [EnV.len, SpV.len, List.length_append, List.length_cons, List.length_nil, List.length_set]; first | done | omega)) only [EnV.len, SpV.len, amSide, Int.reduceToNat, Nat.reducePow, Nat.reduceMul]; first | done | omega)) only [↓amPre, amPost, ↓s_lit', Nat.reduceAdd, Nat.reduceSub, List.replicate, retA, resultsA, resultA, toC, toCL, Nat.reduceEqDiff, Int.natCast_add, Int.cast_ofNat_Int, dec_t, dec_f]
          · rw [if_neg k2] at hs2
            clear hat0
            simp (maxSteps := 1000000) (disch := first | omega | (simp (disch := first | omega | (simp only [EnV.len, SpV.len, List.length_append, List.length_cons, List.length_nil, List.length_set]; first | done | omega)) only [EnV.len, SpV.len, amSide, Int.reduceToNat, Nat.reducePow, Nat.reduceMul]; first | done | omega)) only  [↓amPre, amPost, ↓s_lit', Nat.reduceAdd, Nat.reduceSub, List.replicate, retA, resultsA, resultA, toC, toCL, Nat.reduceEqDiff, he, (ze68 S.p), (fa68_0 S.p), (fa68_1 S.p), iaddr_sl (un35 S.p) (sz3 S.p), iaddr_sl (un62 S.p) (sz68 S.p), len_sl (un35 S.p), len_nils (un35 S.p), len_sl (un61 S.p), len_nils (un61 S.p), len_sl (un62 S.p), len_nils (un62 S.p), part_sc (ag3 S.p), part_all (ag68 S.p) (sz68 S.p), part_at (ag68 S.p) (sz68 S.p), store_last (sz68 S.p), (sz68 S.p), idx_ok, hc, hpt, hlen3, cells_self, cells_other, gc0, gc1, dec_t, dec_f, beqI_t, beqI_f, bneI_t, bneI_f, Int.toNat_natCast, Nat.zero_add, Nat.mul_one, wrap_i64]
            refine hag ⟨i + 1, _⟩ ⟨hio, hx.push _⟩ (by simp only; omega) _ ?_
            simp only [hsn, hs2]
            simp (maxSteps := 1000000) (disch := first | omega | (simp (disch := first | omega | (simp only [EnV.len, SpV.len, List.length_append, List.length_cons, List.length_nil, List.length_set]; first | done | omega)) only [EnV.len, SpV.len, amSide, Int.reduceToNat, Nat.reducePow, Nat.reduceMul]; first | done | omega)) only [↓amPre, amPost, ↓s_lit', Nat.reduceAdd, Nat.reduceSub, List.replicate, retA, resultsA, resultA, toC, toCL, Nat.reduceEqDiff, Int.natCast_add, Int.cast_ofNat_Int, dec_t, dec_f]
      · rw [if_neg (fun q => k3 q.2.1)] at hsn
        by_cases k2 : x.t = th
        · have hat := hat0 k2
          rw [if_pos k2] at hs2
          have hlt := (List.getElem?_eq_some_iff.1 hat).1
          obtain ⟨b3, rfl, hb3, hc3⟩ := ((hr3.ext hx).at (by omega))
          rw [recs_I1] at hc3
          have hc4 : ((spT th L).map (SV.int .i64))[(spT th (L.take i)).length]? = some (.int .i64 x.n) := by simp [hat]
          generalize hNN : (spT th (L.take i)).length = N at *
          simp (maxSteps := 1000000) (disch := first | omega | (simp (disch := first | omega | (simp only [EnV.len, SpV.len, List.length_append, List.length_cons, List.length_nil, List.length_set]; first | done | omega)) only [EnV.len, SpV.len, amSide, Int.reduceToNat, Nat.reducePow, Nat.reduceMul]; first | done | omega)) only  [↓amPre, amPost, ↓s_lit', Nat.reduceAdd, Nat.reduceSub, List.replicate, retA, resultsA, resultA, toC, toCL, Nat.reduceEqDiff, he, (ze68 S.p), (fa68_0 S.p), (fa68_1 S.p), iaddr_sl (un35 S.p) (sz3 S.p), iaddr_sl (un62 S.p) (sz68 S.p), len_sl (un35 S.p), len_nils (un35 S.p), len_sl (un61 S.p), len_nils (un61 S.p), len_sl (un62 S.p), len_nils (un62 S.p), part_sc (ag3 S.p), part_all (ag68 S.p) (sz68 S.p), part_at (ag68 S.p) (sz68 S.p), store_last (sz68 S.p), (sz68 S.p), idx_ok, hc, hpt, hlen3, cells_self, cells_other, gc0, gc1, hc3, hc4, dec_t, dec_f, beqI_t, beqI_f, bneI_t, bneI_f, Int.toNat_natCast, Nat.zero_add, Nat.mul_one, wrap_i64]
          refine hag ⟨i + 1, _⟩ ⟨hio, hx.push _⟩ (by simp only; omega) _ ?_
          simp only [hsn, hs2, List.length_append, List.length_singleton, hNN]
          simp (maxSteps := 1000000) (disch := first | omega | (simp (disch := first | omega | (simp only [EnV.len, SpV.len, List.length_append, List.length_cons, List.length_nil, List.length_set]; first | done | omega)) only [EnV.len, SpV.len, amSide, Int.reduceToNat, Nat.reducePow, Nat.reduceMul]; first | done | omega)) only [↓amPre, amPost, ↓s_lit', Nat.reduceAdd, Nat.reduceSub, List.replicate, retA, resultsA, resultA, toC, toCL, Nat.reduceEqDiff, Int.natCast_add, Int.cast_ofNat_Int, dec_t, dec_f]
        · rw [if_neg k2] at hs2
          clear hat0
          simp (maxSteps := 1000000) (disch := first | omega | (simp (disch := first | omega | (simp only [EnV.len, SpV.len, List.length_append, List.length_cons, List.length_nil, List.length_set]; first | done | omega)) only [EnV.len, SpV.len, amSide, Int.reduceToNat, Nat.reducePow, Nat.reduceMul]; first | done | omega)) only  [↓amPre, amPost, ↓s_lit', Nat.reduceAdd, Nat.reduceSub, List.replicate, retA, resultsA, resultA, toC, toCL, Nat.reduceEqDiff, he, (ze68 S.p), (fa68_0 S.p), (fa68_1 S.p), iaddr_sl (un35 S.p) (sz3 S.p), iaddr_sl (un62 S.p) (sz68 S.p), len_sl (un35 S.p), len_nils (un35 S.p), len_sl (un61 S.p), len_nils (un61 S.p), len_sl (un62 S.p), len_nils (un62 S.p), part_sc (ag3 S.p), part_all (ag68 S.p) (sz68 S.p), part_at (ag68 S.p) (sz68 S.p), store_last (sz68 S.p), (sz68 S.p), idx_ok, hc, hpt, hlen3, cells_self, cells_other, gc0, gc1, dec_t, dec_f, beqI_t, beqI_f, bneI_t, bneI_f, Int.toNat_natCast, Nat.zero_add, Nat.mul_one, wrap_i64]
          refine hag ⟨i + 1, _⟩ ⟨hio, hx.push _⟩ (by simp only; omega) _ ?_
          simp only [hsn, hs2]
          simp (maxSteps := 1000000) (disch := first | omega | (simp (disch := first | omega | (simp only [EnV.len, SpV.len, List.length_append, List.length_cons, List.length_nil, List.length_set]; first | done | omega)) only [EnV.len, SpV.len, amSide, Int.reduceToNat, Nat.reducePow, Nat.reduceMul]; first | done | omega)) only [↓amPre, amPost, ↓s_lit', Nat.reduceAdd, Nat.reduceSub, List.replicate, retA, resultsA, resultA, toC, toCL, Nat.reduceEqDiff, Int.natCast_add, Int.cast_ofNat_Int, dec_t, dec_f]
    · rw [if_neg (fun q => k1 q.1)] at hsn
      by_cases k2 : x.t = th
      · have hat := hat0 k2
        rw [if_pos k2] at hs2
        have hlt := (List.getElem?_eq_some_iff.1 hat).1
        obtain ⟨b3, rfl, hb3, hc3⟩ := ((hr3.ext hx).at (by omega))
        rw [recs_I1] at hc3
        have hc4 : ((spT th L).map (SV.int .i64))[(spT th (L.take i)).length]? = some (.int .i64 x.n) := by simp [hat]
        generalize hNN : (spT th (L.take i)).length = N at *
        simp (maxSteps := 1000000) (disch := first | omega | (simp (disch := first | omega | (simp only [EnV.len, SpV.len, List.length_append, List.length_cons, List.length_nil, List.length_set]; first | done | omega)) only [EnV.len, SpV.len, amSide, Int.reduceToNat, Nat.reducePow, Nat.reduceMul]; first | done | omega)) only  [↓amPre, amPost, ↓s_lit', Nat.reduceAdd, Nat.reduceSub, List.replicate, retA, resultsA, resultA, toC, toCL, Nat.reduceEqDiff, he, (ze68 S.p), (fa68_0 S.p), (fa68_1 S.p), iaddr_sl (un35 S.p) (sz3 S.p), iaddr_sl (un62 S.p) (sz68 S.p), len_sl (un35 S.p), len_nils (un35 S.p), len_sl (un61 S.p), len_nils (un61 S.p), len_sl (un62 S.p), len_nils (un62 S.p), part_sc (ag3 S.p), part_all (ag68 S.p) (sz68 S.p), part_at (ag68 S.p) (sz68 S.p), store_last (sz68 S.p), (sz68 S.p), idx_ok, hc, hpt, hlen3, cells_self, cells_other, gc0, gc1, hc3, hc4, dec_t, dec_f, beqI_t, beqI_f, bneI_t, bneI_f, Int.toNat_natCast, Nat.zero_add, Nat.mul_one, wrap_i64]
        refine hag ⟨i + 1, _⟩ ⟨hio, hx.push _⟩ (by simp only; omega) _ ?_
        simp only [hsn, hs2, List.length_append, List.length_singleton, hNN]
        simp (maxSteps := 1000000) (disch := first | omega | (simp (disch := first | omega | (simp only [EnV.len, SpV.len, List.length_append, List.length_cons, List.length_nil, List.length_set]; first | done | omega)) only [EnV.len, SpV.len, amSide, Int.reduceToNat, Nat.reducePow, Nat.reduceMul]; first | done | omega)) only [↓amPre, amPost, ↓s_lit', Nat.reduceAdd, Nat.reduceSub, List.replicate, retA, resultsA, resultA, toC, toCL, Nat.reduceEqDiff, Int.natCast_add, Int.cast_ofNat_Int, dec_t, dec_f]
      · rw [if_neg k2] at hs2
        clear hat0
        simp (maxSteps := 1000000) (disch := first | omega | (simp (disch := first | omega | (simp only [EnV.len, SpV.len, List.length_append, List.length_cons, List.length_nil, List.length_set]; first | done | omega)) only [EnV.len, SpV.len, amSide, Int.reduceToNat, Nat.reducePow, Nat.reduceMul]; first | done | omega)) only  [↓amPre, amPost, ↓s_lit', Nat.reduceAdd, Nat.reduceSub, List.replicate, retA, resultsA, resultA, toC, toCL, Nat.reduceEqDiff, he, (ze68 S.p), (fa68_0 S.p), (fa68_1 S.p), iaddr_sl (un35 S.p) (sz3 S.p), iaddr_sl (un62 S.p) (sz68 S.p), len_sl (un35 S.p), len_nils (un35 S.p), len_sl (un61 S.p), len_nils (un61 S.p), len_sl (un62 S.p), len_nils (un62 S.p), part_sc (ag3 S.p), part_all (ag68 S.p) (sz68 S.p), part_at (ag68 S.p) (sz68 S.p), store_last (sz68 S.p), (sz68 S.p), idx_ok, hc, hpt, hlen3, cells_self, cells_other, gc0, gc1, dec_t, dec_f, beqI_t, beqI_f, bneI_t, bneI_f, Int.toNat_natCast, Nat.zero_add, Nat.mul_one, wrap_i64]
        refine hag ⟨i + 1, _⟩ ⟨hio, hx.push _⟩ (by simp only; omega) _ ?_
        simp only [hsn, hs2]
        simp (maxSteps := 1000000) (disch := first | omega | (simp (disch := first | omega | (simp only [EnV.len, SpV.len, List.length_append, List.length_cons, List.length_nil, List.length_set]; first | done | omega)) only [EnV.len, SpV.len, amSide, Int.reduceToNat, Nat.reducePow, Nat.reduceMul]; first | done | omega)) only [↓amPre, amPost, ↓s_lit', Nat.reduceAdd, Nat.reduceSub, List.replicate, retA, resultsA, resultA, toC, toCL, Nat.reduceEqDiff, Int.natCast_add, Int.cast_ofNat_Int, dec_t, dec_f]
  · simp only [decide_eq_false_iff_not] at hc1
    obtain rfl : i = L.length := by omega
    rw [List.take_length] at *
    clear hag
    have x0j := x13.trans hx
    obtain ⟨v, h4, e40b, x4, q4, rfl, ho4⟩ := s40 S (show 1 ≤ d by omega) q l (by omega) h.length hj x0j.len (hq.ext x0j)
    have e41 := f41 h4 q4 (ho4.rs (by omega) EnV.len)
    clear f41
    simp (maxSteps := 1000000) (disch := first | omega | (simp (disch := first | omega | (simp only [EnV.len, SpV.len, List.length_append, List.length_cons, List.length_nil, List.length_set]; first | done | omega)) only [EnV.len, SpV.len, amSide, Int.reduceToNat, Nat.reducePow, Nat.reduceMul]; first | done | omega)) only  [↓amPre, amPost, ↓s_lit', Nat.reduceAdd, Nat.reduceSub, List.replicate, retA, resultsA, resultA, toC, toCL, Nat.reduceEqDiff, he, (ze68 S.p), (fa68_0 S.p), (fa68_1 S.p), iaddr_sl (un35 S.p) (sz3 S.p), iaddr_sl (un62 S.p) (sz68 S.p), len_sl (un35 S.p), len_nils (un35 S.p), len_sl (un61 S.p), len_nils (un61 S.p), len_sl (un62 S.p), len_nils (un62 S.p), part_sc (ag3 S.p), part_all (ag68 S.p) (sz68 S.p), part_at (ag68 S.p) (sz68 S.p), store_last (sz68 S.p), (sz68 S.p), e40b, e41, hlen3, f35, beqI_t]
    exact Ends.some rfl
end Go.AM
