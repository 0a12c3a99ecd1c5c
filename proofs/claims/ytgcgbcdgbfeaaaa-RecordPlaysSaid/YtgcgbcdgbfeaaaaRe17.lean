/- Records: both stacks tell the same. Conditions: none. -/
import Derived.Test.YtgcgbcdgbfeaaaaRe16
set_option linter.unusedVariables false
set_option linter.unusedSimpArgs false
set_option maxRecDepth 100000
namespace Go.AM
open Go.Proofs
-- LENS: Rec.len, StV.len
/-- The first and the last place, or none. -/
theorem told_law (o : Int) (l : List Rec) : ∃ a z : Option Nat, Fst o l a ∧ Last o l z ∧
    ((a = none ∧ z = none ∧ ixO o l l.length = []) ∨ ∃ i j : Nat, a = some i ∧ z = some j ∧ 0 < (ixO o l l.length).length ∧ (ixO o l l.length)[0]? = some (i : Int) ∧ (ixO o l l.length)[(ixO o l l.length).length - 1]? = some (j : Int)) := by
  obtain ⟨z, hz⟩ := last_ex o l
  cases z with
  | none => exact ⟨none, none, fst_none hz, hz, .inl ⟨rfl, rfl, ixO_none hz⟩⟩
  | some j =>
    obtain ⟨i, hi⟩ := fst_some hz
    obtain ⟨h1, h2⟩ := ixO_last hz
    exact ⟨some i, some j, hi, hz, .inr ⟨i, j, rfl, rfl, h1, ixO_first hi, h2⟩⟩
/-- Both give the same at any place. -/
theorem get2 {P : Program} {T : Tab} {K d : Nat} (S : Sd P T K) (hd : 2 ≤ d) {lo p r : Nat} {hh : List AO} {qs qr : SV} {n : Int} {l : List Rec} (H : Two lo p r hh qs qr n l) (hn : 0 < n) (m : Int) :
    ∃ (c : Rec) (e : Int), (∀ h', Ext1 hh h' → ∀ lk, ev P T K d 28 [.sc (.ptr p 0), .sc (.int .i64 m)] lk h' = some (.tup [.ag c.cells, .sc (.int .i64 e)], h')) ∧ ∀ h', Ext1 hh h' → ∀ lk, ev P T K d 73 [.sc (.ptr r 0), .sc (.int .i64 m)] lk h' = some (.tup [.ag c.cells, .sc (.int .i64 e)], h') := by
  by_cases hm : 0 ≤ m ∧ m < l.length
  · obtain ⟨i, rfl⟩ := Int.eq_ofNat_of_zero_le hm.1
    obtain ⟨x, hx⟩ : ∃ x, l[i]? = some x := ⟨_, List.getElem?_eq_getElem (by omega)⟩
    exact ⟨x, 0, fun h' hx' lk => s28 S hd (H.ext hx').st hn hx lk, fun h' hx' lk => s73 S (by omega) (H.ext hx').rt hx lk⟩
  · exact ⟨⟨0, 0⟩, 6, fun h' hx' lk => s28f S hd (H.ext hx').st hn hm lk, fun h' hx' lk => s73f S (by omega) (H.ext hx').rt hm lk⟩
structure TdSt where
  z : Int
  h : List AO
set_option maxHeartbeats 16000000 in
theorem s40 {P : Program} {T : Tab} {K d : Nat} (S : Sd P T K) (hd : 5 ≤ d) {lo p r : Nat} {hh : List AO} {qs qr : SV} {n : Int} {l : List Rec} (H : Two lo p r hh qs qr n l) (hn : 0 < n) (hl : l.length ≤ 600) (o : Int) (lk : Nat) :
    ev P T K d 40 [.sc (.ptr p 0), .sc (.ptr r 0), .sc (.int .i64 o)] lk hh = some (.v (.sc (.bool true)), hh) := by
  obtain ⟨d, rfl⟩ : ∃ k, d = k + 1 := ⟨d - 1, by omega⟩
  refine ev_pure (at40 S.t) rfl ?_
  unfold i40 Try.f40
  obtain ⟨a, z, hF, hL, hcase⟩ := told_law o l
  obtain ⟨v, h2, e72, x2, q7, rfl, hix⟩ := s72 S (show 1 ≤ d by omega) H.rt hl o hh.length (Nat.le_refl _)
  have H2 := H.ext x2
  have f33 := fun lk => s33 S (show 3 ≤ d by omega) H2.st hn hl o a hF lk
  have f34 := fun lk => s34 S (show 4 ≤ d by omega) H2.st hn hl o z hL lk
  have f32 := fun lk => s32 S (show 3 ≤ d by omega) H2.st hn hl o lk
  have f27 := fun lk => s27 S (show 3 ≤ d by omega) H2.st hn hl lk
  have hlix := own_len (un47 S.p) hix
  rw [List.length_map] at hlix
  have hil := ixO_len o l l.length (Nat.le_refl _)
  have htk : (objI l).take l.length = objI l := by rw [← objI_len, List.take_length]
  rw [htk] at hil
  rw [← hil] at f32
  have hcr : cellsAt h2 r = some [.int .i64 n, qr] := H2.rt.cell
  have hll := H.rt.len S
  have hl2 := x2.len
  have h000 : decide ((0 : Int) > 0) = false := rfl
  have hm10 : decide ((-1 : Int) ≥ 0) = false := rfl
  rcases hcase with ⟨rfl, rfl, hnil⟩ | ⟨i, j, rfl, rfl, hpos, hfi, hla⟩
  · rw [hnil] at hlix f32
    have h00 : ((([] : List Int).length : Nat) : Int) = 0 := rfl
    rw [h00] at hlix f32
    unfold topV at f33 f34
    simp (maxSteps := 1000000) (disch := first | omega | (simp (disch := first | omega | (simp only [Rec.len, StV.len, List.length_append, List.length_cons, List.length_nil, List.length_set]; first | done | omega)) only [Rec.len, StV.len, amSide, Int.reduceToNat, Nat.reducePow, Nat.reduceMul]; first | done | omega)) only  [↓amPre, amPost, ↓s_lit', Nat.reduceAdd, Nat.reduceSub, List.replicate, retA, resultsA, resultA, toC, toCL, Nat.reduceEqDiff, (ze62 S.p), (ze77 S.p), eql_bool (un4 S.p), neq_bool (un4 S.p), eql_ag, neq_ag, (eq77 S.p), (bu77 S.p), (fa62_0 S.p), (fa62_1 S.p), (fa74_1 S.p), iaddr_sl (un47 S.p) (sz3 S.p), len_sl (un47 S.p), len_nils (un47 S.p), len_sl (un72 S.p), len_nils (un72 S.p), part_sc (ag3 S.p), part_sc (ag39 S.p), part_sc (ag72 S.p), part_all (ag77 S.p) (sz77 S.p), part_at (ag77 S.p) (sz77 S.p), store_last (sz62 S.p), (sz62 S.p), store_last (sz77 S.p), (sz77 S.p), e72, h000, hm10, hlix, f33, f34, f32, f27, hcr, hll, bneI_f, bne_self_eq_false, Nat.zero_add]
    clear f33 f34 f32 f27 e72 hF hL
    refine ends_loop (X := TdSt) ⟨-1, h2⟩ [6, 15, 16, 17, 18, 90, 91, 92, 93, 94, 95, 96, 97, 98, 99, 100, 101, 102, 103, 104, 105, 106, 107, 108, 109, 110, 111, 112, 113, 114, 115, 116, 117, 118, 119, 120, 121, 122] (fun x => -1 ≤ x.z ∧ x.z ≤ (l.length : Int) + 1 ∧ Ext1 h2 x.h) (fun x => ((l.length : Int) + 1 - x.z).toNat)
      (fun x e => e.set 14 (.v (.sc (.int .i64 x.z)))) (fun x => x.h)
      (by have := S.k; show _ < K; simp only; omega) ⟨by simp only; omega, by simp only; omega, Ext1.refl _⟩ rfl rfl ?_
    rintro ⟨m, h3⟩ ⟨hm0, hm, x3⟩ again hag e he
    simp only at hm0 hm x3 hag he
    simp only [↓amPre, amPost, ↓s_lit', Nat.reduceAdd, Nat.reduceSub, List.replicate, retA, resultsA, resultA, toC, toCL, Nat.reduceEqDiff] at he
    simp only [↓amPre, amPost, ↓s_lit', Nat.reduceAdd, Nat.reduceSub, List.replicate, retA, resultsA, resultA, toC, toCL, Nat.reduceEqDiff, he]
    have H3 := H2.ext x3
    have hcr3 : cellsAt h3 r = some [.int .i64 n, qr] := H3.rt.cell
    have hl3 := x3.len
    have hr3 := (List.getElem?_eq_some_iff.1 H3.rt.pp).1
    simp (maxSteps := 1000000) (disch := first | omega | (simp (disch := first | omega | (simp only [Rec.len, StV.len, List.length_append, List.length_cons, List.length_nil, List.length_set]; first | done | omega)) only [Rec.len, StV.len, amSide, Int.reduceToNat, Nat.reducePow, Nat.reduceMul]; first | done | omega)) only  [↓amPre, amPost, ↓s_lit', Nat.reduceAdd, Nat.reduceSub, List.replicate, retA, resultsA, resultA, toC, toCL, Nat.reduceEqDiff, he, (ze62 S.p), (ze77 S.p), eql_bool (un4 S.p), neq_bool (un4 S.p), eql_ag, neq_ag, (eq77 S.p), (bu77 S.p), (fa62_0 S.p), (fa62_1 S.p), (fa74_1 S.p), iaddr_sl (un47 S.p) (sz3 S.p), len_sl (un47 S.p), len_nils (un47 S.p), len_sl (un72 S.p), len_nils (un72 S.p), part_sc (ag3 S.p), part_sc (ag39 S.p), part_sc (ag72 S.p), part_all (ag77 S.p) (sz77 S.p), part_at (ag77 S.p) (sz77 S.p), store_last (sz62 S.p), (sz62 S.p), store_last (sz77 S.p), (sz77 S.p), hcr3, hll, Nat.zero_add]
    by_cases hc1 : m ≤ (l.length : Int)
    · obtain ⟨c, e3, g28, g73⟩ := get2 S (show 2 ≤ d by omega) H3 hn m
      have f28 := fun lk => g28 h3 (Ext1.refl _) lk
      have f73 := fun lk => g73 (h3 ++ [.rw 62 c.cells]) ((Ext1.refl _).push _) lk
      have hreq := rec_eq c
      have c0 := Rec.c0 c
      have c1 := Rec.c1 c
      have hbu : [SV.int .i64 c.o, SV.int .u64 c.s] = c.cells := rfl
      simp (maxSteps := 1000000) (disch := first | omega | (simp (disch := first | omega | (simp only [Rec.len, StV.len, List.length_append, List.length_cons, List.length_nil, List.length_set]; first | done | omega)) only [Rec.len, StV.len, amSide, Int.reduceToNat, Nat.reducePow, Nat.reduceMul]; first | done | omega)) only  [↓amPre, amPost, ↓s_lit', Nat.reduceAdd, Nat.reduceSub, List.replicate, retA, resultsA, resultA, toC, toCL, Nat.reduceEqDiff, he, (ze62 S.p), (ze77 S.p), eql_bool (un4 S.p), neq_bool (un4 S.p), eql_ag, neq_ag, (eq77 S.p), (bu77 S.p), (fa62_0 S.p), (fa62_1 S.p), (fa74_1 S.p), iaddr_sl (un47 S.p) (sz3 S.p), len_sl (un47 S.p), len_nils (un47 S.p), len_sl (un72 S.p), len_nils (un72 S.p), part_sc (ag3 S.p), part_sc (ag39 S.p), part_sc (ag72 S.p), part_all (ag77 S.p) (sz77 S.p), part_at (ag77 S.p) (sz77 S.p), store_last (sz62 S.p), (sz62 S.p), store_last (sz77 S.p), (sz77 S.p), f28, f73, hcr3, hll, dec_t, c0, c1, hbu, hreq, bne_self_eq_false, cells_self, cells_other, wrap_i64, Nat.zero_add]
      refine hag ⟨m + 1, _⟩ ⟨by simp only; omega, by simp only; omega, (x3.push _).push _⟩ (by simp only; omega) _ ?_
      simp (maxSteps := 1000000) (disch := first | omega | (simp (disch := first | omega | (simp only [Rec.len, StV.len, List.length_append, List.length_cons, List.length_nil, List.length_set]; first | done | omega)) only [Rec.len, StV.len, amSide, Int.reduceToNat, Nat.reducePow, Nat.reduceMul]; first | done | omega)) only [↓amPre, amPost, ↓s_lit', Nat.reduceAdd, Nat.reduceSub, List.replicate, retA, resultsA, resultA, toC, toCL, Nat.reduceEqDiff, Int.natCast_add, Int.cast_ofNat_Int, dec_t, dec_f]
    clear hag
    obtain ⟨v, h4, e31, x4, q4, rfl, ht⟩ := s31 S (show 3 ≤ d by omega) H3.st hn hl hh.length (by omega)
    have H4 := H3.ext x4
    have hDl := objsL_len (objI l)
    have hlD := ht.len (un47 S.p)
    have hDm : ∀ (j : Nat) u, (objsL (objI l))[j]? = some u → u ∈ objI l := fun j u hj => ((objsL_facts (objI l)).2 u).1 (List.mem_of_getElem? hj)
    have hDi := (objsL_facts (objI l)).1
    have hsum := sumO_objs (objI l)
    have hol := objI_len l
    generalize hD : objsL (objI l) = D at *
    have hl4 := x4.len
    simp (maxSteps := 1000000) (disch := first | omega | (simp (disch := first | omega | (simp only [Rec.len, StV.len, List.length_append, List.length_cons, List.length_nil, List.length_set]; first | done | omega)) only [Rec.len, StV.len, amSide, Int.reduceToNat, Nat.reducePow, Nat.reduceMul]; first | done | omega)) only  [↓amPre, amPost, ↓s_lit', Nat.reduceAdd, Nat.reduceSub, List.replicate, retA, resultsA, resultA, toC, toCL, Nat.reduceEqDiff, he, (ze62 S.p), (ze77 S.p), eql_bool (un4 S.p), neq_bool (un4 S.p), eql_ag, neq_ag, (eq77 S.p), (bu77 S.p), (fa62_0 S.p), (fa62_1 S.p), (fa74_1 S.p), iaddr_sl (un47 S.p) (sz3 S.p), len_sl (un47 S.p), len_nils (un47 S.p), len_sl (un72 S.p), len_nils (un72 S.p), part_sc (ag3 S.p), part_sc (ag39 S.p), part_sc (ag72 S.p), part_all (ag77 S.p) (sz77 S.p), part_at (ag77 S.p) (sz77 S.p), store_last (sz62 S.p), (sz62 S.p), store_last (sz77 S.p), (sz77 S.p), hcr3, hll, dec_f, e31, hlD, Nat.zero_add]
    refine ends_loop (X := RcB) ⟨0, h4⟩ [6, 20, 21, 128, 129, 130, 131, 132, 133, 134, 135, 136, 137, 138, 139, 140, 141, 142, 143, 144, 145, 146, 147, 148, 149, 150] (fun x => x.i ≤ D.length ∧ Ext1 h4 x.h) (fun x => D.length - x.i)
      (fun x e => e.set 127 (.v (.sc (.int .i64 x.i)))) (fun x => x.h)
      (by have := S.k; show _ < K; simp only; omega) ⟨by simp only; omega, Ext1.refl _⟩ rfl rfl ?_
    rintro ⟨i5, h5⟩ ⟨hi5, x5⟩ again hag e5 he5
    simp only at hi5 x5 hag he5
    simp only [↓amPre, amPost, ↓s_lit', Nat.reduceAdd, Nat.reduceSub, List.replicate, retA, resultsA, resultA, toC, toCL, Nat.reduceEqDiff] at he5
    simp only [↓amPre, amPost, ↓s_lit', Nat.reduceAdd, Nat.reduceSub, List.replicate, retA, resultsA, resultA, toC, toCL, Nat.reduceEqDiff, he5]
    have H5 := H4.ext x5
    have hl5 := x5.len
    refine ends_cond (fun hc2 => ?_) (fun hc2 => ?_)
    · simp only [decide_eq_true_eq] at hc2
      have hio : i5 < D.length := by omega
      obtain ⟨u, hu⟩ : ∃ u, D[i5]? = some u := ⟨_, List.getElem?_eq_getElem hio⟩
      have ht5 := ht.ext x5
      obtain ⟨b, cs, rfl, hbl, hbh, hcs, hco⟩ := ht5.at hu
      obtain ⟨v, h6, e72b, x6, q6, rfl, hi6⟩ := s72 S (show 1 ≤ d by omega) H5.rt hl u hh.length (by omega)
      have hlen6 := own_len (un47 S.p) hi6
      rw [List.length_map, ixO_len u l l.length (Nat.le_refl _), htk] at hlen6
      obtain ⟨_, _, _, _, _, _, _, _, _, hpos6, _⟩ := fst_last (hDm i5 u hu)
      generalize hC6 : cntO u (objI l) = C6 at *
      clear hDm hix
      by_cases hz : i5 = 0
      · simp (maxSteps := 1000000) (disch := first | omega | (simp (disch := first | omega | (simp only [Rec.len, StV.len, List.length_append, List.length_cons, List.length_nil, List.length_set]; first | done | omega)) only [Rec.len, StV.len, amSide, Int.reduceToNat, Nat.reducePow, Nat.reduceMul]; first | done | omega)) only  [↓amPre, amPost, ↓s_lit', Nat.reduceAdd, Nat.reduceSub, List.replicate, retA, resultsA, resultA, toC, toCL, Nat.reduceEqDiff, he5, (ze62 S.p), (ze77 S.p), eql_bool (un4 S.p), neq_bool (un4 S.p), eql_ag, neq_ag, (eq77 S.p), (bu77 S.p), (fa62_0 S.p), (fa62_1 S.p), (fa74_1 S.p), iaddr_sl (un47 S.p) (sz3 S.p), len_sl (un47 S.p), len_nils (un47 S.p), len_sl (un72 S.p), len_nils (un72 S.p), part_sc (ag3 S.p), part_sc (ag39 S.p), part_sc (ag72 S.p), part_all (ag77 S.p) (sz77 S.p), part_at (ag77 S.p) (sz77 S.p), store_last (sz62 S.p), (sz62 S.p), store_last (sz77 S.p), (sz77 S.p), idx_ok, hcs, hco, e72b, hlen6, dec_f, beqI_f, Nat.mul_one, Int.toNat_natCast, Nat.zero_add, wrap_i64]
        refine hag ⟨i5 + 1, h6⟩ ⟨by simp only; omega, x5.trans x6⟩ (by simp only; omega) _ ?_
        simp (maxSteps := 1000000) (disch := first | omega | (simp (disch := first | omega | (simp only [Rec.len, StV.len, List.length_append, List.length_cons, List.length_nil, List.length_set]; first | done | omega)) only [Rec.len, StV.len, amSide, Int.reduceToNat, Nat.reducePow, Nat.reduceMul]; first | done | omega)) only [↓amPre, amPost, ↓s_lit', Nat.reduceAdd, Nat.reduceSub, List.replicate, retA, resultsA, resultA, toC, toCL, Nat.reduceEqDiff, Int.natCast_add, Int.cast_ofNat_Int, dec_t, dec_f]
      · obtain ⟨k5, rfl⟩ : ∃ k, i5 = k + 1 := ⟨i5 - 1, by omega⟩
        obtain ⟨w, hw⟩ : ∃ w, D[k5]? = some w := ⟨_, List.getElem?_eq_getElem (by omega)⟩
        obtain ⟨b', cs', hq', _, _, hcs', hcw⟩ := ht5.at hw
        simp only [SV.sl.injEq] at hq'
        obtain ⟨rfl, _⟩ := hq'
        obtain rfl := Option.some.inj (hcs.symm.trans hcs')
        have hwu : w < u := by
          have := List.pairwise_iff_getElem.1 hDi k5 (k5 + 1) (by omega) hio (by omega)
          rw [(List.getElem?_eq_some_iff.1 hw).2, (List.getElem?_eq_some_iff.1 hu).2] at this
          exact this
        have hk5 : ((k5 + 1 : Nat) : Int) - 1 = (k5 : Int) := by omega
        simp (maxSteps := 1000000) (disch := first | omega | (simp (disch := first | omega | (simp only [Rec.len, StV.len, List.length_append, List.length_cons, List.length_nil, List.length_set]; first | done | omega)) only [Rec.len, StV.len, amSide, Int.reduceToNat, Nat.reducePow, Nat.reduceMul]; first | done | omega)) only  [↓amPre, amPost, ↓s_lit', Nat.reduceAdd, Nat.reduceSub, List.replicate, retA, resultsA, resultA, toC, toCL, Nat.reduceEqDiff, he5, (ze62 S.p), (ze77 S.p), eql_bool (un4 S.p), neq_bool (un4 S.p), eql_ag, neq_ag, (eq77 S.p), (bu77 S.p), (fa62_0 S.p), (fa62_1 S.p), (fa74_1 S.p), iaddr_sl (un47 S.p) (sz3 S.p), len_sl (un47 S.p), len_nils (un47 S.p), len_sl (un72 S.p), len_nils (un72 S.p), part_sc (ag3 S.p), part_sc (ag39 S.p), part_sc (ag72 S.p), part_all (ag77 S.p) (sz77 S.p), part_at (ag77 S.p) (sz77 S.p), store_last (sz62 S.p), (sz62 S.p), store_last (sz77 S.p), (sz77 S.p), idx_ok, hcs, hco, hcw, hk5, e72b, hlen6, dec_f, dec_t, beqI_f, Nat.mul_one, Int.toNat_natCast, Nat.zero_add, wrap_i64]
        refine hag ⟨k5 + 1 + 1, h6⟩ ⟨by simp only; omega, x5.trans x6⟩ (by simp only; omega) _ ?_
        simp (maxSteps := 1000000) (disch := first | omega | (simp (disch := first | omega | (simp only [Rec.len, StV.len, List.length_append, List.length_cons, List.length_nil, List.length_set]; first | done | omega)) only [Rec.len, StV.len, amSide, Int.reduceToNat, Nat.reducePow, Nat.reduceMul]; first | done | omega)) only [↓amPre, amPost, ↓s_lit', Nat.reduceAdd, Nat.reduceSub, List.replicate, retA, resultsA, resultA, toC, toCL, Nat.reduceEqDiff, Int.natCast_add, Int.cast_ofNat_Int, dec_t, dec_f]
    simp only [decide_eq_false_iff_not] at hc2
    obtain rfl : i5 = D.length := by omega
    clear hag hDi
    simp (maxSteps := 1000000) (disch := first | omega | (simp (disch := first | omega | (simp only [Rec.len, StV.len, List.length_append, List.length_cons, List.length_nil, List.length_set]; first | done | omega)) only [Rec.len, StV.len, amSide, Int.reduceToNat, Nat.reducePow, Nat.reduceMul]; first | done | omega)) only  [↓amPre, amPost, ↓s_lit', Nat.reduceAdd, Nat.reduceSub, List.replicate, retA, resultsA, resultA, toC, toCL, Nat.reduceEqDiff, he5, (ze62 S.p), (ze77 S.p), eql_bool (un4 S.p), neq_bool (un4 S.p), eql_ag, neq_ag, (eq77 S.p), (bu77 S.p), (fa62_0 S.p), (fa62_1 S.p), (fa74_1 S.p), iaddr_sl (un47 S.p) (sz3 S.p), len_sl (un47 S.p), len_nils (un47 S.p), len_sl (un72 S.p), len_nils (un72 S.p), part_sc (ag3 S.p), part_sc (ag39 S.p), part_sc (ag72 S.p), part_all (ag77 S.p) (sz77 S.p), part_at (ag77 S.p) (sz77 S.p), store_last (sz62 S.p), (sz62 S.p), store_last (sz77 S.p), (sz77 S.p), hlD]
    refine ends_loop (X := RcB) ⟨0, h5⟩ [24, 154, 155, 156, 157, 158, 159, 160, 161, 162, 163] (fun x => x.i ≤ D.length ∧ Ext1 h5 x.h) (fun x => D.length - x.i)
      (fun x e => (e.set 22 (.v (.sc (.int .i64 (sumO (D.take x.i) (objI l) : Nat))))).set 153 (.v (.sc (.int .i64 x.i)))) (fun x => x.h)
      (by have := S.k; show _ < K; simp only; omega) ⟨by simp only; omega, Ext1.refl _⟩ rfl rfl ?_
    rintro ⟨i7, h7⟩ ⟨hi7, x7⟩ again hag e7 he7
    simp only at hi7 x7 hag he7
    simp only [↓amPre, amPost, ↓s_lit', Nat.reduceAdd, Nat.reduceSub, List.replicate, retA, resultsA, resultA, toC, toCL, Nat.reduceEqDiff] at he7
    simp only [↓amPre, amPost, ↓s_lit', Nat.reduceAdd, Nat.reduceSub, List.replicate, retA, resultsA, resultA, toC, toCL, Nat.reduceEqDiff, he7]
    have H7 := H5.ext x7
    have hl7 := x7.len
    refine ends_cond (fun hc3 => ?_) (fun hc3 => ?_)
    · simp only [decide_eq_true_eq] at hc3
      have hio : i7 < D.length := by omega
      obtain ⟨u, hu⟩ : ∃ u, D[i7]? = some u := ⟨_, List.getElem?_eq_getElem hio⟩
      obtain ⟨b, cs, rfl, hbl, hbh, hcs, hco⟩ := (ht.ext (x5.trans x7)).at hu
      obtain ⟨v, h8, e72c, x8, q8, rfl, hi8⟩ := s72 S (show 1 ≤ d by omega) H7.rt hl u hh.length (by omega)
      have hlen8 := own_len (un47 S.p) hi8
      rw [List.length_map, ixO_len u l l.length (Nat.le_refl _), htk] at hlen8
      have hst' := sumO_take hu (objI l)
      have hsl' := sumO_le D (objI l) (i7 + 1)
      generalize hC8 : cntO u (objI l) = C8 at *
      clear hDm hix
      simp (maxSteps := 1000000) (disch := first | omega | (simp (disch := first | omega | (simp only [Rec.len, StV.len, List.length_append, List.length_cons, List.length_nil, List.length_set]; first | done | omega)) only [Rec.len, StV.len, amSide, Int.reduceToNat, Nat.reducePow, Nat.reduceMul]; first | done | omega)) only  [↓amPre, amPost, ↓s_lit', Nat.reduceAdd, Nat.reduceSub, List.replicate, retA, resultsA, resultA, toC, toCL, Nat.reduceEqDiff, he7, (ze62 S.p), (ze77 S.p), eql_bool (un4 S.p), neq_bool (un4 S.p), eql_ag, neq_ag, (eq77 S.p), (bu77 S.p), (fa62_0 S.p), (fa62_1 S.p), (fa74_1 S.p), iaddr_sl (un47 S.p) (sz3 S.p), len_sl (un47 S.p), len_nils (un47 S.p), len_sl (un72 S.p), len_nils (un72 S.p), part_sc (ag3 S.p), part_sc (ag39 S.p), part_sc (ag72 S.p), part_all (ag77 S.p) (sz77 S.p), part_at (ag77 S.p) (sz77 S.p), store_last (sz62 S.p), (sz62 S.p), store_last (sz77 S.p), (sz77 S.p), idx_ok, hcs, hco, e72c, hlen8, Nat.mul_one, Int.toNat_natCast, Nat.zero_add, wrap_i64]
      refine hag ⟨i7 + 1, h8⟩ ⟨hio, x7.trans x8⟩ (by simp only; omega) _ ?_
      simp only [hst']
      simp (maxSteps := 1000000) (disch := first | omega | (simp (disch := first | omega | (simp only [Rec.len, StV.len, List.length_append, List.length_cons, List.length_nil, List.length_set]; first | done | omega)) only [Rec.len, StV.len, amSide, Int.reduceToNat, Nat.reducePow, Nat.reduceMul]; first | done | omega)) only [↓amPre, amPost, ↓s_lit', Nat.reduceAdd, Nat.reduceSub, List.replicate, retA, resultsA, resultA, toC, toCL, Nat.reduceEqDiff, Int.natCast_add, Int.cast_ofNat_Int, dec_t, dec_f]
    simp only [decide_eq_false_iff_not] at hc3
    obtain rfl : i7 = D.length := by omega
    rw [List.take_length] at *
    have hcr7 : cellsAt h7 r = some [.int .i64 n, qr] := H7.rt.cell
    rw [hsum, hol] at he7
    simp (maxSteps := 1000000) (disch := first | omega | (simp (disch := first | omega | (simp only [Rec.len, StV.len, List.length_append, List.length_cons, List.length_nil, List.length_set]; first | done | omega)) only [Rec.len, StV.len, amSide, Int.reduceToNat, Nat.reducePow, Nat.reduceMul]; first | done | omega)) only  [↓amPre, amPost, ↓s_lit', Nat.reduceAdd, Nat.reduceSub, List.replicate, retA, resultsA, resultA, toC, toCL, Nat.reduceEqDiff, he7, hsum, hol, (ze62 S.p), (ze77 S.p), eql_bool (un4 S.p), neq_bool (un4 S.p), eql_ag, neq_ag, (eq77 S.p), (bu77 S.p), (fa62_0 S.p), (fa62_1 S.p), (fa74_1 S.p), iaddr_sl (un47 S.p) (sz3 S.p), len_sl (un47 S.p), len_nils (un47 S.p), len_sl (un72 S.p), len_nils (un72 S.p), part_sc (ag3 S.p), part_sc (ag39 S.p), part_sc (ag72 S.p), part_all (ag77 S.p) (sz77 S.p), part_at (ag77 S.p) (sz77 S.p), store_last (sz62 S.p), (sz62 S.p), store_last (sz77 S.p), (sz77 S.p), hcr7, hll, beq_self_eq_true, Nat.zero_add]
    exact Ends.some rfl
  · unfold topV at f33 f34
    obtain ⟨bi, rfl, hbi, hci⟩ : ∃ b, q7 = .sl b 0 (ixO o l l.length).length 1 ∧ b < h2.length ∧ cellsAt h2 b = some ((ixO o l l.length).map (SV.int .i64)) := by
      rcases hix with ⟨_, e⟩ | ⟨b, h1, h2, h3, h4, _⟩
      · have : ((ixO o l l.length).map (SV.int .i64)).length = 0 := by rw [e]; rfl
        rw [List.length_map] at this
        omega
      · exact ⟨b, by simpa using h3, h2, cells_at h4⟩
    have hc1 : ((ixO o l l.length).map (SV.int .i64))[0]? = some (.int .i64 (i : Nat)) := by rw [List.getElem?_map, hfi]; rfl
    have hc2 : ((ixO o l l.length).map (SV.int .i64))[(ixO o l l.length).length - 1]? = some (.int .i64 (j : Nat)) := by rw [List.getElem?_map, hla]; rfl
    generalize hN : (ixO o l l.length).length = N at *
    obtain ⟨N, rfl⟩ : ∃ m, N = m + 1 := ⟨N - 1, by omega⟩
    have hNn : ((N + 1 : Nat) : Int) - 1 = (N : Int) := by omega
    have hNs : N + 1 - 1 = N := by omega
    rw [hNs] at hc2
    have hcl := cntO_le o (objI l)
    have hol2 := objI_len l
    simp (maxSteps := 1000000) (disch := first | omega | (simp (disch := first | omega | (simp only [Rec.len, StV.len, List.length_append, List.length_cons, List.length_nil, List.length_set]; first | done | omega)) only [Rec.len, StV.len, amSide, Int.reduceToNat, Nat.reducePow, Nat.reduceMul]; first | done | omega)) only  [↓amPre, amPost, ↓s_lit', Nat.reduceAdd, Nat.reduceSub, List.replicate, retA, resultsA, resultA, toC, toCL, Nat.reduceEqDiff, (ze62 S.p), (ze77 S.p), eql_bool (un4 S.p), neq_bool (un4 S.p), eql_ag, neq_ag, (eq77 S.p), (bu77 S.p), (fa62_0 S.p), (fa62_1 S.p), (fa74_1 S.p), iaddr_sl (un47 S.p) (sz3 S.p), len_sl (un47 S.p), len_nils (un47 S.p), len_sl (un72 S.p), len_nils (un72 S.p), part_sc (ag3 S.p), part_sc (ag39 S.p), part_sc (ag72 S.p), part_all (ag77 S.p) (sz77 S.p), part_at (ag77 S.p) (sz77 S.p), store_last (sz62 S.p), (sz62 S.p), store_last (sz77 S.p), (sz77 S.p), e72, hlix, hN, hNn, hci, hc1, hc2, idx_ok, f33, f34, f32, f27, hcr, hll, dec_t, bneI_f, bne_self_eq_false, wrap_i64, Int.toNat_natCast, Int.reduceToNat, Nat.zero_mul, Nat.mul_one, Nat.zero_add]
    clear f33 f34 f32 f27 e72 hF hL hci hc1 hc2 hla hfi hlix hol2 hcl
    refine ends_loop (X := TdSt) ⟨-1, h2⟩ [6, 15, 16, 17, 18, 90, 91, 92, 93, 94, 95, 96, 97, 98, 99, 100, 101, 102, 103, 104, 105, 106, 107, 108, 109, 110, 111, 112, 113, 114, 115, 116, 117, 118, 119, 120, 121, 122] (fun x => -1 ≤ x.z ∧ x.z ≤ (l.length : Int) + 1 ∧ Ext1 h2 x.h) (fun x => ((l.length : Int) + 1 - x.z).toNat)
      (fun x e => e.set 14 (.v (.sc (.int .i64 x.z)))) (fun x => x.h)
      (by have := S.k; show _ < K; simp only; omega) ⟨by simp only; omega, by simp only; omega, Ext1.refl _⟩ rfl rfl ?_
    rintro ⟨m, h3⟩ ⟨hm0, hm, x3⟩ again hag e he
    simp only at hm0 hm x3 hag he
    simp only [↓amPre, amPost, ↓s_lit', Nat.reduceAdd, Nat.reduceSub, List.replicate, retA, resultsA, resultA, toC, toCL, Nat.reduceEqDiff] at he
    simp only [↓amPre, amPost, ↓s_lit', Nat.reduceAdd, Nat.reduceSub, List.replicate, retA, resultsA, resultA, toC, toCL, Nat.reduceEqDiff, he]
    have H3 := H2.ext x3
    have hcr3 : cellsAt h3 r = some [.int .i64 n, qr] := H3.rt.cell
    have hl3 := x3.len
    have hr3 := (List.getElem?_eq_some_iff.1 H3.rt.pp).1
    simp (maxSteps := 1000000) (disch := first | omega | (simp (disch := first | omega | (simp only [Rec.len, StV.len, List.length_append, List.length_cons, List.length_nil, List.length_set]; first | done | omega)) only [Rec.len, StV.len, amSide, Int.reduceToNat, Nat.reducePow, Nat.reduceMul]; first | done | omega)) only  [↓amPre, amPost, ↓s_lit', Nat.reduceAdd, Nat.reduceSub, List.replicate, retA, resultsA, resultA, toC, toCL, Nat.reduceEqDiff, he, (ze62 S.p), (ze77 S.p), eql_bool (un4 S.p), neq_bool (un4 S.p), eql_ag, neq_ag, (eq77 S.p), (bu77 S.p), (fa62_0 S.p), (fa62_1 S.p), (fa74_1 S.p), iaddr_sl (un47 S.p) (sz3 S.p), len_sl (un47 S.p), len_nils (un47 S.p), len_sl (un72 S.p), len_nils (un72 S.p), part_sc (ag3 S.p), part_sc (ag39 S.p), part_sc (ag72 S.p), part_all (ag77 S.p) (sz77 S.p), part_at (ag77 S.p) (sz77 S.p), store_last (sz62 S.p), (sz62 S.p), store_last (sz77 S.p), (sz77 S.p), hcr3, hll, Nat.zero_add]
    by_cases hc1 : m ≤ (l.length : Int)
    · obtain ⟨c, e3, g28, g73⟩ := get2 S (show 2 ≤ d by omega) H3 hn m
      have f28 := fun lk => g28 h3 (Ext1.refl _) lk
      have f73 := fun lk => g73 (h3 ++ [.rw 62 c.cells]) ((Ext1.refl _).push _) lk
      have hreq := rec_eq c
      have c0 := Rec.c0 c
      have c1 := Rec.c1 c
      have hbu : [SV.int .i64 c.o, SV.int .u64 c.s] = c.cells := rfl
      simp (maxSteps := 1000000) (disch := first | omega | (simp (disch := first | omega | (simp only [Rec.len, StV.len, List.length_append, List.length_cons, List.length_nil, List.length_set]; first | done | omega)) only [Rec.len, StV.len, amSide, Int.reduceToNat, Nat.reducePow, Nat.reduceMul]; first | done | omega)) only  [↓amPre, amPost, ↓s_lit', Nat.reduceAdd, Nat.reduceSub, List.replicate, retA, resultsA, resultA, toC, toCL, Nat.reduceEqDiff, he, (ze62 S.p), (ze77 S.p), eql_bool (un4 S.p), neq_bool (un4 S.p), eql_ag, neq_ag, (eq77 S.p), (bu77 S.p), (fa62_0 S.p), (fa62_1 S.p), (fa74_1 S.p), iaddr_sl (un47 S.p) (sz3 S.p), len_sl (un47 S.p), len_nils (un47 S.p), len_sl (un72 S.p), len_nils (un72 S.p), part_sc (ag3 S.p), part_sc (ag39 S.p), part_sc (ag72 S.p), part_all (ag77 S.p) (sz77 S.p), part_at (ag77 S.p) (sz77 S.p), store_last (sz62 S.p), (sz62 S.p), store_last (sz77 S.p), (sz77 S.p), f28, f73, hcr3, hll, dec_t, c0, c1, hbu, hreq, bne_self_eq_false, cells_self, cells_other, wrap_i64, Nat.zero_add]
      refine hag ⟨m + 1, _⟩ ⟨by simp only; omega, by simp only; omega, (x3.push _).push _⟩ (by simp only; omega) _ ?_
      simp (maxSteps := 1000000) (disch := first | omega | (simp (disch := first | omega | (simp only [Rec.len, StV.len, List.length_append, List.length_cons, List.length_nil, List.length_set]; first | done | omega)) only [Rec.len, StV.len, amSide, Int.reduceToNat, Nat.reducePow, Nat.reduceMul]; first | done | omega)) only [↓amPre, amPost, ↓s_lit', Nat.reduceAdd, Nat.reduceSub, List.replicate, retA, resultsA, resultA, toC, toCL, Nat.reduceEqDiff, Int.natCast_add, Int.cast_ofNat_Int, dec_t, dec_f]
    clear hag
    obtain ⟨v, h4, e31, x4, q4, rfl, ht⟩ := s31 S (show 3 ≤ d by omega) H3.st hn hl hh.length (by omega)
    have H4 := H3.ext x4
    have hDl := objsL_len (objI l)
    have hlD := ht.len (un47 S.p)
    have hDm : ∀ (j : Nat) u, (objsL (objI l))[j]? = some u → u ∈ objI l := fun j u hj => ((objsL_facts (objI l)).2 u).1 (List.mem_of_getElem? hj)
    have hDi := (objsL_facts (objI l)).1
    have hsum := sumO_objs (objI l)
    have hol := objI_len l
    generalize hD : objsL (objI l) = D at *
    have hl4 := x4.len
    simp (maxSteps := 1000000) (disch := first | omega | (simp (disch := first | omega | (simp only [Rec.len, StV.len, List.length_append, List.length_cons, List.length_nil, List.length_set]; first | done | omega)) only [Rec.len, StV.len, amSide, Int.reduceToNat, Nat.reducePow, Nat.reduceMul]; first | done | omega)) only  [↓amPre, amPost, ↓s_lit', Nat.reduceAdd, Nat.reduceSub, List.replicate, retA, resultsA, resultA, toC, toCL, Nat.reduceEqDiff, he, (ze62 S.p), (ze77 S.p), eql_bool (un4 S.p), neq_bool (un4 S.p), eql_ag, neq_ag, (eq77 S.p), (bu77 S.p), (fa62_0 S.p), (fa62_1 S.p), (fa74_1 S.p), iaddr_sl (un47 S.p) (sz3 S.p), len_sl (un47 S.p), len_nils (un47 S.p), len_sl (un72 S.p), len_nils (un72 S.p), part_sc (ag3 S.p), part_sc (ag39 S.p), part_sc (ag72 S.p), part_all (ag77 S.p) (sz77 S.p), part_at (ag77 S.p) (sz77 S.p), store_last (sz62 S.p), (sz62 S.p), store_last (sz77 S.p), (sz77 S.p), hcr3, hll, dec_f, e31, hlD, Nat.zero_add]
    refine ends_loop (X := RcB) ⟨0, h4⟩ [6, 20, 21, 128, 129, 130, 131, 132, 133, 134, 135, 136, 137, 138, 139, 140, 141, 142, 143, 144, 145, 146, 147, 148, 149, 150] (fun x => x.i ≤ D.length ∧ Ext1 h4 x.h) (fun x => D.length - x.i)
      (fun x e => e.set 127 (.v (.sc (.int .i64 x.i)))) (fun x => x.h)
      (by have := S.k; show _ < K; simp only; omega) ⟨by simp only; omega, Ext1.refl _⟩ rfl rfl ?_
    rintro ⟨i5, h5⟩ ⟨hi5, x5⟩ again hag e5 he5
    simp only at hi5 x5 hag he5
    simp only [↓amPre, amPost, ↓s_lit', Nat.reduceAdd, Nat.reduceSub, List.replicate, retA, resultsA, resultA, toC, toCL, Nat.reduceEqDiff] at he5
    simp only [↓amPre, amPost, ↓s_lit', Nat.reduceAdd, Nat.reduceSub, List.replicate, retA, resultsA, resultA, toC, toCL, Nat.reduceEqDiff, he5]
    have H5 := H4.ext x5
    have hl5 := x5.len
    refine ends_cond (fun hc2 => ?_) (fun hc2 => ?_)
    · simp only [decide_eq_true_eq] at hc2
      have hio : i5 < D.length := by omega
      obtain ⟨u, hu⟩ : ∃ u, D[i5]? = some u := ⟨_, List.getElem?_eq_getElem hio⟩
      have ht5 := ht.ext x5
      obtain ⟨b, cs, rfl, hbl, hbh, hcs, hco⟩ := ht5.at hu
      obtain ⟨v, h6, e72b, x6, q6, rfl, hi6⟩ := s72 S (show 1 ≤ d by omega) H5.rt hl u hh.length (by omega)
      have hlen6 := own_len (un47 S.p) hi6
      rw [List.length_map, ixO_len u l l.length (Nat.le_refl _), htk] at hlen6
      obtain ⟨_, _, _, _, _, _, _, _, _, hpos6, _⟩ := fst_last (hDm i5 u hu)
      generalize hC6 : cntO u (objI l) = C6 at *
      clear hDm hix
      by_cases hz : i5 = 0
      · simp (maxSteps := 1000000) (disch := first | omega | (simp (disch := first | omega | (simp only [Rec.len, StV.len, List.length_append, List.length_cons, List.length_nil, List.length_set]; first | done | omega)) only [Rec.len, StV.len, amSide, Int.reduceToNat, Nat.reducePow, Nat.reduceMul]; first | done | omega)) only  [↓amPre, amPost, ↓s_lit', Nat.reduceAdd, Nat.reduceSub, List.replicate, retA, resultsA, resultA, toC, toCL, Nat.reduceEqDiff, he5, (ze62 S.p), (ze77 S.p), eql_bool (un4 S.p), neq_bool (un4 S.p), eql_ag, neq_ag, (eq77 S.p), (bu77 S.p), (fa62_0 S.p), (fa62_1 S.p), (fa74_1 S.p), iaddr_sl (un47 S.p) (sz3 S.p), len_sl (un47 S.p), len_nils (un47 S.p), len_sl (un72 S.p), len_nils (un72 S.p), part_sc (ag3 S.p), part_sc (ag39 S.p), part_sc (ag72 S.p), part_all (ag77 S.p) (sz77 S.p), part_at (ag77 S.p) (sz77 S.p), store_last (sz62 S.p), (sz62 S.p), store_last (sz77 S.p), (sz77 S.p), idx_ok, hcs, hco, e72b, hlen6, dec_f, beqI_f, Nat.mul_one, Int.toNat_natCast, Nat.zero_add, wrap_i64]
        refine hag ⟨i5 + 1, h6⟩ ⟨by simp only; omega, x5.trans x6⟩ (by simp only; omega) _ ?_
        simp (maxSteps := 1000000) (disch := first | omega | (simp (disch := first | omega | (simp only [Rec.len, StV.len, List.length_append, List.length_cons, List.length_nil, List.length_set]; first | done | omega)) only [Rec.len, StV.len, amSide, Int.reduceToNat, Nat.reducePow, Nat.reduceMul]; first | done | omega)) only [↓amPre, amPost, ↓s_lit', Nat.reduceAdd, Nat.reduceSub, List.replicate, retA, resultsA, resultA, toC, toCL, Nat.reduceEqDiff, Int.natCast_add, Int.cast_ofNat_Int, dec_t, dec_f]
      · obtain ⟨k5, rfl⟩ : ∃ k, i5 = k + 1 := ⟨i5 - 1, by omega⟩
        obtain ⟨w, hw⟩ : ∃ w, D[k5]? = some w := ⟨_, List.getElem?_eq_getElem (by omega)⟩
        obtain ⟨b', cs', hq', _, _, hcs', hcw⟩ := ht5.at hw
        simp only [SV.sl.injEq] at hq'
        obtain ⟨rfl, _⟩ := hq'
        obtain rfl := Option.some.inj (hcs.symm.trans hcs')
        have hwu : w < u := by
          have := List.pairwise_iff_getElem.1 hDi k5 (k5 + 1) (by omega) hio (by omega)
          rw [(List.getElem?_eq_some_iff.1 hw).2, (List.getElem?_eq_some_iff.1 hu).2] at this
          exact this
        have hk5 : ((k5 + 1 : Nat) : Int) - 1 = (k5 : Int) := by omega
        simp (maxSteps := 1000000) (disch := first | omega | (simp (disch := first | omega | (simp only [Rec.len, StV.len, List.length_append, List.length_cons, List.length_nil, List.length_set]; first | done | omega)) only [Rec.len, StV.len, amSide, Int.reduceToNat, Nat.reducePow, Nat.reduceMul]; first | done | omega)) only  [↓amPre, amPost, ↓s_lit', Nat.reduceAdd, Nat.reduceSub, List.replicate, retA, resultsA, resultA, toC, toCL, Nat.reduceEqDiff, he5, (ze62 S.p), (ze77 S.p), eql_bool (un4 S.p), neq_bool (un4 S.p), eql_ag, neq_ag, (eq77 S.p), (bu77 S.p), (fa62_0 S.p), (fa62_1 S.p), (fa74_1 S.p), iaddr_sl (un47 S.p) (sz3 S.p), len_sl (un47 S.p), len_nils (un47 S.p), len_sl (un72 S.p), len_nils (un72 S.p), part_sc (ag3 S.p), part_sc (ag39 S.p), part_sc (ag72 S.p), part_all (ag77 S.p) (sz77 S.p), part_at (ag77 S.p) (sz77 S.p), store_last (sz62 S.p), (sz62 S.p), store_last (sz77 S.p), (sz77 S.p), idx_ok, hcs, hco, hcw, hk5, e72b, hlen6, dec_f, dec_t, beqI_f, Nat.mul_one, Int.toNat_natCast, Nat.zero_add, wrap_i64]
        refine hag ⟨k5 + 1 + 1, h6⟩ ⟨by simp only; omega, x5.trans x6⟩ (by simp only; omega) _ ?_
        simp (maxSteps := 1000000) (disch := first | omega | (simp (disch := first | omega | (simp only [Rec.len, StV.len, List.length_append, List.length_cons, List.length_nil, List.length_set]; first | done | omega)) only [Rec.len, StV.len, amSide, Int.reduceToNat, Nat.reducePow, Nat.reduceMul]; first | done | omega)) only [↓amPre, amPost, ↓s_lit', Nat.reduceAdd, Nat.reduceSub, List.replicate, retA, resultsA, resultA, toC, toCL, Nat.reduceEqDiff, Int.natCast_add, Int.cast_ofNat_Int, dec_t, dec_f]
    simp only [decide_eq_false_iff_not] at hc2
    obtain rfl : i5 = D.length := by omega
    clear hag hDi
    simp (maxSteps := 1000000) (disch := first | omega | (simp (disch := first | omega | (simp only [Rec.len, StV.len, List.length_append, List.length_cons, List.length_nil, List.length_set]; first | done | omega)) only [Rec.len, StV.len, amSide, Int.reduceToNat, Nat.reducePow, Nat.reduceMul]; first | done | omega)) only  [↓amPre, amPost, ↓s_lit', Nat.reduceAdd, Nat.reduceSub, List.replicate, retA, resultsA, resultA, toC, toCL, Nat.reduceEqDiff, he5, (ze62 S.p), (ze77 S.p), eql_bool (un4 S.p), neq_bool (un4 S.p), eql_ag, neq_ag, (eq77 S.p), (bu77 S.p), (fa62_0 S.p), (fa62_1 S.p), (fa74_1 S.p), iaddr_sl (un47 S.p) (sz3 S.p), len_sl (un47 S.p), len_nils (un47 S.p), len_sl (un72 S.p), len_nils (un72 S.p), part_sc (ag3 S.p), part_sc (ag39 S.p), part_sc (ag72 S.p), part_all (ag77 S.p) (sz77 S.p), part_at (ag77 S.p) (sz77 S.p), store_last (sz62 S.p), (sz62 S.p), store_last (sz77 S.p), (sz77 S.p), hlD]
    refine ends_loop (X := RcB) ⟨0, h5⟩ [24, 154, 155, 156, 157, 158, 159, 160, 161, 162, 163] (fun x => x.i ≤ D.length ∧ Ext1 h5 x.h) (fun x => D.length - x.i)
      (fun x e => (e.set 22 (.v (.sc (.int .i64 (sumO (D.take x.i) (objI l) : Nat))))).set 153 (.v (.sc (.int .i64 x.i)))) (fun x => x.h)
      (by have := S.k; show _ < K; simp only; omega) ⟨by simp only; omega, Ext1.refl _⟩ rfl rfl ?_
    rintro ⟨i7, h7⟩ ⟨hi7, x7⟩ again hag e7 he7
    simp only at hi7 x7 hag he7
    simp only [↓amPre, amPost, ↓s_lit', Nat.reduceAdd, Nat.reduceSub, List.replicate, retA, resultsA, resultA, toC, toCL, Nat.reduceEqDiff] at he7
    simp only [↓amPre, amPost, ↓s_lit', Nat.reduceAdd, Nat.reduceSub, List.replicate, retA, resultsA, resultA, toC, toCL, Nat.reduceEqDiff, he7]
    have H7 := H5.ext x7
    have hl7 := x7.len
    refine ends_cond (fun hc3 => ?_) (fun hc3 => ?_)
    · simp only [decide_eq_true_eq] at hc3
      have hio : i7 < D.length := by omega
      obtain ⟨u, hu⟩ : ∃ u, D[i7]? = some u := ⟨_, List.getElem?_eq_getElem hio⟩
      obtain ⟨b, cs, rfl, hbl, hbh, hcs, hco⟩ := (ht.ext (x5.trans x7)).at hu
      obtain ⟨v, h8, e72c, x8, q8, rfl, hi8⟩ := s72 S (show 1 ≤ d by omega) H7.rt hl u hh.length (by omega)
      have hlen8 := own_len (un47 S.p) hi8
      rw [List.length_map, ixO_len u l l.length (Nat.le_refl _), htk] at hlen8
      have hst' := sumO_take hu (objI l)
      have hsl' := sumO_le D (objI l) (i7 + 1)
      generalize hC8 : cntO u (objI l) = C8 at *
      clear hDm hix
      simp (maxSteps := 1000000) (disch := first | omega | (simp (disch := first | omega | (simp only [Rec.len, StV.len, List.length_append, List.length_cons, List.length_nil, List.length_set]; first | done | omega)) only [Rec.len, StV.len, amSide, Int.reduceToNat, Nat.reducePow, Nat.reduceMul]; first | done | omega)) only  [↓amPre, amPost, ↓s_lit', Nat.reduceAdd, Nat.reduceSub, List.replicate, retA, resultsA, resultA, toC, toCL, Nat.reduceEqDiff, he7, (ze62 S.p), (ze77 S.p), eql_bool (un4 S.p), neq_bool (un4 S.p), eql_ag, neq_ag, (eq77 S.p), (bu77 S.p), (fa62_0 S.p), (fa62_1 S.p), (fa74_1 S.p), iaddr_sl (un47 S.p) (sz3 S.p), len_sl (un47 S.p), len_nils (un47 S.p), len_sl (un72 S.p), len_nils (un72 S.p), part_sc (ag3 S.p), part_sc (ag39 S.p), part_sc (ag72 S.p), part_all (ag77 S.p) (sz77 S.p), part_at (ag77 S.p) (sz77 S.p), store_last (sz62 S.p), (sz62 S.p), store_last (sz77 S.p), (sz77 S.p), idx_ok, hcs, hco, e72c, hlen8, Nat.mul_one, Int.toNat_natCast, Nat.zero_add, wrap_i64]
      refine hag ⟨i7 + 1, h8⟩ ⟨hio, x7.trans x8⟩ (by simp only; omega) _ ?_
      simp only [hst']
      simp (maxSteps := 1000000) (disch := first | omega | (simp (disch := first | omega | (simp only [Rec.len, StV.len, List.length_append, List.length_cons, List.length_nil, List.length_set]; first | done | omega)) only [Rec.len, StV.len, amSide, Int.reduceToNat, Nat.reducePow, Nat.reduceMul]; first | done | omega)) only [↓amPre, amPost, ↓s_lit', Nat.reduceAdd, Nat.reduceSub, List.replicate, retA, resultsA, resultA, toC, toCL, Nat.reduceEqDiff, Int.natCast_add, Int.cast_ofNat_Int, dec_t, dec_f]
    simp only [decide_eq_false_iff_not] at hc3
    obtain rfl : i7 = D.length := by omega
    rw [List.take_length] at *
    have hcr7 : cellsAt h7 r = some [.int .i64 n, qr] := H7.rt.cell
    rw [hsum, hol] at he7
    simp (maxSteps := 1000000) (disch := first | omega | (simp (disch := first | omega | (simp only [Rec.len, StV.len, List.length_append, List.length_cons, List.length_nil, List.length_set]; first | done | omega)) only [Rec.len, StV.len, amSide, Int.reduceToNat, Nat.reducePow, Nat.reduceMul]; first | done | omega)) only  [↓amPre, amPost, ↓s_lit', Nat.reduceAdd, Nat.reduceSub, List.replicate, retA, resultsA, resultA, toC, toCL, Nat.reduceEqDiff, he7, hsum, hol, (ze62 S.p), (ze77 S.p), eql_bool (un4 S.p), neq_bool (un4 S.p), eql_ag, neq_ag, (eq77 S.p), (bu77 S.p), (fa62_0 S.p), (fa62_1 S.p), (fa74_1 S.p), iaddr_sl (un47 S.p) (sz3 S.p), len_sl (un47 S.p), len_nils (un47 S.p), len_sl (un72 S.p), len_nils (un72 S.p), part_sc (ag3 S.p), part_sc (ag39 S.p), part_sc (ag72 S.p), part_all (ag77 S.p) (sz77 S.p), part_at (ag77 S.p) (sz77 S.p), store_last (sz62 S.p), (sz62 S.p), store_last (sz77 S.p), (sz77 S.p), hcr7, hll, beq_self_eq_true, Nat.zero_add]
    exact Ends.some rfl
end Go.AM
