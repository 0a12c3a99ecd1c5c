/- Records: the document's stack; the places of an object's records. Conditions: none. -/
import Derived.Test.YtgcgbcdgbfeaaaaRe12
set_option linter.unusedVariables false
set_option linter.unusedSimpArgs false
set_option maxRecDepth 100000
namespace Go.AM
open Go.Proofs
-- LENS: Rec.len, StV.len
/-- The document's stack at r. -/
structure RSt (lo r : Nat) (hh : List AO) (qs : SV) (n : Int) (l : List Rec) : Prop where
  pp : hh[r]? = some (.rw 74 [.int .i64 n, qs])
  q : Own 77 2 lo hh qs (recs Rec.cells l)
  lt : r < lo
theorem RSt.push {lo p : Nat} {hh : List AO} {qs : SV} {n : Int} {l : List Rec} (H : RSt lo p hh qs n l) (o : AO) : RSt lo p (hh ++ [o]) qs n l := by
  have hp := (List.getElem?_eq_some_iff.1 H.pp).1
  exact ⟨by rw [List.getElem?_append_left hp]; exact H.pp, H.q.push o, H.lt⟩
theorem RSt.ext {lo p : Nat} {hh h' : List AO} {qs : SV} {n : Int} {l : List Rec} (H : RSt lo p hh qs n l) (hx : Ext1 hh h') : RSt lo p h' qs n l := ⟨ext1_get hx H.pp, H.q.ext hx, H.lt⟩
theorem RSt.len {P : Program} {T : Tab} {K : Nat} (S : Sd P T K) {lo p : Nat} {hh : List AO} {qs : SV} {n : Int} {l : List Rec} (H : RSt lo p hh qs n l) (h' : List AO) : lenA P h' 72 (.v (.sc qs)) = some (.v (.sc (.int .i64 (l.length : Int)))) :=
  (H.q.rs (by omega) Rec.len).len (un72 S.p) h'
theorem RSt.cell {lo p : Nat} {hh : List AO} {qs : SV} {n : Int} {l : List Rec} (H : RSt lo p hh qs n l) : cellsAt hh p = some [.int .i64 n, qs] := cells_at H.pp
theorem RSt.at {lo p : Nat} {hh : List AO} {qs : SV} {n : Int} {l : List Rec} (H : RSt lo p hh qs n l) {i : Nat} (hi : i < l.length) : ∃ b, qs = .sl b 0 l.length 2 ∧ hh[b]? = some (.rw 77 (recs Rec.cells l)) ∧ lo ≤ b ∧ b < hh.length := by
  rcases H.q with ⟨_, h2⟩ | ⟨b, h1, h2, h3, h4, _⟩
  · have := recs_len Rec.len l
    rw [h2] at this
    simp only [List.length_nil] at this
    omega
  · exact ⟨b, by rw [h3, recs_len Rec.len, Nat.mul_div_cancel _ (by omega)], h4, h1, h2⟩
/-- The places of an object's records, of so many. -/
def ixO (o : Int) (l : List Rec) (n : Nat) : List Int := ((List.range n).filter fun j => decide ((l[j]?).map Rec.o = some o)).map Int.ofNat
theorem ixO_succ (o : Int) {l : List Rec} {i : Nat} {x : Rec} (h : l[i]? = some x) : ixO o l (i + 1) = if x.o = o then ixO o l i ++ [(i : Int)] else ixO o l i := by
  unfold ixO
  rw [List.range_succ, List.filter_append, List.map_append]
  by_cases e : x.o = o
  · rw [if_pos e]; simp [h, e]
  · rw [if_neg e]; simp [h, e]
theorem ixO_len (o : Int) (l : List Rec) : ∀ i, i ≤ l.length → (ixO o l i).length = cntO o ((objI l).take i)
  | 0, _ => by simp [ixO, cntO]
  | i + 1, hi => by
    obtain ⟨x, hx⟩ : ∃ x, l[i]? = some x := ⟨_, List.getElem?_eq_getElem (by omega)⟩
    have hom : (objI l)[i]? = some x.o := by simp [objI, hx]
    rw [ixO_succ o hx, take_snocG (objI l) i x.o hom, cntO_snoc, ← ixO_len o l i (by omega)]
    split <;> simp
theorem ixO_mem (o : Int) (l : List Rec) (n : Nat) (z : Int) : z ∈ ixO o l n ↔ ∃ j x, z = ((j : Nat) : Int) ∧ j < n ∧ l[j]? = some x ∧ x.o = o := by
  unfold ixO
  simp only [List.mem_map, List.mem_filter, List.mem_range, decide_eq_true_eq, Option.map_eq_some_iff]
  constructor
  · rintro ⟨j, ⟨h1, x, h2, h3⟩, rfl⟩; exact ⟨j, x, rfl, h1, h2, h3⟩
  · rintro ⟨j, x, rfl, h1, h2, h3⟩; exact ⟨j, ⟨h1, x, h2, h3⟩, rfl⟩
theorem ixO_inc (o : Int) (l : List Rec) (n : Nat) : (ixO o l n).Pairwise (· < ·) := by
  unfold ixO
  refine List.Pairwise.map (R := fun a b : Nat => a < b) _ (fun a b h => by simp only [Int.ofNat_eq_natCast]; omega) ?_
  exact List.Pairwise.filter _ List.pairwise_lt_range
theorem ixO_first {o : Int} {l : List Rec} {a : Nat} (h : Fst o l (some a)) : (ixO o l l.length)[0]? = some (a : Int) := by
  cases h with
  | some _ x hx ho hb =>
    have hm : ((a : Nat) : Int) ∈ ixO o l l.length := (ixO_mem o l _ _).2 ⟨a, x, rfl, (List.getElem?_eq_some_iff.1 hx).1, hx, ho⟩
    obtain ⟨i, hi, he⟩ := List.getElem_of_mem hm
    have h0 : 0 < (ixO o l l.length).length := by omega
    rw [List.getElem?_eq_getElem h0]
    obtain ⟨j, y, e1, e2, e3, e4⟩ := (ixO_mem o l _ _).1 (List.getElem_mem h0)
    rcases Nat.eq_zero_or_pos i with q | q
    · subst q; rw [he]
    · have := List.pairwise_iff_getElem.1 (ixO_inc o l l.length) 0 i h0 hi q
      rw [he, e1] at this
      exact absurd e4 (hb y (List.mem_take_iff_getElem.2 ⟨j, by omega, (List.getElem?_eq_some_iff.1 e3).2⟩))
theorem ixO_last {o : Int} {l : List Rec} {a : Nat} (h : Last o l (some a)) : 0 < (ixO o l l.length).length ∧ (ixO o l l.length)[(ixO o l l.length).length - 1]? = some (a : Int) := by
  cases h with
  | some _ x hx ho hb =>
    have hm : ((a : Nat) : Int) ∈ ixO o l l.length := (ixO_mem o l _ _).2 ⟨a, x, rfl, (List.getElem?_eq_some_iff.1 hx).1, hx, ho⟩
    obtain ⟨i, hi, he⟩ := List.getElem_of_mem hm
    have h0 : (ixO o l l.length).length - 1 < (ixO o l l.length).length := by omega
    refine ⟨by omega, ?_⟩
    rw [List.getElem?_eq_getElem h0]
    obtain ⟨j, y, e1, e2, e3, e4⟩ := (ixO_mem o l _ _).1 (List.getElem_mem h0)
    by_cases q : i = (ixO o l l.length).length - 1
    · subst q; rw [he]
    · have := List.pairwise_iff_getElem.1 (ixO_inc o l l.length) i _ hi h0 (by omega)
      rw [he, e1] at this
      refine absurd e4 (hb y ?_)
      have : (l.drop (a + 1))[j - (a + 1)]? = some y := by rw [List.getElem?_drop, ← e3]; congr 1; omega
      exact List.mem_of_getElem? this
theorem ixO_none {o : Int} {l : List Rec} (h : Last o l none) : ixO o l l.length = [] := by
  cases h with
  | none h =>
    refine List.eq_nil_iff_forall_not_mem.2 fun z hz => ?_
    obtain ⟨j, x, _, _, h3, h4⟩ := (ixO_mem o l _ _).1 hz
    exact h x (List.mem_of_getElem? h3) h4
theorem fst_none {o : Int} {l : List Rec} (h : Last o l none) : Fst o l none := by
  cases h with
  | none h => exact .none h
theorem fst_some {o : Int} {l : List Rec} {k : Nat} (h : Last o l (some k)) : ∃ a, Fst o l (some a) := by
  obtain ⟨r, hr⟩ := fst_ex o l
  cases hr with
  | none hn => cases h with | some _ x hx ho _ => exact absurd ho (hn x (List.mem_of_getElem? hx))
  | some a x h1 h2 h3 => exact ⟨a, .some a x h1 h2 h3⟩
set_option maxHeartbeats 2000000 in
theorem s72 {P : Program} {T : Tab} {K d : Nat} (S : Sd P T K) (hd : 1 ≤ d) {lo r : Nat} {hh : List AO} {qs : SV} {n : Int} {l : List Rec} (H : RSt lo r hh qs n l) (hl : l.length ≤ 600) (o : Int) (lk : Nat) (hlk : lk ≤ hh.length) :
    Ends (fun v h' => Ext1 hh h' ∧ ∃ q', v = .v (.sc q') ∧ Own 3 1 hh.length h' q' ((ixO o l l.length).map (SV.int .i64))) (ev P T K d 72 [.sc (.ptr r 0), .sc (.int .i64 o)] lk hh) := by
  obtain ⟨d, rfl⟩ : ∃ k, d = k + 1 := ⟨d - 1, by omega⟩
  rw [ev_run (at72 S.t)]
  unfold i72 Try.f72
  have hc := H.cell
  have hll := H.len S
  have hrl := (List.getElem?_eq_some_iff.1 H.pp).1
  simp (maxSteps := 1000000) (disch := first | omega | (simp (disch := first | omega | (simp only [Rec.len, StV.len, List.length_append, List.length_cons, List.length_nil, List.length_set]; first | done | omega)) only [Rec.len, StV.len, amSide, Int.reduceToNat, Nat.reducePow, Nat.reduceMul]; first | done | omega)) only  [↓amPre, amPost, ↓s_lit', Nat.reduceAdd, Nat.reduceSub, List.replicate, retA, resultsA, resultA, toC, toCL, Nat.reduceEqDiff, append_at (un47 S.p) (sz3 S.p) (by3 S.p) (ze3 S.p) (by decide) (by decide) rfl, sl_cells (sz3 S.p), lit_fill (un47 S.p) (sz3 S.p) (ze3 S.p), (fa74_1 S.p), (fa77_0 S.p), iaddr_sl (un72 S.p) (sz77 S.p), len_sl (un72 S.p), len_nils (un72 S.p), part_sc (ag3 S.p), part_sc (ag72 S.p)]
  refine ends_loop (X := AlSt) ⟨0, .nils, hh⟩ [7, 8, 9, 10, 11, 12, 13, 14, 15, 16, 17, 18, 19, 20, 21, 22, 23, 24, 25, 26, 27, 28, 29] (fun x => x.i ≤ l.length ∧ Ext1 hh x.h ∧ Own 3 1 hh.length x.h x.q ((ixO o l x.i).map (SV.int .i64))) (fun x => l.length - x.i)
    (fun x e => (e.set 5 (.v (.sc x.q))).set 6 (.v (.sc (.int .i64 x.i)))) (fun x => x.h)
    (by have := S.k; show _ < K; simp only; omega) ⟨by simp only; omega, Ext1.refl hh, Own.nil _ _ _ _⟩ rfl rfl ?_
  rintro ⟨i, qo, hj⟩ ⟨hi, hx, ho⟩ again hag e he
  simp only at hi hx ho hag he
  simp only [↓amPre, amPost, ↓s_lit', Nat.reduceAdd, Nat.reduceSub, List.replicate, retA, resultsA, resultA, toC, toCL, Nat.reduceEqDiff] at he
  simp only [↓amPre, amPost, ↓s_lit', Nat.reduceAdd, Nat.reduceSub, List.replicate, retA, resultsA, resultA, toC, toCL, Nat.reduceEqDiff, he]
  have hcr : cellsAt hj r = some [.int .i64 n, qs] := by rw [hx.cells hrl]; exact hc
  simp (maxSteps := 1000000) (disch := first | omega | (simp (disch := first | omega | (simp only [Rec.len, StV.len, List.length_append, List.length_cons, List.length_nil, List.length_set]; first | done | omega)) only [Rec.len, StV.len, amSide, Int.reduceToNat, Nat.reducePow, Nat.reduceMul]; first | done | omega)) only  [↓amPre, amPost, ↓s_lit', Nat.reduceAdd, Nat.reduceSub, List.replicate, retA, resultsA, resultA, toC, toCL, Nat.reduceEqDiff, he, append_at (un47 S.p) (sz3 S.p) (by3 S.p) (ze3 S.p) (by decide) (by decide) rfl, sl_cells (sz3 S.p), lit_fill (un47 S.p) (sz3 S.p) (ze3 S.p), (fa74_1 S.p), (fa77_0 S.p), iaddr_sl (un72 S.p) (sz77 S.p), len_sl (un72 S.p), len_nils (un72 S.p), part_sc (ag3 S.p), part_sc (ag72 S.p), hcr, hll, Nat.zero_add]
  by_cases hc1 : i < l.length
  · obtain ⟨b, rfl, hb, _, hbl⟩ := H.at hc1
    obtain ⟨x, hxi⟩ : ∃ x, l[i]? = some x := ⟨_, List.getElem?_eq_getElem hc1⟩
    have hcc : cellsAt hj b = some (recs Rec.cells l) := cells_at (ext1_get hx hb)
    have g0' := recs_get0 Rec.len hxi (by omega)
    rw [Rec.c0] at g0'
    have hle := hx.len
    have hsu := ixO_succ o hxi
    have hil := ixO_len o l i (by omega)
    have hcl := cntO_le o ((objI l).take i)
    have htl := List.length_take_le i (objI l)
    by_cases k1 : x.o = o
    · rw [if_pos k1] at hsu
      obtain ⟨q2, h2, happ, hown, hl2, _, hx2, _⟩ := grow_own (b := 8) (lk := lk) (ho.push (.rw 3 [.int .i64 (i : Nat)])) [.int .i64 (i : Nat)] (by omega) (by simp) (by simp) (by omega) (by simp; omega) (by simp; omega)
      have hx3 := hx2 hh (hx.push (.rw 3 [.int .i64 (i : Nat)])) (Nat.le_refl _)
      have hmm : (ixO o l i).map (SV.int .i64) ++ [.int .i64 (i : Nat)] = (ixO o l (i + 1)).map (SV.int .i64) := by rw [hsu]; simp
      rw [hmm] at hown
      simp (maxSteps := 1000000) (disch := first | omega | (simp (disch := first | omega | (simp only [Rec.len, StV.len, List.length_append, List.length_cons, List.length_nil, List.length_set]; first | done | omega)) only [Rec.len, StV.len, amSide, Int.reduceToNat, Nat.reducePow, Nat.reduceMul]; first | done | omega)) only  [↓amPre, amPost, ↓s_lit', Nat.reduceAdd, Nat.reduceSub, List.replicate, retA, resultsA, resultA, toC, toCL, Nat.reduceEqDiff, he, append_at (un47 S.p) (sz3 S.p) (by3 S.p) (ze3 S.p) (by decide) (by decide) rfl, sl_cells (sz3 S.p), lit_fill (un47 S.p) (sz3 S.p) (ze3 S.p), (fa74_1 S.p), (fa77_0 S.p), iaddr_sl (un72 S.p) (sz77 S.p), len_sl (un72 S.p), len_nils (un72 S.p), part_sc (ag3 S.p), part_sc (ag72 S.p), idx_ok, hcr, hcc, g0', happ, beqI_t, dec_t, cells_self, cells_other, List.flatten_cons, List.flatten_nil, List.append_nil, Nat.zero_mul, Nat.one_mul, Nat.mul_one, Int.toNat_natCast, Nat.zero_add, Nat.add_zero, wrap_i64]
      refine hag ⟨i + 1, q2, h2⟩ ⟨hc1, hx3, hown⟩ (by simp only; omega) _ ?_
      simp (maxSteps := 1000000) (disch := first | omega | (simp (disch := first | omega | (simp only [Rec.len, StV.len, List.length_append, List.length_cons, List.length_nil, List.length_set]; first | done | omega)) only [Rec.len, StV.len, amSide, Int.reduceToNat, Nat.reducePow, Nat.reduceMul]; first | done | omega)) only [↓amPre, amPost, ↓s_lit', Nat.reduceAdd, Nat.reduceSub, List.replicate, retA, resultsA, resultA, toC, toCL, Nat.reduceEqDiff, Int.natCast_add, Int.cast_ofNat_Int, dec_t, dec_f]
    · rw [if_neg k1] at hsu
      simp (maxSteps := 1000000) (disch := first | omega | (simp (disch := first | omega | (simp only [Rec.len, StV.len, List.length_append, List.length_cons, List.length_nil, List.length_set]; first | done | omega)) only [Rec.len, StV.len, amSide, Int.reduceToNat, Nat.reducePow, Nat.reduceMul]; first | done | omega)) only  [↓amPre, amPost, ↓s_lit', Nat.reduceAdd, Nat.reduceSub, List.replicate, retA, resultsA, resultA, toC, toCL, Nat.reduceEqDiff, he, append_at (un47 S.p) (sz3 S.p) (by3 S.p) (ze3 S.p) (by decide) (by decide) rfl, sl_cells (sz3 S.p), lit_fill (un47 S.p) (sz3 S.p) (ze3 S.p), (fa74_1 S.p), (fa77_0 S.p), iaddr_sl (un72 S.p) (sz77 S.p), len_sl (un72 S.p), len_nils (un72 S.p), part_sc (ag3 S.p), part_sc (ag72 S.p), idx_ok, hcr, hcc, g0', beqI_f, dec_t, Nat.mul_one, Int.toNat_natCast, Nat.zero_add, Nat.add_zero, wrap_i64]
      refine hag ⟨i + 1, qo, _⟩ ⟨hc1, hx, by simp only [hsu]; exact ho⟩ (by simp only; omega) _ ?_
      simp (maxSteps := 1000000) (disch := first | omega | (simp (disch := first | omega | (simp only [Rec.len, StV.len, List.length_append, List.length_cons, List.length_nil, List.length_set]; first | done | omega)) only [Rec.len, StV.len, amSide, Int.reduceToNat, Nat.reducePow, Nat.reduceMul]; first | done | omega)) only [↓amPre, amPost, ↓s_lit', Nat.reduceAdd, Nat.reduceSub, List.replicate, retA, resultsA, resultA, toC, toCL, Nat.reduceEqDiff, Int.natCast_add, Int.cast_ofNat_Int, dec_t, dec_f]
  · obtain rfl : i = l.length := by omega
    simp (maxSteps := 1000000) (disch := first | omega | (simp (disch := first | omega | (simp only [Rec.len, StV.len, List.length_append, List.length_cons, List.length_nil, List.length_set]; first | done | omega)) only [Rec.len, StV.len, amSide, Int.reduceToNat, Nat.reducePow, Nat.reduceMul]; first | done | omega)) only  [↓amPre, amPost, ↓s_lit', Nat.reduceAdd, Nat.reduceSub, List.replicate, retA, resultsA, resultA, toC, toCL, Nat.reduceEqDiff, he, append_at (un47 S.p) (sz3 S.p) (by3 S.p) (ze3 S.p) (by decide) (by decide) rfl, sl_cells (sz3 S.p), lit_fill (un47 S.p) (sz3 S.p) (ze3 S.p), (fa74_1 S.p), (fa77_0 S.p), iaddr_sl (un72 S.p) (sz77 S.p), len_sl (un72 S.p), len_nils (un72 S.p), part_sc (ag3 S.p), part_sc (ag72 S.p), dec_f]
    exact Ends.some ⟨hx, qo, rfl, ho⟩
theorem s35 {P : Program} {T : Tab} {K d : Nat} (S : Sd P T K) (hd : 1 ≤ d) (n : Int) (h1 : 1 ≤ n) (h2 : n ≤ 512) (lk : Nat) (h : List AO) (hlk : lk ≤ h.length) :
    ev P T K d 35 [.sc (.int .i64 n)] lk h = some (.tup [.ag [.int .i64 n, .nils], .sc (.int .i64 0)], h ++ [.rw 74 [.int .i64 n, .nils]]) := by
  obtain ⟨d, rfl⟩ : ∃ k, d = k + 1 := ⟨d - 1, by omega⟩
  rw [ev_run (at35 S.t)]
  unfold i35 Try.f35
  simp (maxSteps := 1000000) (disch := first | omega | (simp (disch := first | omega | (simp only [Rec.len, StV.len, List.length_append, List.length_cons, List.length_nil, List.length_set]; first | done | omega)) only [Rec.len, StV.len, amSide, Int.reduceToNat, Nat.reducePow, Nat.reduceMul]; first | done | omega)) only  [↓amPre, amPost, ↓s_lit', Nat.reduceAdd, Nat.reduceSub, List.replicate, retA, resultsA, resultA, toC, toCL, Nat.reduceEqDiff, (ze74 S.p), (bu74 S.p), part_all (ag74 S.p) (sz74 S.p), part_at (ag74 S.p) (sz74 S.p), store_last (sz74 S.p), (sz74 S.p), dec_f, cells_self, splice_def, List.append_nil]
theorem s35f {P : Program} {T : Tab} {K d : Nat} (S : Sd P T K) (hd : 1 ≤ d) (n : Int) (h1 : ¬ (1 ≤ n ∧ n ≤ 512)) (lk : Nat) (h : List AO) (hlk : lk ≤ h.length) :
    ev P T K d 35 [.sc (.int .i64 n)] lk h = some (.tup [.ag [.int .i64 0, .nils], .sc (.int .i64 1)], h ++ [.rw 74 [.int .i64 0, .nils]]) := by
  obtain ⟨d, rfl⟩ : ∃ k, d = k + 1 := ⟨d - 1, by omega⟩
  rw [ev_run (at35 S.t)]
  unfold i35 Try.f35
  by_cases c : n < 1
  · simp (maxSteps := 1000000) (disch := first | omega | (simp (disch := first | omega | (simp only [Rec.len, StV.len, List.length_append, List.length_cons, List.length_nil, List.length_set]; first | done | omega)) only [Rec.len, StV.len, amSide, Int.reduceToNat, Nat.reducePow, Nat.reduceMul]; first | done | omega)) only  [↓amPre, amPost, ↓s_lit', Nat.reduceAdd, Nat.reduceSub, List.replicate, retA, resultsA, resultA, toC, toCL, Nat.reduceEqDiff, (ze74 S.p), (bu74 S.p), part_all (ag74 S.p) (sz74 S.p), part_at (ag74 S.p) (sz74 S.p), store_last (sz74 S.p), (sz74 S.p), dec_t, cells_self, splice_def, List.append_nil]
  · simp (maxSteps := 1000000) (disch := first | omega | (simp (disch := first | omega | (simp only [Rec.len, StV.len, List.length_append, List.length_cons, List.length_nil, List.length_set]; first | done | omega)) only [Rec.len, StV.len, amSide, Int.reduceToNat, Nat.reducePow, Nat.reduceMul]; first | done | omega)) only  [↓amPre, amPost, ↓s_lit', Nat.reduceAdd, Nat.reduceSub, List.replicate, retA, resultsA, resultA, toC, toCL, Nat.reduceEqDiff, (ze74 S.p), (bu74 S.p), part_all (ag74 S.p) (sz74 S.p), part_at (ag74 S.p) (sz74 S.p), store_last (sz74 S.p), (sz74 S.p), dec_t, dec_f, cells_self, splice_def, List.append_nil]
theorem s25f {P : Program} {T : Tab} {K d : Nat} (S : Sd P T K) (hd : 1 ≤ d) (n : Int) (h1 : ¬ (1 ≤ n ∧ n ≤ 512)) (lk : Nat) (h : List AO) :
    ev P T K d 25 [.sc (.int .i64 n)] lk h = some (.tup [.sc .nilp, .sc (.int .i64 1)], h) := by
  obtain ⟨d, rfl⟩ : ∃ k, d = k + 1 := ⟨d - 1, by omega⟩
  rw [ev_run (at25 S.t)]
  unfold i25 Try.f25
  by_cases c : n < 1
  · simp (maxSteps := 1000000) (disch := first | omega | (simp (disch := first | omega | (simp only [Rec.len, StV.len, List.length_append, List.length_cons, List.length_nil, List.length_set]; first | done | omega)) only [Rec.len, StV.len, amSide, Int.reduceToNat, Nat.reducePow, Nat.reduceMul]; first | done | omega)) only  [↓amPre, amPost, ↓s_lit', Nat.reduceAdd, Nat.reduceSub, List.replicate, retA, resultsA, resultA, toC, toCL, Nat.reduceEqDiff, (bu88 S.p), dec_t]
  · simp (maxSteps := 1000000) (disch := first | omega | (simp (disch := first | omega | (simp only [Rec.len, StV.len, List.length_append, List.length_cons, List.length_nil, List.length_set]; first | done | omega)) only [Rec.len, StV.len, amSide, Int.reduceToNat, Nat.reducePow, Nat.reduceMul]; first | done | omega)) only  [↓amPre, amPost, ↓s_lit', Nat.reduceAdd, Nat.reduceSub, List.replicate, retA, resultsA, resultA, toC, toCL, Nat.reduceEqDiff, (bu88 S.p), dec_t, dec_f]
theorem s28f {P : Program} {T : Tab} {K d : Nat} (S : Sd P T K) (hd : 2 ≤ d) {lo p : Nat} {hh : List AO} {qs : SV} {n : Int} {l : List Rec} (H : Stk lo p hh qs n l) (hn : 0 < n) {i : Int} (hi : ¬ (0 ≤ i ∧ i < l.length)) (lk : Nat) :
    ev P T K d 28 [.sc (.ptr p 0), .sc (.int .i64 i)] lk hh = some (.tup [.ag [.int .i64 0, .int .u64 0], .sc (.int .i64 6)], hh) := by
  obtain ⟨d, rfl⟩ : ∃ k, d = k + 1 := ⟨d - 1, by omega⟩
  refine ev_pure (at28 S.t) rfl ?_
  unfold i28 Try.f28
  have H2 := H.push (.rw 62 [.int .i64 0, .int .u64 0])
  have hp := (List.getElem?_eq_some_iff.1 H.pp).1
  have hc := H.cell
  have f65 : ∀ lk, ev P T K d 65 [.sc (.ptr p 0)] lk (hh ++ [.rw 62 [.int .i64 0, .int .u64 0]]) = some (.v (.sc (.bool true)), hh ++ [.rw 62 [.int .i64 0, .int .u64 0]]) := fun lk => by rw [s65 S (by omega) H2 lk, dec_t (show n > 0 by omega)]
  have hll := H.len S
  by_cases c : i < 0
  · simp (maxSteps := 1000000) (disch := first | omega | (simp (disch := first | omega | (simp only [Rec.len, StV.len, List.length_append, List.length_cons, List.length_nil, List.length_set]; first | done | omega)) only [Rec.len, StV.len, amSide, Int.reduceToNat, Nat.reducePow, Nat.reduceMul]; first | done | omega)) only  [↓amPre, amPost, ↓s_lit', Nat.reduceAdd, Nat.reduceSub, List.replicate, retA, resultsA, resultA, toC, toCL, Nat.reduceEqDiff, (ze62 S.p), (bu62 S.p), (fa88_1 S.p), iaddr_sl (un59 S.p) (sz62 S.p), len_sl (un59 S.p), len_nils (un59 S.p), part_sc (ag59 S.p), part_all (ag62 S.p) (sz62 S.p), part_at (ag62 S.p) (sz62 S.p), store_last (sz62 S.p), (sz62 S.p), f65, hc, hll, dec_t, cells_self, cells_other, splice_def, List.append_nil, Nat.zero_add]
    exact Ends.some rfl
  · simp (maxSteps := 1000000) (disch := first | omega | (simp (disch := first | omega | (simp only [Rec.len, StV.len, List.length_append, List.length_cons, List.length_nil, List.length_set]; first | done | omega)) only [Rec.len, StV.len, amSide, Int.reduceToNat, Nat.reducePow, Nat.reduceMul]; first | done | omega)) only  [↓amPre, amPost, ↓s_lit', Nat.reduceAdd, Nat.reduceSub, List.replicate, retA, resultsA, resultA, toC, toCL, Nat.reduceEqDiff, (ze62 S.p), (bu62 S.p), (fa88_1 S.p), iaddr_sl (un59 S.p) (sz62 S.p), len_sl (un59 S.p), len_nils (un59 S.p), part_sc (ag59 S.p), part_all (ag62 S.p) (sz62 S.p), part_at (ag62 S.p) (sz62 S.p), store_last (sz62 S.p), (sz62 S.p), f65, hc, hll, dec_t, dec_f, cells_self, cells_other, splice_def, List.append_nil, Nat.zero_add]
    exact Ends.some rfl
end Go.AM
