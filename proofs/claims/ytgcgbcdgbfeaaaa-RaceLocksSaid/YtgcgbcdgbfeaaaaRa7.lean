/- Races: the first race; too many; the probe. Conditions: none. -/
import Derived.Test.YtgcgbcdgbfeaaaaRa6
set_option linter.unusedVariables false
set_option linter.unusedSimpArgs false
set_option maxRecDepth 100000
namespace Go.AM
open Go.Proofs
-- LENS: freeL_ck, ck_len, AcV.len, AcV.hk, PrV.len, StV.len
theorem s14 {P : Program} {T : Tab} {K d : Nat} (S : Sd P T K) (hd : 1 ≤ d) (q : SV) (l : List AcV) (lk : Nat) (h : List AO) (hq : Rs AcV.cells 12 h q l) :
    ev P T K d 14 [.sc q] lk h = some (.v (.sc (.bool (decide (40 < l.length)))), h) := by
  obtain ⟨d, rfl⟩ : ∃ k, d = k + 1 := ⟨d - 1, by omega⟩
  refine ev_pure (at14 S.t) rfl ?_
  unfold i14 Try.f14
  have hlen := hq.len (un22 S.p)
  by_cases hc : 40 < l.length
  · rw [dec_t hc]
    simp (maxSteps := 1000000) (disch := first | omega | (simp (disch := first | omega | (simp only [freeL_ck, ck_len, AcV.len, AcV.hk, PrV.len, StV.len, List.length_append, List.length_cons, List.length_nil, List.length_set]; first | done | omega)) only [freeL_ck, ck_len, AcV.len, AcV.hk, PrV.len, StV.len, amSide, Int.reduceToNat, Nat.reducePow, Nat.reduceMul]; first | done | omega)) only  [↓amPre, amPost, ↓s_lit', Nat.reduceAdd, Nat.reduceSub, List.replicate, retA, resultsA, resultA, toC, toCL, Nat.reduceEqDiff, len_sl (un22 S.p), len_nils (un22 S.p), hlen, dec_t, dec_f]
    exact Ends.some rfl
  · rw [dec_f hc]
    simp (maxSteps := 1000000) (disch := first | omega | (simp (disch := first | omega | (simp only [freeL_ck, ck_len, AcV.len, AcV.hk, PrV.len, StV.len, List.length_append, List.length_cons, List.length_nil, List.length_set]; first | done | omega)) only [freeL_ck, ck_len, AcV.len, AcV.hk, PrV.len, StV.len, amSide, Int.reduceToNat, Nat.reducePow, Nat.reduceMul]; first | done | omega)) only  [↓amPre, amPost, ↓s_lit', Nat.reduceAdd, Nat.reduceSub, List.replicate, retA, resultsA, resultA, toC, toCL, Nat.reduceEqDiff, len_sl (un22 S.p), len_nils (un22 S.p), hlen, dec_t, dec_f]
    exact Ends.some rfl
theorem storeH {P : Program} {t : TypeId} {n : Nat} (hs : szT P t = some n) {h : List AO} {l lk : Nat} {cs : List SV} (g : h[l]? = some (.rw t cs)) (hk : lk ≤ l) (c : List SV) (hc : c.length = n) (hcs : cs.length = n) :
    storeA P h lk t (.v (.sc (.ptr l 0))) (.v (.ag c)) = some (h.set l (.rw t c)) ∧ cellsAt (h.set l (.rw t c)) l = some c := by
  refine ⟨?_, ?_⟩
  · rw [store_at (c := .ag c) (o := 0) g hk hs hc (by omega)]
    show some (h.set l (AO.rw t (splice cs 0 c))) = _
    unfold splice
    rw [List.take_zero, List.nil_append, List.drop_eq_nil_of_le (by omega), List.append_nil]
  · have hl : l < h.length := (List.getElem?_eq_some_iff.1 g).1
    unfold cellsAt
    rw [List.getElem?_set_self hl]
theorem part_self {P : Program} {t : TypeId} {n : Nat} (ha : aggT P t = some true) (hs : szT P t = some n) (c : List SV) (hc : c.length = n) : partA P t c 0 = some (.ag c) := by
  rw [part_ag ha hs, if_pos (by omega), List.drop_zero, List.take_of_length_le (by omega)]
/-- The first race. -/
def firP (l : List AcV) : PrV := (allP l l.length).headD ⟨0, 0⟩
theorem PrV.fr (x : PrV) (b : Bool) : (freeA (.tup [.ag x.cells, .sc (.bool b)])).isSome = true := nrfl rfl
set_option maxHeartbeats 4000000 in
theorem s19 {P : Program} {T : Tab} {K d : Nat} (S : Sd P T K) (hd : 6 ≤ d) (q : SV) (l : List AcV) (hl : l.length ≤ 300) (lk : Nat) (h : List AO) (hq : Rs AcV.cells 12 h q l) :
    ev P T K d 19 [.sc q] lk h = some (.tup [.ag (firP l).cells, .sc (.bool (decide (0 < (allP l l.length).length)))], h) := by
  obtain ⟨d, rfl⟩ : ∃ k, d = k + 1 := ⟨d - 1, by omega⟩
  refine ev_pure (at19 S.t) (PrV.fr _ _) ?_
  unfold i19 Try.f19
  obtain ⟨v1, h1, e1, hx1, q', rfl, hown⟩ := s16 S (show 5 ≤ d by omega) q l hl h.length (h ++ [.rw 32 [.int .i64 0, .int .i64 0]]) (by simp) (hq.ext ((Ext1.refl h).push _))
  have hall := allP_len l l.length
  have hii : l.length * l.length ≤ 300 * 300 := Nat.mul_le_mul hl hl
  have hrs := hown.rs (by omega) PrV.len
  have hlen := hrs.len (un25 S.p)
  have g0 : h1[h.length]? = some (AO.rw 32 [.int .i64 0, .int .i64 0]) := ext1_get hx1 (by simp)
  have hln := hx1.len
  simp only [List.length_append, List.length_singleton] at hln
  simp (maxSteps := 1000000) (disch := first | omega | (simp (disch := first | omega | (simp only [freeL_ck, ck_len, AcV.len, AcV.hk, PrV.len, StV.len, List.length_append, List.length_cons, List.length_nil, List.length_set]; first | done | omega)) only [freeL_ck, ck_len, AcV.len, AcV.hk, PrV.len, StV.len, amSide, Int.reduceToNat, Nat.reducePow, Nat.reduceMul]; first | done | omega)) only  [↓amPre, amPost, ↓s_lit', Nat.reduceAdd, Nat.reduceSub, List.replicate, retA, resultsA, resultA, toC, toCL, Nat.reduceEqDiff, (ze32 S.p), (bu32 S.p), iaddr_sl (un25 S.p) (sz32 S.p), len_sl (un25 S.p), len_nils (un25 S.p), part_all (ag32 S.p) (sz32 S.p), part_at (ag32 S.p) (sz32 S.p), store_last (sz32 S.p), (sz32 S.p), e1, hlen]
  refine ends_loop (X := ThA) ⟨0, q', h1⟩ [3, 5, 10, 11, 12, 13, 14] (fun x => x.i = 0 ∧ x.h = h1) (fun x => 0)
    (fun x e => e) (fun x => x.h)
    (by have := S.k; show _ < K; omega) ⟨rfl, rfl⟩ rfl rfl ?_
  rintro ⟨i, qo, hj⟩ ⟨hi, hx⟩ again hag e he
  obtain rfl : i = 0 := hi
  obtain rfl : hj = h1 := hx
  clear hag
  simp only [↓amPre, amPost, ↓s_lit', Nat.reduceAdd, Nat.reduceSub, List.replicate, retA, resultsA, resultA, toC, toCL, Nat.reduceEqDiff] at he
  simp only [↓amPre, amPost, ↓s_lit', Nat.reduceAdd, Nat.reduceSub, List.replicate, retA, resultsA, resultA, toC, toCL, Nat.reduceEqDiff, he]
  refine ends_cond (fun hc1 => ?_) (fun hc1 => ?_)
  · simp only [decide_eq_true_eq] at hc1
    obtain ⟨b, rfl, hb, hc⟩ := hrs.at (by omega)
    obtain ⟨y, hy⟩ : ∃ y, (allP l l.length)[0]? = some y := ⟨_, List.getElem?_eq_getElem (by omega)⟩
    have hpt := recs_part (ag32 S.p) (sz32 S.p) PrV.len hy
    rw [Nat.zero_mul] at hpt
    have hf : firP l = y := by
      unfold firP
      cases hA : allP l l.length with
      | nil => rw [hA] at hy; cases hy
      | cons a t => rw [hA] at hy; exact Option.some.inj hy
    rw [hf, dec_t (show 0 < (allP l l.length).length by omega)]
    have g1 : (hj ++ [AO.rw 32 y.cells])[h.length]? = some (AO.rw 32 [SV.int .i64 0, .int .i64 0]) := by rw [List.getElem?_append_left (by omega)]; exact g0
    obtain ⟨k1, k2⟩ := storeH (sz32 S.p) g1 (Nat.le_refl _) y.cells (PrV.len y) rfl
    have k3 := part_self (ag32 S.p) (sz32 S.p) y.cells (PrV.len y)
    simp (maxSteps := 1000000) (disch := first | omega | (simp (disch := first | omega | (simp only [freeL_ck, ck_len, AcV.len, AcV.hk, PrV.len, StV.len, List.length_append, List.length_cons, List.length_nil, List.length_set]; first | done | omega)) only [freeL_ck, ck_len, AcV.len, AcV.hk, PrV.len, StV.len, amSide, Int.reduceToNat, Nat.reducePow, Nat.reduceMul]; first | done | omega)) only  [↓amPre, amPost, ↓s_lit', Nat.reduceAdd, Nat.reduceSub, List.replicate, retA, resultsA, resultA, toC, toCL, Nat.reduceEqDiff, he, (ze32 S.p), (bu32 S.p), iaddr_sl (un25 S.p) (sz32 S.p), len_sl (un25 S.p), len_nils (un25 S.p), part_all (ag32 S.p) (sz32 S.p), part_at (ag32 S.p) (sz32 S.p), store_last (sz32 S.p), (sz32 S.p), idx_ok, hc, hpt, k1, k2, k3, cells_self, cells_other, Int.toNat_zero, Nat.zero_add, Nat.zero_mul]
    exact Ends.some rfl
  · simp only [decide_eq_false_iff_not] at hc1
    have hz : (allP l l.length).length = 0 := by omega
    have hf : firP l = ⟨0, 0⟩ := by unfold firP; rw [List.eq_nil_of_length_eq_zero hz]; rfl
    rw [hf, dec_f (show ¬ 0 < (allP l l.length).length by omega)]
    obtain ⟨k1, k2⟩ := storeH (sz32 S.p) g0 (Nat.le_refl _) [SV.int .i64 0, .int .i64 0] rfl rfl
    have k3 := part_self (ag32 S.p) (sz32 S.p) [SV.int .i64 0, .int .i64 0] rfl
    simp (maxSteps := 1000000) (disch := first | omega | (simp (disch := first | omega | (simp only [freeL_ck, ck_len, AcV.len, AcV.hk, PrV.len, StV.len, List.length_append, List.length_cons, List.length_nil, List.length_set]; first | done | omega)) only [freeL_ck, ck_len, AcV.len, AcV.hk, PrV.len, StV.len, amSide, Int.reduceToNat, Nat.reducePow, Nat.reduceMul]; first | done | omega)) only  [↓amPre, amPost, ↓s_lit', Nat.reduceAdd, Nat.reduceSub, List.replicate, retA, resultsA, resultA, toC, toCL, Nat.reduceEqDiff, he, (ze32 S.p), (bu32 S.p), iaddr_sl (un25 S.p) (sz32 S.p), len_sl (un25 S.p), len_nils (un25 S.p), part_all (ag32 S.p) (sz32 S.p), part_at (ag32 S.p) (sz32 S.p), store_last (sz32 S.p), (sz32 S.p), k1, k2, k3]
    exact Ends.some rfl
/-- Two writes. -/
def alL : List AcV := [⟨0, 0, true, [1, 0, 0, 0, 0, 0, 0, 0], 0, rfl⟩, ⟨1, 0, true, [0, 1, 0, 0, 0, 0, 0, 0], 0, rfl⟩]
theorem al_all : allP alL 2 = [⟨0, 1⟩] := by kernel_rfl
theorem al_cell : cellV alL 0 2 = ⟨4, 0, 0⟩ := by kernel_rfl
theorem al_bare : bareL alL = [0] := by kernel_rfl
theorem al_wf : cWf alL := by
  intro x hx
  rcases List.mem_cons.1 hx with rfl | hx
  · kernel_rfl
  · rcases List.mem_cons.1 hx with rfl | hx
    · kernel_rfl
    · cases hx
def alC : List SV := [.int .i64 0, .int .i64 0, .bool true, .int .u32 1, .int .u32 0, .int .u32 0, .int .u32 0, .int .u32 0, .int .u32 0, .int .u32 0, .int .u32 0, .int .u64 0, .int .i64 1, .int .i64 0, .bool true, .int .u32 0, .int .u32 1, .int .u32 0, .int .u32 0, .int .u32 0, .int .u32 0, .int .u32 0, .int .u32 0, .int .u64 0]
theorem al_recs : recs AcV.cells alL = alC := by kernel_rfl
set_option maxHeartbeats 4000000 in
theorem s15 {P : Program} {T : Tab} {K d : Nat} (S : Sd P T K) (hd : 7 ≤ d) (lk : Nat) (h : List AO) : ev P T K d 15 [] lk h = some (.v (.sc (.bool true)), h) := by
  obtain ⟨d, rfl⟩ : ∃ k, d = k + 1 := ⟨d - 1, by omega⟩
  refine ev_pure (at15 S.t) rfl ?_
  unfold i15 Try.f15
  have hq0 : Rs AcV.cells 12 (h ++ [.rw 131 alC]) (.sl h.length 0 2 12) alL := .inr ⟨h.length, rfl, by simp, by rw [al_recs]; unfold cellsAt; simp⟩
  obtain ⟨v1, h1, e1, hx1, q', rfl, hown⟩ := s17 S (show 1 ≤ d by omega) _ alL (by decide) h.length _ (by simp) hq0
  have hrs := hown.rs (by omega) AcV.len
  have hln := hx1.len
  simp only [List.length_append, List.length_singleton] at hln
  have e2 := s19 S (show 6 ≤ d by omega) q' alL (by decide) h.length h1 hrs
  have hal : (allP alL alL.length).length = 1 := by rw [show alL.length = 2 from rfl, al_all]; rfl
  have hfi : (firP alL).cells = [.int .i64 0, .int .i64 1] := by unfold firP; rw [show alL.length = 2 from rfl, al_all]; rfl
  rw [hal, hfi, dec_t (show 0 < 1 by omega)] at e2
  have hrs2 : Rs AcV.cells 12 (h1 ++ [.rw 32 [.int .i64 0, .int .i64 1]]) q' alL := hrs.ext ((Ext1.refl h1).push _)
  have e3 := s22 S (show 4 ≤ d by omega) q' alL (by decide) 0 h.length _ hrs2.rp
  rw [show alL.length = 2 from rfl, al_cell, show (⟨4, 0, 0⟩ : StV).cells = [.int .i64 4, .int .i64 0, .int .u64 0] from rfl] at e3
  obtain ⟨v4, h4, e4, hx4, u, rfl, hu⟩ := s23 S (show 1 ≤ d by omega) q' alL (by decide) al_wf h.length _ (by simp; omega) hrs2
  have hlen4 := hu.len (un47 S.p)
  rw [show (sortL (bareL alL)).length = 1 by rw [show (sortL (bareL alL)).length = (bareL alL).length from List.length_mergeSort _, al_bare]; rfl] at hlen4
  unfold alC at e1
  simp (maxSteps := 1000000) (disch := first | omega | (simp (disch := first | omega | (simp only [freeL_ck, ck_len, AcV.len, AcV.hk, PrV.len, StV.len, List.length_append, List.length_cons, List.length_nil, List.length_set]; first | done | omega)) only [freeL_ck, ck_len, AcV.len, AcV.hk, PrV.len, StV.len, amSide, Int.reduceToNat, Nat.reducePow, Nat.reduceMul]; first | done | omega)) only  [↓amPre, amPost, ↓s_lit', Nat.reduceAdd, Nat.reduceSub, List.replicate, retA, resultsA, resultA, toC, toCL, Nat.reduceEqDiff, (ze32 S.p), (bu129 S.p), (bu131 S.p), lit_fill (un22 S.p) (sz131 S.p) (ze131 S.p), (fd45_0 S.p), part_sc (ag3 S.p), (fa32_0 S.p), (fa32_1 S.p), len_sl (un47 S.p), len_nils (un47 S.p), store_last (sz32 S.p), (sz32 S.p), e1, e2, e3, e4, hlen4, cells_self, cells_other, beqI_t, beqI_f, splice_def, List.flatten_cons, List.flatten_nil, List.append_nil, Nat.one_mul, Nat.zero_mul, Nat.zero_add]
  exact Ends.some rfl
end Go.AM
