/- Monitors' model: a new one; the law's events. Conditions: none. -/
import Derived.Test.YtjhhjmngjmflaaaMo8
set_option linter.unusedVariables false
set_option linter.unusedSimpArgs false
set_option maxRecDepth 100000
namespace Go.AM
open Go.Proofs
-- LENS: EvV.len, MonV.len
/-- A new model. -/
def newV (n m : Nat) (c : Int) : MdV := ⟨c, List.replicate m ⟨-1, 0, 0⟩, List.replicate n false, [], []⟩
structure NwSt where
  i : Nat
  q : SV
  h : List AO
section
variable {P : Program} {T : Tab} {K d : Nat} (S : Sd P T K)
include S
set_option maxHeartbeats 4000000 in
theorem s37 (hd : 2 ≤ d) {n m : Nat} {c : Int} (h1 : 1 ≤ n ∧ n ≤ 8) (h2 : 1 ≤ m ∧ m ≤ 8) (h3 : 1 ≤ c ∧ c ≤ 60) (lk : Nat) (h : List AO) (hlk : lk ≤ h.length) :
    Ends (fun v h' => Ext1 h h' ∧ ∃ p bm bf bw bl, v = .tup [.sc (.ptr p 0), .sc (.int .i64 0)] ∧ MdAt h' p bm bf bw bl (newV n m c) ∧ h.length ≤ p ∧ h.length ≤ bm ∧ h.length ≤ bf ∧ h.length ≤ bw ∧ h.length ≤ bl) (ev P T K d 37 [.sc (.int .i64 n), .sc (.int .i64 m), .sc (.int .i64 c)] lk h) := by
  obtain ⟨d, rfl⟩ : ∃ k, d = k + 1 := ⟨d - 1, by omega⟩
  rw [ev_run (at37 S.t)]
  unfold i37 Try.f37
  have f74 := fun a b c lk h => s59 S (show 1 ≤ d by omega) a b c lk h
  have d1 : decide ((1 : Int) ≤ (n : Int) ∧ (n : Int) ≤ 8) = true := decide_eq_true ⟨by omega, by omega⟩
  have d2 : decide ((1 : Int) ≤ (m : Int) ∧ (m : Int) ≤ 8) = true := decide_eq_true ⟨by omega, by omega⟩
  have d3 : decide ((1 : Int) ≤ c ∧ c ≤ 60) = true := decide_eq_true h3
  simp (maxSteps := 1000000) (disch := first | omega | (simp (disch := first | omega | (simp only [EvV.len, MonV.len, List.length_append, List.length_cons, List.length_nil, List.length_set]; first | done | omega)) only [EvV.len, MonV.len, amSide, Int.reduceToNat, Nat.reducePow, Nat.reduceMul]; first | done | omega)) only  [↓amPre, amPost, ↓s_lit', Nat.reduceAdd, Nat.reduceSub, List.replicate, retA, resultsA, resultA, toC, toCL, Nat.reduceEqDiff, append_at (un131 S.p) (sz116 S.p) (by116 S.p) (ze116 S.p) (by decide) (by decide) rfl, copy_at (un131 S.p) (sz116 S.p) (by116 S.p) (ze116 S.p) (by decide) (by decide) rfl, sl_cells (sz116 S.p), (bu116 S.p), (bu133 S.p), lit_fill (un131 S.p) (sz116 S.p) (ze116 S.p), (fa133_1 S.p), part_sc (ag131 S.p), make_at (un121 S.p) (sz4 S.p) (by4 S.p) (ze4 S.p) (by decide) rfl, store_last (sz131 S.p), (sz131 S.p), f74, d1, d2, d3, makeB_ok, Int.toNat_natCast]
  have hfl : (List.replicate n [SV.bool false]).flatten = List.replicate n (SV.bool false) := by
    induction n with
    | zero => rfl
    | succ n ih => simp [List.replicate_succ, List.flatten_cons] at *
  generalize hH : h ++ [AO.rw 4 (List.replicate n [SV.bool false]).flatten] ++ [AO.map []] ++ [AO.map []] = H3
  have hHl : H3.length = h.length + 1 + 1 + 1 := by rw [← hH]; simp
  refine ends_loop (X := NwSt) ⟨0, .nils, _⟩ [31, 32, 33, 34, 35, 36, 37, 38, 39, 40, 41, 42] (fun x => x.i ≤ m ∧ Ext1 H3 x.h ∧ x.h[h.length + 1 + 1 + 1]? = some (.rw 133 [.int .i64 c, x.q, .sl h.length 0 n 1, .mp (h.length + 1), .mp (h.length + 1 + 1)]) ∧ Own 116 3 (h.length + 4) x.h x.q (recs MonV.cells (List.replicate x.i ⟨-1, 0, 0⟩))) (fun x => m - x.i)
    (fun x e => e.set 30 (.v (.sc (.int .i64 x.i)))) (fun x => x.h)
    (by have := S.k; show _ < K; simp only; omega) ⟨by simp only; omega, (Ext1.refl _).push _, by simp only; rw [obj_self _ _ hHl.symm], Own.nil _ _ _ _⟩ rfl rfl ?_
  rintro ⟨i, q, hj⟩ ⟨hi, hx, hP, ho⟩ again hag e he
  simp only at hi hx hP ho hag he
  simp only [↓amPre, amPost, ↓s_lit', Nat.reduceAdd, Nat.reduceSub, List.replicate, retA, resultsA, resultA, toC, toCL, Nat.reduceEqDiff] at he
  simp only [↓amPre, amPost, ↓s_lit', Nat.reduceAdd, Nat.reduceSub, List.replicate, retA, resultsA, resultA, toC, toCL, Nat.reduceEqDiff, he]
  have hpc := cells_at hP
  have hpl := (List.getElem?_eq_some_iff.1 hP).1
  refine ends_cond (fun hc1 => ?_) (fun hc1 => ?_)
  · simp only [decide_eq_true_eq] at hc1
    have hrl : (recs MonV.cells (List.replicate i (⟨-1, 0, 0⟩ : MonV))).length = i * 3 := by rw [recs_len MonV.len, List.length_replicate]
    obtain ⟨q2, h2, happ, hown, hl2, hlow, hx2, _⟩ := grow_own (b := 24) (lk := lk) (ho.push (.rw 116 [.int .i64 (-1), .int .i64 0, .int .i64 0])) [.int .i64 (-1), .int .i64 0, .int .i64 0] (by omega) (by simp) (by simp) (by omega) (by simp; omega) (by rw [hrl]; simp; omega)
    have hmm : recs MonV.cells (List.replicate i ⟨-1, 0, 0⟩) ++ [.int .i64 (-1), .int .i64 0, .int .i64 0] = recs MonV.cells (List.replicate (i + 1) ⟨-1, 0, 0⟩) := by
      rw [List.replicate_succ']
      exact recs_snoc MonV.cells _ ⟨-1, 0, 0⟩
    rw [hmm] at hown
    have hP2 : h2[h.length + 1 + 1 + 1]? = some (.rw 133 [.int .i64 c, q, .sl h.length 0 n 1, .mp (h.length + 1), .mp (h.length + 1 + 1)]) := by
      rw [hlow _ (by omega), List.getElem?_append_left hpl]; exact hP
    have st : storeA P h2 lk 131 (.v (.sc (.ptr (h.length + 1 + 1 + 1) 1))) (.v (.sc q2)) = some (h2.set (h.length + 1 + 1 + 1) (.rw 133 [.int .i64 c, q2, .sl h.length 0 n 1, .mp (h.length + 1), .mp (h.length + 1 + 1)])) := by
      rw [store_at hP2 (by omega) (sz131 S.p) (c := .sc q2) rfl (by simp)]; rfl
    have hx3 := hx2 H3 (hx.push (.rw 116 [.int .i64 (-1), .int .i64 0, .int .i64 0])) (by omega)
    clear hfl hH hmm hrl f74 d1 d2 d3
    simp (maxSteps := 1000000) (disch := first | omega | (simp (disch := first | omega | (simp only [EvV.len, MonV.len, List.length_append, List.length_cons, List.length_nil, List.length_set]; first | done | omega)) only [EvV.len, MonV.len, amSide, Int.reduceToNat, Nat.reducePow, Nat.reduceMul]; first | done | omega)) only  [↓amPre, amPost, ↓s_lit', Nat.reduceAdd, Nat.reduceSub, List.replicate, retA, resultsA, resultA, toC, toCL, Nat.reduceEqDiff, he, append_at (un131 S.p) (sz116 S.p) (by116 S.p) (ze116 S.p) (by decide) (by decide) rfl, copy_at (un131 S.p) (sz116 S.p) (by116 S.p) (ze116 S.p) (by decide) (by decide) rfl, sl_cells (sz116 S.p), (bu116 S.p), (bu133 S.p), lit_fill (un131 S.p) (sz116 S.p) (ze116 S.p), (fa133_1 S.p), part_sc (ag131 S.p), make_at (un121 S.p) (sz4 S.p) (by4 S.p) (ze4 S.p) (by decide) rfl, store_last (sz131 S.p), (sz131 S.p), hpc, happ, st, dec_t, cells_self, cells_other, List.flatten_cons, List.flatten_nil, List.append_nil, Nat.zero_mul, Nat.one_mul, Nat.mul_one, Int.toNat_natCast, Nat.zero_add, Nat.add_zero, wrap_i64]
    simp only [List.length_append, List.length_cons, List.length_nil] at hl2
    refine hag ⟨i + 1, q2, _⟩ ⟨by simp only; omega, hx3.set (by omega) _, List.getElem?_set_self (by omega), hown.set (by omega) _⟩ (by simp only; omega) _ ?_
    simp (maxSteps := 1000000) (disch := first | omega | (simp (disch := first | omega | (simp only [EvV.len, MonV.len, List.length_append, List.length_cons, List.length_nil, List.length_set]; first | done | omega)) only [EvV.len, MonV.len, amSide, Int.reduceToNat, Nat.reducePow, Nat.reduceMul]; first | done | omega)) only [↓amPre, amPost, ↓s_lit', Nat.reduceAdd, Nat.reduceSub, List.replicate, retA, resultsA, resultA, toC, toCL, Nat.reduceEqDiff, Int.natCast_add, Int.cast_ofNat_Int, dec_t, dec_f]
  · simp only [decide_eq_false_iff_not] at hc1
    obtain rfl : i = m := by omega
    clear f74 d1 d2 d3
    simp (maxSteps := 1000000) (disch := first | omega | (simp (disch := first | omega | (simp only [EvV.len, MonV.len, List.length_append, List.length_cons, List.length_nil, List.length_set]; first | done | omega)) only [EvV.len, MonV.len, amSide, Int.reduceToNat, Nat.reducePow, Nat.reduceMul]; first | done | omega)) only  [↓amPre, amPost, ↓s_lit', Nat.reduceAdd, Nat.reduceSub, List.replicate, retA, resultsA, resultA, toC, toCL, Nat.reduceEqDiff, he, append_at (un131 S.p) (sz116 S.p) (by116 S.p) (ze116 S.p) (by decide) (by decide) rfl, copy_at (un131 S.p) (sz116 S.p) (by116 S.p) (ze116 S.p) (by decide) (by decide) rfl, sl_cells (sz116 S.p), (bu116 S.p), (bu133 S.p), lit_fill (un131 S.p) (sz116 S.p) (ze116 S.p), (fa133_1 S.p), part_sc (ag131 S.p), make_at (un121 S.p) (sz4 S.p) (by4 S.p) (ze4 S.p) (by decide) rfl, store_last (sz131 S.p), (sz131 S.p)]
    have hrl : (recs MonV.cells (List.replicate i (⟨-1, 0, 0⟩ : MonV))).length = i * 3 := by rw [recs_len MonV.len, List.length_replicate]
    rcases ho with ⟨_, h0⟩ | ⟨bm, b1, b2, rfl, b4, b5⟩
    · rw [h0] at hrl; simp at hrl; omega
    · have hd3 : (recs MonV.cells (List.replicate i (⟨-1, 0, 0⟩ : MonV))).length / 3 = i := by rw [hrl]; omega
      rw [hd3] at hP
      have g0 : H3[h.length]? = some (.rw 4 (List.replicate n (SV.bool false))) := by
        rw [← hH, hfl, List.getElem?_append_left (by simp), List.getElem?_append_left (by simp), List.getElem?_append_right (Nat.le_refl _), Nat.sub_self]; rfl
      have g1 : H3[h.length + 1]? = some (.map []) := by
        rw [← hH, List.getElem?_append_left (by simp), List.getElem?_append_right (by simp)]; simp
      have g2 : H3[h.length + 1 + 1]? = some (.map []) := by
        rw [← hH, List.getElem?_append_right (by simp)]; simp
      refine Ends.some ⟨?_, _, bm, h.length, h.length + 1, h.length + 1 + 1, rfl, ⟨?_, b4, ?_, ?_, ?_, by omega⟩, by omega, by omega, by omega, by omega, by omega⟩
      · refine Ext1.trans ?_ hx
        rw [← hH]
        exact (((Ext1.refl h).push _).push _).push _
      · simp only [newV, List.length_replicate]
        exact hP
      · rw [hx.get (by omega), g0, newV, List.map_replicate]
      · exact (hx.get (by omega)).trans g1
      · exact (hx.get (by omega)).trans g2
end
end Go.AM
