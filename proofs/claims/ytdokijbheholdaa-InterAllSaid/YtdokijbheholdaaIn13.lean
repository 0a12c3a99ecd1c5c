/- Orders: the counts of an order. Conditions: none. -/
import Derived.Test.YtdokijbheholdaaIn11
set_option linter.unusedVariables false
set_option linter.unusedSimpArgs false
set_option maxRecDepth 100000
namespace Go.AM
open Go.Proofs
-- LENS: cells_len, ints_len, killq_len
/-- How often each one stands there. -/
def cnts (o : List Int) (k : Nat) : List Nat := (List.range k).map fun v => o.count ((v : Nat) : Int)
theorem cnts_len (o : List Int) (k : Nat) : (cnts o k).length = k := by simp [cnts]
theorem cnts_getD (o : List Int) (k v : Nat) (hv : v < k) : (cnts o k).getD v 0 = o.count ((v : Nat) : Int) := by
  simp [cnts, List.getD_eq_getElem?_getD, hv]
theorem cnts_nil (k : Nat) : cnts [] k = List.replicate k 0 := by
  apply List.ext_getElem?
  intro i
  simp [cnts, List.getElem?_replicate]
  rcases Nat.lt_or_ge i k with h | h
  · simp [h]
  · simp [Nat.not_lt.2 h, List.getElem?_eq_none]
theorem take_snocI (l : List Int) (i : Nat) (h : i < l.length) : l.take (i + 1) = l.take i ++ [l.getD i 0] := by
  rw [List.take_add_one, List.getElem?_eq_getElem h, List.getD_eq_getElem?_getD, List.getElem?_eq_getElem h]; rfl
theorem cnts_step (o : List Int) (k i t : Nat) (hi : i < o.length) (ht : o.getD i 0 = ((t : Nat) : Int)) (hk : t < k) :
    (cnts (o.take i) k).set t ((cnts (o.take i) k).getD t 0 + 1) = cnts (o.take (i + 1)) k := by
  apply List.ext_getElem?
  intro j
  rcases Nat.lt_or_ge j k with hj | hj
  · rw [List.getElem?_set]
    have e1 : ∀ o', (cnts o' k)[j]? = some (o'.count ((j : Nat) : Int)) := fun o' => by simp [cnts, hj]
    rw [e1, e1, take_snocI o i hi, ht, List.count_append, List.count_singleton]
    by_cases h : t = j
    · subst h
      rw [if_pos rfl, if_pos (by rw [cnts_len]; exact hk), cnts_getD _ _ _ hk]; simp
    · rw [if_neg h]
      have : (((t : Nat) : Int) == ((j : Nat) : Int)) = false := beqI_f (by omega)
      rw [this]; simp
  · rw [List.getElem?_eq_none (by simp [cnts_len]; omega), List.getElem?_eq_none (by simp [cnts_len]; omega)]
theorem cnts_ord {o : List Int} {k : Nat} (h : ∀ t ∈ o, 0 ≤ t ∧ t < (k : Int)) : Ord o (cnts o k) :=
  ⟨fun t ht => by rw [cnts_len]; exact h t ht, fun v hv => by rw [cnts_len] at hv; exact cnts_getD o k v hv⟩
theorem count_le (o : List Int) (x : Int) : o.count x ≤ o.length := List.count_le_length
def ofOk (o : List Int) (k : Int) : Prop := 1 ≤ k ∧ k ≤ 8 ∧ o.length ≤ 20 ∧ ∀ t ∈ o, 0 ≤ t ∧ t < k
theorem cells_zero (k : Nat) : (List.replicate k [SV.int .i64 0]).flatten = cellsI (cnts [] k) := by
  rw [cnts_nil]
  simp only [cellsI, ints, List.map_replicate]
  induction k with
  | zero => rfl
  | succ k ih => simp only [List.replicate_succ, List.flatten_cons, ih]; rfl
theorem getD_mem (l : List Int) (i : Nat) (h : i < l.length) : l.getD i 0 ∈ l := by
  rw [List.getD_eq_getElem?_getD, List.getElem?_eq_getElem h]; exact List.getElem_mem _
theorem take_mem {l : List Int} {i : Nat} (hi : i < l.length) {p : Int → Prop} (h : ∀ t ∈ l.take i, p t) (hp : p (l.getD i 0)) : ∀ t ∈ l.take (i + 1), p t := fun t ht => by
  rw [take_snocI l i hi, List.mem_append, List.mem_singleton] at ht
  rcases ht with ht | rfl
  · exact h t ht
  · exact hp
def OfR (o : List Int) (k : Int) (h : List AO) (v : AV) (h' : List AO) : Prop := Ext1 h h' ∧ ((¬ ofOk o k ∧ v = .tup [.sc .nils, .sc (.int .i64 1)]) ∨ (ofOk o k ∧ v = .tup [.sc (.sl h.length 0 k.toNat 1), .sc (.int .i64 0)] ∧ h' = h ++ [.rw 3 (cellsI (cnts o k.toNat))]))
theorem s29 {P : Program} {T : Tab} {K d : Nat} (S : Sd P T K) (hd : 1 ≤ d) (q : SV) (o : List Int) (k : Int) (lk : Nat) (h : List AO) (hlk : lk ≤ h.length) (hS : Sl h q o) :
    Ends (OfR o k h) (ev P T K d 29 [.sc q, .sc (.int .i64 k)] lk h) := by
  obtain ⟨d, rfl⟩ : ∃ k, d = k + 1 := ⟨d - 1, by omega⟩
  rw [ev_run (at29 S.t)]
  unfold i29 Try.f29
  have hlen : ∀ hh, lenA P hh 35 (.v (.sc q)) = some (.v (.sc (.int .i64 (o.length : Int)))) := hS.len S
  by_cases h1 : k < 1
  · simp (disch := first | omega | (simp (disch := first | omega | (simp only [cells_len, ints_len, killq_len, List.length_append, List.length_cons, List.length_nil, List.length_set]; first | done | omega)) only [cells_len, ints_len, killq_len, amSide, Int.reduceToNat, Nat.reducePow, Nat.reduceMul]; first | done | omega)) only  [↓amPre, amPost, ↓s_lit', Nat.reduceAdd, Nat.reduceSub, List.replicate, retA, resultsA, resultA, toC, toCL, Nat.reduceEqDiff, iaddr_sl (un35 S.p) (sz3 S.p), len_sl (un35 S.p), len_nils (un35 S.p), part_sc (ag3 S.p), make_at (un35 S.p) (sz3 S.p) (by3 S.p) (ze3 S.p) (by decide) rfl, store_last (sz3 S.p), (sz3 S.p), dec_t]
    exact Ends.some ⟨Ext1.refl h, .inl ⟨fun q => by unfold ofOk at q; omega, rfl⟩⟩
  by_cases h8 : k > 8
  · simp (disch := first | omega | (simp (disch := first | omega | (simp only [cells_len, ints_len, killq_len, List.length_append, List.length_cons, List.length_nil, List.length_set]; first | done | omega)) only [cells_len, ints_len, killq_len, amSide, Int.reduceToNat, Nat.reducePow, Nat.reduceMul]; first | done | omega)) only  [↓amPre, amPost, ↓s_lit', Nat.reduceAdd, Nat.reduceSub, List.replicate, retA, resultsA, resultA, toC, toCL, Nat.reduceEqDiff, iaddr_sl (un35 S.p) (sz3 S.p), len_sl (un35 S.p), len_nils (un35 S.p), part_sc (ag3 S.p), make_at (un35 S.p) (sz3 S.p) (by3 S.p) (ze3 S.p) (by decide) rfl, store_last (sz3 S.p), (sz3 S.p), dec_t, dec_f]
    exact Ends.some ⟨Ext1.refl h, .inl ⟨fun q => by unfold ofOk at q; omega, rfl⟩⟩
  by_cases h20 : o.length > 20
  · simp (disch := first | omega | (simp (disch := first | omega | (simp only [cells_len, ints_len, killq_len, List.length_append, List.length_cons, List.length_nil, List.length_set]; first | done | omega)) only [cells_len, ints_len, killq_len, amSide, Int.reduceToNat, Nat.reducePow, Nat.reduceMul]; first | done | omega)) only  [↓amPre, amPost, ↓s_lit', Nat.reduceAdd, Nat.reduceSub, List.replicate, retA, resultsA, resultA, toC, toCL, Nat.reduceEqDiff, iaddr_sl (un35 S.p) (sz3 S.p), len_sl (un35 S.p), len_nils (un35 S.p), part_sc (ag3 S.p), make_at (un35 S.p) (sz3 S.p) (by3 S.p) (ze3 S.p) (by decide) rfl, store_last (sz3 S.p), (sz3 S.p), dec_t, dec_f, hlen]
    exact Ends.some ⟨Ext1.refl h, .inl ⟨fun q => by unfold ofOk at q; omega, rfl⟩⟩
  obtain ⟨n, rfl⟩ : ∃ n : Nat, k = (n : Int) := ⟨k.toNat, by omega⟩
  simp (disch := first | omega | (simp (disch := first | omega | (simp only [cells_len, ints_len, killq_len, List.length_append, List.length_cons, List.length_nil, List.length_set]; first | done | omega)) only [cells_len, ints_len, killq_len, amSide, Int.reduceToNat, Nat.reducePow, Nat.reduceMul]; first | done | omega)) only  [↓amPre, amPost, ↓s_lit', Nat.reduceAdd, Nat.reduceSub, List.replicate, retA, resultsA, resultA, toC, toCL, Nat.reduceEqDiff, iaddr_sl (un35 S.p) (sz3 S.p), len_sl (un35 S.p), len_nils (un35 S.p), part_sc (ag3 S.p), make_at (un35 S.p) (sz3 S.p) (by3 S.p) (ze3 S.p) (by decide) rfl, store_last (sz3 S.p), (sz3 S.p), dec_f, hlen, makeB_ok, cells_zero]
  refine ends_loop (X := Nat) 0 [4, 5, 8, 25, 26, 27, 28, 29, 30, 31, 32, 33, 34, 35, 36, 37, 38, 39, 40, 41] (fun i => i ≤ o.length ∧ ∀ t ∈ o.take i, 0 ≤ t ∧ t < (n : Int)) (fun i => o.length - i) (fun i e => e.set 24 (.v (.sc (.int .i64 i)))) (fun i => h ++ [.rw 3 (cellsI (cnts (o.take i) n))])
    (by have := S.k; show _ < K; omega) ⟨by omega, by simp⟩ rfl rfl ?_
  rintro i ⟨hi, hr⟩ again hag e he
  simp only [↓amPre, amPost, ↓s_lit', Nat.reduceAdd, Nat.reduceSub, List.replicate, retA, resultsA, resultA, toC, toCL, Nat.reduceEqDiff] at he
  simp only [↓amPre, amPost, ↓s_lit', Nat.reduceAdd, Nat.reduceSub, List.replicate, retA, resultsA, resultA, toC, toCL, Nat.reduceEqDiff, he]
  refine ends_cond (fun hc1 => ?_) (fun hc1 => ?_)
  · simp only [decide_eq_true_eq] at hc1
    have hi' : i < o.length := by omega
    obtain ⟨b, rfl, hb, hc⟩ := hS.at (by omega)
    have hca := cnt_at o i hi'
    by_cases c1 : o.getD i 0 < 0
    · simp (disch := first | omega | (simp (disch := first | omega | (simp only [cells_len, ints_len, killq_len, List.length_append, List.length_cons, List.length_nil, List.length_set]; first | done | omega)) only [cells_len, ints_len, killq_len, amSide, Int.reduceToNat, Nat.reducePow, Nat.reduceMul]; first | done | omega)) only  [↓amPre, amPost, ↓s_lit', Nat.reduceAdd, Nat.reduceSub, List.replicate, retA, resultsA, resultA, toC, toCL, Nat.reduceEqDiff, he, iaddr_sl (un35 S.p) (sz3 S.p), len_sl (un35 S.p), len_nils (un35 S.p), part_sc (ag3 S.p), make_at (un35 S.p) (sz3 S.p) (by3 S.p) (ze3 S.p) (by decide) rfl, store_last (sz3 S.p), (sz3 S.p), dec_t, idx_ok, hc, hca, cells_other, Int.toNat_natCast, Nat.mul_one, Nat.zero_add]
      exact Ends.some ⟨(Ext1.refl h).push _, .inl ⟨fun q => by have := q.2.2.2 _ (getD_mem o i hi'); omega, rfl⟩⟩
    by_cases c2 : o.getD i 0 ≥ n
    · simp (disch := first | omega | (simp (disch := first | omega | (simp only [cells_len, ints_len, killq_len, List.length_append, List.length_cons, List.length_nil, List.length_set]; first | done | omega)) only [cells_len, ints_len, killq_len, amSide, Int.reduceToNat, Nat.reducePow, Nat.reduceMul]; first | done | omega)) only  [↓amPre, amPost, ↓s_lit', Nat.reduceAdd, Nat.reduceSub, List.replicate, retA, resultsA, resultA, toC, toCL, Nat.reduceEqDiff, he, iaddr_sl (un35 S.p) (sz3 S.p), len_sl (un35 S.p), len_nils (un35 S.p), part_sc (ag3 S.p), make_at (un35 S.p) (sz3 S.p) (by3 S.p) (ze3 S.p) (by decide) rfl, store_last (sz3 S.p), (sz3 S.p), dec_t, dec_f, idx_ok, hc, hca, cells_other, Int.toNat_natCast, Nat.mul_one, Nat.zero_add]
      exact Ends.some ⟨(Ext1.refl h).push _, .inl ⟨fun q => by have := q.2.2.2 _ (getD_mem o i hi'); omega, rfl⟩⟩
    obtain ⟨t, ht⟩ : ∃ t : Nat, o.getD i 0 = (t : Int) := ⟨(o.getD i 0).toNat, by omega⟩
    rw [ht] at hca c1 c2
    have hst := cnts_step o n i t hi' ht (by omega)
    have hgd : (cnts (o.take i) n).getD t 0 ≤ 20 := by rw [cnts_getD _ _ _ (by omega)]; have := count_le (o.take i) t; simp at this; omega
    have hcl := cnts_len (o.take i) n
    have w1 : IntKind.i64.wrap (((cnts (o.take i) n).getD t 0 : Nat) + 1) = (((cnts (o.take i) n).getD t 0 + 1 : Nat) : Int) := by rw [wrap_i64 (by omega) (by omega)]; omega
    simp (disch := first | omega | (simp (disch := first | omega | (simp only [cells_len, ints_len, killq_len, List.length_append, List.length_cons, List.length_nil, List.length_set]; first | done | omega)) only [cells_len, ints_len, killq_len, amSide, Int.reduceToNat, Nat.reducePow, Nat.reduceMul]; first | done | omega)) only  [↓amPre, amPost, ↓s_lit', Nat.reduceAdd, Nat.reduceSub, List.replicate, retA, resultsA, resultA, toC, toCL, Nat.reduceEqDiff, he, iaddr_sl (un35 S.p) (sz3 S.p), len_sl (un35 S.p), len_nils (un35 S.p), part_sc (ag3 S.p), make_at (un35 S.p) (sz3 S.p) (by3 S.p) (ze3 S.p) (by decide) rfl, store_last (sz3 S.p), (sz3 S.p), dec_f, idx_ok, hc, hca, cells_self, cells_other, cellsI_at, w1, cellsI_set, hst, Int.toNat_natCast, Nat.mul_one, Nat.zero_add, wrap_i64]
    refine hag (i + 1) ⟨hi', take_mem hi' hr (by rw [ht]; omega)⟩ (by omega) _ ?_
    simp (disch := first | omega | (simp (disch := first | omega | (simp only [cells_len, ints_len, killq_len, List.length_append, List.length_cons, List.length_nil, List.length_set]; first | done | omega)) only [cells_len, ints_len, killq_len, amSide, Int.reduceToNat, Nat.reducePow, Nat.reduceMul]; first | done | omega)) only [↓amPre, amPost, ↓s_lit', Nat.reduceAdd, Nat.reduceSub, List.replicate, retA, resultsA, resultA, toC, toCL, Nat.reduceEqDiff, Int.natCast_add, Int.cast_ofNat_Int, dec_t, dec_f]
  · simp only [decide_eq_false_iff_not] at hc1
    obtain rfl : i = o.length := by omega
    rw [List.take_length] at *
    simp (disch := first | omega | (simp (disch := first | omega | (simp only [cells_len, ints_len, killq_len, List.length_append, List.length_cons, List.length_nil, List.length_set]; first | done | omega)) only [cells_len, ints_len, killq_len, amSide, Int.reduceToNat, Nat.reducePow, Nat.reduceMul]; first | done | omega)) only  [↓amPre, amPost, ↓s_lit', Nat.reduceAdd, Nat.reduceSub, List.replicate, retA, resultsA, resultA, toC, toCL, Nat.reduceEqDiff, he, iaddr_sl (un35 S.p) (sz3 S.p), len_sl (un35 S.p), len_nils (un35 S.p), part_sc (ag3 S.p), make_at (un35 S.p) (sz3 S.p) (by3 S.p) (ze3 S.p) (by decide) rfl, store_last (sz3 S.p), (sz3 S.p)]
    exact Ends.some ⟨(Ext1.refl h).push _, .inr ⟨⟨by omega, by omega, by omega, hr⟩, by simp, by simp⟩⟩
theorem s30 {P : Program} {T : Tab} {K d : Nat} (S : Sd P T K) (hd : 1 ≤ d) (q : SV) (o : List Int) (k : Int) (lk : Nat) (h : List AO) (hlk : lk ≤ h.length) (hS : Sl h q o) :
    Ends (OfR o k h) (ev P T K d 30 [.sc q, .sc (.int .i64 k)] lk h) := by
  obtain ⟨d, rfl⟩ : ∃ k, d = k + 1 := ⟨d - 1, by omega⟩
  rw [ev_run (at30 S.t)]
  unfold i30 Try.f30
  have hlen : ∀ hh, lenA P hh 35 (.v (.sc q)) = some (.v (.sc (.int .i64 (o.length : Int)))) := hS.len S
  by_cases h1 : k < 1
  · simp (disch := first | omega | (simp (disch := first | omega | (simp only [cells_len, ints_len, killq_len, List.length_append, List.length_cons, List.length_nil, List.length_set]; first | done | omega)) only [cells_len, ints_len, killq_len, amSide, Int.reduceToNat, Nat.reducePow, Nat.reduceMul]; first | done | omega)) only  [↓amPre, amPost, ↓s_lit', Nat.reduceAdd, Nat.reduceSub, List.replicate, retA, resultsA, resultA, toC, toCL, Nat.reduceEqDiff, iaddr_sl (un35 S.p) (sz3 S.p), len_sl (un35 S.p), len_nils (un35 S.p), part_sc (ag3 S.p), make_at (un35 S.p) (sz3 S.p) (by3 S.p) (ze3 S.p) (by decide) rfl, store_last (sz3 S.p), (sz3 S.p), dec_t]
    exact Ends.some ⟨Ext1.refl h, .inl ⟨fun q => by unfold ofOk at q; omega, rfl⟩⟩
  by_cases h8 : k > 8
  · simp (disch := first | omega | (simp (disch := first | omega | (simp only [cells_len, ints_len, killq_len, List.length_append, List.length_cons, List.length_nil, List.length_set]; first | done | omega)) only [cells_len, ints_len, killq_len, amSide, Int.reduceToNat, Nat.reducePow, Nat.reduceMul]; first | done | omega)) only  [↓amPre, amPost, ↓s_lit', Nat.reduceAdd, Nat.reduceSub, List.replicate, retA, resultsA, resultA, toC, toCL, Nat.reduceEqDiff, iaddr_sl (un35 S.p) (sz3 S.p), len_sl (un35 S.p), len_nils (un35 S.p), part_sc (ag3 S.p), make_at (un35 S.p) (sz3 S.p) (by3 S.p) (ze3 S.p) (by decide) rfl, store_last (sz3 S.p), (sz3 S.p), dec_t, dec_f]
    exact Ends.some ⟨Ext1.refl h, .inl ⟨fun q => by unfold ofOk at q; omega, rfl⟩⟩
  by_cases h20 : o.length > 20
  · simp (disch := first | omega | (simp (disch := first | omega | (simp only [cells_len, ints_len, killq_len, List.length_append, List.length_cons, List.length_nil, List.length_set]; first | done | omega)) only [cells_len, ints_len, killq_len, amSide, Int.reduceToNat, Nat.reducePow, Nat.reduceMul]; first | done | omega)) only  [↓amPre, amPost, ↓s_lit', Nat.reduceAdd, Nat.reduceSub, List.replicate, retA, resultsA, resultA, toC, toCL, Nat.reduceEqDiff, iaddr_sl (un35 S.p) (sz3 S.p), len_sl (un35 S.p), len_nils (un35 S.p), part_sc (ag3 S.p), make_at (un35 S.p) (sz3 S.p) (by3 S.p) (ze3 S.p) (by decide) rfl, store_last (sz3 S.p), (sz3 S.p), dec_t, dec_f, hlen]
    exact Ends.some ⟨Ext1.refl h, .inl ⟨fun q => by unfold ofOk at q; omega, rfl⟩⟩
  obtain ⟨n, rfl⟩ : ∃ n : Nat, k = (n : Int) := ⟨k.toNat, by omega⟩
  simp (disch := first | omega | (simp (disch := first | omega | (simp only [cells_len, ints_len, killq_len, List.length_append, List.length_cons, List.length_nil, List.length_set]; first | done | omega)) only [cells_len, ints_len, killq_len, amSide, Int.reduceToNat, Nat.reducePow, Nat.reduceMul]; first | done | omega)) only  [↓amPre, amPost, ↓s_lit', Nat.reduceAdd, Nat.reduceSub, List.replicate, retA, resultsA, resultA, toC, toCL, Nat.reduceEqDiff, iaddr_sl (un35 S.p) (sz3 S.p), len_sl (un35 S.p), len_nils (un35 S.p), part_sc (ag3 S.p), make_at (un35 S.p) (sz3 S.p) (by3 S.p) (ze3 S.p) (by decide) rfl, store_last (sz3 S.p), (sz3 S.p), dec_f, hlen, makeB_ok, cells_zero]
  refine ends_loop (X := Nat) 0 [4, 5, 21, 22, 23, 24, 25, 26, 27, 28, 29, 30, 31, 32, 33, 34, 35, 36, 37, 38, 39, 40, 41, 42, 43, 44, 45, 46, 47, 48] (fun i => i ≤ o.length ∧ ∀ t ∈ o.take i, 0 ≤ t ∧ t < (n : Int)) (fun i => o.length - i) (fun i e => e.set 7 (.v (.sc (.int .i64 i)))) (fun i => h ++ [.rw 3 (cellsI (cnts (o.take i) n))])
    (by have := S.k; show _ < K; omega) ⟨by omega, by simp⟩ rfl rfl ?_
  rintro i ⟨hi, hr⟩ again hag e he
  simp only [↓amPre, amPost, ↓s_lit', Nat.reduceAdd, Nat.reduceSub, List.replicate, retA, resultsA, resultA, toC, toCL, Nat.reduceEqDiff] at he
  simp only [↓amPre, amPost, ↓s_lit', Nat.reduceAdd, Nat.reduceSub, List.replicate, retA, resultsA, resultA, toC, toCL, Nat.reduceEqDiff, he]
  simp (disch := first | omega | (simp (disch := first | omega | (simp only [cells_len, ints_len, killq_len, List.length_append, List.length_cons, List.length_nil, List.length_set]; first | done | omega)) only [cells_len, ints_len, killq_len, amSide, Int.reduceToNat, Nat.reducePow, Nat.reduceMul]; first | done | omega)) only  [↓amPre, amPost, ↓s_lit', Nat.reduceAdd, Nat.reduceSub, List.replicate, retA, resultsA, resultA, toC, toCL, Nat.reduceEqDiff, he, iaddr_sl (un35 S.p) (sz3 S.p), len_sl (un35 S.p), len_nils (un35 S.p), part_sc (ag3 S.p), make_at (un35 S.p) (sz3 S.p) (by3 S.p) (ze3 S.p) (by decide) rfl, store_last (sz3 S.p), (sz3 S.p), hlen]
  refine ends_cond (fun hc1 => ?_) (fun hc1 => ?_)
  · simp only [decide_eq_true_eq] at hc1
    have hi' : i < o.length := by omega
    obtain ⟨b, rfl, hb, hc⟩ := hS.at (by omega)
    have hca := cnt_at o i hi'
    by_cases c1 : o.getD i 0 < 0
    · simp (disch := first | omega | (simp (disch := first | omega | (simp only [cells_len, ints_len, killq_len, List.length_append, List.length_cons, List.length_nil, List.length_set]; first | done | omega)) only [cells_len, ints_len, killq_len, amSide, Int.reduceToNat, Nat.reducePow, Nat.reduceMul]; first | done | omega)) only  [↓amPre, amPost, ↓s_lit', Nat.reduceAdd, Nat.reduceSub, List.replicate, retA, resultsA, resultA, toC, toCL, Nat.reduceEqDiff, he, iaddr_sl (un35 S.p) (sz3 S.p), len_sl (un35 S.p), len_nils (un35 S.p), part_sc (ag3 S.p), make_at (un35 S.p) (sz3 S.p) (by3 S.p) (ze3 S.p) (by decide) rfl, store_last (sz3 S.p), (sz3 S.p), dec_t, idx_ok, hc, hca, cells_other, Int.toNat_natCast, Nat.mul_one, Nat.zero_add]
      exact Ends.some ⟨(Ext1.refl h).push _, .inl ⟨fun q => by have := q.2.2.2 _ (getD_mem o i hi'); omega, rfl⟩⟩
    by_cases c2 : o.getD i 0 ≥ n
    · simp (disch := first | omega | (simp (disch := first | omega | (simp only [cells_len, ints_len, killq_len, List.length_append, List.length_cons, List.length_nil, List.length_set]; first | done | omega)) only [cells_len, ints_len, killq_len, amSide, Int.reduceToNat, Nat.reducePow, Nat.reduceMul]; first | done | omega)) only  [↓amPre, amPost, ↓s_lit', Nat.reduceAdd, Nat.reduceSub, List.replicate, retA, resultsA, resultA, toC, toCL, Nat.reduceEqDiff, he, iaddr_sl (un35 S.p) (sz3 S.p), len_sl (un35 S.p), len_nils (un35 S.p), part_sc (ag3 S.p), make_at (un35 S.p) (sz3 S.p) (by3 S.p) (ze3 S.p) (by decide) rfl, store_last (sz3 S.p), (sz3 S.p), dec_t, dec_f, idx_ok, hc, hca, cells_other, Int.toNat_natCast, Nat.mul_one, Nat.zero_add]
      exact Ends.some ⟨(Ext1.refl h).push _, .inl ⟨fun q => by have := q.2.2.2 _ (getD_mem o i hi'); omega, rfl⟩⟩
    obtain ⟨t, ht⟩ : ∃ t : Nat, o.getD i 0 = (t : Int) := ⟨(o.getD i 0).toNat, by omega⟩
    rw [ht] at hca c1 c2
    have hst := cnts_step o n i t hi' ht (by omega)
    have hgd : (cnts (o.take i) n).getD t 0 ≤ 20 := by rw [cnts_getD _ _ _ (by omega)]; have := count_le (o.take i) t; simp at this; omega
    have hcl := cnts_len (o.take i) n
    have w1 : IntKind.i64.wrap (((cnts (o.take i) n).getD t 0 : Nat) + 1) = (((cnts (o.take i) n).getD t 0 + 1 : Nat) : Int) := by rw [wrap_i64 (by omega) (by omega)]; omega
    simp (disch := first | omega | (simp (disch := first | omega | (simp only [cells_len, ints_len, killq_len, List.length_append, List.length_cons, List.length_nil, List.length_set]; first | done | omega)) only [cells_len, ints_len, killq_len, amSide, Int.reduceToNat, Nat.reducePow, Nat.reduceMul]; first | done | omega)) only  [↓amPre, amPost, ↓s_lit', Nat.reduceAdd, Nat.reduceSub, List.replicate, retA, resultsA, resultA, toC, toCL, Nat.reduceEqDiff, he, iaddr_sl (un35 S.p) (sz3 S.p), len_sl (un35 S.p), len_nils (un35 S.p), part_sc (ag3 S.p), make_at (un35 S.p) (sz3 S.p) (by3 S.p) (ze3 S.p) (by decide) rfl, store_last (sz3 S.p), (sz3 S.p), dec_f, idx_ok, hc, hca, cells_self, cells_other, cellsI_at, w1, cellsI_set, hst, Int.toNat_natCast, Nat.mul_one, Nat.zero_add, wrap_i64]
    refine hag (i + 1) ⟨hi', take_mem hi' hr (by rw [ht]; omega)⟩ (by omega) _ ?_
    simp (disch := first | omega | (simp (disch := first | omega | (simp only [cells_len, ints_len, killq_len, List.length_append, List.length_cons, List.length_nil, List.length_set]; first | done | omega)) only [cells_len, ints_len, killq_len, amSide, Int.reduceToNat, Nat.reducePow, Nat.reduceMul]; first | done | omega)) only [↓amPre, amPost, ↓s_lit', Nat.reduceAdd, Nat.reduceSub, List.replicate, retA, resultsA, resultA, toC, toCL, Nat.reduceEqDiff, Int.natCast_add, Int.cast_ofNat_Int, dec_t, dec_f]
  · simp only [decide_eq_false_iff_not] at hc1
    obtain rfl : i = o.length := by omega
    rw [List.take_length] at *
    simp (disch := first | omega | (simp (disch := first | omega | (simp only [cells_len, ints_len, killq_len, List.length_append, List.length_cons, List.length_nil, List.length_set]; first | done | omega)) only [cells_len, ints_len, killq_len, amSide, Int.reduceToNat, Nat.reducePow, Nat.reduceMul]; first | done | omega)) only  [↓amPre, amPost, ↓s_lit', Nat.reduceAdd, Nat.reduceSub, List.replicate, retA, resultsA, resultA, toC, toCL, Nat.reduceEqDiff, he, iaddr_sl (un35 S.p) (sz3 S.p), len_sl (un35 S.p), len_nils (un35 S.p), part_sc (ag3 S.p), make_at (un35 S.p) (sz3 S.p) (by3 S.p) (ze3 S.p) (by decide) rfl, store_last (sz3 S.p), (sz3 S.p)]
    exact Ends.some ⟨(Ext1.refl h).push _, .inr ⟨⟨by omega, by omega, by omega, hr⟩, by simp, by simp⟩⟩
end Go.AM
