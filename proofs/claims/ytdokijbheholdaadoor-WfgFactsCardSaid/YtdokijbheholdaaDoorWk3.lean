/- Waiting graphs: a ring's nodes reach themselves, there is one just if some node does, and an order just if there is none. Conditions: none. -/
import Derived.Test.YtdokijbheholdaaDoorWk2
import Derived.Test.YtdokijbheholdaaDoorWj5
import Derived.Test.YtdokijbheholdaaDoorDict
set_option linter.unusedVariables false
set_option linter.unusedSimpArgs false
set_option maxRecDepth 100000
namespace Go.AM
open Go.Proofs Go.Lib
-- LENS: gC_len, Edg.len, ixC_len, wC_len, bC_len
/-- Has someone of so many reached himself? -/
noncomputable def rbB (L : List Edg) : Nat → Bool
  | 0 => false
  | n + 1 => rbB L n || (rchL L (n : Int)).any (fun k => k == n)
theorem rchL_mem {E : List Nat} {L : List Edg} (G : GR E L) {n k : Nat} (hn : n < 64) : k ∈ rchL L (n : Int) ↔ Rch L n k := by
  unfold rchL
  rw [if_pos (by unfold isN; simp; omega), List.mem_filter, List.mem_range, Int.toNat_natCast]
  constructor
  · rintro ⟨_, h⟩; simpa using h
  · intro h; exact ⟨h.lt G, by simpa using h⟩
theorem rbB_iff {E : List Nat} {L : List Edg} (G : GR E L) : ∀ m, m ≤ 64 → (rbB L m = true ↔ ∃ n, n < m ∧ Rch L n n)
  | 0, _ => by simp [rbB]
  | m + 1, hm => by
    unfold rbB
    rw [Bool.or_eq_true, rbB_iff G m (by omega), List.any_eq_true]
    constructor
    · rintro (⟨n, h1, h2⟩ | ⟨k, h1, h2⟩)
      · exact ⟨n, by omega, h2⟩
      · obtain rfl : k = m := by simpa using h2
        exact ⟨k, by omega, (rchL_mem G (by omega)).1 h1⟩
    · rintro ⟨n, h1, h2⟩
      by_cases hn : n = m
      · subst hn; exact .inr ⟨n, (rchL_mem G (by omega)).2 h2, by simp⟩
      · exact .inl ⟨n, by omega, h2⟩
theorem rchL_le (L : List Edg) (n : Int) : (rchL L n).length ≤ 64 := by
  unfold rchL
  split
  · have := List.length_filter_le (fun k => @decide (Rch L n.toNat k) (Classical.propDecidable _)) (List.range 64)
    rw [List.length_range] at this
    exact this
  · simp
structure ThF where
  i : Nat
  b : Bool
  h : List AO
theorem any_take_succ {α : Type} {l : List α} {i : Nat} {x : α} (h : l[i]? = some x) (f : α → Bool) : (l.take (i + 1)).any f = ((l.take i).any f || f x) := by
  rw [List.take_add_one, h]; simp
theorem tmodN (a b : Nat) : ((a : Int)).tmod (b : Int) = ((a % b : Nat) : Int) := by
  rw [Int.tmod_eq_emod_of_nonneg (by omega)]; omega
structure ThP where
  i : Nat
  M : List (Int × Int)
  h : List AO
/-- The ring's facts, be there one or not. -/
theorem ring_all {E : List Nat} {L : List Edg} (G : GR E L) : (∀ (i a b : Nat), (ringV E)[i]? = some a → (ringV E)[(i + 1) % (ringV E).length]? = some b → (⟨a, b⟩ : Edg) ∈ L) ∧ (∀ (i a f : Nat), (ringV E)[i]? = some a → (ringV E)[0]? = some f → f ≤ a) ∧ (ringV E).length ≤ 64 ∧ (0 < (ringV E).length ↔ (bst E 64).1 ≠ 65) := by
  by_cases h : (bst E 64).1 = 65
  · have : ringV E = [] := by unfold ringV; rw [if_pos h]
    rw [this]
    exact ⟨fun i a b z => by simp at z, fun i a f z => by simp at z, by simp, by simp [h]⟩
  · obtain ⟨f, r, h1, h2, h3⟩ := ring_facts G h
    have h1' := bst_eq E 64 h
    obtain ⟨b1, b2, b3, b4⟩ := bst_le E 64
    have hl : (ringV E).length ≤ 64 := by
      have hR : ringV E = (bst E 64).2 :: gwalk E (bst E 64).2 ((bst E 64).1 - 1) (bst E 64).2 := by unfold ringV; rw [if_neg h]
      have hg : ∀ (m n : Nat), (gwalk E (bst E 64).2 m n).length ≤ m := by
        intro m
        induction m with
        | zero => intro n; simp [gwalk]
        | succ m ih =>
          intro n
          unfold gwalk
          split
          · rename_i k _
            have := ih k
            simp; omega
          · simp
      have := hg ((bst E 64).1 - 1) (bst E 64).2
      rw [hR, List.length_cons]; omega
    rw [h1] at hl ⊢
    refine ⟨h2, fun i a f' z1 z2 => ?_, hl, by simp [h]⟩
    obtain rfl : f = f' := Option.some.inj z2
    exact (h3 a (List.mem_of_getElem? z1)).1
theorem ord_len {E : List Nat} : ∀ (m : Nat) (left out res : List Nat) (done : Nat), left.length = m → ordV E m left done out = some res → res.length = out.length + m
  | 0, left, out, res, done, hl, h => by
    obtain rfl : out = res := Option.some.inj h
    rfl
  | m + 1, left, out, res, done, hl, h => by
    cases hf : left.findIdx? (okP E done) with
    | none =>
      have hn : ordV E (m + 1) left done out = none := by
        show (match left.findIdx? (okP E done) with | some i => _ | none => none) = none
        rw [hf]
      rw [hn] at h; cases h
    | some i =>
      obtain ⟨hi, _, _⟩ := List.findIdx?_eq_some_iff_getElem.1 hf
      have hs : ordV E (m + 1) left done out = ordV E m (left.eraseIdx i) (done ||| 2 ^ (left.getD i 0)) (out ++ [left.getD i 0]) := by
        show (match left.findIdx? (okP E done) with | some i => ordV E m (left.eraseIdx i) (done ||| 2 ^ (left.getD i 0)) (out ++ [left.getD i 0]) | none => none) = _
        rw [hf]
      rw [hs] at h
      have := ord_len m _ _ res _ (by rw [List.length_eraseIdx_of_lt hi]; omega) h
      rw [this, List.length_append, List.length_singleton]; omega
set_option maxHeartbeats 16000000 in
theorem s5a {P : Program} {T : Tab} {K d : Nat} (S : Sd P T K) (hd : 6 ≤ d) (q : SV) (l : List Edg) (lk : Nat) (h : List AO) (hT : tabB 0 h = true) (hq : Rs Edg.cells 2 h q l) :
    ev P T K d 5 [.sc q] lk h = some (.v (.sc (.bool true)), h) := by
  obtain ⟨d, rfl⟩ : ∃ k, d = k + 1 := ⟨d - 1, by omega⟩
  refine ev_pure (at5 S.t) rfl ?_
  unfold i5 Tryd.f5
  have hlen := hq.len (un22 S.p)
  by_cases hc : 200 < l.length
  · have f7 := fun lk => s7 S (show 5 ≤ d by omega) lk h hT
    simp (maxSteps := 1000000) (disch := first | omega | (simp (disch := first | omega | (simp only [gC_len, Edg.len, ixC_len, wC_len, bC_len, List.length_append, List.length_cons, List.length_nil, List.length_set]; first | done | omega)) only [gC_len, Edg.len, ixC_len, wC_len, bC_len, amSide, Int.reduceToNat, Nat.reducePow, Nat.reduceMul]; first | done | omega)) only  [↓amPre, amPost, ↓s_lit', Nat.reduceAdd, Nat.reduceSub, List.replicate, retA, resultsA, resultA, toC, toCL, Nat.reduceEqDiff, (ze33 S.p), eql_bool (un4 S.p), neq_bool (un4 S.p), iaddr_sl (un35 S.p) (sz3 S.p), len_sl (un22 S.p), len_nils (un22 S.p), len_sl (un35 S.p), len_nils (un35 S.p), part_sc (ag3 S.p), part_all (ag33 S.p) (sz33 S.p), part_at (ag33 S.p) (sz33 S.p), store_last (sz33 S.p), (sz33 S.p), hlen, f7, dec_t]
    exact Ends.some rfl
  · have hl : l.length ≤ 200 := by omega
    have e9 := fun lk => s9 S (show 3 ≤ d by omega) q l (by omega) lk h hq
    have G := gr_of l l.length (Nat.le_refl _)
    have Go := G.ok
    generalize gE l l.length = E at *
    generalize gL l l.length = L at *
    have hgl := Go.len
    have hgc := gC_len E
    have hx0 : Ext1 h (h ++ [.rw 33 (gC E)]) := (Ext1.refl h).push _
    have hT0 := tabB_ext hT hx0
    have c0 : cellsAt (h ++ [.rw 33 (gC E)]) h.length = some (gC E) := by unfold cellsAt; simp
    have pE := part_self (ag33 S.p) (sz33 S.p) (gC E) (by rw [gC_len]; exact hgl)
    obtain ⟨v1, h1, e13, hx1, q4, rfl, r4⟩ := s13 S (show 4 ≤ d by omega) Go h.length _ (by simp) hT0
    have hle1 := hx1.len
    simp only [List.length_append, List.length_singleton] at hle1
    have hT1 := tabB_ext hT0 hx1
    have c1 : cellsAt h1 h.length = some (gC E) := by rw [hx1.cells (by simp)]; exact c0
    simp (maxSteps := 1000000) (disch := first | omega | (simp (disch := first | omega | (simp only [gC_len, Edg.len, ixC_len, wC_len, bC_len, List.length_append, List.length_cons, List.length_nil, List.length_set]; first | done | omega)) only [gC_len, Edg.len, ixC_len, wC_len, bC_len, amSide, Int.reduceToNat, Nat.reducePow, Nat.reduceMul]; first | done | omega)) only  [↓amPre, amPost, ↓s_lit', Nat.reduceAdd, Nat.reduceSub, List.replicate, retA, resultsA, resultA, toC, toCL, Nat.reduceEqDiff, (ze33 S.p), eql_bool (un4 S.p), neq_bool (un4 S.p), iaddr_sl (un35 S.p) (sz3 S.p), len_sl (un22 S.p), len_nils (un22 S.p), len_sl (un35 S.p), len_nils (un35 S.p), part_sc (ag3 S.p), part_all (ag33 S.p) (sz33 S.p), part_at (ag33 S.p) (sz33 S.p), store_last (sz33 S.p), (sz33 S.p), hlen, e9, e13, pE, cells_self, cells_other, dec_f]
    refine ends_loop (X := ThF) ⟨0, false, h1⟩ [6, 8, 27, 28, 29, 30, 31, 32, 33, 34, 35, 36, 37, 38, 39, 40, 41, 42, 43, 44] (fun x => x.i ≤ 64 ∧ Ext1 h1 x.h ∧ x.b = rbB L x.i) (fun x => 64 - x.i)
      (fun x e => (e.set 5 (.v (.sc (.bool x.b)))).set 26 (.v (.sc (.int .i64 x.i)))) (fun x => x.h)
      (by have := S.k; show _ < K; simp only; omega) ⟨by simp only; omega, Ext1.refl _, rfl⟩ rfl rfl ?_
    rintro ⟨n, b, hj⟩ ⟨hn, hx, hb⟩ again hag e he
    simp only at hn hx hb hag he
    simp only [↓amPre, amPost, ↓s_lit', Nat.reduceAdd, Nat.reduceSub, List.replicate, retA, resultsA, resultA, toC, toCL, Nat.reduceEqDiff] at he
    simp only [↓amPre, amPost, ↓s_lit', Nat.reduceAdd, Nat.reduceSub, List.replicate, retA, resultsA, resultA, toC, toCL, Nat.reduceEqDiff, he]
    have hle := hx.len
    have hTj := tabB_ext hT1 hx
    have cj : cellsAt hj h.length = some (gC E) := by rw [hx.cells (by omega)]; exact c1
    refine ends_cond (fun hc1 => ?_) (fun hc1 => ?_)
    · simp only [decide_eq_true_eq] at hc1
      have hn64 : n < 64 := by omega
      obtain ⟨v2, h2, e20, hx2, q2, rfl, r2⟩ := s20 S (show 4 ≤ d by omega) G (n : Int) h.length hj (by omega) hTj
      have hlen2 := r2.len (un35 S.p)
      have hll := rchL_le L (n : Int)
      generalize hR : rchL L (n : Int) = R at *
      simp (maxSteps := 1000000) (disch := first | omega | (simp (disch := first | omega | (simp only [gC_len, Edg.len, ixC_len, wC_len, bC_len, List.length_append, List.length_cons, List.length_nil, List.length_set]; first | done | omega)) only [gC_len, Edg.len, ixC_len, wC_len, bC_len, amSide, Int.reduceToNat, Nat.reducePow, Nat.reduceMul]; first | done | omega)) only  [↓amPre, amPost, ↓s_lit', Nat.reduceAdd, Nat.reduceSub, List.replicate, retA, resultsA, resultA, toC, toCL, Nat.reduceEqDiff, he, (ze33 S.p), eql_bool (un4 S.p), neq_bool (un4 S.p), iaddr_sl (un35 S.p) (sz3 S.p), len_sl (un22 S.p), len_nils (un22 S.p), len_sl (un35 S.p), len_nils (un35 S.p), part_sc (ag3 S.p), part_all (ag33 S.p) (sz33 S.p), part_at (ag33 S.p) (sz33 S.p), store_last (sz33 S.p), (sz33 S.p), cj, pE, e20, hlen2]
      refine ends_loop (X := ThF) ⟨0, b, h2⟩ [8, 34, 35, 36, 37, 38, 39, 40, 41, 42, 43] (fun x => x.i ≤ R.length ∧ x.h = h2 ∧ x.b = (b || (R.take x.i).any fun k => k == n)) (fun x => R.length - x.i)
        (fun x e => (e.set 5 (.v (.sc (.bool x.b)))).set 33 (.v (.sc (.int .i64 x.i)))) (fun x => x.h)
        (by have := S.k; show _ < K; simp only; omega) ⟨by simp only; omega, rfl, by simp⟩ rfl rfl ?_
      clear he
      rintro ⟨i, b2, hh⟩ ⟨hi, hhe, hb2⟩ again2 hag2 e2 he2
      simp only at hi hhe hb2 hag2 he2
      subst hhe
      simp only [↓amPre, amPost, ↓s_lit', Nat.reduceAdd, Nat.reduceSub, List.replicate, retA, resultsA, resultA, toC, toCL, Nat.reduceEqDiff] at he2
      simp only [↓amPre, amPost, ↓s_lit', Nat.reduceAdd, Nat.reduceSub, List.replicate, retA, resultsA, resultA, toC, toCL, Nat.reduceEqDiff, he2]
      refine ends_cond (fun hc2 => ?_) (fun hc2 => ?_)
      · simp only [decide_eq_true_eq] at hc2
        obtain ⟨bb, rfl, hbb, hcc⟩ := r2.at (by omega)
        obtain ⟨k, hki⟩ : ∃ k, R[i]? = some k := ⟨_, List.getElem?_eq_getElem (by omega)⟩
        have gk := recs_get0 ixC_len hki (by omega)
        rw [Nat.mul_one, show (ixC k)[0]? = some (.int .i64 (k : Nat)) from rfl] at gk
        have hsn := any_take_succ hki fun k => k == n
        cases b2 with
        | true =>
          have hgo := hag2 ⟨i + 1, true, hh⟩ ⟨by simp only; omega, rfl, by simp only [hsn, ← Bool.or_assoc, ← hb2, Bool.true_or]⟩ (by simp only; omega)
          simp (maxSteps := 1000000) (disch := first | omega | (simp (disch := first | omega | (simp only [gC_len, Edg.len, ixC_len, wC_len, bC_len, List.length_append, List.length_cons, List.length_nil, List.length_set]; first | done | omega)) only [gC_len, Edg.len, ixC_len, wC_len, bC_len, amSide, Int.reduceToNat, Nat.reducePow, Nat.reduceMul]; first | done | omega)) only  [↓amPre, amPost, ↓s_lit', Nat.reduceAdd, Nat.reduceSub, List.replicate, retA, resultsA, resultA, toC, toCL, Nat.reduceEqDiff, he2, (ze33 S.p), eql_bool (un4 S.p), neq_bool (un4 S.p), iaddr_sl (un35 S.p) (sz3 S.p), len_sl (un22 S.p), len_nils (un22 S.p), len_sl (un35 S.p), len_nils (un35 S.p), part_sc (ag3 S.p), part_all (ag33 S.p) (sz33 S.p), part_at (ag33 S.p) (sz33 S.p), store_last (sz33 S.p), (sz33 S.p), idx_ok, hcc, gk, Nat.mul_one, Int.toNat_natCast, Nat.zero_add, wrap_i64]
          refine hgo _ ?_
          simp (maxSteps := 1000000) (disch := first | omega | (simp (disch := first | omega | (simp only [gC_len, Edg.len, ixC_len, wC_len, bC_len, List.length_append, List.length_cons, List.length_nil, List.length_set]; first | done | omega)) only [gC_len, Edg.len, ixC_len, wC_len, bC_len, amSide, Int.reduceToNat, Nat.reducePow, Nat.reduceMul]; first | done | omega)) only [↓amPre, amPost, ↓s_lit', Nat.reduceAdd, Nat.reduceSub, List.replicate, retA, resultsA, resultA, toC, toCL, Nat.reduceEqDiff, Int.natCast_add, Int.cast_ofNat_Int, dec_t, dec_f]
        | false =>
          by_cases hkn : k = n
          · have hgo := hag2 ⟨i + 1, true, hh⟩ ⟨by simp only; omega, rfl, by simp only [hsn, ← Bool.or_assoc, ← hb2]; simp [hkn]⟩ (by simp only; omega)
            simp (maxSteps := 1000000) (disch := first | omega | (simp (disch := first | omega | (simp only [gC_len, Edg.len, ixC_len, wC_len, bC_len, List.length_append, List.length_cons, List.length_nil, List.length_set]; first | done | omega)) only [gC_len, Edg.len, ixC_len, wC_len, bC_len, amSide, Int.reduceToNat, Nat.reducePow, Nat.reduceMul]; first | done | omega)) only  [↓amPre, amPost, ↓s_lit', Nat.reduceAdd, Nat.reduceSub, List.replicate, retA, resultsA, resultA, toC, toCL, Nat.reduceEqDiff, he2, (ze33 S.p), eql_bool (un4 S.p), neq_bool (un4 S.p), iaddr_sl (un35 S.p) (sz3 S.p), len_sl (un22 S.p), len_nils (un22 S.p), len_sl (un35 S.p), len_nils (un35 S.p), part_sc (ag3 S.p), part_all (ag33 S.p) (sz33 S.p), part_at (ag33 S.p) (sz33 S.p), store_last (sz33 S.p), (sz33 S.p), idx_ok, hcc, gk, beqI_t, Nat.mul_one, Int.toNat_natCast, Nat.zero_add, wrap_i64]
            refine hgo _ ?_
            simp (maxSteps := 1000000) (disch := first | omega | (simp (disch := first | omega | (simp only [gC_len, Edg.len, ixC_len, wC_len, bC_len, List.length_append, List.length_cons, List.length_nil, List.length_set]; first | done | omega)) only [gC_len, Edg.len, ixC_len, wC_len, bC_len, amSide, Int.reduceToNat, Nat.reducePow, Nat.reduceMul]; first | done | omega)) only [↓amPre, amPost, ↓s_lit', Nat.reduceAdd, Nat.reduceSub, List.replicate, retA, resultsA, resultA, toC, toCL, Nat.reduceEqDiff, Int.natCast_add, Int.cast_ofNat_Int, dec_t, dec_f]
          · have hgo := hag2 ⟨i + 1, false, hh⟩ ⟨by simp only; omega, rfl, by simp only [hsn, ← Bool.or_assoc, ← hb2]; simp [hkn]⟩ (by simp only; omega)
            simp (maxSteps := 1000000) (disch := first | omega | (simp (disch := first | omega | (simp only [gC_len, Edg.len, ixC_len, wC_len, bC_len, List.length_append, List.length_cons, List.length_nil, List.length_set]; first | done | omega)) only [gC_len, Edg.len, ixC_len, wC_len, bC_len, amSide, Int.reduceToNat, Nat.reducePow, Nat.reduceMul]; first | done | omega)) only  [↓amPre, amPost, ↓s_lit', Nat.reduceAdd, Nat.reduceSub, List.replicate, retA, resultsA, resultA, toC, toCL, Nat.reduceEqDiff, he2, (ze33 S.p), eql_bool (un4 S.p), neq_bool (un4 S.p), iaddr_sl (un35 S.p) (sz3 S.p), len_sl (un22 S.p), len_nils (un22 S.p), len_sl (un35 S.p), len_nils (un35 S.p), part_sc (ag3 S.p), part_all (ag33 S.p) (sz33 S.p), part_at (ag33 S.p) (sz33 S.p), store_last (sz33 S.p), (sz33 S.p), idx_ok, hcc, gk, beqI_f, Nat.mul_one, Int.toNat_natCast, Nat.zero_add, wrap_i64]
            refine hgo _ ?_
            simp (maxSteps := 1000000) (disch := first | omega | (simp (disch := first | omega | (simp only [gC_len, Edg.len, ixC_len, wC_len, bC_len, List.length_append, List.length_cons, List.length_nil, List.length_set]; first | done | omega)) only [gC_len, Edg.len, ixC_len, wC_len, bC_len, amSide, Int.reduceToNat, Nat.reducePow, Nat.reduceMul]; first | done | omega)) only [↓amPre, amPost, ↓s_lit', Nat.reduceAdd, Nat.reduceSub, List.replicate, retA, resultsA, resultA, toC, toCL, Nat.reduceEqDiff, Int.natCast_add, Int.cast_ofNat_Int, dec_t, dec_f]
      · simp only [decide_eq_false_iff_not] at hc2
        obtain rfl : i = R.length := by omega
        clear hag2
        simp (maxSteps := 1000000) (disch := first | omega | (simp (disch := first | omega | (simp only [gC_len, Edg.len, ixC_len, wC_len, bC_len, List.length_append, List.length_cons, List.length_nil, List.length_set]; first | done | omega)) only [gC_len, Edg.len, ixC_len, wC_len, bC_len, amSide, Int.reduceToNat, Nat.reducePow, Nat.reduceMul]; first | done | omega)) only  [↓amPre, amPost, ↓s_lit', Nat.reduceAdd, Nat.reduceSub, List.replicate, retA, resultsA, resultA, toC, toCL, Nat.reduceEqDiff, he2, (ze33 S.p), eql_bool (un4 S.p), neq_bool (un4 S.p), iaddr_sl (un35 S.p) (sz3 S.p), len_sl (un22 S.p), len_nils (un22 S.p), len_sl (un35 S.p), len_nils (un35 S.p), part_sc (ag3 S.p), part_all (ag33 S.p) (sz33 S.p), part_at (ag33 S.p) (sz33 S.p), store_last (sz33 S.p), (sz33 S.p), wrap_i64]
        refine hag ⟨n + 1, b2, hh⟩ ⟨by simp only; omega, hx.trans hx2, ?_⟩ (by simp only; omega) _ ?_
        · simp only
          rw [hb2, List.take_length, hb]
          show _ = (rbB L n || (rchL L (n : Int)).any (fun k => k == n))
          rw [hR]
        · simp (maxSteps := 1000000) (disch := first | omega | (simp (disch := first | omega | (simp only [gC_len, Edg.len, ixC_len, wC_len, bC_len, List.length_append, List.length_cons, List.length_nil, List.length_set]; first | done | omega)) only [gC_len, Edg.len, ixC_len, wC_len, bC_len, amSide, Int.reduceToNat, Nat.reducePow, Nat.reduceMul]; first | done | omega)) only [↓amPre, amPost, ↓s_lit', Nat.reduceAdd, Nat.reduceSub, List.replicate, retA, resultsA, resultA, toC, toCL, Nat.reduceEqDiff, Int.natCast_add, Int.cast_ofNat_Int, dec_t, dec_f]
    · simp only [decide_eq_false_iff_not] at hc1
      obtain rfl : n = 64 := by omega
      clear hag
      have hrb := rbB_iff G 64 (Nat.le_refl _)
      rw [← hb] at hrb
      have hri := ring_iff G
      obtain ⟨hF, hf, hR64, hpos⟩ := ring_all G
      have r4' := r4.ext hx
      have hlen4 := r4'.len (un35 S.p)
      clear r4 hb
      have e16 := fun (a b : Nat) lk h => s16 S (show 2 ≤ d by omega) Go a b lk h
      simp only [has_eq G] at e16
      have hpos' : (0 < (ringV E).length) ↔ b = true := by rw [hpos, hri, hrb]
      generalize ringV E = R at *
      clear hpos hri
      simp (maxSteps := 1000000) (disch := first | omega | (simp (disch := first | omega | (simp only [gC_len, Edg.len, ixC_len, wC_len, bC_len, List.length_append, List.length_cons, List.length_nil, List.length_set]; first | done | omega)) only [gC_len, Edg.len, ixC_len, wC_len, bC_len, amSide, Int.reduceToNat, Nat.reducePow, Nat.reduceMul]; first | done | omega)) only  [↓amPre, amPost, ↓s_lit', Nat.reduceAdd, Nat.reduceSub, List.replicate, retA, resultsA, resultA, toC, toCL, Nat.reduceEqDiff, he, (ze33 S.p), eql_bool (un4 S.p), neq_bool (un4 S.p), iaddr_sl (un35 S.p) (sz3 S.p), len_sl (un22 S.p), len_nils (un22 S.p), len_sl (un35 S.p), len_nils (un35 S.p), part_sc (ag3 S.p), part_all (ag33 S.p) (sz33 S.p), part_at (ag33 S.p) (sz33 S.p), store_last (sz33 S.p), (sz33 S.p), hlen4]
      refine ends_loop (X := ThN) ⟨0⟩ [2, 9, 10, 48, 49, 50, 51, 52, 53, 54, 55, 56, 57, 58, 59, 60, 61, 62, 63, 64, 65, 66, 67, 68, 69, 70, 71] (fun x => x.i ≤ R.length) (fun x => R.length - x.i)
        (fun x e => e.set 47 (.v (.sc (.int .i64 x.i)))) (fun x => hj)
        (by have := S.k; show _ < K; simp only; omega) (by simp only; omega) rfl rfl ?_
      clear he
      rintro ⟨i⟩ hi again hag e he
      simp only at hi hag he
      simp only [↓amPre, amPost, ↓s_lit', Nat.reduceAdd, Nat.reduceSub, List.replicate, retA, resultsA, resultA, toC, toCL, Nat.reduceEqDiff] at he
      simp only [↓amPre, amPost, ↓s_lit', Nat.reduceAdd, Nat.reduceSub, List.replicate, retA, resultsA, resultA, toC, toCL, Nat.reduceEqDiff, he]
      refine ends_cond (fun hc2 => ?_) (fun hc2 => ?_)
      · simp only [decide_eq_true_eq] at hc2
        obtain ⟨bb, rfl, hbb, hcc⟩ := r4'.at (by omega)
        have hm : (i + 1) % R.length < R.length := Nat.mod_lt _ (by omega)
        obtain ⟨x, hxi⟩ : ∃ x, R[i]? = some x := ⟨_, List.getElem?_eq_getElem (by omega)⟩
        obtain ⟨y, hyi⟩ : ∃ y, R[(i + 1) % R.length]? = some y := ⟨_, List.getElem?_eq_getElem hm⟩
        obtain ⟨f, hfi⟩ : ∃ f, R[0]? = some f := ⟨_, List.getElem?_eq_getElem (by omega)⟩
        have gx := recs_get0 ixC_len hxi (by omega)
        have gy := recs_get0 ixC_len hyi (by omega)
        have gf := recs_get0 ixC_len hfi (by omega)
        rw [Nat.mul_one, show (ixC x)[0]? = some (.int .i64 (x : Nat)) from rfl] at gx
        rw [Nat.mul_one, show (ixC y)[0]? = some (.int .i64 (y : Nat)) from rfl] at gy
        rw [Nat.zero_mul, show (ixC f)[0]? = some (.int .i64 (f : Nat)) from rfl] at gf
        have hedge := hF i x y hxi hyi
        have hle0 := hf i x f hxi hfi
        have e16' := e16 x y
        rw [decide_eq_true hedge] at e16'
        have htm : ((i : Int) + 1).tmod (R.length : Int) = (((i + 1) % R.length : Nat) : Int) := tmodN (i + 1) R.length
        have hR0 : ¬ ((R.length : Int) = 0) := by omega
        clear e16 hF hf
        generalize (i + 1) % R.length = mi at *
        simp (maxSteps := 1000000) (disch := first | omega | (simp (disch := first | omega | (simp only [gC_len, Edg.len, ixC_len, wC_len, bC_len, List.length_append, List.length_cons, List.length_nil, List.length_set]; first | done | omega)) only [gC_len, Edg.len, ixC_len, wC_len, bC_len, amSide, Int.reduceToNat, Nat.reducePow, Nat.reduceMul]; first | done | omega)) only  [↓amPre, amPost, ↓s_lit', Nat.reduceAdd, Nat.reduceSub, List.replicate, retA, resultsA, resultA, toC, toCL, Nat.reduceEqDiff, he, (ze33 S.p), eql_bool (un4 S.p), neq_bool (un4 S.p), iaddr_sl (un35 S.p) (sz3 S.p), len_sl (un22 S.p), len_nils (un22 S.p), len_sl (un35 S.p), len_nils (un35 S.p), part_sc (ag3 S.p), part_all (ag33 S.p) (sz33 S.p), part_at (ag33 S.p) (sz33 S.p), store_last (sz33 S.p), (sz33 S.p), hlen4, idx_ok, hcc, gx, gy, gf, cj, pE, htm, hR0, e16', dec_f, Nat.mul_one, Int.toNat_natCast, Int.toNat_zero, Nat.zero_mul, Nat.zero_add, wrap_i64]
        refine hag ⟨i + 1⟩ (by simp only; omega) (by simp only; omega) _ ?_
        simp (maxSteps := 1000000) (disch := first | omega | (simp (disch := first | omega | (simp only [gC_len, Edg.len, ixC_len, wC_len, bC_len, List.length_append, List.length_cons, List.length_nil, List.length_set]; first | done | omega)) only [gC_len, Edg.len, ixC_len, wC_len, bC_len, amSide, Int.reduceToNat, Nat.reducePow, Nat.reduceMul]; first | done | omega)) only [↓amPre, amPost, ↓s_lit', Nat.reduceAdd, Nat.reduceSub, List.replicate, retA, resultsA, resultA, toC, toCL, Nat.reduceEqDiff, Int.natCast_add, Int.cast_ofNat_Int, dec_t, dec_f]
      · simp only [decide_eq_false_iff_not] at hc2
        obtain rfl : i = R.length := by omega
        clear hag hF hf e16
        obtain ⟨v3, h3, e10, hx3, hv3⟩ := s10 S (show 3 ≤ d by omega) Go h.length hj (by omega) hTj
        change (match orderV E with | some out => ∃ q', v3 = .tup [.sc q', .sc (.bool true)] ∧ Rs ixC 1 h3 q' out | none => v3 = .tup [.sc .nils, .sc (.bool false)]) at hv3
        have hT3 := tabB_ext hTj hx3
        have hle3 := hx3.len
        cases ho : orderV E with
        | none =>
          rw [ho] at hv3
          simp only at hv3
          subst hv3
          obtain ⟨n, hn⟩ := order_none G ho
          have hbt : b = true := hrb.2 ⟨n, hn.lt G, hn⟩
          have hRp := hpos'.2 hbt
          subst hbt
          have f7 := fun lk => s7 S (show 5 ≤ d by omega) lk (h3 ++ [.map []]) (tabB_ext hT3 ((Ext1.refl h3).push _))
          simp (maxSteps := 1000000) (disch := first | omega | (simp (disch := first | omega | (simp only [gC_len, Edg.len, ixC_len, wC_len, bC_len, List.length_append, List.length_cons, List.length_nil, List.length_set]; first | done | omega)) only [gC_len, Edg.len, ixC_len, wC_len, bC_len, amSide, Int.reduceToNat, Nat.reducePow, Nat.reduceMul]; first | done | omega)) only  [↓amPre, amPost, ↓s_lit', Nat.reduceAdd, Nat.reduceSub, List.replicate, retA, resultsA, resultA, toC, toCL, Nat.reduceEqDiff, he, (ze33 S.p), eql_bool (un4 S.p), neq_bool (un4 S.p), iaddr_sl (un35 S.p) (sz3 S.p), len_sl (un22 S.p), len_nils (un22 S.p), len_sl (un35 S.p), len_nils (un35 S.p), part_sc (ag3 S.p), part_all (ag33 S.p) (sz33 S.p), part_at (ag33 S.p) (sz33 S.p), store_last (sz33 S.p), (sz33 S.p), hlen4, cj, pE, e10, dec_t, bne_self_eq_false]
          refine ends_loop (X := ThN) ⟨0⟩ [2, 14, 15, 17, 91, 92, 93, 94, 95, 96, 97, 98, 99, 100, 101, 102, 103, 104, 105, 106, 107, 108, 109, 110, 111, 112, 113, 114, 115, 116, 117, 118, 119] (fun x => x.i = 0) (fun x => 0)
            (fun x e => e) (fun x => h3 ++ [.map []])
            (by have := S.k; show _ < K; omega) rfl rfl rfl ?_
          clear he
          rintro ⟨i⟩ hi again hag e he
          clear hag
          simp only [↓amPre, amPost, ↓s_lit', Nat.reduceAdd, Nat.reduceSub, List.replicate, retA, resultsA, resultA, toC, toCL, Nat.reduceEqDiff] at he
          simp (maxSteps := 1000000) (disch := first | omega | (simp (disch := first | omega | (simp only [gC_len, Edg.len, ixC_len, wC_len, bC_len, List.length_append, List.length_cons, List.length_nil, List.length_set]; first | done | omega)) only [gC_len, Edg.len, ixC_len, wC_len, bC_len, amSide, Int.reduceToNat, Nat.reducePow, Nat.reduceMul]; first | done | omega)) only  [↓amPre, amPost, ↓s_lit', Nat.reduceAdd, Nat.reduceSub, List.replicate, retA, resultsA, resultA, toC, toCL, Nat.reduceEqDiff, he, (ze33 S.p), eql_bool (un4 S.p), neq_bool (un4 S.p), iaddr_sl (un35 S.p) (sz3 S.p), len_sl (un22 S.p), len_nils (un22 S.p), len_sl (un35 S.p), len_nils (un35 S.p), part_sc (ag3 S.p), part_all (ag33 S.p) (sz33 S.p), part_at (ag33 S.p) (sz33 S.p), store_last (sz33 S.p), (sz33 S.p), dec_f, f7]
          exact Ends.some rfl
        | some out =>
          rw [ho] at hv3
          obtain ⟨q11, rfl, r11⟩ := hv3
          obtain ⟨o1, o2, o3⟩ := order_some G ho
          have hbf : b = false := by
            cases hq : b
            · rfl
            · obtain ⟨n, _, hn⟩ := hrb.1 hq
              exact absurd hn (o1 n)
          have hRp : ¬ 0 < R.length := fun z => by rw [hpos'.1 z] at hbf; cases hbf
          subst hbf
          have hol : out.length ≤ 64 := by
            have := ord_len _ _ [] out 0 rfl ho
            rw [this, List.length_nil]
            have := bl_len (allE E 64)
            omega
          have hlen11 := r11.len (un35 S.p)
          have hAx : Ext1 h3 (h3 ++ [.map []]) := (Ext1.refl h3).push _
          clear o1 hrb hpos' r4' e13 ho
          simp (maxSteps := 1000000) (disch := first | omega | (simp (disch := first | omega | (simp only [gC_len, Edg.len, ixC_len, wC_len, bC_len, List.length_append, List.length_cons, List.length_nil, List.length_set]; first | done | omega)) only [gC_len, Edg.len, ixC_len, wC_len, bC_len, amSide, Int.reduceToNat, Nat.reducePow, Nat.reduceMul]; first | done | omega)) only  [↓amPre, amPost, ↓s_lit', Nat.reduceAdd, Nat.reduceSub, List.replicate, retA, resultsA, resultA, toC, toCL, Nat.reduceEqDiff, he, (ze33 S.p), eql_bool (un4 S.p), neq_bool (un4 S.p), iaddr_sl (un35 S.p) (sz3 S.p), len_sl (un22 S.p), len_nils (un22 S.p), len_sl (un35 S.p), len_nils (un35 S.p), part_sc (ag3 S.p), part_all (ag33 S.p) (sz33 S.p), part_at (ag33 S.p) (sz33 S.p), store_last (sz33 S.p), (sz33 S.p), hlen4, cj, pE, e10, dec_f, bne_self_eq_false, beq_self_eq_true, hlen11]
          refine ends_loop (X := ThP) ⟨0, [], h3 ++ [.map []]⟩ [2, 14, 15, 17, 91, 92, 93, 94, 95, 96, 97, 98, 99, 100, 101, 102, 103, 104, 105, 106, 107, 108, 109, 110, 111, 112, 113, 114, 115, 116, 117, 118, 119]
            (fun x => x.i ≤ out.length ∧ Ext1 h3 x.h ∧ h3.length < x.h.length ∧ x.h[h3.length]? = some (.map (ents x.M)) ∧ ∀ (j k : Nat), out[j]? = some k → j < x.i → getE (k : Int) x.M = (j : Int) + 1) (fun x => out.length - x.i)
            (fun x e => e.set 90 (.v (.sc (.int .i64 x.i)))) (fun x => x.h)
            (by have := S.k; show _ < K; simp only; omega) ⟨by simp only; omega, hAx, by simp, by simp [ents], fun j k _ z => absurd z (by simp)⟩ rfl rfl ?_
          clear he
          rintro ⟨i, M, hm⟩ ⟨hi, hxm, hlm, hM, hMk⟩ again hag e he
          simp only at hi hxm hlm hM hMk hag he
          simp only [↓amPre, amPost, ↓s_lit', Nat.reduceAdd, Nat.reduceSub, List.replicate, retA, resultsA, resultA, toC, toCL, Nat.reduceEqDiff] at he
          simp only [↓amPre, amPost, ↓s_lit', Nat.reduceAdd, Nat.reduceSub, List.replicate, retA, resultsA, resultA, toC, toCL, Nat.reduceEqDiff, he]
          have hlx := hxm.len
          refine ends_cond (fun hc3 => ?_) (fun hc3 => ?_)
          · simp only [decide_eq_true_eq] at hc3
            obtain ⟨bb, rfl, hbb, hcc⟩ := r11.at (by omega)
            obtain ⟨n, hni⟩ : ∃ n, out[i]? = some n := ⟨_, List.getElem?_eq_getElem (by omega)⟩
            have hcm : cellsAt hm bb = some (recs ixC out) := by rw [hxm.cells hbb]; exact hcc
            have gn := recs_get0 ixC_len hni (by omega)
            rw [Nat.mul_one, show (ixC n)[0]? = some (.int .i64 (n : Nat)) from rfl] at gn
            have hup := upd_ents (P := P) (un47 S.p) (un3 S.p) hM (show h.length ≤ h3.length by omega) (n : Int) ((i : Int) + 1)
            obtain ⟨M', hM'⟩ : ∃ M', M' = updE (n : Int) ((i : Int) + 1) M := ⟨_, rfl⟩
            rw [← hM'] at hup
            obtain ⟨h4, hh4⟩ : ∃ h4, h4 = hm.set h3.length (.map (ents M')) := ⟨_, rfl⟩
            rw [← hh4] at hup
            have hl4 : h4.length = hm.length := by rw [hh4, List.length_set]
            have x4 : Ext1 h3 h4 := by rw [hh4]; exact hxm.set (Nat.le_refl _) _
            have c4 : cellsAt h4 h.length = some (gC E) := by rw [(hx3.trans x4).cells (by omega)]; exact cj
            have m4 : h4[h3.length]? = some (.map (ents M')) := by rw [hh4]; exact List.getElem?_set_self hlm
            have cm4 : cellsAt h4 bb = some (recs ixC out) := by rw [x4.cells hbb]; exact hcc
            obtain ⟨v5, h5, e18, hx5, q5, rfl, r5⟩ := s18 S (show 3 ≤ d by omega) Go (n : Int) h.length h4 (by omega) (tabB_ext hT3 x4)
            rw [next_eq G] at r5
            have hlen5 := r5.len (un35 S.p)
            have m5 : h5[h3.length]? = some (.map (ents M')) := by rw [hx5.get (by omega)]; exact m4
            have hnl := nxL_le L (n : Int) 64
            have hMn : ∀ (j k : Nat), out[j]? = some k → j < i + 1 → getE (k : Int) M' = (j : Int) + 1 := by
              intro j k hjk hj1
              rw [hM', getE_upd]
              by_cases hk : (k : Int) = (n : Int)
              · rw [if_pos hk]
                have hkn : k = n := by omega
                have := (List.getElem?_inj (j := i) (List.getElem?_eq_some_iff.1 hjk).1 o2).1 (by rw [hjk, hni, hkn])
                omega
              · rw [if_neg hk]
                refine hMk j k hjk ?_
                rcases Nat.lt_or_ge j i with z | z
                · exact z
                · have : j = i := by omega
                  rw [this, hni] at hjk
                  have := Option.some.inj hjk
                  omega
            have hNk : ∀ k ∈ nxL L (n : Int) 64, ∃ j, j < i ∧ getE (k : Int) M' = (j : Int) + 1 := by
              intro k hk
              have hkL : (⟨(n : Int), (k : Int)⟩ : Edg) ∈ L := by
                unfold nxL at hk
                exact of_decide_eq_true (List.mem_filter.1 hk).2
              have hkt := o3 i n hni k hkL
              obtain ⟨j, hj⟩ := List.getElem?_of_mem hkt
              have hjlt : j < (out.take i).length := (List.getElem?_eq_some_iff.1 hj).1
              rw [List.length_take] at hjlt
              rw [List.getElem?_take_of_lt (by omega)] at hj
              exact ⟨j, by omega, hMn j k hj (by omega)⟩
            have hago := hag ⟨i + 1, M', h5⟩ ⟨by simp only; omega, x4.trans hx5, by have := hx5.len; simp only; omega, m5, hMn⟩ (by simp only; omega)
            clear hag hMk hMn o3
            generalize nxL L (n : Int) 64 = R5 at *
            simp (maxSteps := 1000000) (disch := first | omega | (simp (disch := first | omega | (simp only [gC_len, Edg.len, ixC_len, wC_len, bC_len, List.length_append, List.length_cons, List.length_nil, List.length_set]; first | done | omega)) only [gC_len, Edg.len, ixC_len, wC_len, bC_len, amSide, Int.reduceToNat, Nat.reducePow, Nat.reduceMul]; first | done | omega)) only  [↓amPre, amPost, ↓s_lit', Nat.reduceAdd, Nat.reduceSub, List.replicate, retA, resultsA, resultA, toC, toCL, Nat.reduceEqDiff, he, (ze33 S.p), eql_bool (un4 S.p), neq_bool (un4 S.p), iaddr_sl (un35 S.p) (sz3 S.p), len_sl (un22 S.p), len_nils (un22 S.p), len_sl (un35 S.p), len_nils (un35 S.p), part_sc (ag3 S.p), part_all (ag33 S.p) (sz33 S.p), part_at (ag33 S.p) (sz33 S.p), store_last (sz33 S.p), (sz33 S.p), idx_ok, hcm, gn, hup, c4, pE, e18, hlen5, Nat.mul_one, Int.toNat_natCast, Nat.zero_add, wrap_i64]
            refine ends_loop (X := ThN) ⟨0⟩ [2, 17, 104, 105, 106, 107, 108, 109, 110, 111, 112, 113, 114, 115, 116, 117, 118] (fun x => x.i ≤ R5.length) (fun x => R5.length - x.i)
              (fun x e => e.set 103 (.v (.sc (.int .i64 x.i)))) (fun x => h5)
              (by have := S.k; show _ < K; simp only; omega) (by simp only; omega) rfl rfl ?_
            clear he
            rintro ⟨j⟩ hj again2 hag2 e2 he2
            simp only at hj hag2 he2
            simp only [↓amPre, amPost, ↓s_lit', Nat.reduceAdd, Nat.reduceSub, List.replicate, retA, resultsA, resultA, toC, toCL, Nat.reduceEqDiff] at he2
            simp only [↓amPre, amPost, ↓s_lit', Nat.reduceAdd, Nat.reduceSub, List.replicate, retA, resultsA, resultA, toC, toCL, Nat.reduceEqDiff, he2]
            refine ends_cond (fun hc4 => ?_) (fun hc4 => ?_)
            · simp only [decide_eq_true_eq] at hc4
              obtain ⟨b5, rfl, hb5, hc5⟩ := r5.at (by omega)
              obtain ⟨k, hki⟩ : ∃ k, R5[j]? = some k := ⟨_, List.getElem?_eq_getElem (by omega)⟩
              have gk := recs_get0 ixC_len hki (by omega)
              rw [Nat.mul_one, show (ixC k)[0]? = some (.int .i64 (k : Nat)) from rfl] at gk
              obtain ⟨j0, hj0, hgk⟩ := hNk k (List.mem_of_getElem? hki)
              have hmu : lookupA P h5 47 (.v (.sc (.mp h3.length))) (.v (.sc (.int .i64 (k : Nat)))) false = _ := lookup_ents (un47 S.p) (un3 S.p) (zc3 S.p) m5 (k : Int)
              rw [hgk] at hmu
              simp (maxSteps := 1000000) (disch := first | omega | (simp (disch := first | omega | (simp only [gC_len, Edg.len, ixC_len, wC_len, bC_len, List.length_append, List.length_cons, List.length_nil, List.length_set]; first | done | omega)) only [gC_len, Edg.len, ixC_len, wC_len, bC_len, amSide, Int.reduceToNat, Nat.reducePow, Nat.reduceMul]; first | done | omega)) only  [↓amPre, amPost, ↓s_lit', Nat.reduceAdd, Nat.reduceSub, List.replicate, retA, resultsA, resultA, toC, toCL, Nat.reduceEqDiff, he2, (ze33 S.p), eql_bool (un4 S.p), neq_bool (un4 S.p), iaddr_sl (un35 S.p) (sz3 S.p), len_sl (un22 S.p), len_nils (un22 S.p), len_sl (un35 S.p), len_nils (un35 S.p), part_sc (ag3 S.p), part_all (ag33 S.p) (sz33 S.p), part_at (ag33 S.p) (sz33 S.p), store_last (sz33 S.p), (sz33 S.p), idx_ok, hc5, gk, hmu, beqI_f, dec_f, Nat.mul_one, Int.toNat_natCast, Nat.zero_add, wrap_i64]
              refine hag2 ⟨j + 1⟩ (by simp only; omega) (by simp only; omega) _ ?_
              simp (maxSteps := 1000000) (disch := first | omega | (simp (disch := first | omega | (simp only [gC_len, Edg.len, ixC_len, wC_len, bC_len, List.length_append, List.length_cons, List.length_nil, List.length_set]; first | done | omega)) only [gC_len, Edg.len, ixC_len, wC_len, bC_len, amSide, Int.reduceToNat, Nat.reducePow, Nat.reduceMul]; first | done | omega)) only [↓amPre, amPost, ↓s_lit', Nat.reduceAdd, Nat.reduceSub, List.replicate, retA, resultsA, resultA, toC, toCL, Nat.reduceEqDiff, Int.natCast_add, Int.cast_ofNat_Int, dec_t, dec_f]
            · simp only [decide_eq_false_iff_not] at hc4
              obtain rfl : j = R5.length := by omega
              clear hag2
              simp (maxSteps := 1000000) (disch := first | omega | (simp (disch := first | omega | (simp only [gC_len, Edg.len, ixC_len, wC_len, bC_len, List.length_append, List.length_cons, List.length_nil, List.length_set]; first | done | omega)) only [gC_len, Edg.len, ixC_len, wC_len, bC_len, amSide, Int.reduceToNat, Nat.reducePow, Nat.reduceMul]; first | done | omega)) only  [↓amPre, amPost, ↓s_lit', Nat.reduceAdd, Nat.reduceSub, List.replicate, retA, resultsA, resultA, toC, toCL, Nat.reduceEqDiff, he2, (ze33 S.p), eql_bool (un4 S.p), neq_bool (un4 S.p), iaddr_sl (un35 S.p) (sz3 S.p), len_sl (un22 S.p), len_nils (un22 S.p), len_sl (un35 S.p), len_nils (un35 S.p), part_sc (ag3 S.p), part_all (ag33 S.p) (sz33 S.p), part_at (ag33 S.p) (sz33 S.p), store_last (sz33 S.p), (sz33 S.p), wrap_i64]
              refine hago _ ?_
              simp (maxSteps := 1000000) (disch := first | omega | (simp (disch := first | omega | (simp only [gC_len, Edg.len, ixC_len, wC_len, bC_len, List.length_append, List.length_cons, List.length_nil, List.length_set]; first | done | omega)) only [gC_len, Edg.len, ixC_len, wC_len, bC_len, amSide, Int.reduceToNat, Nat.reducePow, Nat.reduceMul]; first | done | omega)) only [↓amPre, amPost, ↓s_lit', Nat.reduceAdd, Nat.reduceSub, List.replicate, retA, resultsA, resultA, toC, toCL, Nat.reduceEqDiff, Int.natCast_add, Int.cast_ofNat_Int, dec_t, dec_f]
          · simp only [decide_eq_false_iff_not] at hc3
            have f7 := fun lk => s7 S (show 5 ≤ d by omega) lk hm (tabB_ext hT3 hxm)
            simp (maxSteps := 1000000) (disch := first | omega | (simp (disch := first | omega | (simp only [gC_len, Edg.len, ixC_len, wC_len, bC_len, List.length_append, List.length_cons, List.length_nil, List.length_set]; first | done | omega)) only [gC_len, Edg.len, ixC_len, wC_len, bC_len, amSide, Int.reduceToNat, Nat.reducePow, Nat.reduceMul]; first | done | omega)) only  [↓amPre, amPost, ↓s_lit', Nat.reduceAdd, Nat.reduceSub, List.replicate, retA, resultsA, resultA, toC, toCL, Nat.reduceEqDiff, he, (ze33 S.p), eql_bool (un4 S.p), neq_bool (un4 S.p), iaddr_sl (un35 S.p) (sz3 S.p), len_sl (un22 S.p), len_nils (un22 S.p), len_sl (un35 S.p), len_nils (un35 S.p), part_sc (ag3 S.p), part_all (ag33 S.p) (sz33 S.p), part_at (ag33 S.p) (sz33 S.p), store_last (sz33 S.p), (sz33 S.p), f7]
            exact Ends.some rfl
end Go.AM
