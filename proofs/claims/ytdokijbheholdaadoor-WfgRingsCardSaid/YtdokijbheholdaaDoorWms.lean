/- Waiting graphs: the document's order. Conditions: none. -/
import Derived.Test.YtdokijbheholdaaDoorWls
set_option linter.unusedVariables false
set_option linter.unusedSimpArgs false
set_option maxRecDepth 100000
namespace Go.AM
open Go.Proofs Go.Lib
-- LENS: gC_len, Edg.len, ixC_len, wC_len, bC_len
def bestI (r : Option Nat) : Int := match r with | some k => (k : Int) | none => -1
theorem find_take_some {α : Type} {p : α → Bool} : ∀ {l : List α} {i : Nat} {k : α}, (l.take i).find? p = some k → l.find? p = some k
  | [], i, k, h => by simp at h
  | a :: l, 0, k, h => by simp at h
  | a :: l, i + 1, k, h => by
    rw [List.take_succ_cons] at h
    simp only [List.find?] at h ⊢
    cases hp : p a with
    | true => rw [hp] at h; exact h
    | false => rw [hp] at h; exact find_take_some h
theorem find_snoc {α : Type} {p : α → Bool} {l : List α} {i : Nat} {x : α} (h : l[i]? = some x) (hn : (l.take i).find? p = none) : (l.take (i + 1)).find? p = if p x = true then some x else none := by
  rw [List.take_add_one, h, List.find?_append, hn]
  simp only [Option.toList_some, Option.none_or, List.find?]
  cases p x <;> rfl
theorem all_take_succ {α : Type} {l : List α} {i : Nat} {x : α} (h : l[i]? = some x) (f : α → Bool) : (l.take (i + 1)).all f = ((l.take i).all f && f x) := by
  rw [List.take_add_one, h]; simp
structure ThR2 where
  i : Nat
  out : List Nat
  q : SV
  h : List AO
structure ThB2 where
  i : Nat
  b : Int
  h : List AO
structure ThJ where
  i : Nat
  b : Bool
set_option maxHeartbeats 16000000 in
theorem s11 {P : Program} {T : Tab} {K d : Nat} (S : Sd P T K) (hd : 3 ≤ d) {E : List Nat} {p : Nat} {q : SV} {L : List Edg} (G : GR E L) (hL : L.length ≤ 200) (lk : Nat) (h : List AO) (hlk : lk ≤ h.length) (hpl : p < h.length) (hp : cellsAt h p = some [q]) (hq : Rs Edg.cells 2 h q L) :
    Ends (OrdR (orderV E) h) (ev P T K d 11 [.sc (.ptr p 0)] lk h) := by
  obtain ⟨d, rfl⟩ : ∃ k, d = k + 1 := ⟨d - 1, by omega⟩
  rw [ev_run (at11 S.t), rord_eq G]
  unfold i11 Tryd.f11
  obtain ⟨v1, h1, e28, hx1, q4, rfl, r4⟩ := s28 S (show 1 ≤ d by omega) (p := p) hL lk h hlk hpl hp hq
  have hle1 := hx1.len
  have hlen4 := r4.len (un35 S.p)
  have hl64 : ((List.range 64).filter (hasN L)).length ≤ 64 := by
    have := List.length_filter_le (hasN L) (List.range 64)
    rwa [List.length_range] at this
  generalize (List.range 64).filter (hasN L) = l at *
  simp (maxSteps := 1000000) (disch := first | omega | (simp (disch := first | omega | (simp only [gC_len, Edg.len, ixC_len, wC_len, bC_len, List.length_append, List.length_cons, List.length_nil, List.length_set]; first | done | omega)) only [gC_len, Edg.len, ixC_len, wC_len, bC_len, amSide, Int.reduceToNat, Nat.reducePow, Nat.reduceMul]; first | done | omega)) only  [↓amPre, amPost, ↓s_lit', Nat.reduceAdd, Nat.reduceSub, List.replicate, retA, resultsA, resultA, toC, toCL, Nat.reduceEqDiff, append_at (un35 S.p) (sz3 S.p) (by3 S.p) (ze3 S.p) (by decide) (by decide) rfl, copy_at (un35 S.p) (sz3 S.p) (by3 S.p) (ze3 S.p) (by decide) (by decide) rfl, sl_cells (sz3 S.p), lit_fill (un35 S.p) (sz3 S.p) (ze3 S.p), iaddr_sl (un35 S.p) (sz3 S.p), len_sl (un35 S.p), len_nils (un35 S.p), part_sc (ag3 S.p), e28]
  refine ends_loop (X := ThR2) ⟨0, [], .nils, h1⟩ [2, 3, 7, 8, 9, 10, 11, 14, 15, 16, 17, 18, 19, 20, 21, 22, 23, 24, 25, 26, 27, 28, 29, 30, 31, 32, 33, 34, 35, 36, 37, 38, 39, 40, 41, 42, 43, 44, 45, 46, 47, 48, 49, 50, 51, 52, 53, 54, 55, 56, 57, 58, 59, 60, 61, 62, 63, 64, 65, 66, 67, 68]
    (fun x => x.i ≤ l.length ∧ Ext1 h1 x.h ∧ Own 3 1 h1.length x.h x.q (recs ixC x.out) ∧ x.out.length = x.i ∧ rordV L l (l.length - x.i) x.out = rordV L l l.length []) (fun x => l.length - x.i)
    (fun x e => (e.set 5 (.v (.sc x.q))).set 6 (.v (.sc (.int .i64 x.i)))) (fun x => x.h)
    (by have := S.k; show _ < K; simp only; omega) ⟨by simp only; omega, Ext1.refl _, Own.nil _ _ _ _, rfl, rfl⟩ rfl rfl ?_
  rintro ⟨r, out, q5, hj⟩ ⟨hr, hx, hown, hol, hR⟩ again hag e he
  simp only at hr hx hown hol hR hag he
  simp only [↓amPre, amPost, ↓s_lit', Nat.reduceAdd, Nat.reduceSub, List.replicate, retA, resultsA, resultA, toC, toCL, Nat.reduceEqDiff] at he
  simp only [↓amPre, amPost, ↓s_lit', Nat.reduceAdd, Nat.reduceSub, List.replicate, retA, resultsA, resultA, toC, toCL, Nat.reduceEqDiff, he]
  simp (maxSteps := 1000000) (disch := first | omega | (simp (disch := first | omega | (simp only [gC_len, Edg.len, ixC_len, wC_len, bC_len, List.length_append, List.length_cons, List.length_nil, List.length_set]; first | done | omega)) only [gC_len, Edg.len, ixC_len, wC_len, bC_len, amSide, Int.reduceToNat, Nat.reducePow, Nat.reduceMul]; first | done | omega)) only  [↓amPre, amPost, ↓s_lit', Nat.reduceAdd, Nat.reduceSub, List.replicate, retA, resultsA, resultA, toC, toCL, Nat.reduceEqDiff, he, append_at (un35 S.p) (sz3 S.p) (by3 S.p) (ze3 S.p) (by decide) (by decide) rfl, copy_at (un35 S.p) (sz3 S.p) (by3 S.p) (ze3 S.p) (by decide) (by decide) rfl, sl_cells (sz3 S.p), lit_fill (un35 S.p) (sz3 S.p) (ze3 S.p), iaddr_sl (un35 S.p) (sz3 S.p), len_sl (un35 S.p), len_nils (un35 S.p), part_sc (ag3 S.p), hlen4]
  have hle := hx.len
  refine ends_cond (fun hc1 => ?_) (fun hc1 => ?_)
  · simp only [decide_eq_true_eq] at hc1
    have hr5 := hown.rs (by omega) ixC_len
    simp (maxSteps := 1000000) (disch := first | omega | (simp (disch := first | omega | (simp only [gC_len, Edg.len, ixC_len, wC_len, bC_len, List.length_append, List.length_cons, List.length_nil, List.length_set]; first | done | omega)) only [gC_len, Edg.len, ixC_len, wC_len, bC_len, amSide, Int.reduceToNat, Nat.reducePow, Nat.reduceMul]; first | done | omega)) only  [↓amPre, amPost, ↓s_lit', Nat.reduceAdd, Nat.reduceSub, List.replicate, retA, resultsA, resultA, toC, toCL, Nat.reduceEqDiff, he, append_at (un35 S.p) (sz3 S.p) (by3 S.p) (ze3 S.p) (by decide) (by decide) rfl, copy_at (un35 S.p) (sz3 S.p) (by3 S.p) (ze3 S.p) (by decide) (by decide) rfl, sl_cells (sz3 S.p), lit_fill (un35 S.p) (sz3 S.p) (ze3 S.p), iaddr_sl (un35 S.p) (sz3 S.p), len_sl (un35 S.p), len_nils (un35 S.p), part_sc (ag3 S.p)]
    refine ends_loop (X := ThB2) ⟨0, -1, hj⟩ [9, 10, 11, 20, 21, 22, 23, 24, 25, 26, 27, 28, 29, 30, 31, 32, 33, 34, 35, 36, 37, 38, 39, 40, 41, 42, 43, 44, 45, 46, 47, 48, 49, 50, 51, 52, 53, 54, 55, 56, 57, 58, 59, 60, 61, 62]
      (fun x => x.i ≤ l.length ∧ Ext1 hj x.h ∧ x.b = bestI ((l.take x.i).find? (nxP L out))) (fun x => l.length - x.i)
      (fun x e => (e.set 7 (.v (.sc (.int .i64 x.b)))).set 8 (.v (.sc (.int .i64 x.i)))) (fun x => x.h)
      (by have := S.k; show _ < K; simp only; omega) ⟨by simp only; omega, Ext1.refl _, rfl⟩ rfl rfl ?_
    clear he
    rintro ⟨i, b, h2⟩ ⟨hi, hx2, hb⟩ again2 hag2 e2 he2
    simp only at hi hx2 hb hag2 he2
    simp only [↓amPre, amPost, ↓s_lit', Nat.reduceAdd, Nat.reduceSub, List.replicate, retA, resultsA, resultA, toC, toCL, Nat.reduceEqDiff] at he2
    have hle2 := hx2.len
    have hown2 := hown.ext hx2
    have hm : l.length - r = (l.length - (r + 1)) + 1 := by omega
    have hRs : ∀ k, l.find? (nxP L out) = some k → rordV L l (l.length - (r + 1)) (out ++ [k]) = rordV L l l.length [] := fun k hk => by
      rw [← hR, hm]
      show _ = (match l.find? (nxP L out) with | some k => rordV L l (l.length - (r + 1)) (out ++ [k]) | none => none)
      rw [hk]
    have hRn : l.find? (nxP L out) = none → none = rordV L l l.length [] := fun hk => by
      rw [← hR, hm]
      show none = (match l.find? (nxP L out) with | some k => rordV L l (l.length - (r + 1)) (out ++ [k]) | none => none)
      rw [hk]
    by_cases hil : i < l.length
    · by_cases hb0 : b < 0
      · have hnone : (l.take i).find? (nxP L out) = none := by
          cases hq : (l.take i).find? (nxP L out) with
          | none => rfl
          | some k => rw [hb, hq] at hb0; simp only [bestI] at hb0; omega
        have hb1 : b = -1 := by rw [hb, hnone]; rfl
        subst hb1
        obtain ⟨b4, rfl, hb4, hc4⟩ := ((r4.ext hx).ext hx2).at (by omega)
        obtain ⟨x, hxi⟩ : ∃ x, l[i]? = some x := ⟨_, List.getElem?_eq_getElem (by omega)⟩
        have gx := recs_get0 ixC_len hxi (by omega)
        rw [Nat.mul_one, show (ixC x)[0]? = some (.int .i64 (x : Nat)) from rfl] at gx
        have f29 := fun (n : Nat) lk => s29 S (show 1 ≤ d by omega) (l := out) (by omega) n lk h2 (hr5.ext hx2)
        have hx12 := (hx1.trans hx).trans hx2
        obtain ⟨v3, h3, e19, hx3, q10, rfl, r10⟩ := s19 S (show 2 ≤ d by omega) (p := p) hL (x : Int) lk h2 (by omega) (by omega) (by rw [hx12.cells hpl]; exact hp) (hq.ext hx12)
        have f29' := fun (n : Nat) lk => s29 S (show 1 ≤ d by omega) (l := out) (by omega) n lk h3 ((hr5.ext hx2).ext hx3)
        have hlen10 := r10.len (un35 S.p)
        have hnl := nxL_le L (x : Int) 64
        have c4' : cellsAt h3 b4 = some (recs ixC l) := by rw [hx3.cells hb4]; exact hc4
        have hsnoc := find_snoc hxi hnone
        have hgo := fun b' (z : b' = bestI (if nxP L out x = true then some x else none)) => hag2 ⟨i + 1, b', h3⟩ ⟨by simp only; omega, hx2.trans hx3, by simp only [hsnoc]; exact z⟩ (by simp only; omega)
        have hnx : nxP L out x = (!decide (x ∈ out) && (nxL L (x : Int) 64).all fun j => decide (j ∈ out)) := rfl
        clear hag2 hag hRs hRn hown hown2
        generalize nxL L (x : Int) 64 = R5 at *
        generalize nxP L out x = nx at *
        simp (maxSteps := 1000000) (disch := first | omega | (simp (disch := first | omega | (simp only [gC_len, Edg.len, ixC_len, wC_len, bC_len, List.length_append, List.length_cons, List.length_nil, List.length_set]; first | done | omega)) only [gC_len, Edg.len, ixC_len, wC_len, bC_len, amSide, Int.reduceToNat, Nat.reducePow, Nat.reduceMul]; first | done | omega)) only  [↓amPre, amPost, ↓s_lit', Nat.reduceAdd, Nat.reduceSub, List.replicate, retA, resultsA, resultA, toC, toCL, Nat.reduceEqDiff, he2, append_at (un35 S.p) (sz3 S.p) (by3 S.p) (ze3 S.p) (by decide) (by decide) rfl, copy_at (un35 S.p) (sz3 S.p) (by3 S.p) (ze3 S.p) (by decide) (by decide) rfl, sl_cells (sz3 S.p), lit_fill (un35 S.p) (sz3 S.p) (ze3 S.p), iaddr_sl (un35 S.p) (sz3 S.p), len_sl (un35 S.p), len_nils (un35 S.p), part_sc (ag3 S.p), hlen4, dec_t, idx_ok, hc4, gx, f29, e19, Nat.mul_one, Int.toNat_natCast, Nat.zero_add]
        refine ends_loop (X := ThJ) ⟨0, !decide (x ∈ out)⟩ [43, 44, 45, 46, 47, 48, 49, 50, 51, 52, 53, 54, 55, 56, 57] (fun y => y.i ≤ R5.length ∧ y.b = (!decide (x ∈ out) && (R5.take y.i).all fun j => decide (j ∈ out))) (fun y => R5.length - y.i)
          (fun y e => (e.set 9 (.v (.sc (.bool y.b)))).set 11 (.v (.sc (.int .i64 y.i)))) (fun y => h3)
          (by have := S.k; show _ < K; simp only; omega) ⟨by simp only; omega, by simp⟩ rfl rfl ?_
        clear he2
        rintro ⟨j, ok⟩ ⟨hj2, hok⟩ again3 hag3 e3 he3
        simp only at hj2 hok hag3 he3
        simp only [↓amPre, amPost, ↓s_lit', Nat.reduceAdd, Nat.reduceSub, List.replicate, retA, resultsA, resultA, toC, toCL, Nat.reduceEqDiff] at he3
        simp (maxSteps := 1000000) (disch := first | omega | (simp (disch := first | omega | (simp only [gC_len, Edg.len, ixC_len, wC_len, bC_len, List.length_append, List.length_cons, List.length_nil, List.length_set]; first | done | omega)) only [gC_len, Edg.len, ixC_len, wC_len, bC_len, amSide, Int.reduceToNat, Nat.reducePow, Nat.reduceMul]; first | done | omega)) only  [↓amPre, amPost, ↓s_lit', Nat.reduceAdd, Nat.reduceSub, List.replicate, retA, resultsA, resultA, toC, toCL, Nat.reduceEqDiff, he3, append_at (un35 S.p) (sz3 S.p) (by3 S.p) (ze3 S.p) (by decide) (by decide) rfl, copy_at (un35 S.p) (sz3 S.p) (by3 S.p) (ze3 S.p) (by decide) (by decide) rfl, sl_cells (sz3 S.p), lit_fill (un35 S.p) (sz3 S.p) (ze3 S.p), iaddr_sl (un35 S.p) (sz3 S.p), len_sl (un35 S.p), len_nils (un35 S.p), part_sc (ag3 S.p), hlen10]
        refine ends_cond (fun hc2 => ?_) (fun hc2 => ?_)
        · simp only [decide_eq_true_eq] at hc2
          obtain ⟨b10, rfl, hb10, hc10⟩ := r10.at (by omega)
          obtain ⟨k, hki⟩ : ∃ k, R5[j]? = some k := ⟨_, List.getElem?_eq_getElem (by omega)⟩
          have gk := recs_get0 ixC_len hki (by omega)
          rw [Nat.mul_one, show (ixC k)[0]? = some (.int .i64 (k : Nat)) from rfl] at gk
          have hsn := all_take_succ hki fun j => decide (j ∈ out)
          cases ok with
          | false =>
            have := hag3 ⟨j + 1, false⟩ ⟨by simp only; omega, by simp only [hsn, ← Bool.and_assoc, ← hok, Bool.false_and]⟩ (by simp only; omega)
            simp (maxSteps := 1000000) (disch := first | omega | (simp (disch := first | omega | (simp only [gC_len, Edg.len, ixC_len, wC_len, bC_len, List.length_append, List.length_cons, List.length_nil, List.length_set]; first | done | omega)) only [gC_len, Edg.len, ixC_len, wC_len, bC_len, amSide, Int.reduceToNat, Nat.reducePow, Nat.reduceMul]; first | done | omega)) only  [↓amPre, amPost, ↓s_lit', Nat.reduceAdd, Nat.reduceSub, List.replicate, retA, resultsA, resultA, toC, toCL, Nat.reduceEqDiff, he3, append_at (un35 S.p) (sz3 S.p) (by3 S.p) (ze3 S.p) (by decide) (by decide) rfl, copy_at (un35 S.p) (sz3 S.p) (by3 S.p) (ze3 S.p) (by decide) (by decide) rfl, sl_cells (sz3 S.p), lit_fill (un35 S.p) (sz3 S.p) (ze3 S.p), iaddr_sl (un35 S.p) (sz3 S.p), len_sl (un35 S.p), len_nils (un35 S.p), part_sc (ag3 S.p), idx_ok, hc10, gk, Nat.mul_one, Int.toNat_natCast, Nat.zero_add, wrap_i64]
            refine this _ ?_
            simp (maxSteps := 1000000) (disch := first | omega | (simp (disch := first | omega | (simp only [gC_len, Edg.len, ixC_len, wC_len, bC_len, List.length_append, List.length_cons, List.length_nil, List.length_set]; first | done | omega)) only [gC_len, Edg.len, ixC_len, wC_len, bC_len, amSide, Int.reduceToNat, Nat.reducePow, Nat.reduceMul]; first | done | omega)) only [↓amPre, amPost, ↓s_lit', Nat.reduceAdd, Nat.reduceSub, List.replicate, retA, resultsA, resultA, toC, toCL, Nat.reduceEqDiff, Int.natCast_add, Int.cast_ofNat_Int, dec_t, dec_f]
          | true =>
            have := hag3 ⟨j + 1, decide (k ∈ out)⟩ ⟨by simp only; omega, by simp only [hsn, ← Bool.and_assoc, ← hok, Bool.true_and]⟩ (by simp only; omega)
            simp (maxSteps := 1000000) (disch := first | omega | (simp (disch := first | omega | (simp only [gC_len, Edg.len, ixC_len, wC_len, bC_len, List.length_append, List.length_cons, List.length_nil, List.length_set]; first | done | omega)) only [gC_len, Edg.len, ixC_len, wC_len, bC_len, amSide, Int.reduceToNat, Nat.reducePow, Nat.reduceMul]; first | done | omega)) only  [↓amPre, amPost, ↓s_lit', Nat.reduceAdd, Nat.reduceSub, List.replicate, retA, resultsA, resultA, toC, toCL, Nat.reduceEqDiff, he3, append_at (un35 S.p) (sz3 S.p) (by3 S.p) (ze3 S.p) (by decide) (by decide) rfl, copy_at (un35 S.p) (sz3 S.p) (by3 S.p) (ze3 S.p) (by decide) (by decide) rfl, sl_cells (sz3 S.p), lit_fill (un35 S.p) (sz3 S.p) (ze3 S.p), iaddr_sl (un35 S.p) (sz3 S.p), len_sl (un35 S.p), len_nils (un35 S.p), part_sc (ag3 S.p), idx_ok, hc10, gk, f29', Nat.mul_one, Int.toNat_natCast, Nat.zero_add, wrap_i64]
            refine this _ ?_
            simp (maxSteps := 1000000) (disch := first | omega | (simp (disch := first | omega | (simp only [gC_len, Edg.len, ixC_len, wC_len, bC_len, List.length_append, List.length_cons, List.length_nil, List.length_set]; first | done | omega)) only [gC_len, Edg.len, ixC_len, wC_len, bC_len, amSide, Int.reduceToNat, Nat.reducePow, Nat.reduceMul]; first | done | omega)) only [↓amPre, amPost, ↓s_lit', Nat.reduceAdd, Nat.reduceSub, List.replicate, retA, resultsA, resultA, toC, toCL, Nat.reduceEqDiff, Int.natCast_add, Int.cast_ofNat_Int, dec_t, dec_f]
        · simp only [decide_eq_false_iff_not] at hc2
          obtain rfl : j = R5.length := by omega
          clear hag3
          rw [List.take_length, ← hnx] at hok
          subst hok
          cases ok with
          | true =>
            have := hgo (x : Int) (by simp [bestI])
            simp (maxSteps := 1000000) (disch := first | omega | (simp (disch := first | omega | (simp only [gC_len, Edg.len, ixC_len, wC_len, bC_len, List.length_append, List.length_cons, List.length_nil, List.length_set]; first | done | omega)) only [gC_len, Edg.len, ixC_len, wC_len, bC_len, amSide, Int.reduceToNat, Nat.reducePow, Nat.reduceMul]; first | done | omega)) only  [↓amPre, amPost, ↓s_lit', Nat.reduceAdd, Nat.reduceSub, List.replicate, retA, resultsA, resultA, toC, toCL, Nat.reduceEqDiff, he3, append_at (un35 S.p) (sz3 S.p) (by3 S.p) (ze3 S.p) (by decide) (by decide) rfl, copy_at (un35 S.p) (sz3 S.p) (by3 S.p) (ze3 S.p) (by decide) (by decide) rfl, sl_cells (sz3 S.p), lit_fill (un35 S.p) (sz3 S.p) (ze3 S.p), iaddr_sl (un35 S.p) (sz3 S.p), len_sl (un35 S.p), len_nils (un35 S.p), part_sc (ag3 S.p), idx_ok, c4', gx, Nat.mul_one, Int.toNat_natCast, Nat.zero_add, wrap_i64]
            refine this _ ?_
            simp (maxSteps := 1000000) (disch := first | omega | (simp (disch := first | omega | (simp only [gC_len, Edg.len, ixC_len, wC_len, bC_len, List.length_append, List.length_cons, List.length_nil, List.length_set]; first | done | omega)) only [gC_len, Edg.len, ixC_len, wC_len, bC_len, amSide, Int.reduceToNat, Nat.reducePow, Nat.reduceMul]; first | done | omega)) only [↓amPre, amPost, ↓s_lit', Nat.reduceAdd, Nat.reduceSub, List.replicate, retA, resultsA, resultA, toC, toCL, Nat.reduceEqDiff, Int.natCast_add, Int.cast_ofNat_Int, dec_t, dec_f]
          | false =>
            have := hgo (-1) (by simp [bestI])
            simp (maxSteps := 1000000) (disch := first | omega | (simp (disch := first | omega | (simp only [gC_len, Edg.len, ixC_len, wC_len, bC_len, List.length_append, List.length_cons, List.length_nil, List.length_set]; first | done | omega)) only [gC_len, Edg.len, ixC_len, wC_len, bC_len, amSide, Int.reduceToNat, Nat.reducePow, Nat.reduceMul]; first | done | omega)) only  [↓amPre, amPost, ↓s_lit', Nat.reduceAdd, Nat.reduceSub, List.replicate, retA, resultsA, resultA, toC, toCL, Nat.reduceEqDiff, he3, append_at (un35 S.p) (sz3 S.p) (by3 S.p) (ze3 S.p) (by decide) (by decide) rfl, copy_at (un35 S.p) (sz3 S.p) (by3 S.p) (ze3 S.p) (by decide) (by decide) rfl, sl_cells (sz3 S.p), lit_fill (un35 S.p) (sz3 S.p) (ze3 S.p), iaddr_sl (un35 S.p) (sz3 S.p), len_sl (un35 S.p), len_nils (un35 S.p), part_sc (ag3 S.p), wrap_i64]
            refine this _ ?_
            simp (maxSteps := 1000000) (disch := first | omega | (simp (disch := first | omega | (simp only [gC_len, Edg.len, ixC_len, wC_len, bC_len, List.length_append, List.length_cons, List.length_nil, List.length_set]; first | done | omega)) only [gC_len, Edg.len, ixC_len, wC_len, bC_len, amSide, Int.reduceToNat, Nat.reducePow, Nat.reduceMul]; first | done | omega)) only [↓amPre, amPost, ↓s_lit', Nat.reduceAdd, Nat.reduceSub, List.replicate, retA, resultsA, resultA, toC, toCL, Nat.reduceEqDiff, Int.natCast_add, Int.cast_ofNat_Int, dec_t, dec_f]
      · obtain ⟨k, hk⟩ : ∃ k, (l.take i).find? (nxP L out) = some k := by
          cases hq : (l.take i).find? (nxP L out) with
          | none => rw [hb, hq] at hb0; simp only [bestI] at hb0; omega
          | some k => exact ⟨k, rfl⟩
        have hbk : b = (k : Int) := by rw [hb, hk]; rfl
        subst hbk
        have hRk := hRs k (find_take_some hk)
        obtain ⟨q2, h3, happ, hown3, hl3, _, hx3, _⟩ := grow_own (b := 8) (lk := lk) (hown2.push (.rw 3 [.int .i64 (k : Nat)])) [.int .i64 (k : Nat)] (by omega) (by simp) (by simp) (by omega) (by simp; omega) (by rw [recs_len ixC_len]; simp; omega)
        have hx4 := hx3 h1 ((hx.trans hx2).push _) (Nat.le_refl _)
        have hcs : ([.int .i64 (k : Nat)] : List SV) = ixC k := rfl
        rw [hcs, recs_snoc] at hown3
        have hgo := hag ⟨r + 1, out ++ [k], q2, h3⟩ ⟨by simp only; omega, hx4, hown3, by simp [hol], hRk⟩ (by simp only; omega)
        clear hag hag2 hRs hRn hown hown2 hown3 hx3
        simp (maxSteps := 1000000) (disch := first | omega | (simp (disch := first | omega | (simp only [gC_len, Edg.len, ixC_len, wC_len, bC_len, List.length_append, List.length_cons, List.length_nil, List.length_set]; first | done | omega)) only [gC_len, Edg.len, ixC_len, wC_len, bC_len, amSide, Int.reduceToNat, Nat.reducePow, Nat.reduceMul]; first | done | omega)) only  [↓amPre, amPost, ↓s_lit', Nat.reduceAdd, Nat.reduceSub, List.replicate, retA, resultsA, resultA, toC, toCL, Nat.reduceEqDiff, he2, append_at (un35 S.p) (sz3 S.p) (by3 S.p) (ze3 S.p) (by decide) (by decide) rfl, copy_at (un35 S.p) (sz3 S.p) (by3 S.p) (ze3 S.p) (by decide) (by decide) rfl, sl_cells (sz3 S.p), lit_fill (un35 S.p) (sz3 S.p) (ze3 S.p), iaddr_sl (un35 S.p) (sz3 S.p), len_sl (un35 S.p), len_nils (un35 S.p), part_sc (ag3 S.p), hlen4, dec_t, dec_f, happ, cells_self, List.flatten_cons, List.flatten_nil, List.append_nil, Nat.one_mul, Nat.zero_mul, splice_one, Nat.zero_add, wrap_i64]
        refine hgo _ ?_
        simp (maxSteps := 1000000) (disch := first | omega | (simp (disch := first | omega | (simp only [gC_len, Edg.len, ixC_len, wC_len, bC_len, List.length_append, List.length_cons, List.length_nil, List.length_set]; first | done | omega)) only [gC_len, Edg.len, ixC_len, wC_len, bC_len, amSide, Int.reduceToNat, Nat.reducePow, Nat.reduceMul]; first | done | omega)) only [↓amPre, amPost, ↓s_lit', Nat.reduceAdd, Nat.reduceSub, List.replicate, retA, resultsA, resultA, toC, toCL, Nat.reduceEqDiff, Int.natCast_add, Int.cast_ofNat_Int, dec_t, dec_f]
    · obtain rfl : i = l.length := by omega
      rw [List.take_length] at hb
      cases hq : l.find? (nxP L out) with
      | none =>
        rw [hq] at hb
        obtain rfl : b = -1 := hb
        rw [← hRn hq]
        simp (maxSteps := 1000000) (disch := first | omega | (simp (disch := first | omega | (simp only [gC_len, Edg.len, ixC_len, wC_len, bC_len, List.length_append, List.length_cons, List.length_nil, List.length_set]; first | done | omega)) only [gC_len, Edg.len, ixC_len, wC_len, bC_len, amSide, Int.reduceToNat, Nat.reducePow, Nat.reduceMul]; first | done | omega)) only  [↓amPre, amPost, ↓s_lit', Nat.reduceAdd, Nat.reduceSub, List.replicate, retA, resultsA, resultA, toC, toCL, Nat.reduceEqDiff, he2, append_at (un35 S.p) (sz3 S.p) (by3 S.p) (ze3 S.p) (by decide) (by decide) rfl, copy_at (un35 S.p) (sz3 S.p) (by3 S.p) (ze3 S.p) (by decide) (by decide) rfl, sl_cells (sz3 S.p), lit_fill (un35 S.p) (sz3 S.p) (ze3 S.p), iaddr_sl (un35 S.p) (sz3 S.p), len_sl (un35 S.p), len_nils (un35 S.p), part_sc (ag3 S.p), hlen4, dec_t, dec_f]
        exact Ends.some (show OrdR none h _ _ from ⟨(hx1.trans hx).trans hx2, rfl⟩)
      | some k =>
        rw [hq] at hb
        obtain rfl : b = (k : Int) := hb
        have hRk := hRs k hq
        obtain ⟨q2, h3, happ, hown3, hl3, _, hx3, _⟩ := grow_own (b := 8) (lk := lk) (hown2.push (.rw 3 [.int .i64 (k : Nat)])) [.int .i64 (k : Nat)] (by omega) (by simp) (by simp) (by omega) (by simp; omega) (by rw [recs_len ixC_len]; simp; omega)
        have hx4 := hx3 h1 ((hx.trans hx2).push _) (Nat.le_refl _)
        have hcs : ([.int .i64 (k : Nat)] : List SV) = ixC k := rfl
        rw [hcs, recs_snoc] at hown3
        have hgo := hag ⟨r + 1, out ++ [k], q2, h3⟩ ⟨by simp only; omega, hx4, hown3, by simp [hol], hRk⟩ (by simp only; omega)
        clear hag hag2 hRs hRn hown hown2 hown3 hx3
        simp (maxSteps := 1000000) (disch := first | omega | (simp (disch := first | omega | (simp only [gC_len, Edg.len, ixC_len, wC_len, bC_len, List.length_append, List.length_cons, List.length_nil, List.length_set]; first | done | omega)) only [gC_len, Edg.len, ixC_len, wC_len, bC_len, amSide, Int.reduceToNat, Nat.reducePow, Nat.reduceMul]; first | done | omega)) only  [↓amPre, amPost, ↓s_lit', Nat.reduceAdd, Nat.reduceSub, List.replicate, retA, resultsA, resultA, toC, toCL, Nat.reduceEqDiff, he2, append_at (un35 S.p) (sz3 S.p) (by3 S.p) (ze3 S.p) (by decide) (by decide) rfl, copy_at (un35 S.p) (sz3 S.p) (by3 S.p) (ze3 S.p) (by decide) (by decide) rfl, sl_cells (sz3 S.p), lit_fill (un35 S.p) (sz3 S.p) (ze3 S.p), iaddr_sl (un35 S.p) (sz3 S.p), len_sl (un35 S.p), len_nils (un35 S.p), part_sc (ag3 S.p), hlen4, dec_t, dec_f, happ, cells_self, List.flatten_cons, List.flatten_nil, List.append_nil, Nat.one_mul, Nat.zero_mul, splice_one, Nat.zero_add, wrap_i64]
        refine hgo _ ?_
        simp (maxSteps := 1000000) (disch := first | omega | (simp (disch := first | omega | (simp only [gC_len, Edg.len, ixC_len, wC_len, bC_len, List.length_append, List.length_cons, List.length_nil, List.length_set]; first | done | omega)) only [gC_len, Edg.len, ixC_len, wC_len, bC_len, amSide, Int.reduceToNat, Nat.reducePow, Nat.reduceMul]; first | done | omega)) only [↓amPre, amPost, ↓s_lit', Nat.reduceAdd, Nat.reduceSub, List.replicate, retA, resultsA, resultA, toC, toCL, Nat.reduceEqDiff, Int.natCast_add, Int.cast_ofNat_Int, dec_t, dec_f]
  · simp only [decide_eq_false_iff_not] at hc1
    obtain rfl : r = l.length := by omega
    rw [Nat.sub_self] at hR
    rw [← hR]
    simp (maxSteps := 1000000) (disch := first | omega | (simp (disch := first | omega | (simp only [gC_len, Edg.len, ixC_len, wC_len, bC_len, List.length_append, List.length_cons, List.length_nil, List.length_set]; first | done | omega)) only [gC_len, Edg.len, ixC_len, wC_len, bC_len, amSide, Int.reduceToNat, Nat.reducePow, Nat.reduceMul]; first | done | omega)) only  [↓amPre, amPost, ↓s_lit', Nat.reduceAdd, Nat.reduceSub, List.replicate, retA, resultsA, resultA, toC, toCL, Nat.reduceEqDiff, he, append_at (un35 S.p) (sz3 S.p) (by3 S.p) (ze3 S.p) (by decide) (by decide) rfl, copy_at (un35 S.p) (sz3 S.p) (by3 S.p) (ze3 S.p) (by decide) (by decide) rfl, sl_cells (sz3 S.p), lit_fill (un35 S.p) (sz3 S.p) (ze3 S.p), iaddr_sl (un35 S.p) (sz3 S.p), len_sl (un35 S.p), len_nils (un35 S.p), part_sc (ag3 S.p)]
    exact Ends.some (show OrdR (some out) h _ _ from ⟨hx1.trans hx, q5, rfl, hown.rs (by omega) ixC_len⟩)
end Go.AM
/- Waiting graphs: the document's ring: mathematics. Conditions: none. -/
set_option linter.unusedVariables false
set_option linter.unusedSimpArgs false
set_option maxRecDepth 100000
namespace Go.AM
open Go.Proofs Go.Lib
/-- A way back, over nodes behind. -/
inductive Wk (L : List Edg) (s : Nat) : Nat → Nat → Prop where
  | one (n : Nat) (h : (⟨n, s⟩ : Edg) ∈ L) : Wk L s n 1
  | more (n k r : Nat) (h : (⟨n, k⟩ : Edg) ∈ L) (hk : s < k) (hw : Wk L s k r) : Wk L s n (r + 1)
/-- A way is counted. -/
theorem Wk.dst {E : List Nat} {L : List Edg} (G : GR E L) {s : Nat} : ∀ {n r : Nat}, Wk L s n r → s ≤ n → r ≤ 64 → Dst E s 64 n ≠ 65 ∧ Dst E s 64 n ≤ r := by
  intro n r h
  induction h with
  | one n h =>
    intro hs _
    have hne : Dst E s 1 n ≠ 65 := by
      rw [Dst_succ]
      split
      · omega
      · rename_i hc
        intro z
        refine hc ⟨hs, z, List.any_eq_true.2 ⟨s, mem_blF G h (Nat.le_refl _), by unfold hitK; simp⟩⟩
    have := Dst_up (m' := 64) (by omega) (rfl : Dst E s 1 n = _) hne
    have hle := Dst_le E s n 1
    omega
  | more n k r h hk hw ih =>
    intro hs hr
    obtain ⟨i1, i2⟩ := ih (by omega) (by omega)
    have hq := Dst_at i1
    have hle1 := Dst_le E s k 64
    generalize hqq : Dst E s 64 k = q at *
    have hne : Dst E s (q + 1) n ≠ 65 := by
      rw [Dst_succ]
      split
      · omega
      · rename_i hc
        intro z
        refine hc ⟨hs, z, List.any_eq_true.2 ⟨k, mem_blF G h (by omega), ?_⟩⟩
        unfold hitK
        have : (k != s) = true := by simp; omega
        rw [this, hq]
        simp
    have := Dst_up (m' := 64) (by omega) (rfl : Dst E s (q + 1) n = _) hne
    have hle := Dst_le E s n (q + 1)
    omega
theorem Dst_wk {E : List Nat} {L : List Edg} (G : GR E L) {s : Nat} : ∀ (m n : Nat), m ≤ 64 → n < 64 → Dst E s m n ≠ 65 → Wk L s n (Dst E s m n)
  | 0, n, _, _, h => absurd rfl h
  | m + 1, n, hm, hn, h => by
    obtain ⟨h1, q, h2, h3, h4, _⟩ := Dst_when rfl h
    rw [List.any_eq_true] at h4
    obtain ⟨k, hk, hh⟩ := h4
    obtain ⟨e1, e2, e3⟩ := edge_of G hn hk
    unfold hitK at hh
    simp only [Bool.or_eq_true, Bool.and_eq_true, beq_iff_eq, bne_iff_ne, ne_eq] at hh
    rw [h2]
    rcases hh with ⟨hh, hq⟩ | ⟨hh, hd⟩
    · subst hh
      obtain rfl : q = 0 := by omega
      exact .one _ e1
    · have hd' : Dst E s q k = q := by simpa using hd
      have hup := Dst_up (m' := m) (by omega) hd' (by omega)
      have ih := Dst_wk G m k (by omega) e3 (by rw [hup]; omega)
      rw [hup] at ih
      exact .more n k q e1 (by omega) ih
/-- The first ring that begins with a list: of so many nodes more. -/
def lngV (L : List Edg) : Nat → List Nat → Option (List Nat)
  | 0, l => if (⟨(l.getLast?.getD 0 : Nat), (l.head?.getD 0 : Nat)⟩ : Edg) ∈ L then some l else none
  | m + 1, l => (nxL L (l.getLast?.getD 0 : Nat) 64).findSome? fun k => if l.head?.getD 0 < k ∧ k ∉ l then lngV L m (l ++ [k]) else none
theorem lngV_wk {L : List Edg} : ∀ (m : Nat) (l res : List Nat) (s a : Nat), l.head? = some s → l.getLast? = some a → lngV L m l = some res → Wk L s a (m + 1)
  | 0, l, res, s, a, h1, h2, h => by
    unfold lngV at h
    rw [h1, h2] at h
    simp only [Option.getD_some] at h
    split at h
    · rename_i hm; exact .one a hm
    · cases h
  | m + 1, l, res, s, a, h1, h2, h => by
    unfold lngV at h
    rw [h1, h2] at h
    simp only [Option.getD_some] at h
    obtain ⟨k, hk, hf⟩ := List.exists_of_findSome?_eq_some h
    split at hf
    · rename_i hc
      have hkL : (⟨(a : Nat), (k : Nat)⟩ : Edg) ∈ L := by
        unfold nxL at hk
        exact of_decide_eq_true (List.mem_filter.1 hk).2
      have hh : (l ++ [k]).head? = some s := by
        cases l with
        | nil => simp at h1
        | cons x l => simpa using h1
      exact .more a k (m + 1) hkL hc.1 (lngV_wk m (l ++ [k]) res s k hh (by simp) hf)
    · cases hf
theorem findSome_at {α β : Type} {f : α → Option β} {p : α → Bool} {y : β} : ∀ {l : List α} {k : α}, l.find? p = some k → f k = some y → (∀ x ∈ l, p x = false → f x = none) → l.findSome? f = some y
  | [], k, h, _, _ => by simp at h
  | a :: l, k, h, hy, hn => by
    simp only [List.find?] at h
    cases hp : p a with
    | true =>
      rw [hp] at h
      obtain rfl := Option.some.inj h
      simp [List.findSome?, hy]
    | false =>
      rw [hp] at h
      have := hn a List.mem_cons_self hp
      simp only [List.findSome?, this]
      exact findSome_at h hy fun x hx => hn x (List.mem_cons_of_mem _ hx)
/-- The document's search finds the code's walk. -/
theorem lngV_gw {E : List Nat} {L : List Edg} (G : GR E L) {s : Nat} : ∀ (m : Nat) (l : List Nat) (a : Nat), l.head? = some s → l.getLast? = some a → a < 64 → s ≤ a → Dst E s 64 a = m + 1 → m + 1 ≤ 64 → (∀ x ∈ l, m + 1 ≤ Dst E s 64 x) → lngV L m l = some (l ++ gwalk E s m a)
  | 0, l, a, h1, h2, ha, hs, hd, _, _ => by
    unfold lngV
    rw [h1, h2]
    simp only [Option.getD_some]
    rw [if_pos (Dst_last G ha hd)]
    simp [gwalk]
  | m + 1, l, a, h1, h2, ha, hs, hd, hm, hl => by
    obtain ⟨k0, hk0, hp0⟩ := Dst_next G ha hd (by omega)
    have hfs : ((blF (E.getD a 0) s).find? (stepP E s (m + 1))).isSome = true := by
      rw [List.find?_isSome]; exact ⟨k0, hk0, hp0⟩
    obtain ⟨k, hk⟩ := Option.isSome_iff_exists.1 hfs
    have hg : gwalk E s (m + 1) a = k :: gwalk E s m k := by
      show (match (blF (E.getD a 0) s).find? (stepP E s (m + 1)) with | some k => k :: gwalk E s m k | none => []) = _
      rw [hk]
    have hkp := List.find?_some hk
    obtain ⟨e1, e2, e3⟩ := edge_of G ha (List.mem_of_find?_eq_some hk)
    unfold stepP at hkp
    simp only [Bool.and_eq_true, bne_iff_ne, ne_eq, beq_iff_eq] at hkp
    have hkl : k ∉ l := fun z => by have := hl k z; omega
    have hh : (l ++ [k]).head? = some s := by
      cases l with
      | nil => simp at h1
      | cons x l => simpa using h1
    have ih := lngV_gw G m (l ++ [k]) k hh (by simp) e3 e2 hkp.2 (by omega) (fun x hx => by
      rcases List.mem_append.1 hx with hx | hx
      · have := hl x hx; omega
      · obtain rfl : x = k := by simpa using hx
        omega)
    have hnx : nxL L (a : Nat) 64 = bl (E.getD a 0) := by
      rw [← next_eq G]
      unfold nextE
      rw [if_pos (by unfold isN; simp; omega), Int.toNat_natCast]
    unfold lngV
    rw [h1, h2]
    simp only [Option.getD_some]
    rw [hg, hnx]
    have hfind : (bl (E.getD a 0)).find? (fun x => decide (s ≤ x) && stepP E s (m + 1) x) = some k := by
      rw [find_filter (r := fun x => decide (s ≤ x)) (s := stepP E s (m + 1)) fun x _ => rfl]
      exact hk
    refine findSome_at hfind ?_ fun x hx hpx => ?_
    · rw [if_pos ⟨by omega, hkl⟩, ih, List.append_assoc]; rfl
    · split
      · rename_i hc
        cases hq : lngV L m (l ++ [x]) with
        | none => rfl
        | some res =>
          exfalso
          have hhx : (l ++ [x]).head? = some s := by
            cases l with
            | nil => simp at h1
            | cons y l => simpa using h1
          have hw := lngV_wk m (l ++ [x]) res s x hhx (by simp) hq
          obtain ⟨d1, d2⟩ := hw.dst G (by omega) (by omega)
          have hxL : (⟨(a : Nat), (x : Nat)⟩ : Edg) ∈ L := (G.bit a x ha ((bl_mem _ _).1 hx).1).1 ((bl_mem _ _).1 hx).2
          have hxw : Wk L s a (m + 1 + 1) := .more a x (m + 1) hxL hc.1 hw
          have hne : Dst E s 64 x ≠ m + 1 := fun z => by
            have : stepP E s (m + 1) x = true := by
              unfold stepP
              rw [z]
              have : (x != s) = true := by simp; omega
              rw [this]; simp
            rw [this] at hpx
            simp at hpx
            omega
          have hle := Dst_le E s x 64
          have hx64 : x < 64 := ((bl_mem _ _).1 hx).1
          have hdx : Dst E s 64 x ≤ m := by omega
          have := (Wk.more a x _ hxL hc.1 (Dst_wk G 64 x (Nat.le_refl _) hx64 d1)).dst G hs (by omega)
          omega
      · rfl
/-- The document's ring of so many nodes; of any. -/
def rszV (L : List Edg) (size : Nat) : Option (List Nat) := (List.range 64).findSome? fun s => lngV L (size - 1) [s]
def rringV (L : List Edg) : Option (List Nat) := (List.range (min 64 L.length)).findSome? fun i => rszV L (i + 1)
theorem sub_len : ∀ (A B : List Nat), A.Nodup → (∀ x ∈ A, x ∈ B) → A.length ≤ B.length
  | [], B, _, _ => Nat.zero_le _
  | a :: A, B, hn, hs => by
    have ha := hs a List.mem_cons_self
    have ih := sub_len A (B.erase a) (List.nodup_cons.1 hn).2 fun x hx => by
      have hne : x ≠ a := fun e => (List.nodup_cons.1 hn).1 (by rw [← e]; exact hx)
      exact (List.mem_erase_of_ne hne).2 (hs x (List.mem_cons_of_mem _ hx))
    rw [List.length_erase_of_mem ha] at ih
    have := List.length_pos_of_mem ha
    rw [List.length_cons]; omega
theorem gw_nd {E : List Nat} {L : List Edg} (G : GR E L) {s : Nat} : ∀ (m n : Nat), n < 64 → s ≤ n → Dst E s 64 n = m + 1 → m + 1 ≠ 65 → (n :: gwalk E s m n).Nodup ∧ ∀ x ∈ n :: gwalk E s m n, Dst E s 64 x ≤ m + 1
  | 0, n, hn, hs, hd, _ => ⟨by simp [gwalk], fun x hx => by
      obtain rfl : x = n := by simpa [gwalk] using hx
      omega⟩
  | m + 1, n, hn, hs, hd, hm => by
    obtain ⟨k0, hk0, hp0⟩ := Dst_next G hn hd hm
    have hf : ((blF (E.getD n 0) s).find? (stepP E s (m + 1))).isSome = true := by
      rw [List.find?_isSome]; exact ⟨k0, hk0, hp0⟩
    obtain ⟨k, hk⟩ := Option.isSome_iff_exists.1 hf
    have hkp := List.find?_some hk
    have hg : gwalk E s (m + 1) n = k :: gwalk E s m k := by
      show (match (blF (E.getD n 0) s).find? (stepP E s (m + 1)) with | some k => k :: gwalk E s m k | none => []) = _
      rw [hk]
    obtain ⟨e1, e2, e3⟩ := edge_of G hn (List.mem_of_find?_eq_some hk)
    unfold stepP at hkp
    simp only [Bool.and_eq_true, bne_iff_ne, ne_eq, beq_iff_eq] at hkp
    have hdn := Dst_le E s n 64
    obtain ⟨i1, i2⟩ := gw_nd G m k e3 e2 hkp.2 (by omega)
    rw [hg]
    refine ⟨List.nodup_cons.2 ⟨fun z => by have := i2 n z; omega, i1⟩, fun x hx => ?_⟩
    rcases List.mem_cons.1 hx with rfl | hx
    · omega
    · have := i2 x hx; omega
theorem bst_first (E : List Nat) : ∀ n s, s < (bst E n).2 → s < n → (bst E n).1 < Dst E s 64 s
  | 0, s, h, _ => by
    have : (bst E 0).2 = 0 := rfl
    omega
  | n + 1, s, h, hn => by
    rw [bst_succ] at h ⊢
    split
    · rename_i hc
      rw [if_pos hc] at h
      simp only at h ⊢
      have := bst_min E n s h
      omega
    · rename_i hc
      rw [if_neg hc] at h
      have := bst_le E n
      exact bst_first E n s h (by omega)
theorem lng_none {E : List Nat} {L : List Edg} (G : GR E L) {s size : Nat} (hs : s < 64) (h1 : 1 ≤ size) (h64 : size ≤ 64) (hlt : size < Dst E s 64 s) : lngV L (size - 1) [s] = none := by
  cases h : lngV L (size - 1) [s] with
  | none => rfl
  | some res =>
    have hw := lngV_wk (size - 1) [s] res s s rfl rfl h
    rw [show size - 1 + 1 = size by omega] at hw
    obtain ⟨_, d2⟩ := hw.dst G (Nat.le_refl _) h64
    omega
/-- The document's ring is the code's. -/
theorem rring_eq {E : List Nat} {L : List Edg} (G : GR E L) : (rringV L).getD [] = ringV E := by
  obtain ⟨b1, b2, b3, b4⟩ := bst_le E 64
  by_cases h : (bst E 64).1 = 65
  · have hn : rringV L = none := by
      unfold rringV
      rw [List.findSome?_eq_none_iff]
      intro i hi
      have hi' := List.mem_range.1 hi
      unfold rszV
      rw [List.findSome?_eq_none_iff]
      intro s hs
      have hs' := List.mem_range.1 hs
      have := bst_min E 64 s hs'
      exact lng_none G hs' (by omega) (by omega) (by omega)
    rw [hn]
    unfold ringV
    rw [if_pos h]; rfl
  · have h1 := bst_eq E 64 h
    have hf : (bst E 64).2 < 64 := by omega
    have hR : ringV E = (bst E 64).2 :: gwalk E (bst E 64).2 ((bst E 64).1 - 1) (bst E 64).2 := by unfold ringV; rw [if_neg h]
    have hmin := bst_min E 64
    have hfst := bst_first E 64
    generalize bst E 64 = p at *
    obtain ⟨b, f⟩ := p
    simp only at h h1 b1 b2 b3 b4 hf hR hmin hfst
    obtain ⟨m, rfl⟩ : ∃ m, b = m + 1 := ⟨b - 1, by omega⟩
    rw [Nat.add_sub_cancel] at hR
    have hlng : lngV L m [f] = some ([f] ++ gwalk E f m f) := lngV_gw G m [f] f rfl rfl hf (Nat.le_refl _) h1 (by omega) (fun x hx => by
      obtain rfl : x = f := by simpa using hx
      omega)
    obtain ⟨nd1, _⟩ := gw_nd G m f hf (Nat.le_refl _) h1 h
    obtain ⟨g1, g2, g3, g4⟩ := gw_facts G m f hf (Nat.le_refl _) h1 h
    have hLl : m + 1 ≤ L.length := by
      have hsub := sub_len (f :: gwalk E f m f) (L.map fun e => e.f.toNat) nd1 fun x hx => by
        obtain ⟨i, hi⟩ := List.getElem?_of_mem hx
        have hil := (List.getElem?_eq_some_iff.1 hi).1
        rw [g1] at hil
        obtain ⟨y, hy⟩ : ∃ y : Nat, (⟨(x : Nat), y⟩ : Edg) ∈ L := by
          by_cases hlast : i = m
          · subst hlast; exact ⟨f, g3 x hi⟩
          · obtain ⟨y, hy⟩ : ∃ y, (f :: gwalk E f m f)[i + 1]? = some y := ⟨_, List.getElem?_eq_getElem (by rw [g1]; omega)⟩
            exact ⟨y, g2 i x y hi hy⟩
        exact List.mem_map.2 ⟨_, hy, by simp⟩
      rw [g1, List.length_map] at hsub
      exact hsub
    have hsz : ∀ i, i < m → rszV L (i + 1) = none := fun i hi => by
      unfold rszV
      rw [List.findSome?_eq_none_iff]
      intro s hs
      have hs' := List.mem_range.1 hs
      have := hmin s hs'
      exact lng_none G hs' (by omega) (by omega) (by omega)
    have hszm : rszV L (m + 1) = some (f :: gwalk E f m f) := by
      unfold rszV
      refine findSome_at (p := fun s => decide (f ≤ s)) (k := f) ?_ ?_ fun s hs hp => ?_
      · refine find_at (i := f) (by rw [List.getElem?_range hf]) ?_ (by simp)
        rw [List.any_eq_false]
        intro x hx
        obtain ⟨j, hj⟩ := List.getElem?_of_mem hx
        have hjl := (List.getElem?_eq_some_iff.1 hj).1
        rw [List.length_take, List.length_range] at hjl
        rw [List.getElem?_take_of_lt (by omega), List.getElem?_range (by omega)] at hj
        obtain rfl := Option.some.inj hj
        simp; omega
      · show lngV L (m + 1 - 1) [f] = _
        rw [Nat.add_sub_cancel, hlng]; rfl
      · have hs' := List.mem_range.1 hs
        have hsf : s < f := by simpa using hp
        have := hfst s hsf hs'
        exact lng_none G hs' (by omega) (by omega) (by omega)
    have hrr : rringV L = some (f :: gwalk E f m f) := by
      unfold rringV
      have hm64 : m < min 64 L.length := by omega
      refine findSome_at (p := fun i => decide (m ≤ i)) (k := m) ?_ hszm fun i hi hp => ?_
      · refine find_at (i := m) (by rw [List.getElem?_range hm64]) ?_ (by simp)
        rw [List.any_eq_false]
        intro x hx
        obtain ⟨j, hj⟩ := List.getElem?_of_mem hx
        have hjl := (List.getElem?_eq_some_iff.1 hj).1
        rw [List.length_take, List.length_range] at hjl
        rw [List.getElem?_take_of_lt (by omega), List.getElem?_range (by omega)] at hj
        obtain rfl := Option.some.inj hj
        simp; omega
      · have : i < m := by simpa using hp
        exact hsz i this
    rw [hrr, hR]; rfl
end Go.AM
/- Waiting graphs: the document's rings that begin with a list. Conditions: none. -/
set_option linter.unusedVariables false
set_option linter.unusedSimpArgs false
set_option maxRecDepth 100000
namespace Go.AM
open Go.Proofs Go.Lib
-- LENS: gC_len, Edg.len, ixC_len, wC_len, bC_len
def LngR (R : Option (List Nat)) (h0 : List AO) (v : AV) (h' : List AO) : Prop := Ext1 h0 h' ∧ ∃ q', match R with
  | some out => v = .tup [.sc q', .sc (.bool true)] ∧ Rs ixC 1 h' q' out
  | none => v = .tup [.sc q', .sc (.bool false)]
structure ThY where
  i : Nat
  h : List AO
theorem fs_succ {α β : Type} {f : α → Option β} {l : List α} {i : Nat} {x : α} (h : l[i]? = some x) (hn : (l.take i).findSome? f = none) : (l.take (i + 1)).findSome? f = f x := by
  rw [List.take_add_one, h, List.findSome?_append, hn]
  simp
theorem fs_some {α β : Type} {f : α → Option β} {y : β} : ∀ {l : List α} {i : Nat} {x : α}, l[i]? = some x → (l.take i).findSome? f = none → f x = some y → l.findSome? f = some y := fun {l i x} h hn hy => by
  rw [← List.take_append_drop (i + 1) l, List.findSome?_append, fs_succ h hn, hy]; rfl
/-- What region 9 makes: a copy, one more. -/
theorem copy_facts {h : List AO} {b : Nat} {l : List Nat} (k : Nat) (hb : b < h.length) (hc : cellsAt h b = some (recs ixC l)) (hl : 0 < l.length) (hl2 : l.length ≤ 64) :
    ∃ H0 M0 H1 M1 H2 h3 : List AO, h ++ [.dead] ++ [.dead] = H0 ∧ (H0.set (h.length + 1) .dead).set h.length .dead = M0 ∧ cellsAt M0 b = some (recs ixC l) ∧ H0[h.length]? = some .dead ∧ H0.set h.length (.rw 3 (recs ixC l)) = H1 ∧
      (H1.set (h.length + 1) .dead).set h.length .dead = M1 ∧ (∀ j, j < h.length → cellsAt M1 j = cellsAt h j) ∧ H1[h.length + 1]? = some .dead ∧ H1.set (h.length + 1) (.rw 3 [.int .i64 (k : Nat)]) = H2 ∧ cellsAt H2 (h.length + 1) = some [.int .i64 (k : Nat)] ∧
      cellsB (some (recs ixC l)) 0 l.length = some (recs ixC l) ∧ copyB 3 1 8 (some (recs ixC l)) = some (fun x => .v (.sc (.sl x 0 l.length 1)), .rw 3 (recs ixC l)) ∧
      (∀ lk kk, lk ≤ h.length → appB 3 1 8 lk H2 (.v (.sc (.sl h.length 0 l.length 1))) (some [.int .i64 (k : Nat)]) kk = kk (.v (.sc (.sl (h.length + 2) 0 (l.length + 1) 1))) h3) ∧
      Ext1 h h3 ∧ Rs ixC 1 h3 (.sl (h.length + 2) 0 (l.length + 1) 1) (l ++ [k]) := by
  have hrl := recs_len ixC_len l
  have x0 : Ext1 h (h ++ [.dead] ++ [.dead]) := ((Ext1.refl h).push _).push _
  have l0 : (h ++ [AO.dead] ++ [AO.dead]).length = h.length + 2 := by simp
  have d0 : (h ++ [AO.dead] ++ [AO.dead])[h.length]? = some .dead := by simp
  have d1 : (h ++ [AO.dead] ++ [AO.dead])[h.length + 1]? = some .dead := by rw [List.getElem?_append_right (by simp)]; simp
  generalize h ++ [AO.dead] ++ [AO.dead] = H0 at *
  have x1 := x0.set (Nat.le_refl _) (.rw 3 (recs ixC l))
  have g2 : ((H0.set h.length (.rw 3 (recs ixC l))).set (h.length + 1) (.rw 3 [.int .i64 (k : Nat)]))[h.length]? = some (.rw 3 (recs ixC l)) := by
    rw [List.getElem?_set_ne (by omega), List.getElem?_set_self (by omega)]
  have g3 : ((H0.set h.length (.rw 3 (recs ixC l))).set (h.length + 1) (.rw 3 [.int .i64 (k : Nat)]))[h.length + 1]? = some (.rw 3 [.int .i64 (k : Nat)]) := List.getElem?_set_self (by rw [List.length_set]; omega)
  have x2 := x1.set (show h.length ≤ h.length + 1 by omega) (.rw 3 [.int .i64 (k : Nat)])
  have l2 : ((H0.set h.length (.rw 3 (recs ixC l))).set (h.length + 1) (.rw 3 [.int .i64 (k : Nat)])).length = h.length + 2 := by simp [l0]
  refine ⟨H0, _, _, _, _, ((H0.set h.length (.rw 3 (recs ixC l))).set (h.length + 1) (.rw 3 [.int .i64 (k : Nat)])).set h.length .dead ++ [.rw 3 (recs ixC (l ++ [k]))], rfl, rfl, ?_, d0, rfl, rfl, ?_, ?_, rfl, ?_, ?_, ?_, ?_, ?_, ?_⟩
  · rw [((x0.set (show h.length ≤ h.length + 1 by omega) .dead).set (Nat.le_refl _) .dead).cells hb]; exact hc
  · intro j hj
    exact ((x1.set (show h.length ≤ h.length + 1 by omega) .dead).set (Nat.le_refl _) .dead).cells hj
  · rw [List.getElem?_set_ne (by omega)]; exact d1
  · unfold cellsAt; rw [g3]
  · rw [cellsB_some _ _ _ (by omega), List.drop_zero, List.take_of_length_le (by omega)]
  · rw [copyB_some 3 1 8 _ (by omega) (Nat.mod_one _) (by rw [Nat.div_one]; omega), Nat.div_one, hrl, Nat.mul_one]
  · intro lk kk hlk
    rw [appB_sl 3 1 8 h.length 0 l.length _ [] kk (Nat.mod_one _), g2, appC_rw 3 1 8 h.length 0 l.length _ _ kk hlk (by omega) (by simp; omega), l2, List.drop_zero]
    have : recs ixC l ++ [SV.int .i64 (k : Nat)] = recs ixC (l ++ [k]) := recs_snoc ixC l k
    rw [this, show ([SV.int .i64 (k : Nat)] : List SV).length / 1 = 1 by simp]
  · exact (x2.set (Nat.le_refl _) _).push _
  · refine .inr ⟨h.length + 2, by rw [List.length_append]; rfl, by simp [l0], ?_⟩
    exact cells_self _ _ _ (by simp [l0])
set_option maxHeartbeats 16000000 in
theorem s31 {P : Program} {T : Tab} {K : Nat} (S : Sd P T K) {p : Nat} {q : SV} {L : List Edg} (hL : L.length ≤ 200) : ∀ (m d : Nat), m + 3 ≤ d → ∀ (z : Nat) (ql : SV) (l : List Nat) (lk : Nat) (h : List AO), 0 < l.length → l.length + m = z → z ≤ 64 → lk ≤ h.length → p < h.length → cellsAt h p = some [q] → Rs Edg.cells 2 h q L → Rs ixC 1 h ql l →
    Ends (LngR (lngV L m l) h) (ev P T K d 31 [.sc (.ptr p 0), .sc ql, .sc (.int .i64 (z : Nat))] lk h) := by
  intro m
  induction m with
  | zero =>
    intro d hd z ql l lk h hl hz hz64 hlk hpl hp hq hr
    obtain ⟨d, rfl⟩ : ∃ k, d = k + 1 := ⟨d - 1, by omega⟩
    rw [ev_run (at31 S.t)]
    unfold i31 Tryd.f31
    have hlen := hr.len (un35 S.p)
    have hr0 := hr
    obtain ⟨b, rfl, hb, hc⟩ := hr.at hl
    obtain ⟨s, hs⟩ : ∃ s, l[0]? = some s := ⟨_, List.getElem?_eq_getElem hl⟩
    obtain ⟨a, ha⟩ : ∃ a, l[l.length - 1]? = some a := ⟨_, List.getElem?_eq_getElem (by omega)⟩
    have gs := recs_get0 ixC_len hs (by omega)
    rw [Nat.mul_one, show (ixC s)[0]? = some (.int .i64 (s : Nat)) from rfl] at gs
    have ga := recs_get0 ixC_len ha (by omega)
    rw [Nat.mul_one, show (ixC a)[0]? = some (.int .i64 (a : Nat)) from rfl] at ga
    have hti : ((l.length : Int) - 1).toNat = l.length - 1 := by omega
    have hv : lngV L 0 l = if (⟨(a : Nat), (s : Nat)⟩ : Edg) ∈ L then some l else none := by
      unfold lngV
      rw [List.getLast?_eq_getElem?, ha, List.head?_eq_getElem?, hs]; rfl
    have e17 := fun lk => s17 S (show 1 ≤ d by omega) hL (a : Int) (s : Int) lk h hp hq
    rw [hv]
    simp (maxSteps := 1000000) (disch := first | omega | (simp (disch := first | omega | (simp only [gC_len, Edg.len, ixC_len, wC_len, bC_len, List.length_append, List.length_cons, List.length_nil, List.length_set]; first | done | omega)) only [gC_len, Edg.len, ixC_len, wC_len, bC_len, amSide, Int.reduceToNat, Nat.reducePow, Nat.reduceMul]; first | done | omega)) only  [↓amPre, amPost, ↓s_lit', Nat.reduceAdd, Nat.reduceSub, List.replicate, retA, resultsA, resultA, toC, toCL, Nat.reduceEqDiff, append_at (un35 S.p) (sz3 S.p) (by3 S.p) (ze3 S.p) (by decide) (by decide) rfl, copy_at (un35 S.p) (sz3 S.p) (by3 S.p) (ze3 S.p) (by decide) (by decide) rfl, sl_cells (sz3 S.p), lit_fill (un35 S.p) (sz3 S.p) (ze3 S.p), iaddr_sl (un35 S.p) (sz3 S.p), len_sl (un35 S.p), len_nils (un35 S.p), part_sc (ag3 S.p), hlen, idx_ok, hc, gs, ga, hti, e17, beqI_t, Nat.mul_one, Int.toNat_natCast, Int.toNat_zero, Nat.zero_add, Nat.add_zero, wrap_i64]
    split
    · rename_i hm
      rw [decide_eq_true hm]
      exact Ends.some ⟨Ext1.refl h, _, rfl, hr0⟩
    · rename_i hm
      rw [decide_eq_false hm]
      exact Ends.some ⟨Ext1.refl h, _, rfl⟩
  | succ m ih =>
    intro d hd z ql l lk h hl hz hz64 hlk hpl hp hq hr
    obtain ⟨d, rfl⟩ : ∃ k, d = k + 1 := ⟨d - 1, by omega⟩
    rw [ev_run (at31 S.t)]
    unfold i31 Tryd.f31
    have hlen := hr.len (un35 S.p)
    have hr0 := hr
    obtain ⟨b, rfl, hb, hc⟩ := hr.at hl
    obtain ⟨s, hs⟩ : ∃ s, l[0]? = some s := ⟨_, List.getElem?_eq_getElem hl⟩
    obtain ⟨a, ha⟩ : ∃ a, l[l.length - 1]? = some a := ⟨_, List.getElem?_eq_getElem (by omega)⟩
    have gs := recs_get0 ixC_len hs (by omega)
    rw [Nat.mul_one, show (ixC s)[0]? = some (.int .i64 (s : Nat)) from rfl] at gs
    have ga := recs_get0 ixC_len ha (by omega)
    rw [Nat.mul_one, show (ixC a)[0]? = some (.int .i64 (a : Nat)) from rfl] at ga
    have hti : ((l.length : Int) - 1).toNat = l.length - 1 := by omega
    obtain ⟨F, hF⟩ : ∃ F : Nat → Option (List Nat), F = fun k => if s < k ∧ k ∉ l then lngV L m (l ++ [k]) else none := ⟨_, rfl⟩
    have hv : lngV L (m + 1) l = (nxL L (a : Nat) 64).findSome? F := by
      show (nxL L (l.getLast?.getD 0 : Nat) 64).findSome? (fun k => if l.head?.getD 0 < k ∧ k ∉ l then lngV L m (l ++ [k]) else none) = _
      rw [List.getLast?_eq_getElem?, ha, List.head?_eq_getElem?, hs, hF]; rfl
    obtain ⟨v1, h1, e19, hx1, q9, rfl, r9⟩ := s19 S (show 2 ≤ d by omega) hL (a : Int) lk h hlk hpl hp hq
    have hlen9 := r9.len (un35 S.p)
    have hn9 := nxL_le L (a : Int) 64
    have hle1 := hx1.len
    rw [hv]
    generalize nxL L (a : Int) 64 = R at *
    simp (maxSteps := 1000000) (disch := first | omega | (simp (disch := first | omega | (simp only [gC_len, Edg.len, ixC_len, wC_len, bC_len, List.length_append, List.length_cons, List.length_nil, List.length_set]; first | done | omega)) only [gC_len, Edg.len, ixC_len, wC_len, bC_len, amSide, Int.reduceToNat, Nat.reducePow, Nat.reduceMul]; first | done | omega)) only  [↓amPre, amPost, ↓s_lit', Nat.reduceAdd, Nat.reduceSub, List.replicate, retA, resultsA, resultA, toC, toCL, Nat.reduceEqDiff, append_at (un35 S.p) (sz3 S.p) (by3 S.p) (ze3 S.p) (by decide) (by decide) rfl, copy_at (un35 S.p) (sz3 S.p) (by3 S.p) (ze3 S.p) (by decide) (by decide) rfl, sl_cells (sz3 S.p), lit_fill (un35 S.p) (sz3 S.p) (ze3 S.p), iaddr_sl (un35 S.p) (sz3 S.p), len_sl (un35 S.p), len_nils (un35 S.p), part_sc (ag3 S.p), hlen, idx_ok, hc, gs, ga, hti, e19, beqI_f, Nat.mul_one, Int.toNat_natCast, Int.toNat_zero, Nat.zero_add, Nat.add_zero, wrap_i64]
    refine ends_loop (X := ThY) ⟨0, h1⟩ [6, 7, 11, 12, 33, 34, 35, 36, 37, 38, 39, 40, 41, 42, 43, 44, 45, 46, 47, 48, 49, 50, 51, 52, 53, 54, 55, 56, 57, 58, 59, 60, 61, 62, 63, 64, 65, 66, 67, 68, 69, 70, 71] (fun x => x.i ≤ R.length ∧ Ext1 h1 x.h ∧ (R.take x.i).findSome? F = none) (fun x => R.length - x.i)
      (fun x e => e.set 10 (.v (.sc (.int .i64 x.i)))) (fun x => x.h)
      (by have := S.k; show _ < K; simp only; omega) ⟨by simp only; omega, Ext1.refl _, rfl⟩ rfl rfl ?_
    rintro ⟨i, h2⟩ ⟨hi, hx2, hno⟩ again hag e he
    simp only at hi hx2 hno hag he
    simp only [↓amPre, amPost, ↓s_lit', Nat.reduceAdd, Nat.reduceSub, List.replicate, retA, resultsA, resultA, toC, toCL, Nat.reduceEqDiff] at he
    have hle2 := hx2.len
    simp (maxSteps := 1000000) (disch := first | omega | (simp (disch := first | omega | (simp only [gC_len, Edg.len, ixC_len, wC_len, bC_len, List.length_append, List.length_cons, List.length_nil, List.length_set]; first | done | omega)) only [gC_len, Edg.len, ixC_len, wC_len, bC_len, amSide, Int.reduceToNat, Nat.reducePow, Nat.reduceMul]; first | done | omega)) only  [↓amPre, amPost, ↓s_lit', Nat.reduceAdd, Nat.reduceSub, List.replicate, retA, resultsA, resultA, toC, toCL, Nat.reduceEqDiff, he, append_at (un35 S.p) (sz3 S.p) (by3 S.p) (ze3 S.p) (by decide) (by decide) rfl, copy_at (un35 S.p) (sz3 S.p) (by3 S.p) (ze3 S.p) (by decide) (by decide) rfl, sl_cells (sz3 S.p), lit_fill (un35 S.p) (sz3 S.p) (ze3 S.p), iaddr_sl (un35 S.p) (sz3 S.p), len_sl (un35 S.p), len_nils (un35 S.p), part_sc (ag3 S.p), hlen9]
    refine ends_cond (fun hc1 => ?_) (fun hc1 => ?_)
    · simp only [decide_eq_true_eq] at hc1
      obtain ⟨b9, rfl, hb9, hc9⟩ := (r9.ext hx2).at (by omega)
      obtain ⟨k, hki⟩ : ∃ k, R[i]? = some k := ⟨_, List.getElem?_eq_getElem (by omega)⟩
      have gk := recs_get0 ixC_len hki (by omega)
      rw [Nat.mul_one, show (ixC k)[0]? = some (.int .i64 (k : Nat)) from rfl] at gk
      have hc2 : cellsAt h2 b = some (recs ixC l) := by rw [hx2.cells (by omega), hx1.cells hb]; exact hc
      have hsn := fs_succ hki hno
      have hgo := fun h3 (hx : Ext1 h1 h3) (hFk : F k = none) => hag ⟨i + 1, h3⟩ ⟨by simp only; omega, hx, by simp only [hsn]; exact hFk⟩ (by simp only; omega)
      clear hag
      by_cases hks : s < k
      · have f29 := fun lk => s29 S (show 1 ≤ d by omega) (l := l) (by omega) k lk h2 ((hr0.ext hx1).ext hx2)
        by_cases hkl : k ∈ l
        · have := hgo h2 hx2 (by rw [hF]; simp [hkl])
          simp (maxSteps := 1000000) (disch := first | omega | (simp (disch := first | omega | (simp only [gC_len, Edg.len, ixC_len, wC_len, bC_len, List.length_append, List.length_cons, List.length_nil, List.length_set]; first | done | omega)) only [gC_len, Edg.len, ixC_len, wC_len, bC_len, amSide, Int.reduceToNat, Nat.reducePow, Nat.reduceMul]; first | done | omega)) only  [↓amPre, amPost, ↓s_lit', Nat.reduceAdd, Nat.reduceSub, List.replicate, retA, resultsA, resultA, toC, toCL, Nat.reduceEqDiff, he, append_at (un35 S.p) (sz3 S.p) (by3 S.p) (ze3 S.p) (by decide) (by decide) rfl, copy_at (un35 S.p) (sz3 S.p) (by3 S.p) (ze3 S.p) (by decide) (by decide) rfl, sl_cells (sz3 S.p), lit_fill (un35 S.p) (sz3 S.p) (ze3 S.p), iaddr_sl (un35 S.p) (sz3 S.p), len_sl (un35 S.p), len_nils (un35 S.p), part_sc (ag3 S.p), idx_ok, hc9, hc2, gk, gs, f29, dec_t, Nat.mul_one, Int.toNat_natCast, Int.toNat_zero, Nat.zero_add, wrap_i64]
          refine this _ ?_
          simp (maxSteps := 1000000) (disch := first | omega | (simp (disch := first | omega | (simp only [gC_len, Edg.len, ixC_len, wC_len, bC_len, List.length_append, List.length_cons, List.length_nil, List.length_set]; first | done | omega)) only [gC_len, Edg.len, ixC_len, wC_len, bC_len, amSide, Int.reduceToNat, Nat.reducePow, Nat.reduceMul]; first | done | omega)) only [↓amPre, amPost, ↓s_lit', Nat.reduceAdd, Nat.reduceSub, List.replicate, retA, resultsA, resultA, toC, toCL, Nat.reduceEqDiff, Int.natCast_add, Int.cast_ofNat_Int, dec_t, dec_f]
        · obtain ⟨H0, M0, H1, M1, H2, h3, m1, m2, m3, m4, m5, m6, m7, m8, m9, m10, m11, m12, m13, hx3, r3⟩ := copy_facts k (show b < h2.length by omega) hc2 hl (by omega)
          have hle3 := hx3.len
          have hx03 := (hx1.trans hx2).trans hx3
          obtain ⟨v4, h4, e31, hx4, q4, hv4⟩ := ih d (by omega) z _ (l ++ [k]) lk h3 (by simp) (by simp; omega) hz64 (by omega) (by omega) (by rw [hx03.cells hpl]; exact hp) (hq.ext hx03) r3
          have m7' : cellsAt M1 b9 = some (recs ixC R) := by rw [m7 b9 hb9]; exact hc9
          have m13' := fun kk => m13 lk kk (by omega)
          have hFk : F k = lngV L m (l ++ [k]) := by rw [hF]; simp [hks, hkl]
          have hx14 := (hx2.trans hx3).trans hx4
          cases hlg : lngV L m (l ++ [k]) with
          | none =>
            rw [hlg] at hv4 hFk
            simp only at hv4
            subst hv4
            have := hgo h4 hx14 hFk
            clear hgo
            simp (maxSteps := 1000000) (disch := first | omega | (simp (disch := first | omega | (simp only [gC_len, Edg.len, ixC_len, wC_len, bC_len, List.length_append, List.length_cons, List.length_nil, List.length_set]; first | done | omega)) only [gC_len, Edg.len, ixC_len, wC_len, bC_len, amSide, Int.reduceToNat, Nat.reducePow, Nat.reduceMul]; first | done | omega)) only  [↓amPre, amPost, ↓s_lit', Nat.reduceAdd, Nat.reduceSub, List.replicate, retA, resultsA, resultA, toC, toCL, Nat.reduceEqDiff, he, append_at (un35 S.p) (sz3 S.p) (by3 S.p) (ze3 S.p) (by decide) (by decide) rfl, copy_at (un35 S.p) (sz3 S.p) (by3 S.p) (ze3 S.p) (by decide) (by decide) rfl, sl_cells (sz3 S.p), lit_fill (un35 S.p) (sz3 S.p) (ze3 S.p), iaddr_sl (un35 S.p) (sz3 S.p), len_sl (un35 S.p), len_nils (un35 S.p), part_sc (ag3 S.p), idx_ok, hc9, hc2, gk, gs, f29, dec_t, dec_f, m1, m2, m3, m4, m5, m6, m7', m8, m9, m10, m11, m12, m13', e31, List.flatten_cons, List.flatten_nil, List.append_nil, Nat.one_mul, Nat.zero_mul, splice_one, Nat.mul_one, Nat.add_zero, Int.toNat_natCast, Int.toNat_zero, Nat.zero_add, wrap_i64]
            refine this _ ?_
            simp (maxSteps := 1000000) (disch := first | omega | (simp (disch := first | omega | (simp only [gC_len, Edg.len, ixC_len, wC_len, bC_len, List.length_append, List.length_cons, List.length_nil, List.length_set]; first | done | omega)) only [gC_len, Edg.len, ixC_len, wC_len, bC_len, amSide, Int.reduceToNat, Nat.reducePow, Nat.reduceMul]; first | done | omega)) only [↓amPre, amPost, ↓s_lit', Nat.reduceAdd, Nat.reduceSub, List.replicate, retA, resultsA, resultA, toC, toCL, Nat.reduceEqDiff, Int.natCast_add, Int.cast_ofNat_Int, dec_t, dec_f]
          | some out =>
            rw [hlg] at hv4 hFk
            simp only at hv4
            obtain ⟨rfl, r4⟩ := hv4
            rw [fs_some hki hno hFk]
            clear hgo
            simp (maxSteps := 1000000) (disch := first | omega | (simp (disch := first | omega | (simp only [gC_len, Edg.len, ixC_len, wC_len, bC_len, List.length_append, List.length_cons, List.length_nil, List.length_set]; first | done | omega)) only [gC_len, Edg.len, ixC_len, wC_len, bC_len, amSide, Int.reduceToNat, Nat.reducePow, Nat.reduceMul]; first | done | omega)) only  [↓amPre, amPost, ↓s_lit', Nat.reduceAdd, Nat.reduceSub, List.replicate, retA, resultsA, resultA, toC, toCL, Nat.reduceEqDiff, he, append_at (un35 S.p) (sz3 S.p) (by3 S.p) (ze3 S.p) (by decide) (by decide) rfl, copy_at (un35 S.p) (sz3 S.p) (by3 S.p) (ze3 S.p) (by decide) (by decide) rfl, sl_cells (sz3 S.p), lit_fill (un35 S.p) (sz3 S.p) (ze3 S.p), iaddr_sl (un35 S.p) (sz3 S.p), len_sl (un35 S.p), len_nils (un35 S.p), part_sc (ag3 S.p), idx_ok, hc9, hc2, gk, gs, f29, dec_t, dec_f, m1, m2, m3, m4, m5, m6, m7', m8, m9, m10, m11, m12, m13', e31, List.flatten_cons, List.flatten_nil, List.append_nil, Nat.one_mul, Nat.zero_mul, splice_one, Nat.mul_one, Nat.add_zero, Int.toNat_natCast, Int.toNat_zero, Nat.zero_add, wrap_i64]
            exact Ends.some ⟨hx1.trans hx14, _, rfl, r4⟩
      · have := hgo h2 hx2 (by rw [hF]; simp [hks])
        simp (maxSteps := 1000000) (disch := first | omega | (simp (disch := first | omega | (simp only [gC_len, Edg.len, ixC_len, wC_len, bC_len, List.length_append, List.length_cons, List.length_nil, List.length_set]; first | done | omega)) only [gC_len, Edg.len, ixC_len, wC_len, bC_len, amSide, Int.reduceToNat, Nat.reducePow, Nat.reduceMul]; first | done | omega)) only  [↓amPre, amPost, ↓s_lit', Nat.reduceAdd, Nat.reduceSub, List.replicate, retA, resultsA, resultA, toC, toCL, Nat.reduceEqDiff, he, append_at (un35 S.p) (sz3 S.p) (by3 S.p) (ze3 S.p) (by decide) (by decide) rfl, copy_at (un35 S.p) (sz3 S.p) (by3 S.p) (ze3 S.p) (by decide) (by decide) rfl, sl_cells (sz3 S.p), lit_fill (un35 S.p) (sz3 S.p) (ze3 S.p), iaddr_sl (un35 S.p) (sz3 S.p), len_sl (un35 S.p), len_nils (un35 S.p), part_sc (ag3 S.p), idx_ok, hc9, hc2, gk, gs, dec_f, Nat.mul_one, Int.toNat_natCast, Int.toNat_zero, Nat.zero_add, wrap_i64]
        refine this _ ?_
        simp (maxSteps := 1000000) (disch := first | omega | (simp (disch := first | omega | (simp only [gC_len, Edg.len, ixC_len, wC_len, bC_len, List.length_append, List.length_cons, List.length_nil, List.length_set]; first | done | omega)) only [gC_len, Edg.len, ixC_len, wC_len, bC_len, amSide, Int.reduceToNat, Nat.reducePow, Nat.reduceMul]; first | done | omega)) only [↓amPre, amPost, ↓s_lit', Nat.reduceAdd, Nat.reduceSub, List.replicate, retA, resultsA, resultA, toC, toCL, Nat.reduceEqDiff, Int.natCast_add, Int.cast_ofNat_Int, dec_t, dec_f]
    · simp only [decide_eq_false_iff_not] at hc1
      obtain rfl : i = R.length := by omega
      rw [List.take_length] at hno
      rw [hno]
      simp (maxSteps := 1000000) (disch := first | omega | (simp (disch := first | omega | (simp only [gC_len, Edg.len, ixC_len, wC_len, bC_len, List.length_append, List.length_cons, List.length_nil, List.length_set]; first | done | omega)) only [gC_len, Edg.len, ixC_len, wC_len, bC_len, amSide, Int.reduceToNat, Nat.reducePow, Nat.reduceMul]; first | done | omega)) only  [↓amPre, amPost, ↓s_lit', Nat.reduceAdd, Nat.reduceSub, List.replicate, retA, resultsA, resultA, toC, toCL, Nat.reduceEqDiff, he, append_at (un35 S.p) (sz3 S.p) (by3 S.p) (ze3 S.p) (by decide) (by decide) rfl, copy_at (un35 S.p) (sz3 S.p) (by3 S.p) (ze3 S.p) (by decide) (by decide) rfl, sl_cells (sz3 S.p), lit_fill (un35 S.p) (sz3 S.p) (ze3 S.p), iaddr_sl (un35 S.p) (sz3 S.p), len_sl (un35 S.p), len_nils (un35 S.p), part_sc (ag3 S.p)]
      exact Ends.some ⟨hx1.trans hx2, _, rfl⟩
end Go.AM
