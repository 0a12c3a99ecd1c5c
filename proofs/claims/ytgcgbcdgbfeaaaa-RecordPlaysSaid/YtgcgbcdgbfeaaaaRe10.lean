/- Stacks of records: counts, the first one, all objects. Conditions: none. -/
import Derived.Test.YtgcgbcdgbfeaaaaRe9
import Derived.Test.YtgcgbcdgbfeaaaaRe5
set_option linter.unusedVariables false
set_option linter.unusedSimpArgs false
set_option maxRecDepth 100000
namespace Go.AM
open Go.Proofs
-- LENS: Rec.len, StV.len
def objI (l : List Rec) : List Int := l.map Rec.o
theorem objC_I (l : List Rec) : objC l = (objI l).map (SV.int .i64) := by simp [objC, objI]
theorem objI_len (l : List Rec) : (objI l).length = l.length := by simp [objI]
structure CnSt where
  i : Nat
set_option maxHeartbeats 2000000 in
theorem s32 {P : Program} {T : Tab} {K d : Nat} (S : Sd P T K) (hd : 3 ≤ d) {lo p : Nat} {hh : List AO} {qs : SV} {n : Int} {l : List Rec} (H : Stk lo p hh qs n l) (hn : 0 < n) (hl : l.length ≤ 600) (o : Int) (lk : Nat) :
    ev P T K d 32 [.sc (.ptr p 0), .sc (.int .i64 o)] lk hh = some (.v (.sc (.int .i64 (cntO o (objI l) : Nat))), hh) := by
  obtain ⟨d, rfl⟩ : ∃ k, d = k + 1 := ⟨d - 1, by omega⟩
  refine ev_pure (at32 S.t) rfl ?_
  unfold i32 Try.f32
  obtain ⟨v, h', e66, hx, q', rfl, ho⟩ := s66 S (show 2 ≤ d by omega) H hn hl hh.length (Nat.le_refl _)
  have hlen := own_len (un47 S.p) ho
  rw [objC_I] at ho
  rw [objC_len, ← objI_len] at hlen
  rw [← objI_len] at hl
  generalize objI l = L at *
  simp (maxSteps := 1000000) (disch := first | omega | (simp (disch := first | omega | (simp only [Rec.len, StV.len, List.length_append, List.length_cons, List.length_nil, List.length_set]; first | done | omega)) only [Rec.len, StV.len, amSide, Int.reduceToNat, Nat.reducePow, Nat.reduceMul]; first | done | omega)) only  [↓amPre, amPost, ↓s_lit', Nat.reduceAdd, Nat.reduceSub, List.replicate, retA, resultsA, resultA, toC, toCL, Nat.reduceEqDiff, iaddr_sl (un47 S.p) (sz3 S.p), len_sl (un47 S.p), len_nils (un47 S.p), part_sc (ag3 S.p), e66, hlen]
  refine ends_loop (X := CnSt) ⟨0⟩ [7, 12, 13, 14, 15, 16, 17, 18, 19, 20] (fun x => x.i ≤ L.length) (fun x => L.length - x.i)
    (fun x e => (e.set 5 (.v (.sc (.int .i64 (cntO o (L.take x.i) : Nat))))).set 11 (.v (.sc (.int .i64 x.i)))) (fun x => h')
    (by have := S.k; show _ < K; simp only; omega) (by simp only; omega) rfl rfl ?_
  rintro ⟨i⟩ hi again hag e he
  simp only at hi hag he
  simp only [↓amPre, amPost, ↓s_lit', Nat.reduceAdd, Nat.reduceSub, List.replicate, retA, resultsA, resultA, toC, toCL, Nat.reduceEqDiff] at he
  simp only [↓amPre, amPost, ↓s_lit', Nat.reduceAdd, Nat.reduceSub, List.replicate, retA, resultsA, resultA, toC, toCL, Nat.reduceEqDiff, he]
  refine ends_cond (fun hc1 => ?_) (fun hc1 => ?_)
  · simp only [decide_eq_true_eq] at hc1
    have hio : i < L.length := by omega
    obtain ⟨x, hxi⟩ : ∃ x, L[i]? = some x := ⟨_, List.getElem?_eq_getElem hio⟩
    obtain ⟨b, hq, hb, hcs⟩ : ∃ b, q' = .sl b 0 L.length 1 ∧ b < h'.length ∧ cellsAt h' b = some (L.map (SV.int .i64)) := by
      rcases ho with ⟨_, e⟩ | ⟨b, h1, h2, h3, h4, _⟩
      · have : (L.map (SV.int .i64)).length = 0 := by rw [e]; rfl
        simp at this; rw [this] at hio; simp at hio
      · exact ⟨b, by simpa using h3, h2, cells_at h4⟩
    subst hq
    have hcx : (L.map (SV.int .i64))[i]? = some (.int .i64 x) := by simp [hxi]
    have hsn := cntO_snoc o (L.take i) x
    rw [← take_snocG L i x hxi] at hsn
    have hle := cntO_le o (L.take i)
    have htl := List.length_take_le i L
    by_cases k1 : x = o
    · rw [if_pos k1] at hsn
      simp (maxSteps := 1000000) (disch := first | omega | (simp (disch := first | omega | (simp only [Rec.len, StV.len, List.length_append, List.length_cons, List.length_nil, List.length_set]; first | done | omega)) only [Rec.len, StV.len, amSide, Int.reduceToNat, Nat.reducePow, Nat.reduceMul]; first | done | omega)) only  [↓amPre, amPost, ↓s_lit', Nat.reduceAdd, Nat.reduceSub, List.replicate, retA, resultsA, resultA, toC, toCL, Nat.reduceEqDiff, he, iaddr_sl (un47 S.p) (sz3 S.p), len_sl (un47 S.p), len_nils (un47 S.p), part_sc (ag3 S.p), idx_ok, hcs, hcx, beqI_t, Nat.mul_one, Int.toNat_natCast, Nat.zero_add, wrap_i64]
      refine hag ⟨i + 1⟩ hio (by simp only; omega) _ ?_
      simp only [hsn]
      simp (maxSteps := 1000000) (disch := first | omega | (simp (disch := first | omega | (simp only [Rec.len, StV.len, List.length_append, List.length_cons, List.length_nil, List.length_set]; first | done | omega)) only [Rec.len, StV.len, amSide, Int.reduceToNat, Nat.reducePow, Nat.reduceMul]; first | done | omega)) only [↓amPre, amPost, ↓s_lit', Nat.reduceAdd, Nat.reduceSub, List.replicate, retA, resultsA, resultA, toC, toCL, Nat.reduceEqDiff, Int.natCast_add, Int.cast_ofNat_Int, dec_t, dec_f]
    · rw [if_neg k1] at hsn
      simp (maxSteps := 1000000) (disch := first | omega | (simp (disch := first | omega | (simp only [Rec.len, StV.len, List.length_append, List.length_cons, List.length_nil, List.length_set]; first | done | omega)) only [Rec.len, StV.len, amSide, Int.reduceToNat, Nat.reducePow, Nat.reduceMul]; first | done | omega)) only  [↓amPre, amPost, ↓s_lit', Nat.reduceAdd, Nat.reduceSub, List.replicate, retA, resultsA, resultA, toC, toCL, Nat.reduceEqDiff, he, iaddr_sl (un47 S.p) (sz3 S.p), len_sl (un47 S.p), len_nils (un47 S.p), part_sc (ag3 S.p), idx_ok, hcs, hcx, beqI_f, Nat.mul_one, Int.toNat_natCast, Nat.zero_add, wrap_i64]
      refine hag ⟨i + 1⟩ hio (by simp only; omega) _ ?_
      simp only [hsn, Nat.add_zero]
      simp (maxSteps := 1000000) (disch := first | omega | (simp (disch := first | omega | (simp only [Rec.len, StV.len, List.length_append, List.length_cons, List.length_nil, List.length_set]; first | done | omega)) only [Rec.len, StV.len, amSide, Int.reduceToNat, Nat.reducePow, Nat.reduceMul]; first | done | omega)) only [↓amPre, amPost, ↓s_lit', Nat.reduceAdd, Nat.reduceSub, List.replicate, retA, resultsA, resultA, toC, toCL, Nat.reduceEqDiff, Int.natCast_add, Int.cast_ofNat_Int, dec_t, dec_f]
  · simp only [decide_eq_false_iff_not] at hc1
    obtain rfl : i = L.length := by omega
    rw [List.take_length] at *
    simp (maxSteps := 1000000) (disch := first | omega | (simp (disch := first | omega | (simp only [Rec.len, StV.len, List.length_append, List.length_cons, List.length_nil, List.length_set]; first | done | omega)) only [Rec.len, StV.len, amSide, Int.reduceToNat, Nat.reducePow, Nat.reduceMul]; first | done | omega)) only  [↓amPre, amPost, ↓s_lit', Nat.reduceAdd, Nat.reduceSub, List.replicate, retA, resultsA, resultA, toC, toCL, Nat.reduceEqDiff, he, iaddr_sl (un47 S.p) (sz3 S.p), len_sl (un47 S.p), len_nils (un47 S.p), part_sc (ag3 S.p)]
    exact Ends.some rfl
/-- The first one of an object. -/
inductive Fst (o : Int) (l : List Rec) : Option Nat → Prop where
  | none (h : ∀ y ∈ l, y.o ≠ o) : Fst o l none
  | some (i : Nat) (x : Rec) (hx : l[i]? = some x) (ho : x.o = o) (hb : ∀ y ∈ l.take i, y.o ≠ o) : Fst o l (some i)
theorem fst_ex (o : Int) (l : List Rec) : ∃ r, Fst o l r := by
  suffices ∀ j, j ≤ l.length → (∀ y ∈ l.take j, y.o ≠ o) ∨ ∃ i, i < j ∧ Fst o l (some i) by
    rcases this l.length (Nat.le_refl _) with h | ⟨i, _, h⟩
    · rw [List.take_length] at h; exact ⟨none, .none h⟩
    · exact ⟨_, h⟩
  intro j
  induction j with
  | zero => intro _; exact .inl (by simp)
  | succ j ih =>
    intro hj
    rcases ih (by omega) with h | ⟨i, hi, h⟩
    · obtain ⟨x, hx⟩ : ∃ x, l[j]? = some x := ⟨_, List.getElem?_eq_getElem (by omega)⟩
      by_cases e : x.o = o
      · exact .inr ⟨j, by omega, .some j x hx e h⟩
      · refine .inl fun y hy => ?_
        rw [take_snocG l j x hx] at hy
        rcases List.mem_append.1 hy with hy | hy
        · exact h y hy
        · rw [List.mem_singleton.1 hy]; exact e
    · exact .inr ⟨i, by omega, h⟩
set_option maxHeartbeats 2000000 in
theorem s70 {P : Program} {T : Tab} {K d : Nat} (S : Sd P T K) (hd : 2 ≤ d) {lo p : Nat} {hh : List AO} {qs : SV} {n : Int} {l : List Rec} (H : Stk lo p hh qs n l) (hl : l.length ≤ 600) (o : Int) (a : Nat) (ha : cellsAt hh a = some [.int .i64 o]) (hal : a < hh.length) (r : Option Nat) (hr : Fst o l r) (lk : Nat) :
    ev P T K d 70 [.sc qs, .sc (.fn 105 [] [.ptr a 0])] lk hh = some (.v (.sc (.int .i64 (match r with | some i => (i : Int) | none => -1))), hh) := by
  obtain ⟨d, rfl⟩ : ∃ k, d = k + 1 := ⟨d - 1, by omega⟩
  refine ev_pure (at70 S.t) rfl ?_
  unfold i70 Try.f70
  have hll := H.len S
  simp (maxSteps := 1000000) (disch := first | omega | (simp (disch := first | omega | (simp only [Rec.len, StV.len, List.length_append, List.length_cons, List.length_nil, List.length_set]; first | done | omega)) only [Rec.len, StV.len, amSide, Int.reduceToNat, Nat.reducePow, Nat.reduceMul]; first | done | omega)) only  [↓amPre, amPost, ↓s_lit', Nat.reduceAdd, Nat.reduceSub, List.replicate, retA, resultsA, resultA, toC, toCL, Nat.reduceEqDiff, iaddr_sl (un59 S.p) (sz62 S.p), len_sl (un59 S.p), len_nils (un59 S.p), part_all (ag62 S.p) (sz62 S.p), part_at (ag62 S.p) (sz62 S.p), hll]
  refine ends_loop (X := CnSt) ⟨0⟩ [4, 5, 9, 10, 11, 12, 13, 14, 15, 16, 17, 18] (fun x => x.i ≤ l.length ∧ ∀ y ∈ l.take x.i, y.o ≠ o) (fun x => l.length - x.i)
    (fun x e => e.set 8 (.v (.sc (.int .i64 x.i)))) (fun x => hh)
    (by have := S.k; show _ < K; simp only; omega) ⟨by simp only; omega, by simp⟩ rfl rfl ?_
  rintro ⟨i⟩ ⟨hi, hb⟩ again hag e he
  simp only at hi hb hag he
  simp only [↓amPre, amPost, ↓s_lit', Nat.reduceAdd, Nat.reduceSub, List.replicate, retA, resultsA, resultA, toC, toCL, Nat.reduceEqDiff] at he
  simp only [↓amPre, amPost, ↓s_lit', Nat.reduceAdd, Nat.reduceSub, List.replicate, retA, resultsA, resultA, toC, toCL, Nat.reduceEqDiff, he]
  refine ends_cond (fun hc1 => ?_) (fun hc1 => ?_)
  · simp only [decide_eq_true_eq] at hc1
    have hio : i < l.length := by omega
    obtain ⟨x, hxi⟩ : ∃ x, l[i]? = some x := ⟨_, List.getElem?_eq_getElem hio⟩
    obtain ⟨b, g, rfl, hbb, _, _, hbl⟩ := H.at hio
    have hcb := cells_at hbb
    have hpt := recs_gpart (ag62 S.p) (sz62 S.p) Rec.len hxi g
    have f105 := s105 S (show 1 ≤ d by omega) x o a lk hh ha hal
    have f105 := fun lk => s105 S (show 1 ≤ d by omega) x o a lk hh ha hal
    by_cases k1 : x.o = o
    · have hr' : r = some i := by
        cases hr with
        | none h => exact absurd k1 (h x (List.mem_of_getElem? hxi))
        | some j y hy ho hb' =>
          rcases Nat.lt_trichotomy i j with h1 | h1 | h1
          · exact absurd k1 (hb' x (List.mem_take_iff_getElem.2 ⟨i, by have := (List.getElem?_eq_some_iff.1 hy).1; omega, (List.getElem?_eq_some_iff.1 hxi).2⟩))
          · rw [h1]
          · exact absurd ho (hb y (List.mem_take_iff_getElem.2 ⟨j, by have := (List.getElem?_eq_some_iff.1 hy).1; omega, (List.getElem?_eq_some_iff.1 hy).2⟩))
      subst hr'
      rw [beqI_t k1] at f105
      simp (maxSteps := 1000000) (disch := first | omega | (simp (disch := first | omega | (simp only [Rec.len, StV.len, List.length_append, List.length_cons, List.length_nil, List.length_set]; first | done | omega)) only [Rec.len, StV.len, amSide, Int.reduceToNat, Nat.reducePow, Nat.reduceMul]; first | done | omega)) only  [↓amPre, amPost, ↓s_lit', Nat.reduceAdd, Nat.reduceSub, List.replicate, retA, resultsA, resultA, toC, toCL, Nat.reduceEqDiff, he, iaddr_sl (un59 S.p) (sz62 S.p), len_sl (un59 S.p), len_nils (un59 S.p), part_all (ag62 S.p) (sz62 S.p), part_at (ag62 S.p) (sz62 S.p), idx_ok, hcb, hpt, f105, Int.toNat_natCast, Nat.zero_add, wrap_i64]
      exact Ends.some rfl
    · rw [beqI_f k1] at f105
      simp (maxSteps := 1000000) (disch := first | omega | (simp (disch := first | omega | (simp only [Rec.len, StV.len, List.length_append, List.length_cons, List.length_nil, List.length_set]; first | done | omega)) only [Rec.len, StV.len, amSide, Int.reduceToNat, Nat.reducePow, Nat.reduceMul]; first | done | omega)) only  [↓amPre, amPost, ↓s_lit', Nat.reduceAdd, Nat.reduceSub, List.replicate, retA, resultsA, resultA, toC, toCL, Nat.reduceEqDiff, he, iaddr_sl (un59 S.p) (sz62 S.p), len_sl (un59 S.p), len_nils (un59 S.p), part_all (ag62 S.p) (sz62 S.p), part_at (ag62 S.p) (sz62 S.p), idx_ok, hcb, hpt, f105, Int.toNat_natCast, Nat.zero_add, wrap_i64]
      refine hag ⟨i + 1⟩ ⟨hio, fun y hy => ?_⟩ (by simp only; omega) _ ?_
      · simp only at hy
        rw [take_snocG l i x hxi] at hy
        rcases List.mem_append.1 hy with hy | hy
        · exact hb y hy
        · rw [List.mem_singleton.1 hy]; exact k1
      · simp (maxSteps := 1000000) (disch := first | omega | (simp (disch := first | omega | (simp only [Rec.len, StV.len, List.length_append, List.length_cons, List.length_nil, List.length_set]; first | done | omega)) only [Rec.len, StV.len, amSide, Int.reduceToNat, Nat.reducePow, Nat.reduceMul]; first | done | omega)) only [↓amPre, amPost, ↓s_lit', Nat.reduceAdd, Nat.reduceSub, List.replicate, retA, resultsA, resultA, toC, toCL, Nat.reduceEqDiff, Int.natCast_add, Int.cast_ofNat_Int, dec_t, dec_f]
  · simp only [decide_eq_false_iff_not] at hc1
    obtain rfl : i = l.length := by omega
    rw [List.take_length] at *
    have hr' : r = none := by
      cases hr with
      | none h => rfl
      | some j y hy ho hb' => exact absurd ho (hb y (List.mem_of_getElem? hy))
    subst hr'
    simp (maxSteps := 1000000) (disch := first | omega | (simp (disch := first | omega | (simp only [Rec.len, StV.len, List.length_append, List.length_cons, List.length_nil, List.length_set]; first | done | omega)) only [Rec.len, StV.len, amSide, Int.reduceToNat, Nat.reducePow, Nat.reduceMul]; first | done | omega)) only  [↓amPre, amPost, ↓s_lit', Nat.reduceAdd, Nat.reduceSub, List.replicate, retA, resultsA, resultA, toC, toCL, Nat.reduceEqDiff, he, iaddr_sl (un59 S.p) (sz62 S.p), len_sl (un59 S.p), len_nils (un59 S.p), part_all (ag62 S.p) (sz62 S.p), part_at (ag62 S.p) (sz62 S.p)]
    exact Ends.some rfl
end Go.AM
