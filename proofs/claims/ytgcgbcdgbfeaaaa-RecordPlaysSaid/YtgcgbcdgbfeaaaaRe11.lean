/- Stacks of records: the first one of an object, the objects, a beginning of steps. Conditions: none. -/
import Derived.Test.YtgcgbcdgbfeaaaaRe10
set_option linter.unusedVariables false
set_option linter.unusedSimpArgs false
set_option maxRecDepth 100000
namespace Go.AM
open Go.Proofs
-- LENS: Rec.len, StV.len
theorem s71 {P : Program} {T : Tab} {K d : Nat} (S : Sd P T K) (hd : 1 ≤ d) (o : Int) (lk : Nat) (hh : List AO) : ev P T K d 71 [.sc (.int .i64 o)] lk hh = some (.v (.sc (.fn 105 [] [.ptr hh.length 0])), hh ++ [.rw 3 [.int .i64 o]]) := by
  obtain ⟨d, rfl⟩ : ∃ k, d = k + 1 := ⟨d - 1, by omega⟩
  rw [ev_run (at71 S.t)]
  unfold i71 Try.f71
  simp (maxSteps := 1000000) (disch := first | omega | (simp (disch := first | omega | (simp only [Rec.len, StV.len, List.length_append, List.length_cons, List.length_nil, List.length_set]; first | done | omega)) only [Rec.len, StV.len, amSide, Int.reduceToNat, Nat.reducePow, Nat.reduceMul]; first | done | omega)) only  [↓amPre, amPost, ↓s_lit', Nat.reduceAdd, Nat.reduceSub, List.replicate, retA, resultsA, resultA, toC, toCL, Nat.reduceEqDiff, if_true, toSL, toS]
theorem s33 {P : Program} {T : Tab} {K d : Nat} (S : Sd P T K) (hd : 3 ≤ d) {lo p : Nat} {hh : List AO} {qs : SV} {n : Int} {l : List Rec} (H : Stk lo p hh qs n l) (hn : 0 < n) (hl : l.length ≤ 600) (o : Int) (r : Option Nat) (hr : Fst o l r) (lk : Nat) :
    ev P T K d 33 [.sc (.ptr p 0), .sc (.int .i64 o)] lk hh = some (topV r, hh) := by
  obtain ⟨d, rfl⟩ : ∃ k, d = k + 1 := ⟨d - 1, by omega⟩
  refine ev_pure (at33 S.t) (by cases r <;> rfl) ?_
  unfold i33 Try.f33
  have hc := H.cell
  have hp := (List.getElem?_eq_some_iff.1 H.pp).1
  have f65 : ∀ lk, ev P T K d 65 [.sc (.ptr p 0)] lk hh = some (.v (.sc (.bool true)), hh) := fun lk => by rw [s65 S (by omega) H lk, dec_t (show n > 0 by omega)]
  have e71 := fun lk hh => s71 S (show 1 ≤ d by omega) o lk hh
  have H2 := H.push (.rw 3 [.int .i64 o])
  have f70 := fun lk => s70 S (show 2 ≤ d by omega) H2 hl o hh.length (cells_self _ _ _ rfl) (by simp) r hr lk
  cases r with
  | none =>
    simp only at f70
    simp (maxSteps := 1000000) (disch := first | omega | (simp (disch := first | omega | (simp only [Rec.len, StV.len, List.length_append, List.length_cons, List.length_nil, List.length_set]; first | done | omega)) only [Rec.len, StV.len, amSide, Int.reduceToNat, Nat.reducePow, Nat.reduceMul]; first | done | omega)) only  [↓amPre, amPost, ↓s_lit', Nat.reduceAdd, Nat.reduceSub, List.replicate, retA, resultsA, resultA, toC, toCL, Nat.reduceEqDiff, (fa88_1 S.p), part_sc (ag59 S.p), f65, e71, f70, hc, cells_other, dec_f, Nat.zero_add]
    exact Ends.some rfl
  | some i =>
    simp only at f70
    simp (maxSteps := 1000000) (disch := first | omega | (simp (disch := first | omega | (simp only [Rec.len, StV.len, List.length_append, List.length_cons, List.length_nil, List.length_set]; first | done | omega)) only [Rec.len, StV.len, amSide, Int.reduceToNat, Nat.reducePow, Nat.reduceMul]; first | done | omega)) only  [↓amPre, amPost, ↓s_lit', Nat.reduceAdd, Nat.reduceSub, List.replicate, retA, resultsA, resultA, toC, toCL, Nat.reduceEqDiff, (fa88_1 S.p), part_sc (ag59 S.p), f65, e71, f70, hc, cells_other, dec_t, Nat.zero_add]
    exact Ends.some rfl
/-- A slice that tells a list, in a block that may be longer. -/
def Told (h : List AO) (lo : Nat) (q : SV) (l : List Int) : Prop := (q = .nils ∧ l = []) ∨ ∃ b e cs, q = .sl b 0 l.length 1 ∧ lo ≤ b ∧ b < h.length ∧ h[b]? = some (.rw e cs) ∧ ∀ (i : Nat) (o : Int), l[i]? = some o → cs[i]? = some (.int .i64 o)
theorem Told.len {P : Program} {t el : TypeId} (hu : P.underlying t = some (.slice el)) {h : List AO} {lo : Nat} {q : SV} {l : List Int} (H : Told h lo q l) (hh : List AO) : lenA P hh t (.v (.sc q)) = some (.v (.sc (.int .i64 (l.length : Int)))) := by
  rcases H with ⟨rfl, rfl⟩ | ⟨b, e, cs, rfl, _⟩
  · exact len_nils hu
  · exact len_sl hu _ _ _ _
theorem Told.ext {h h' : List AO} {lo : Nat} {q : SV} {l : List Int} (H : Told h lo q l) (hx : Ext1 h h') : Told h' lo q l := by
  rcases H with H | ⟨b, e, cs, h1, h2, h3, h4, h5⟩
  · exact .inl H
  · exact .inr ⟨b, e, cs, h1, h2, Nat.lt_of_lt_of_le h3 hx.len, ext1_get hx h4, h5⟩
theorem Told.at {h : List AO} {lo : Nat} {q : SV} {l : List Int} (H : Told h lo q l) {i : Nat} {o : Int} (hi : l[i]? = some o) : ∃ b cs, q = .sl b 0 l.length 1 ∧ lo ≤ b ∧ b < h.length ∧ cellsAt h b = some cs ∧ cs[i]? = some (.int .i64 o) := by
  rcases H with ⟨_, rfl⟩ | ⟨b, e, cs, h1, h2, h3, h4, h5⟩
  · simp at hi
  · exact ⟨b, cs, h1, h2, h3, cells_at h4, h5 i o hi⟩
theorem s31 {P : Program} {T : Tab} {K d : Nat} (S : Sd P T K) (hd : 3 ≤ d) {lo p : Nat} {hh : List AO} {qs : SV} {n : Int} {l : List Rec} (H : Stk lo p hh qs n l) (hn : 0 < n) (hl : l.length ≤ 600) (lk : Nat) (hlk : lk ≤ hh.length) :
    Ends (fun v h' => Ext1 hh h' ∧ ∃ q', v = .v (.sc q') ∧ Told h' hh.length q' (objsL (objI l))) (ev P T K d 31 [.sc (.ptr p 0)] lk hh) := by
  obtain ⟨d, rfl⟩ : ∃ k, d = k + 1 := ⟨d - 1, by omega⟩
  rw [ev_run (at31 S.t)]
  unfold i31 Try.f31
  obtain ⟨v, h', e66, hx, q', rfl, ho⟩ := s66 S (show 2 ≤ d by omega) H hn hl lk hlk
  have k68 : ∀ xs lk h, ev P T K d 68 xs lk h = sortF xs lk h := fun xs lk h => by
    obtain ⟨d, rfl⟩ : ∃ k, d = k + 1 := ⟨d - 1, by omega⟩
    exact ev_kn (at68 S.t) xs lk h
  have k69 : ∀ xs lk h, ev P T K d 69 xs lk h = compactF xs lk h := fun xs lk h => by
    obtain ⟨d, rfl⟩ : ∃ k, d = k + 1 := ⟨d - 1, by omega⟩
    exact ev_kn (at69 S.t) xs lk h
  rw [objC_I] at ho
  rw [← objI_len] at hl
  generalize objI l = L at *
  rcases ho with ⟨rfl, e⟩ | ⟨b, h1, h2, rfl, h4, h5⟩
  · have hL : L = [] := by
      have : (L.map (SV.int .i64)).length = 0 := by rw [e]; rfl
      simpa using this
    subst hL
    have f68 := k68 [.sc .nils] lk h'
    have f69 := k69 [.sc .nils] lk h'
    have e1 : sortF [.sc .nils] lk h' = some (.tup [], h') := rfl
    have e2 : compactF [.sc .nils] lk h' = some (.v (.sc .nils), h') := rfl
    rw [e1] at f68
    rw [e2] at f69
    simp (maxSteps := 1000000) (disch := first | omega | (simp (disch := first | omega | (simp only [Rec.len, StV.len, List.length_append, List.length_cons, List.length_nil, List.length_set]; first | done | omega)) only [Rec.len, StV.len, amSide, Int.reduceToNat, Nat.reducePow, Nat.reduceMul]; first | done | omega)) only  [↓amPre, amPost, ↓s_lit', Nat.reduceAdd, Nat.reduceSub, List.replicate, retA, resultsA, resultA, toC, toCL, Nat.reduceEqDiff, if_true, e66, f68, f69]
    exact Ends.some ⟨hx, _, rfl, .inl ⟨rfl, List.eq_nil_of_length_eq_zero (Nat.le_zero.1 (objsL_len []))⟩⟩
  · by_cases h0 : L.length = 0
    · have hL : L = [] := List.eq_nil_of_length_eq_zero h0
      subst hL
      have f68 := k68 [.sc (.sl b 0 0 1)] lk h'
      have f69 := k69 [.sc (.sl b 0 0 1)] lk h'
      have e1 : sortF [.sc (.sl b 0 0 1)] lk h' = some (.tup [], h') := rfl
      have e2 : compactF [.sc (.sl b 0 0 1)] lk h' = some (.v (.sc (.sl b 0 0 1)), h') := rfl
      rw [e1] at f68
      rw [e2] at f69
      have h00 : (List.map (SV.int .i64) []).length / 1 = 0 := rfl
      rw [h00] at *
      have ho0 : objsL [] = [] := List.eq_nil_of_length_eq_zero (Nat.le_zero.1 (objsL_len []))
      simp (maxSteps := 1000000) (disch := first | omega | (simp (disch := first | omega | (simp only [Rec.len, StV.len, List.length_append, List.length_cons, List.length_nil, List.length_set]; first | done | omega)) only [Rec.len, StV.len, amSide, Int.reduceToNat, Nat.reducePow, Nat.reduceMul]; first | done | omega)) only  [↓amPre, amPost, ↓s_lit', Nat.reduceAdd, Nat.reduceSub, List.replicate, retA, resultsA, resultA, toC, toCL, Nat.reduceEqDiff, if_true, e66, f68, f69]
      exact Ends.some ⟨hx, _, rfl, .inr ⟨b, 3, _, by rw [ho0]; rfl, h1, h2, h4, fun i o hi => by rw [ho0] at hi; simp at hi⟩⟩
    · have hsl : (sortL L).length = L.length := List.length_mergeSort L
      have hnl : (L.map (SV.int .i64)).length / 1 = L.length := by simp
      rw [hnl] at e66
      have f68 : ev P T K d 68 [.sc (.sl b 0 L.length 1)] lk h' = some (.tup [], h'.set b (.rw 3 ((sortL L).map (SV.int .i64)))) := by
        rw [k68]
        simp only [sortF, h4, intsOf_map]
        rw [if_neg h0, if_pos ⟨trivial, trivial, trivial, by omega, by omega, by omega⟩]
      have hb2 : (h'.set b (.rw 3 ((sortL L).map (SV.int .i64))))[b]? = some (.rw 3 ((sortL L).map (SV.int .i64))) := List.getElem?_set_self h2
      have f69 : ev P T K d 69 [.sc (.sl b 0 L.length 1)] lk (h'.set b (.rw 3 ((sortL L).map (SV.int .i64)))) = some (.v (.sc (.sl b 0 (objsL L).length 1)), (h'.set b (.rw 3 ((sortL L).map (SV.int .i64)))).set b (.rw 3 ((objsL L ++ List.replicate ((sortL L).length - (objsL L).length) 0).map (SV.int .i64)))) := by
        rw [k69]
        simp only [compactF, hb2, intsOf_map]
        rw [if_neg h0, if_pos ⟨trivial, trivial, by omega, by omega, by omega, by omega⟩]
        rfl
      simp (maxSteps := 1000000) (disch := first | omega | (simp (disch := first | omega | (simp only [Rec.len, StV.len, List.length_append, List.length_cons, List.length_nil, List.length_set]; first | done | omega)) only [Rec.len, StV.len, amSide, Int.reduceToNat, Nat.reducePow, Nat.reduceMul]; first | done | omega)) only  [↓amPre, amPost, ↓s_lit', Nat.reduceAdd, Nat.reduceSub, List.replicate, retA, resultsA, resultA, toC, toCL, Nat.reduceEqDiff, if_true, e66, f68, f69]

      refine Ends.some ⟨(hx.set h1 _).set h1 _, _, rfl, .inr ⟨b, 3, _, rfl, h1, by simpa using h2, List.getElem?_set_self (by simpa using h2), fun i o hi => ?_⟩⟩
      have hil := (List.getElem?_eq_some_iff.1 hi).1
      rw [List.getElem?_map, List.getElem?_append_left hil, hi]; rfl
end Go.AM
