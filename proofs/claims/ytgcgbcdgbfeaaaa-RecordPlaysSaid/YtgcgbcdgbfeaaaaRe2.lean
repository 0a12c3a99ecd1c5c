/- Records: all objects, how many, one, the last one of an object. Conditions: none. -/
import Derived.Test.YtgcgbcdgbfeaaaaRe1
set_option linter.unusedVariables false
set_option linter.unusedSimpArgs false
set_option maxRecDepth 100000
namespace Go.AM
open Go.Proofs
-- LENS: Rec.len
theorem take_snocG {α : Type} (l : List α) (i : Nat) (x : α) (h : l[i]? = some x) : l.take (i + 1) = l.take i ++ [x] := by
  rw [List.take_add_one, h]; rfl
structure AlSt where
  i : Nat
  q : SV
  h : List AO
def objC (l : List Rec) : List SV := l.map fun x => .int .i64 x.o
theorem objC_len (l : List Rec) : (objC l).length = l.length := by simp [objC]
theorem objC_snoc (l : List Rec) (x : Rec) : objC l ++ [.int .i64 x.o] = objC (l ++ [x]) := by simp [objC]
theorem s66 {P : Program} {T : Tab} {K d : Nat} (S : Sd P T K) (hd : 2 ≤ d) {lo p : Nat} {hh : List AO} {qs : SV} {n : Int} {l : List Rec} (H : Stk lo p hh qs n l) (hn : 0 < n) (hl : l.length ≤ 600) (lk : Nat) (hlk : lk ≤ hh.length) :
    Ends (fun v h' => Ext1 hh h' ∧ ∃ q', v = .v (.sc q') ∧ Own 3 1 hh.length h' q' (objC l)) (ev P T K d 66 [.sc (.ptr p 0)] lk hh) := by
  obtain ⟨d, rfl⟩ : ∃ k, d = k + 1 := ⟨d - 1, by omega⟩
  rw [ev_run (at66 S.t)]
  unfold i66 Try.f66
  have hc := H.cell
  have f65 : ∀ lk, ev P T K d 65 [.sc (.ptr p 0)] lk hh = some (.v (.sc (.bool true)), hh) := fun lk => by rw [s65 S (by omega) H lk, dec_t (show n > 0 by omega)]
  have hll := H.len S
  simp (maxSteps := 1000000) (disch := first | omega | (simp (disch := first | omega | (simp only [Rec.len, List.length_append, List.length_cons, List.length_nil, List.length_set]; first | done | omega)) only [Rec.len, amSide, Int.reduceToNat, Nat.reducePow, Nat.reduceMul]; first | done | omega)) only  [↓amPre, amPost, ↓s_lit', Nat.reduceAdd, Nat.reduceSub, List.replicate, retA, resultsA, resultA, toC, toCL, Nat.reduceEqDiff, (ze62 S.p), append_at (un47 S.p) (sz3 S.p) (by3 S.p) (ze3 S.p) (by decide) (by decide) rfl, sl_cells (sz3 S.p), lit_fill (un47 S.p) (sz3 S.p) (ze3 S.p), (fa62_0 S.p), (fa88_1 S.p), iaddr_sl (un59 S.p) (sz62 S.p), len_sl (un59 S.p), len_nils (un59 S.p), part_sc (ag3 S.p), part_sc (ag59 S.p), part_all (ag62 S.p) (sz62 S.p), part_at (ag62 S.p) (sz62 S.p), store_last (sz62 S.p), (sz62 S.p), f65, hc, hll, Nat.zero_add]
  refine ends_loop (X := AlSt) ⟨0, .nils, hh⟩ [5, 15, 16, 17, 18, 19, 20, 21, 22, 23] (fun x => x.i ≤ l.length ∧ Ext1 hh x.h ∧ Own 3 1 hh.length x.h x.q (objC (l.take x.i))) (fun x => l.length - x.i)
    (fun x e => (e.set 3 (.v (.sc x.q))).set 14 (.v (.sc (.int .i64 x.i)))) (fun x => x.h)
    (by have := S.k; show _ < K; simp only; omega) ⟨by simp only; omega, Ext1.refl hh, Own.nil _ _ _ _⟩ rfl rfl ?_
  rintro ⟨i, qo, hj⟩ ⟨hi, hx, ho⟩ again hag e he
  simp only at hi hx ho hag he
  simp only [↓amPre, amPost, ↓s_lit', Nat.reduceAdd, Nat.reduceSub, List.replicate, retA, resultsA, resultA, toC, toCL, Nat.reduceEqDiff] at he
  simp only [↓amPre, amPost, ↓s_lit', Nat.reduceAdd, Nat.reduceSub, List.replicate, retA, resultsA, resultA, toC, toCL, Nat.reduceEqDiff, he]
  refine ends_cond (fun hc1 => ?_) (fun hc1 => ?_)
  · simp only [decide_eq_true_eq] at hc1
    have hio : i < l.length := by omega
    obtain ⟨b, g, rfl, hb, _, _, hbl⟩ := H.at hio
    obtain ⟨x, hxi⟩ : ∃ x, l[i]? = some x := ⟨_, List.getElem?_eq_getElem hio⟩
    have hcc : cellsAt hj b = some (recs Rec.cells l ++ g) := cells_at (ext1_get hx hb)
    have hpt := recs_gpart (ag62 S.p) (sz62 S.p) Rec.len hxi g
    have hle := hx.len
    have hO2 := (ho.push (.rw 62 x.cells)).push (.rw 3 [.int .i64 x.o])
    obtain ⟨q2, h2, happ, hown, hl2, _, hx2, _⟩ := grow_own (b := 8) (lk := lk) hO2 [.int .i64 x.o] (by omega) (by simp) (by simp) (by omega) (by simp; omega) (by rw [objC_len]; have := List.length_take_le i l; simp only [List.length_singleton]; omega)
    have hx3 := hx2 hh ((hx.push (.rw 62 x.cells)).push (.rw 3 [.int .i64 x.o])) (Nat.le_refl _)
    rw [objC_snoc, ← take_snocG l i x hxi] at hown
    clear hO2 ho
    simp (maxSteps := 1000000) (disch := first | omega | (simp (disch := first | omega | (simp only [Rec.len, List.length_append, List.length_cons, List.length_nil, List.length_set]; first | done | omega)) only [Rec.len, amSide, Int.reduceToNat, Nat.reducePow, Nat.reduceMul]; first | done | omega)) only  [↓amPre, amPost, ↓s_lit', Nat.reduceAdd, Nat.reduceSub, List.replicate, retA, resultsA, resultA, toC, toCL, Nat.reduceEqDiff, he, (ze62 S.p), append_at (un47 S.p) (sz3 S.p) (by3 S.p) (ze3 S.p) (by decide) (by decide) rfl, sl_cells (sz3 S.p), lit_fill (un47 S.p) (sz3 S.p) (ze3 S.p), (fa62_0 S.p), (fa88_1 S.p), iaddr_sl (un59 S.p) (sz62 S.p), len_sl (un59 S.p), len_nils (un59 S.p), part_sc (ag3 S.p), part_sc (ag59 S.p), part_all (ag62 S.p) (sz62 S.p), part_at (ag62 S.p) (sz62 S.p), store_last (sz62 S.p), (sz62 S.p), idx_ok, hcc, hpt, cells_self, cells_other, Rec.c0, happ, List.flatten_cons, List.flatten_nil, List.append_nil, Nat.zero_mul, Nat.one_mul, Nat.mul_one, Int.toNat_natCast, Nat.zero_add, wrap_i64]
    refine hag ⟨i + 1, q2, h2⟩ ⟨hio, hx3, hown⟩ (by simp only; omega) _ ?_
    simp (maxSteps := 1000000) (disch := first | omega | (simp (disch := first | omega | (simp only [Rec.len, List.length_append, List.length_cons, List.length_nil, List.length_set]; first | done | omega)) only [Rec.len, amSide, Int.reduceToNat, Nat.reducePow, Nat.reduceMul]; first | done | omega)) only [↓amPre, amPost, ↓s_lit', Nat.reduceAdd, Nat.reduceSub, List.replicate, retA, resultsA, resultA, toC, toCL, Nat.reduceEqDiff, Int.natCast_add, Int.cast_ofNat_Int, dec_t, dec_f]
  · simp only [decide_eq_false_iff_not] at hc1
    obtain rfl : i = l.length := by omega
    rw [List.take_length] at ho
    simp (maxSteps := 1000000) (disch := first | omega | (simp (disch := first | omega | (simp only [Rec.len, List.length_append, List.length_cons, List.length_nil, List.length_set]; first | done | omega)) only [Rec.len, amSide, Int.reduceToNat, Nat.reducePow, Nat.reduceMul]; first | done | omega)) only  [↓amPre, amPost, ↓s_lit', Nat.reduceAdd, Nat.reduceSub, List.replicate, retA, resultsA, resultA, toC, toCL, Nat.reduceEqDiff, he, (ze62 S.p), append_at (un47 S.p) (sz3 S.p) (by3 S.p) (ze3 S.p) (by decide) (by decide) rfl, sl_cells (sz3 S.p), lit_fill (un47 S.p) (sz3 S.p) (ze3 S.p), (fa62_0 S.p), (fa88_1 S.p), iaddr_sl (un59 S.p) (sz62 S.p), len_sl (un59 S.p), len_nils (un59 S.p), part_sc (ag3 S.p), part_sc (ag59 S.p), part_all (ag62 S.p) (sz62 S.p), part_at (ag62 S.p) (sz62 S.p), store_last (sz62 S.p), (sz62 S.p)]
    exact Ends.some ⟨hx, qo, rfl, ho⟩
theorem own_len {P : Program} {t el : TypeId} (hu : P.underlying t = some (.slice el)) {e lo : Nat} {h : List AO} {q : SV} {cs : List SV} (H : Own e 1 lo h q cs) (hh : List AO) : lenA P hh t (.v (.sc q)) = some (.v (.sc (.int .i64 (cs.length : Int)))) := by
  rcases H with ⟨rfl, rfl⟩ | ⟨b, _, _, rfl, _⟩
  · exact len_nils hu
  · rw [len_sl hu, Nat.div_one]
theorem s27 {P : Program} {T : Tab} {K d : Nat} (S : Sd P T K) (hd : 3 ≤ d) {lo p : Nat} {hh : List AO} {qs : SV} {n : Int} {l : List Rec} (H : Stk lo p hh qs n l) (hn : 0 < n) (hl : l.length ≤ 600) (lk : Nat) :
    ev P T K d 27 [.sc (.ptr p 0)] lk hh = some (.v (.sc (.int .i64 (l.length : Int))), hh) := by
  obtain ⟨d, rfl⟩ : ∃ k, d = k + 1 := ⟨d - 1, by omega⟩
  refine ev_pure (at27 S.t) rfl ?_
  unfold i27 Try.f27
  obtain ⟨v, h', e66, hx, q', rfl, ho⟩ := s66 S (show 2 ≤ d by omega) H hn hl hh.length (Nat.le_refl _)
  have hlen := own_len (un47 S.p) ho
  rw [objC_len] at hlen
  simp (maxSteps := 1000000) (disch := first | omega | (simp (disch := first | omega | (simp only [Rec.len, List.length_append, List.length_cons, List.length_nil, List.length_set]; first | done | omega)) only [Rec.len, amSide, Int.reduceToNat, Nat.reducePow, Nat.reduceMul]; first | done | omega)) only  [↓amPre, amPost, ↓s_lit', Nat.reduceAdd, Nat.reduceSub, List.replicate, retA, resultsA, resultA, toC, toCL, Nat.reduceEqDiff, len_sl (un47 S.p), len_nils (un47 S.p), e66, hlen]
  exact Ends.some rfl
theorem s66n {P : Program} {T : Tab} {K d : Nat} (S : Sd P T K) (hd : 2 ≤ d) (x : SV) (lk : Nat) (hh : List AO) (f65 : ∀ d lk hh', 1 ≤ d → Ext1 hh hh' → ev P T K d 65 [.sc x] lk hh' = some (.v (.sc (.bool false)), hh')) :
    ev P T K d 66 [.sc x] lk hh = some (.v (.sc .nils), hh) := by
  obtain ⟨d, rfl⟩ : ∃ k, d = k + 1 := ⟨d - 1, by omega⟩
  rw [ev_run (at66 S.t)]
  unfold i66 Try.f66
  have f := fun lk => f65 d lk hh (by omega) (Ext1.refl hh)
  simp (maxSteps := 1000000) (disch := first | omega | (simp (disch := first | omega | (simp only [Rec.len, List.length_append, List.length_cons, List.length_nil, List.length_set]; first | done | omega)) only [Rec.len, amSide, Int.reduceToNat, Nat.reducePow, Nat.reduceMul]; first | done | omega)) only  [↓amPre, amPost, ↓s_lit', Nat.reduceAdd, Nat.reduceSub, List.replicate, retA, resultsA, resultA, toC, toCL, Nat.reduceEqDiff, (ze62 S.p), append_at (un47 S.p) (sz3 S.p) (by3 S.p) (ze3 S.p) (by decide) (by decide) rfl, sl_cells (sz3 S.p), lit_fill (un47 S.p) (sz3 S.p) (ze3 S.p), (fa62_0 S.p), (fa88_1 S.p), iaddr_sl (un59 S.p) (sz62 S.p), len_sl (un59 S.p), len_nils (un59 S.p), part_sc (ag3 S.p), part_sc (ag59 S.p), part_all (ag62 S.p) (sz62 S.p), part_at (ag62 S.p) (sz62 S.p), store_last (sz62 S.p), (sz62 S.p), f]
theorem s27n {P : Program} {T : Tab} {K d : Nat} (S : Sd P T K) (hd : 3 ≤ d) (x : SV) (lk : Nat) (hh : List AO) (f65 : ∀ d lk hh', 1 ≤ d → Ext1 hh hh' → ev P T K d 65 [.sc x] lk hh' = some (.v (.sc (.bool false)), hh')) :
    ev P T K d 27 [.sc x] lk hh = some (.v (.sc (.int .i64 0)), hh) := by
  obtain ⟨d, rfl⟩ : ∃ k, d = k + 1 := ⟨d - 1, by omega⟩
  refine ev_pure (at27 S.t) rfl ?_
  unfold i27 Try.f27
  have f := s66n S (show 2 ≤ d by omega) x hh.length hh f65
  have hln := fun hh => len_nils (P := P) (h := hh) (un47 S.p)
  simp (maxSteps := 1000000) (disch := first | omega | (simp (disch := first | omega | (simp only [Rec.len, List.length_append, List.length_cons, List.length_nil, List.length_set]; first | done | omega)) only [Rec.len, amSide, Int.reduceToNat, Nat.reducePow, Nat.reduceMul]; first | done | omega)) only  [↓amPre, amPost, ↓s_lit', Nat.reduceAdd, Nat.reduceSub, List.replicate, retA, resultsA, resultA, toC, toCL, Nat.reduceEqDiff, len_sl (un47 S.p), len_nils (un47 S.p), f, hln]
  exact Ends.some rfl
theorem s28 {P : Program} {T : Tab} {K d : Nat} (S : Sd P T K) (hd : 2 ≤ d) {lo p : Nat} {hh : List AO} {qs : SV} {n : Int} {l : List Rec} (H : Stk lo p hh qs n l) (hn : 0 < n) {i : Nat} {x : Rec} (hx : l[i]? = some x) (lk : Nat) :
    ev P T K d 28 [.sc (.ptr p 0), .sc (.int .i64 (i : Nat))] lk hh = some (.tup [.ag x.cells, .sc (.int .i64 0)], hh) := by
  obtain ⟨d, rfl⟩ : ∃ k, d = k + 1 := ⟨d - 1, by omega⟩
  refine ev_pure (at28 S.t) rfl ?_
  unfold i28 Try.f28
  have hi := (List.getElem?_eq_some_iff.1 hx).1
  have H2 := H.push (.rw 62 [.int .i64 0, .int .u64 0])
  obtain ⟨b, g, rfl, hb, _, _, hbl⟩ := H.at hi
  have hp := (List.getElem?_eq_some_iff.1 H.pp).1
  have hc := H.cell
  have f65 : ∀ lk, ev P T K d 65 [.sc (.ptr p 0)] lk (hh ++ [.rw 62 [.int .i64 0, .int .u64 0]]) = some (.v (.sc (.bool true)), hh ++ [.rw 62 [.int .i64 0, .int .u64 0]]) := fun lk => by rw [s65 S (by omega) H2 lk, dec_t (show n > 0 by omega)]
  have hcb := cells_at hb
  have hpt := recs_gpart (ag62 S.p) (sz62 S.p) Rec.len hx g
  have l59 : ∀ hh, lenA P hh 59 (.v (.sc (.sl b 0 l.length 2))) = some (.v (.sc (.int .i64 (l.length : Int)))) := fun hh => len_sl (un59 S.p) _ _ _ _
  simp (maxSteps := 1000000) (disch := first | omega | (simp (disch := first | omega | (simp only [Rec.len, List.length_append, List.length_cons, List.length_nil, List.length_set]; first | done | omega)) only [Rec.len, amSide, Int.reduceToNat, Nat.reducePow, Nat.reduceMul]; first | done | omega)) only  [↓amPre, amPost, ↓s_lit', Nat.reduceAdd, Nat.reduceSub, List.replicate, retA, resultsA, resultA, toC, toCL, Nat.reduceEqDiff, (ze62 S.p), (bu62 S.p), (fa88_1 S.p), iaddr_sl (un59 S.p) (sz62 S.p), len_sl (un59 S.p), len_nils (un59 S.p), part_sc (ag59 S.p), part_all (ag62 S.p) (sz62 S.p), part_at (ag62 S.p) (sz62 S.p), store_last (sz62 S.p), (sz62 S.p), f65, hc, hcb, hpt, l59, dec_f, idx_ok, cells_self, cells_other, Int.toNat_natCast, Nat.zero_add]
  exact Ends.some rfl
theorem s28n {P : Program} {T : Tab} {K d : Nat} (S : Sd P T K) (hd : 2 ≤ d) (x : SV) (i : Int) (lk : Nat) (hh : List AO) (f65 : ∀ d lk hh', 1 ≤ d → Ext1 hh hh' → ev P T K d 65 [.sc x] lk hh' = some (.v (.sc (.bool false)), hh')) :
    ev P T K d 28 [.sc x, .sc (.int .i64 i)] lk hh = some (.tup [.ag [.int .i64 0, .int .u64 0], .sc (.int .i64 2)], hh) := by
  obtain ⟨d, rfl⟩ : ∃ k, d = k + 1 := ⟨d - 1, by omega⟩
  refine ev_pure (at28 S.t) rfl ?_
  unfold i28 Try.f28
  have f := fun lk => f65 d lk (hh ++ [.rw 62 [.int .i64 0, .int .u64 0]]) (by omega) ((Ext1.refl hh).push _)
  simp (maxSteps := 1000000) (disch := first | omega | (simp (disch := first | omega | (simp only [Rec.len, List.length_append, List.length_cons, List.length_nil, List.length_set]; first | done | omega)) only [Rec.len, amSide, Int.reduceToNat, Nat.reducePow, Nat.reduceMul]; first | done | omega)) only  [↓amPre, amPost, ↓s_lit', Nat.reduceAdd, Nat.reduceSub, List.replicate, retA, resultsA, resultA, toC, toCL, Nat.reduceEqDiff, (ze62 S.p), (bu62 S.p), (fa88_1 S.p), iaddr_sl (un59 S.p) (sz62 S.p), len_sl (un59 S.p), len_nils (un59 S.p), part_sc (ag59 S.p), part_all (ag62 S.p) (sz62 S.p), part_at (ag62 S.p) (sz62 S.p), store_last (sz62 S.p), (sz62 S.p), f, cells_self, splice_def, List.append_nil]
  exact Ends.some rfl
theorem s105 {P : Program} {T : Tab} {K d : Nat} (S : Sd P T K) (hd : 1 ≤ d) (x : Rec) (o : Int) (a lk : Nat) (hh : List AO) (ha : cellsAt hh a = some [.int .i64 o]) (hal : a < hh.length) :
    ev P T K d 105 [.ag x.cells, .sc (.ptr a 0)] lk hh = some (.v (.sc (.bool (x.o == o))), hh) := by
  obtain ⟨d, rfl⟩ : ∃ k, d = k + 1 := ⟨d - 1, by omega⟩
  refine ev_pure (at105 S.t) rfl ?_
  unfold i105 Try.f105
  simp (maxSteps := 1000000) (disch := first | omega | (simp (disch := first | omega | (simp only [Rec.len, List.length_append, List.length_cons, List.length_nil, List.length_set]; first | done | omega)) only [Rec.len, amSide, Int.reduceToNat, Nat.reducePow, Nat.reduceMul]; first | done | omega)) only  [↓amPre, amPost, ↓s_lit', Nat.reduceAdd, Nat.reduceSub, List.replicate, retA, resultsA, resultA, toC, toCL, Nat.reduceEqDiff, (fa62_0 S.p), part_sc (ag3 S.p), cells_self, cells_other, Rec.c0, ha, Nat.add_zero]
  exact Ends.some rfl
/-- The last one of an object. -/
inductive Last (o : Int) (l : List Rec) : Option Nat → Prop where
  | none (h : ∀ y ∈ l, y.o ≠ o) : Last o l none
  | some (i : Nat) (x : Rec) (hx : l[i]? = some x) (ho : x.o = o) (hb : ∀ y ∈ l.drop (i + 1), y.o ≠ o) : Last o l (some i)
def topV : Option Nat → AV
  | none => .tup [.sc (.int .i64 (-1)), .sc (.bool false)]
  | some i => .tup [.sc (.int .i64 (i : Nat)), .sc (.bool true)]
theorem last_ex (o : Int) : ∀ l : List Rec, ∃ r, Last o l r := by
  intro l
  suffices ∀ j, j ≤ l.length → (∀ y ∈ l.drop j, y.o ≠ o) → ∃ r, Last o l r by exact this l.length (Nat.le_refl _) (by simp)
  intro j
  induction j with
  | zero => intro _ h; exact ⟨none, .none (by simpa using h)⟩
  | succ j ih =>
    intro hj h
    obtain ⟨x, hx⟩ : ∃ x, l[j]? = some x := ⟨_, List.getElem?_eq_getElem (by omega)⟩
    by_cases e : x.o = o
    · exact ⟨some j, .some j x hx e h⟩
    · refine ih (by omega) fun y hy => ?_
      have := (List.getElem?_eq_some_iff.1 hx)
      rw [List.drop_eq_getElem_cons this.1, this.2] at hy
      rcases List.mem_cons.1 hy with rfl | hy
      · exact e
      · exact h y hy
theorem last_uniq {o : Int} {l : List Rec} {r r' : Option Nat} (h : Last o l r) (h' : Last o l r') : r = r' := by
  cases h with
  | none h =>
    cases h' with
    | none _ => rfl
    | some i x hx ho hb => exact absurd ho (h x (List.mem_of_getElem? hx))
  | some i x hx ho hb =>
    cases h' with
    | none h => exact absurd ho (h x (List.mem_of_getElem? hx))
    | some i' x' hx' ho' hb' =>
      rcases Nat.lt_trichotomy i i' with h1 | h1 | h1
      · exact absurd ho' (hb x' (by have : (l.drop (i + 1))[i' - (i + 1)]? = some x' := by rw [List.getElem?_drop, ← hx']; congr 1; omega
                                    exact List.mem_of_getElem? this))
      · rw [h1]
      · exact absurd ho (hb' x (by have : (l.drop (i' + 1))[i - (i' + 1)]? = some x := by rw [List.getElem?_drop, ← hx]; congr 1; omega
                                   exact List.mem_of_getElem? this))
theorem s34 {P : Program} {T : Tab} {K d : Nat} (S : Sd P T K) (hd : 4 ≤ d) {lo p : Nat} {hh : List AO} {qs : SV} {n : Int} {l : List Rec} (H : Stk lo p hh qs n l) (hn : 0 < n) (hl : l.length ≤ 600) (o : Int) (r : Option Nat) (hr : Last o l r) (lk : Nat) :
    ev P T K d 34 [.sc (.ptr p 0), .sc (.int .i64 o)] lk hh = some (topV r, hh) := by
  obtain ⟨d, rfl⟩ : ∃ k, d = k + 1 := ⟨d - 1, by omega⟩
  refine ev_pure (at34 S.t) (by cases r <;> rfl) ?_
  unfold i34 Try.f34
  have e71 : ∀ lk hh, ev P T K d 71 [.sc (.int .i64 o)] lk hh = some (.v (.sc (.fn 105 [] [.ptr hh.length 0])), hh ++ [.rw 3 [.int .i64 o]]) := fun lk hh => by
    obtain ⟨d, rfl⟩ : ∃ k, d = k + 1 := ⟨d - 1, by omega⟩
    rw [ev_run (at71 S.t)]
    unfold i71 Try.f71
    simp (maxSteps := 1000000) (disch := first | omega | (simp (disch := first | omega | (simp only [Rec.len, List.length_append, List.length_cons, List.length_nil, List.length_set]; first | done | omega)) only [Rec.len, amSide, Int.reduceToNat, Nat.reducePow, Nat.reduceMul]; first | done | omega)) only  [↓amPre, amPost, ↓s_lit', Nat.reduceAdd, Nat.reduceSub, List.replicate, retA, resultsA, resultA, toC, toCL, Nat.reduceEqDiff, if_true, toSL, toS]
  have H2 := H.push (.rw 3 [.int .i64 o])
  have f27 := fun lk => s27 S (show 3 ≤ d by omega) H2 hn hl lk
  simp (maxSteps := 1000000) (disch := first | omega | (simp (disch := first | omega | (simp only [Rec.len, List.length_append, List.length_cons, List.length_nil, List.length_set]; first | done | omega)) only [Rec.len, amSide, Int.reduceToNat, Nat.reducePow, Nat.reduceMul]; first | done | omega)) only  [↓amPre, amPost, ↓s_lit', Nat.reduceAdd, Nat.reduceSub, List.replicate, retA, resultsA, resultA, toC, toCL, Nat.reduceEqDiff, (fa88_1 S.p), iaddr_sl (un59 S.p) (sz62 S.p), part_sc (ag59 S.p), part_all (ag62 S.p) (sz62 S.p), part_at (ag62 S.p) (sz62 S.p), e71, f27, wrap_i64]
  refine ends_loop (X := Nat) l.length [4, 5, 13, 14, 15, 16, 17, 18, 19, 20, 21, 22, 23, 24, 25, 26] (fun j => j ≤ l.length ∧ ∀ y ∈ l.drop j, y.o ≠ o) (fun j => j) (fun j e => e.set 7 (.v (.sc (.int .i64 ((j : Int) - 1))))) (fun _ => hh ++ [.rw 3 [.int .i64 o]])
    (by have := S.k; show _ < K; omega) ⟨Nat.le_refl _, by simp⟩ rfl rfl ?_
  rintro j ⟨hj, hdj⟩ again hag e he
  simp only [↓amPre, amPost, ↓s_lit', Nat.reduceAdd, Nat.reduceSub, List.replicate, retA, resultsA, resultA, toC, toCL, Nat.reduceEqDiff] at he
  simp only [↓amPre, amPost, ↓s_lit', Nat.reduceAdd, Nat.reduceSub, List.replicate, retA, resultsA, resultA, toC, toCL, Nat.reduceEqDiff, he]
  cases j with
  | zero =>
    have : r = none := last_uniq hr (.none (by simpa using hdj))
    subst this
    simp (maxSteps := 1000000) (disch := first | omega | (simp (disch := first | omega | (simp only [Rec.len, List.length_append, List.length_cons, List.length_nil, List.length_set]; first | done | omega)) only [Rec.len, amSide, Int.reduceToNat, Nat.reducePow, Nat.reduceMul]; first | done | omega)) only  [↓amPre, amPost, ↓s_lit', Nat.reduceAdd, Nat.reduceSub, List.replicate, retA, resultsA, resultA, toC, toCL, Nat.reduceEqDiff, he, (fa88_1 S.p), iaddr_sl (un59 S.p) (sz62 S.p), part_sc (ag59 S.p), part_all (ag62 S.p) (sz62 S.p), part_at (ag62 S.p) (sz62 S.p), dec_f]
    exact Ends.some rfl
  | succ i =>
    have hji : ((i + 1 : Nat) : Int) - 1 = (i : Int) := by omega
    rw [hji] at he
    obtain ⟨b, g, rfl, hb, _, _, hbl⟩ := H2.at (show i < l.length by omega)
    obtain ⟨x, hx⟩ : ∃ x, l[i]? = some x := ⟨_, List.getElem?_eq_getElem (by omega)⟩
    have hcb := cells_at hb
    have hc := H2.cell
    have hpt := recs_gpart (ag62 S.p) (sz62 S.p) Rec.len hx g
    have f105 := fun lk => s105 S (show 1 ≤ d by omega) x o hh.length lk (hh ++ [.rw 3 [.int .i64 o]]) (cells_self _ _ _ rfl) (by simp)
    by_cases ho : x.o = o
    · have : r = some i := last_uniq hr (.some i x hx ho hdj)
      subst this
      have hoo : (x.o == o) = true := by rw [ho]; exact beq_self_eq_true _
      simp (maxSteps := 1000000) (disch := first | omega | (simp (disch := first | omega | (simp only [Rec.len, List.length_append, List.length_cons, List.length_nil, List.length_set]; first | done | omega)) only [Rec.len, amSide, Int.reduceToNat, Nat.reducePow, Nat.reduceMul]; first | done | omega)) only  [↓amPre, amPost, ↓s_lit', Nat.reduceAdd, Nat.reduceSub, List.replicate, retA, resultsA, resultA, toC, toCL, Nat.reduceEqDiff, he, hji, (fa88_1 S.p), iaddr_sl (un59 S.p) (sz62 S.p), part_sc (ag59 S.p), part_all (ag62 S.p) (sz62 S.p), part_at (ag62 S.p) (sz62 S.p), dec_t, hc, hcb, hpt, idx_ok, f105, hoo, Int.toNat_natCast, Nat.zero_add]
      exact Ends.some rfl
    · have hoo : (x.o == o) = false := beq_false_of_ne ho
      simp (maxSteps := 1000000) (disch := first | omega | (simp (disch := first | omega | (simp only [Rec.len, List.length_append, List.length_cons, List.length_nil, List.length_set]; first | done | omega)) only [Rec.len, amSide, Int.reduceToNat, Nat.reducePow, Nat.reduceMul]; first | done | omega)) only  [↓amPre, amPost, ↓s_lit', Nat.reduceAdd, Nat.reduceSub, List.replicate, retA, resultsA, resultA, toC, toCL, Nat.reduceEqDiff, he, hji, (fa88_1 S.p), iaddr_sl (un59 S.p) (sz62 S.p), part_sc (ag59 S.p), part_all (ag62 S.p) (sz62 S.p), part_at (ag62 S.p) (sz62 S.p), dec_t, hc, hcb, hpt, idx_ok, f105, hoo, Int.toNat_natCast, Nat.zero_add, wrap_i64]
      refine hag i ⟨by omega, fun y hy => ?_⟩ (by omega) _ ?_
      · have := (List.getElem?_eq_some_iff.1 hx)
        rw [List.drop_eq_getElem_cons this.1, this.2] at hy
        rcases List.mem_cons.1 hy with rfl | hy
        · exact ho
        · exact hdj y hy
      · simp (maxSteps := 1000000) (disch := first | omega | (simp (disch := first | omega | (simp only [Rec.len, List.length_append, List.length_cons, List.length_nil, List.length_set]; first | done | omega)) only [Rec.len, amSide, Int.reduceToNat, Nat.reducePow, Nat.reduceMul]; first | done | omega)) only [↓amPre, amPost, ↓s_lit', Nat.reduceAdd, Nat.reduceSub, List.replicate, retA, resultsA, resultA, toC, toCL, Nat.reduceEqDiff, Int.natCast_add, Int.cast_ofNat_Int, dec_t, dec_f]
theorem s34n {P : Program} {T : Tab} {K d : Nat} (S : Sd P T K) (hd : 4 ≤ d) (x : SV) (o : Int) (lk : Nat) (hh : List AO) (f65 : ∀ d lk hh', 1 ≤ d → Ext1 hh hh' → ev P T K d 65 [.sc x] lk hh' = some (.v (.sc (.bool false)), hh')) :
    ev P T K d 34 [.sc x, .sc (.int .i64 o)] lk hh = some (.tup [.sc (.int .i64 (-1)), .sc (.bool false)], hh) := by
  obtain ⟨d, rfl⟩ : ∃ k, d = k + 1 := ⟨d - 1, by omega⟩
  refine ev_pure (at34 S.t) rfl ?_
  unfold i34 Try.f34
  have e71 : ∀ lk hh, ev P T K d 71 [.sc (.int .i64 o)] lk hh = some (.v (.sc (.fn 105 [] [.ptr hh.length 0])), hh ++ [.rw 3 [.int .i64 o]]) := fun lk hh => by
    obtain ⟨d, rfl⟩ : ∃ k, d = k + 1 := ⟨d - 1, by omega⟩
    rw [ev_run (at71 S.t)]
    unfold i71 Try.f71
    simp (maxSteps := 1000000) (disch := first | omega | (simp (disch := first | omega | (simp only [Rec.len, List.length_append, List.length_cons, List.length_nil, List.length_set]; first | done | omega)) only [Rec.len, amSide, Int.reduceToNat, Nat.reducePow, Nat.reduceMul]; first | done | omega)) only  [↓amPre, amPost, ↓s_lit', Nat.reduceAdd, Nat.reduceSub, List.replicate, retA, resultsA, resultA, toC, toCL, Nat.reduceEqDiff, if_true, toSL, toS]
  have f27 := fun lk => s27n S (show 3 ≤ d by omega) x lk (hh ++ [.rw 3 [.int .i64 o]]) fun d lk h' hd hx => f65 d lk h' hd (((Ext1.refl hh).push _).trans hx)
  simp (maxSteps := 1000000) (disch := first | omega | (simp (disch := first | omega | (simp only [Rec.len, List.length_append, List.length_cons, List.length_nil, List.length_set]; first | done | omega)) only [Rec.len, amSide, Int.reduceToNat, Nat.reducePow, Nat.reduceMul]; first | done | omega)) only  [↓amPre, amPost, ↓s_lit', Nat.reduceAdd, Nat.reduceSub, List.replicate, retA, resultsA, resultA, toC, toCL, Nat.reduceEqDiff, (fa88_1 S.p), iaddr_sl (un59 S.p) (sz62 S.p), part_sc (ag59 S.p), part_all (ag62 S.p) (sz62 S.p), part_at (ag62 S.p) (sz62 S.p), e71, f27, wrap_i64]
  refine ends_loop (X := Unit) () [4, 5, 13, 14, 15, 16, 17, 18, 19, 20, 21, 22, 23, 24, 25, 26] (fun _ => True) (fun _ => 0) (fun _ e => e) (fun _ => hh ++ [.rw 3 [.int .i64 o]]) (by have := S.k; show 0 < K; omega) trivial rfl rfl ?_
  rintro _ _ again hag e he
  simp only [↓amPre, amPost, ↓s_lit', Nat.reduceAdd, Nat.reduceSub, List.replicate, retA, resultsA, resultA, toC, toCL, Nat.reduceEqDiff] at he
  simp only [↓amPre, amPost, ↓s_lit', Nat.reduceAdd, Nat.reduceSub, List.replicate, retA, resultsA, resultA, toC, toCL, Nat.reduceEqDiff, he]
  simp (maxSteps := 1000000) (disch := first | omega | (simp (disch := first | omega | (simp only [Rec.len, List.length_append, List.length_cons, List.length_nil, List.length_set]; first | done | omega)) only [Rec.len, amSide, Int.reduceToNat, Nat.reducePow, Nat.reduceMul]; first | done | omega)) only  [↓amPre, amPost, ↓s_lit', Nat.reduceAdd, Nat.reduceSub, List.replicate, retA, resultsA, resultA, toC, toCL, Nat.reduceEqDiff, he, (fa88_1 S.p), iaddr_sl (un59 S.p) (sz62 S.p), part_sc (ag59 S.p), part_all (ag62 S.p) (sz62 S.p), part_at (ag62 S.p) (sz62 S.p), dec_f]
  exact Ends.some rfl
end Go.AM
