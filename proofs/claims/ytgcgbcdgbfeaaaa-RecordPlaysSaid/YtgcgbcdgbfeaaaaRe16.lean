/- Records: Save, Get, and what is refused. Conditions: none. -/
import Derived.Test.YtgcgbcdgbfeaaaaRe15
set_option linter.unusedVariables false
set_option linter.unusedSimpArgs false
set_option maxRecDepth 100000
namespace Go.AM
open Go.Proofs
-- LENS: Rec.len, StV.len
/-- Push that is refused. -/
theorem s26x {P : Program} {T : Tab} {K d : Nat} (S : Sd P T K) (hd : 2 ≤ d) {lo p : Nat} {hh : List AO} {qs : SV} {n : Int} {l : List Rec} (H : Stk lo p hh qs n l) (hn : 0 < n) (o s : Int) (lk : Nat) :
    (¬ (0 ≤ o ∧ o < 65536) → ev P T K d 26 [.sc (.ptr p 0), .sc (.int .i64 o), .sc (.int .u64 s)] lk hh = some (.tup [.sc (.int .i64 0), .sc (.int .i64 1)], hh)) ∧
    (0 ≤ o ∧ o < 65536 → (l.length : Int) = n → ev P T K d 26 [.sc (.ptr p 0), .sc (.int .i64 o), .sc (.int .u64 s)] lk hh = some (.tup [.sc (.int .i64 0), .sc (.int .i64 5)], hh)) := by
  obtain ⟨d, rfl⟩ : ∃ k, d = k + 1 := ⟨d - 1, by omega⟩
  rw [ev_run (at26 S.t)]
  unfold i26 Try.f26
  have hc := H.cell
  have f65 : ∀ lk, ev P T K d 65 [.sc (.ptr p 0)] lk hh = some (.v (.sc (.bool true)), hh) := fun lk => by rw [s65 S (by omega) H lk, dec_t (show n > 0 by omega)]
  have hll := H.len S
  refine ⟨fun hno => ?_, fun ⟨h1, h2⟩ h3 => ?_⟩
  · by_cases c1 : o < 0
    · simp (maxSteps := 1000000) (disch := first | omega | (simp (disch := first | omega | (simp only [Rec.len, StV.len, List.length_append, List.length_cons, List.length_nil, List.length_set]; first | done | omega)) only [Rec.len, StV.len, amSide, Int.reduceToNat, Nat.reducePow, Nat.reduceMul]; first | done | omega)) only  [↓amPre, amPost, ↓s_lit', Nat.reduceAdd, Nat.reduceSub, List.replicate, retA, resultsA, resultA, toC, toCL, Nat.reduceEqDiff, append_at (un59 S.p) (sz62 S.p) (by62 S.p) (ze62 S.p) (by decide) (by decide) rfl, sl_cells (sz62 S.p), (bu62 S.p), lit_fill (un59 S.p) (sz62 S.p) (ze62 S.p), (fa88_0 S.p), (fa88_1 S.p), len_sl (un59 S.p), len_nils (un59 S.p), part_sc (ag3 S.p), part_sc (ag59 S.p), store_last (sz59 S.p), (sz59 S.p), f65, hc, hll, dec_t, Nat.zero_add]
    · have c2 : o ≥ 65536 := by omega
      simp (maxSteps := 1000000) (disch := first | omega | (simp (disch := first | omega | (simp only [Rec.len, StV.len, List.length_append, List.length_cons, List.length_nil, List.length_set]; first | done | omega)) only [Rec.len, StV.len, amSide, Int.reduceToNat, Nat.reducePow, Nat.reduceMul]; first | done | omega)) only  [↓amPre, amPost, ↓s_lit', Nat.reduceAdd, Nat.reduceSub, List.replicate, retA, resultsA, resultA, toC, toCL, Nat.reduceEqDiff, append_at (un59 S.p) (sz62 S.p) (by62 S.p) (ze62 S.p) (by decide) (by decide) rfl, sl_cells (sz62 S.p), (bu62 S.p), lit_fill (un59 S.p) (sz62 S.p) (ze62 S.p), (fa88_0 S.p), (fa88_1 S.p), len_sl (un59 S.p), len_nils (un59 S.p), part_sc (ag3 S.p), part_sc (ag59 S.p), store_last (sz59 S.p), (sz59 S.p), f65, hc, hll, dec_t, dec_f, Nat.zero_add]
  · simp (maxSteps := 1000000) (disch := first | omega | (simp (disch := first | omega | (simp only [Rec.len, StV.len, List.length_append, List.length_cons, List.length_nil, List.length_set]; first | done | omega)) only [Rec.len, StV.len, amSide, Int.reduceToNat, Nat.reducePow, Nat.reduceMul]; first | done | omega)) only  [↓amPre, amPost, ↓s_lit', Nat.reduceAdd, Nat.reduceSub, List.replicate, retA, resultsA, resultA, toC, toCL, Nat.reduceEqDiff, append_at (un59 S.p) (sz62 S.p) (by62 S.p) (ze62 S.p) (by decide) (by decide) rfl, sl_cells (sz62 S.p), (bu62 S.p), lit_fill (un59 S.p) (sz62 S.p) (ze62 S.p), (fa88_0 S.p), (fa88_1 S.p), len_sl (un59 S.p), len_nils (un59 S.p), part_sc (ag3 S.p), part_sc (ag59 S.p), store_last (sz59 S.p), (sz59 S.p), f65, hc, hll, dec_f, beqI_t, Nat.zero_add]
theorem s39x {P : Program} {T : Tab} {K d : Nat} (S : Sd P T K) (hd : 1 ≤ d) {lo r : Nat} {hh : List AO} {qr : SV} {n : Int} {l : List Rec} (H : RSt lo r hh qr n l) (o s : Int) (lk : Nat) :
    (¬ (0 ≤ o ∧ o < 65536) → ev P T K d 39 [.sc (.ptr r 0), .sc (.int .i64 o), .sc (.int .u64 s)] lk hh = some (.tup [.sc (.int .i64 0), .sc (.int .i64 1)], hh)) ∧
    (0 ≤ o ∧ o < 65536 → n ≤ (l.length : Int) → ev P T K d 39 [.sc (.ptr r 0), .sc (.int .i64 o), .sc (.int .u64 s)] lk hh = some (.tup [.sc (.int .i64 0), .sc (.int .i64 5)], hh)) := by
  obtain ⟨d, rfl⟩ : ∃ k, d = k + 1 := ⟨d - 1, by omega⟩
  rw [ev_run (at39 S.t)]
  unfold i39 Try.f39
  have hc := H.cell
  have hll := H.len S
  refine ⟨fun hno => ?_, fun ⟨h1, h2⟩ h3 => ?_⟩
  · by_cases c1 : o < 0
    · simp (maxSteps := 1000000) (disch := first | omega | (simp (disch := first | omega | (simp only [Rec.len, StV.len, List.length_append, List.length_cons, List.length_nil, List.length_set]; first | done | omega)) only [Rec.len, StV.len, amSide, Int.reduceToNat, Nat.reducePow, Nat.reduceMul]; first | done | omega)) only  [↓amPre, amPost, ↓s_lit', Nat.reduceAdd, Nat.reduceSub, List.replicate, retA, resultsA, resultA, toC, toCL, Nat.reduceEqDiff, append_at (un72 S.p) (sz77 S.p) (by77 S.p) (ze77 S.p) (by decide) (by decide) rfl, sl_cells (sz77 S.p), (bu77 S.p), lit_fill (un72 S.p) (sz77 S.p) (ze77 S.p), (fa74_0 S.p), (fa74_1 S.p), len_sl (un72 S.p), len_nils (un72 S.p), part_sc (ag3 S.p), part_sc (ag72 S.p), store_last (sz72 S.p), (sz72 S.p), hc, hll, dec_t, Nat.zero_add]
    · simp (maxSteps := 1000000) (disch := first | omega | (simp (disch := first | omega | (simp only [Rec.len, StV.len, List.length_append, List.length_cons, List.length_nil, List.length_set]; first | done | omega)) only [Rec.len, StV.len, amSide, Int.reduceToNat, Nat.reducePow, Nat.reduceMul]; first | done | omega)) only  [↓amPre, amPost, ↓s_lit', Nat.reduceAdd, Nat.reduceSub, List.replicate, retA, resultsA, resultA, toC, toCL, Nat.reduceEqDiff, append_at (un72 S.p) (sz77 S.p) (by77 S.p) (ze77 S.p) (by decide) (by decide) rfl, sl_cells (sz77 S.p), (bu77 S.p), lit_fill (un72 S.p) (sz77 S.p) (ze77 S.p), (fa74_0 S.p), (fa74_1 S.p), len_sl (un72 S.p), len_nils (un72 S.p), part_sc (ag3 S.p), part_sc (ag72 S.p), store_last (sz72 S.p), (sz72 S.p), hc, hll, dec_t, dec_f, Nat.zero_add]
  · simp (maxSteps := 1000000) (disch := first | omega | (simp (disch := first | omega | (simp only [Rec.len, StV.len, List.length_append, List.length_cons, List.length_nil, List.length_set]; first | done | omega)) only [Rec.len, StV.len, amSide, Int.reduceToNat, Nat.reducePow, Nat.reduceMul]; first | done | omega)) only  [↓amPre, amPost, ↓s_lit', Nat.reduceAdd, Nat.reduceSub, List.replicate, retA, resultsA, resultA, toC, toCL, Nat.reduceEqDiff, append_at (un72 S.p) (sz77 S.p) (by77 S.p) (ze77 S.p) (by decide) (by decide) rfl, sl_cells (sz77 S.p), (bu77 S.p), lit_fill (un72 S.p) (sz77 S.p) (ze77 S.p), (fa74_0 S.p), (fa74_1 S.p), len_sl (un72 S.p), len_nils (un72 S.p), part_sc (ag3 S.p), part_sc (ag72 S.p), store_last (sz72 S.p), (sz72 S.p), hc, hll, dec_f, dec_t, Nat.zero_add]
/-- Save of the document's stack. -/
theorem s38f {P : Program} {T : Tab} {K d : Nat} (S : Sd P T K) (hd : 1 ≤ d) {lo r : Nat} {hh : List AO} {qr : SV} {n : Int} {l : List Rec} (H : RSt lo r hh qr n l) (i s : Int) (hi : ¬ (0 ≤ i ∧ i < l.length)) (lk : Nat) :
    ev P T K d 38 [.sc (.ptr r 0), .sc (.int .i64 i), .sc (.int .u64 s)] lk hh = some (.v (.sc (.int .i64 6)), hh) := by
  obtain ⟨d, rfl⟩ : ∃ k, d = k + 1 := ⟨d - 1, by omega⟩
  rw [ev_run (at38 S.t)]
  unfold i38 Try.f38
  have hc := H.cell
  have hll := H.len S
  by_cases c : i < 0
  · simp (maxSteps := 1000000) (disch := first | omega | (simp (disch := first | omega | (simp only [Rec.len, StV.len, List.length_append, List.length_cons, List.length_nil, List.length_set]; first | done | omega)) only [Rec.len, StV.len, amSide, Int.reduceToNat, Nat.reducePow, Nat.reduceMul]; first | done | omega)) only  [↓amPre, amPost, ↓s_lit', Nat.reduceAdd, Nat.reduceSub, List.replicate, retA, resultsA, resultA, toC, toCL, Nat.reduceEqDiff, (fa74_1 S.p), (fa77_1 S.p), iaddr_sl (un72 S.p) (sz77 S.p), len_sl (un72 S.p), len_nils (un72 S.p), part_sc (ag72 S.p), store_last (sz39 S.p), (sz39 S.p), hc, hll, dec_t, Nat.zero_add]
  · simp (maxSteps := 1000000) (disch := first | omega | (simp (disch := first | omega | (simp only [Rec.len, StV.len, List.length_append, List.length_cons, List.length_nil, List.length_set]; first | done | omega)) only [Rec.len, StV.len, amSide, Int.reduceToNat, Nat.reducePow, Nat.reduceMul]; first | done | omega)) only  [↓amPre, amPost, ↓s_lit', Nat.reduceAdd, Nat.reduceSub, List.replicate, retA, resultsA, resultA, toC, toCL, Nat.reduceEqDiff, (fa74_1 S.p), (fa77_1 S.p), iaddr_sl (un72 S.p) (sz77 S.p), len_sl (un72 S.p), len_nils (un72 S.p), part_sc (ag72 S.p), store_last (sz39 S.p), (sz39 S.p), hc, hll, dec_t, dec_f, Nat.zero_add]
theorem s38 {P : Program} {T : Tab} {K d : Nat} (S : Sd P T K) (hd : 1 ≤ d) {lo r : Nat} {hh : List AO} {qr : SV} {n : Int} {l : List Rec} (H : RSt lo r hh qr n l) (i : Nat) (s : Int) (x : Rec) (hx : l[i]? = some x) (lk : Nat) (hlk : lk ≤ r) :
    ∃ b, qr = .sl b 0 l.length 2 ∧ lo ≤ b ∧ b < hh.length ∧ ev P T K d 38 [.sc (.ptr r 0), .sc (.int .i64 (i : Nat)), .sc (.int .u64 s)] lk hh = some (.v (.sc (.int .i64 0)), hh.set b (.rw 77 (recs Rec.cells (l.set i { x with s := s })))) := by
  obtain ⟨d, rfl⟩ : ∃ k, d = k + 1 := ⟨d - 1, by omega⟩
  rw [ev_run (at38 S.t)]
  unfold i38 Try.f38
  have hc := H.cell
  have hll := H.len S
  have hlr := H.lt
  have hil := (List.getElem?_eq_some_iff.1 hx).1
  obtain ⟨b, rfl, hb, hlb, hbl⟩ := H.at hil
  have hle := recs_le Rec.len hx
  have hst : storeA P hh lk 39 (.v (.sc (.ptr b (i * 2 + 1)))) (.v (.sc (.int .u64 s))) = some (hh.set b (.rw 77 (recs Rec.cells (l.set i { x with s := s })))) := by
    rw [store_at (n := 1) hb (by omega) (sz39 S.p) rfl (by omega), cells_sc, splice_one _ _ _ (by omega), recs_put Rec.len hx 1 (by omega) _ { x with s := s } rfl]
  refine ⟨b, rfl, hlb, hbl, ?_⟩
  simp (maxSteps := 1000000) (disch := first | omega | (simp (disch := first | omega | (simp only [Rec.len, StV.len, List.length_append, List.length_cons, List.length_nil, List.length_set]; first | done | omega)) only [Rec.len, StV.len, amSide, Int.reduceToNat, Nat.reducePow, Nat.reduceMul]; first | done | omega)) only  [↓amPre, amPost, ↓s_lit', Nat.reduceAdd, Nat.reduceSub, List.replicate, retA, resultsA, resultA, toC, toCL, Nat.reduceEqDiff, (fa74_1 S.p), (fa77_1 S.p), iaddr_sl (un72 S.p) (sz77 S.p), len_sl (un72 S.p), len_nils (un72 S.p), part_sc (ag72 S.p), store_last (sz39 S.p), (sz39 S.p), hc, hll, hst, idx_ok, dec_f, Int.toNat_natCast, Nat.zero_add]
/-- Save of the stack. -/
theorem s37f {P : Program} {T : Tab} {K d : Nat} (S : Sd P T K) (hd : 3 ≤ d) {lo p : Nat} {hh : List AO} {qs : SV} {n : Int} {l : List Rec} (H : Stk lo p hh qs n l) (hn : 0 < n) (i s : Int) (hi : ¬ (0 ≤ i ∧ i < l.length)) (lk : Nat) (hlk : lk ≤ hh.length) :
    ev P T K d 37 [.sc (.ptr p 0), .sc (.int .i64 i), .sc (.int .u64 s)] lk hh = some (.v (.sc (.int .i64 6)), hh ++ [.rw 62 [.int .i64 0, .int .u64 0]]) := by
  obtain ⟨d, rfl⟩ : ∃ k, d = k + 1 := ⟨d - 1, by omega⟩
  rw [ev_run (at37 S.t)]
  unfold i37 Try.f37
  have f := fun lk => s28f S (show 2 ≤ d by omega) H hn hi lk
  simp (maxSteps := 1000000) (disch := first | omega | (simp (disch := first | omega | (simp only [Rec.len, StV.len, List.length_append, List.length_cons, List.length_nil, List.length_set]; first | done | omega)) only [Rec.len, StV.len, amSide, Int.reduceToNat, Nat.reducePow, Nat.reduceMul]; first | done | omega)) only  [↓amPre, amPost, ↓s_lit', Nat.reduceAdd, Nat.reduceSub, List.replicate, retA, resultsA, resultA, toC, toCL, Nat.reduceEqDiff, (ze62 S.p), (fa62_1 S.p), (fa88_1 S.p), iaddr_sl (un59 S.p) (sz62 S.p), part_sc (ag59 S.p), store_last (sz39 S.p), (sz39 S.p), store_last (sz62 S.p), (sz62 S.p), f, bneI_t, bneI_f]
theorem s37 {P : Program} {T : Tab} {K d : Nat} (S : Sd P T K) (hd : 3 ≤ d) {lo p : Nat} {hh : List AO} {qs : SV} {n : Int} {l : List Rec} (H : Stk lo p hh qs n l) (hn : 0 < n) (i : Nat) (s : Int) (x : Rec) (hx : l[i]? = some x) (lk : Nat) (hlk : lk ≤ p) (hlo : lo ≤ hh.length) :
    ∃ b g, qs = .sl b 0 l.length 2 ∧ lo ≤ b ∧ b < hh.length ∧ ev P T K d 37 [.sc (.ptr p 0), .sc (.int .i64 (i : Nat)), .sc (.int .u64 s)] lk hh = some (.v (.sc (.int .i64 0)), (hh ++ [AO.rw 62 x.cells]).set b (.rw 62 (recs Rec.cells (l.set i { x with s := s }) ++ g))) ∧ g.length % 2 = 0 := by
  obtain ⟨d, rfl⟩ : ∃ k, d = k + 1 := ⟨d - 1, by omega⟩
  rw [ev_run (at37 S.t)]
  unfold i37 Try.f37
  have f := fun lk => s28 S (show 2 ≤ d by omega) H hn hx lk
  have hil := (List.getElem?_eq_some_iff.1 hx).1
  have hlp := H.lt
  have hp := (List.getElem?_eq_some_iff.1 H.pp).1
  have hc := (H.push (.rw 62 x.cells)).cell
  obtain ⟨b, g, rfl, hb, hg, hlb, hbl⟩ := H.at hil
  have hle := recs_le Rec.len hx
  have hb1 : (hh ++ [AO.rw 62 x.cells])[b]? = some (.rw 62 (recs Rec.cells l ++ g)) := by rw [List.getElem?_append_left hbl]; exact hb
  have hset : (recs Rec.cells l ++ g).set (i * 2 + 1) (.int .u64 s) = recs Rec.cells (l.set i { x with s := s }) ++ g := by rw [List.set_append_left _ _ (by omega), recs_put Rec.len hx 1 (by omega) _ { x with s := s } rfl]
  have hst : storeA P (hh ++ [.rw 62 x.cells]) lk 39 (.v (.sc (.ptr b (i * 2 + 1)))) (.v (.sc (.int .u64 s))) = some ((hh ++ [AO.rw 62 x.cells]).set b (.rw 62 (recs Rec.cells (l.set i { x with s := s }) ++ g))) := by
    rw [store_at (n := 1) hb1 (by omega) (sz39 S.p) rfl (by simp; omega), cells_sc, splice_one _ _ _ (by simp; omega), hset]
  refine ⟨b, g, rfl, hlb, hbl, ?_, hg⟩
  simp (maxSteps := 1000000) (disch := first | omega | (simp (disch := first | omega | (simp only [Rec.len, StV.len, List.length_append, List.length_cons, List.length_nil, List.length_set]; first | done | omega)) only [Rec.len, StV.len, amSide, Int.reduceToNat, Nat.reducePow, Nat.reduceMul]; first | done | omega)) only  [↓amPre, amPost, ↓s_lit', Nat.reduceAdd, Nat.reduceSub, List.replicate, retA, resultsA, resultA, toC, toCL, Nat.reduceEqDiff, (ze62 S.p), (fa62_1 S.p), (fa88_1 S.p), iaddr_sl (un59 S.p) (sz62 S.p), part_sc (ag59 S.p), store_last (sz39 S.p), (sz39 S.p), store_last (sz62 S.p), (sz62 S.p), f, hc, hst, idx_ok, bneI_f, Int.toNat_natCast, Nat.zero_add]
theorem s73 {P : Program} {T : Tab} {K d : Nat} (S : Sd P T K) (hd : 1 ≤ d) {lo r : Nat} {hh : List AO} {qr : SV} {n : Int} {l : List Rec} (H : RSt lo r hh qr n l) {i : Nat} {x : Rec} (hx : l[i]? = some x) (lk : Nat) :
    ev P T K d 73 [.sc (.ptr r 0), .sc (.int .i64 (i : Nat))] lk hh = some (.tup [.ag x.cells, .sc (.int .i64 0)], hh) := by
  obtain ⟨d, rfl⟩ : ∃ k, d = k + 1 := ⟨d - 1, by omega⟩
  refine ev_pure (at73 S.t) rfl ?_
  unfold i73 Try.f73
  have hi := (List.getElem?_eq_some_iff.1 hx).1
  have hrl := (List.getElem?_eq_some_iff.1 H.pp).1
  obtain ⟨b, rfl, hb, hlb, hbl⟩ := H.at hi
  have hc := H.cell
  have hcb := cells_at hb
  have hpt := recs_part (ag77 S.p) (sz77 S.p) Rec.len hx
  have hll : ∀ hh, lenA P hh 72 (.v (.sc (.sl b 0 l.length 2))) = some (.v (.sc (.int .i64 (l.length : Int)))) := fun hh => len_sl (un72 S.p) _ _ _ _
  simp (maxSteps := 1000000) (disch := first | omega | (simp (disch := first | omega | (simp only [Rec.len, StV.len, List.length_append, List.length_cons, List.length_nil, List.length_set]; first | done | omega)) only [Rec.len, StV.len, amSide, Int.reduceToNat, Nat.reducePow, Nat.reduceMul]; first | done | omega)) only  [↓amPre, amPost, ↓s_lit', Nat.reduceAdd, Nat.reduceSub, List.replicate, retA, resultsA, resultA, toC, toCL, Nat.reduceEqDiff, (ze77 S.p), (bu77 S.p), (fa74_1 S.p), iaddr_sl (un72 S.p) (sz77 S.p), len_sl (un72 S.p), len_nils (un72 S.p), part_sc (ag72 S.p), part_all (ag77 S.p) (sz77 S.p), part_at (ag77 S.p) (sz77 S.p), store_last (sz77 S.p), (sz77 S.p), hc, hcb, hpt, hll, dec_f, idx_ok, cells_self, cells_other, Int.toNat_natCast, Nat.zero_add]
  exact Ends.some rfl
theorem s73f {P : Program} {T : Tab} {K d : Nat} (S : Sd P T K) (hd : 1 ≤ d) {lo r : Nat} {hh : List AO} {qr : SV} {n : Int} {l : List Rec} (H : RSt lo r hh qr n l) {i : Int} (hi : ¬ (0 ≤ i ∧ i < l.length)) (lk : Nat) :
    ev P T K d 73 [.sc (.ptr r 0), .sc (.int .i64 i)] lk hh = some (.tup [.ag [.int .i64 0, .int .u64 0], .sc (.int .i64 6)], hh) := by
  obtain ⟨d, rfl⟩ : ∃ k, d = k + 1 := ⟨d - 1, by omega⟩
  refine ev_pure (at73 S.t) rfl ?_
  unfold i73 Try.f73
  have hrl := (List.getElem?_eq_some_iff.1 H.pp).1
  have hc := H.cell
  have hll := H.len S
  by_cases c : i < 0
  · simp (maxSteps := 1000000) (disch := first | omega | (simp (disch := first | omega | (simp only [Rec.len, StV.len, List.length_append, List.length_cons, List.length_nil, List.length_set]; first | done | omega)) only [Rec.len, StV.len, amSide, Int.reduceToNat, Nat.reducePow, Nat.reduceMul]; first | done | omega)) only  [↓amPre, amPost, ↓s_lit', Nat.reduceAdd, Nat.reduceSub, List.replicate, retA, resultsA, resultA, toC, toCL, Nat.reduceEqDiff, (ze77 S.p), (bu77 S.p), (fa74_1 S.p), iaddr_sl (un72 S.p) (sz77 S.p), len_sl (un72 S.p), len_nils (un72 S.p), part_sc (ag72 S.p), part_all (ag77 S.p) (sz77 S.p), part_at (ag77 S.p) (sz77 S.p), store_last (sz77 S.p), (sz77 S.p), hc, hll, dec_t, cells_self, cells_other, spl2, Nat.zero_add]
    exact Ends.some rfl
  · simp (maxSteps := 1000000) (disch := first | omega | (simp (disch := first | omega | (simp only [Rec.len, StV.len, List.length_append, List.length_cons, List.length_nil, List.length_set]; first | done | omega)) only [Rec.len, StV.len, amSide, Int.reduceToNat, Nat.reducePow, Nat.reduceMul]; first | done | omega)) only  [↓amPre, amPost, ↓s_lit', Nat.reduceAdd, Nat.reduceSub, List.replicate, retA, resultsA, resultA, toC, toCL, Nat.reduceEqDiff, (ze77 S.p), (bu77 S.p), (fa74_1 S.p), iaddr_sl (un72 S.p) (sz77 S.p), len_sl (un72 S.p), len_nils (un72 S.p), part_sc (ag72 S.p), part_all (ag77 S.p) (sz77 S.p), part_at (ag77 S.p) (sz77 S.p), store_last (sz77 S.p), (sz77 S.p), hc, hll, dec_t, dec_f, cells_self, cells_other, spl2, Nat.zero_add]
    exact Ends.some rfl
end Go.AM
