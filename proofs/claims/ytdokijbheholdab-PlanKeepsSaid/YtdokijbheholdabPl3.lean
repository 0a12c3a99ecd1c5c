/- Plans: the laws on one object. Conditions: none. -/
import Derived.Test.YtdokijbheholdabPl2
import Derived.Test.YtdokijbheholdabWdOpen
import Derived.Test.YtdokijbheholdabAmOpns
set_option linter.unusedVariables false
set_option linter.unusedSimpArgs false
set_option maxRecDepth 100000
namespace Go.AM
open Go.Proofs
-- LENS: Hdr.len, Hdr.fr, Obj.len, chg_len, chg_fr
theorem chg_eql (o : Int) (w : Nat) (u : Int) (s : Nat) : eqL [1, 1, 1, 1] [.int .i64 o, .int .u64 (w : Nat), .int .i64 u, .int .u64 (s : Nat)] (chg o w u s) = some true := by
  simp [eqL, eqS, chg]
theorem s41 {P : Program} {T : Tab} {K d : Nat} (S : Sd P T K) (hd : 1 ≤ d) (o : Int) (w : Nat) (u : Int) (s : Nat) (lk : Nat) (h : List AO) :
    ev P T K d 41 [.ag (chg o w u s), .ag (chg o w u s)] lk h = some (.v (.sc (.bool true)), h) := by
  obtain ⟨d, rfl⟩ : ∃ k, d = k + 1 := ⟨d - 1, by omega⟩
  refine ev_pure (at41 S.t) rfl ?_
  unfold i41 Try.f41
  simp (maxSteps := 1000000) (disch := first | omega | (simp (disch := first | omega | (simp only [Hdr.len, Hdr.fr, Obj.len, chg_len, chg_fr, List.length_append, List.length_cons, List.length_nil, List.length_set]; first | done | omega)) only [Hdr.len, Hdr.fr, Obj.len, chg_len, chg_fr, amSide, Int.reduceToNat, Nat.reducePow, Nat.reduceMul]; first | done | omega)) only  [↓amPre, amPost, ↓s_lit', Nat.reduceAdd, Nat.reduceSub, List.replicate, retA, resultsA, resultA, toC, toCL, Nat.reduceEqDiff, eql_ag, neq_ag, (eq68 S.p), (bu68 S.p), (fa64_0 S.p), (fa64_1 S.p), (fa64_2 S.p), (fa64_3 S.p), part_sc (ag26 S.p), part_sc (ag3 S.p), part_all (ag68 S.p) (sz68 S.p), part_at (ag68 S.p) (sz68 S.p), splice_def, cells_self, cells_other, set_self, set_other, chg_len, chg_0, chg_1, chg_2, chg_3, chg_eql]
  exact Ends.some rfl
theorem rd_b1 : biW 16777221 = true ∧ rdH 16777221 = ⟨4, 0, 0, 0, 1, 0, 0, 0⟩ := by
  have ho : (⟨4, 0, 0, 0, 1, 0, 0, 0⟩ : Hdr).ok := by simp [Hdr.ok]
  have hm : (⟨4, 0, 0, 0, 1, 0, 0, 0⟩ : Hdr).may = true := by rw [may_eq _ ho]; simp [Hdr.fits, keptH]
  have hw : (⟨4, 0, 0, 0, 1, 0, 0, 0⟩ : Hdr).word = 16777221 := by simp [Hdr.word, Hdr.fits]
  obtain ⟨b1, b2⟩ := bi_word hm rfl
  rw [hw] at b1 b2
  exact ⟨b1, b2⟩
theorem s38 {P : Program} {T : Tab} {K d : Nat} (S : Sd P T K) (hd : 12 ≤ d) (lk : Nat) (h : List AO) : ev P T K d 38 [] lk h = some (.v (.sc (.bool true)), h) := by
  obtain ⟨d, rfl⟩ : ∃ k, d = k + 1 := ⟨d - 1, by omega⟩
  refine ev_pure (at38 S.t) rfl ?_
  unfold i38 Try.f38
  obtain ⟨r1, r2⟩ := rd_b1
  have a1 : ∀ lk h, ev P T K d 15 [.ag [.int .i64 4, .int .u8 0, .int .u8 0, .int .u32 0, .int .u16 1, .int .u16 0, .int .u16 0, .int .u32 0]] lk h = some (.tup [.sc (.int .u64 16777221), .sc (.int .i64 0)], h) := fun lk h => by
    have ho : (⟨4, 0, 0, 0, 1, 0, 0, 0⟩ : Hdr).ok := by simp [Hdr.ok]
    have hm : (⟨4, 0, 0, 0, 1, 0, 0, 0⟩ : Hdr).may = true := by rw [may_eq _ ho]; simp [Hdr.fits, keptH]
    have hw : (⟨4, 0, 0, 0, 1, 0, 0, 0⟩ : Hdr).word = 16777221 := by simp [Hdr.word, Hdr.fits]
    have := s15 S (d := d) (by omega) _ ho lk h
    rw [hm, hw] at this; exact this
  have ow : ownW 16777221 = 0 := by unfold ownW; rw [r2]; simp
  have ok1 : oneOk 0 16777221 = true := by unfold oneOk; rw [r1]; simp
  have c1 : oneC 0 16777221 [0, 3] = chg 0 1 (-1) 0 := by unfold oneC neuW; rw [ok1, ow, r2]; simp [hasC]
  have c2 : oneC 0 16777221 [1] = chg 0 16777216 0 1 := by unfold oneC neuW thinW; rw [ok1, ow, r2]; simp [hasC]
  have a2 : ∀ lk l h, l = h.length → ev P T K d 39 [.sc (.int .i64 0), .ag [.int .u64 16777221, .int .i64 0, .sl l 0 2 1]] lk (h ++ [.rw 3 [.int .i64 0, .int .i64 3]]) = some (.tup [.ag (chg 0 1 (-1) 0), .sc (.bool true)], h ++ [.rw 3 [.int .i64 0, .int .i64 3]]) := fun lk l h hl => by
    have := s39 S (d := d) (by omega) 0 16777221 (by omega) 0 (.sl l 0 2 1) [0, 3] lk (h ++ [.rw 3 [.int .i64 0, .int .i64 3]]) (.inr ⟨l, rfl, by simp; omega, by rw [cells_self _ _ _ hl]; rfl⟩)
    rw [ok1, c1] at this; exact this
  have a3 : ∀ lk l h, l = h.length → ev P T K d 39 [.sc (.int .i64 0), .ag [.int .u64 16777221, .int .i64 0, .sl l 0 1 1]] lk (h ++ [.rw 3 [.int .i64 1]]) = some (.tup [.ag (chg 0 16777216 0 1), .sc (.bool true)], h ++ [.rw 3 [.int .i64 1]]) := fun lk l h hl => by
    have := s39 S (d := d) (by omega) 0 16777221 (by omega) 0 (.sl l 0 1 1) [1] lk (h ++ [.rw 3 [.int .i64 1]]) (.inr ⟨l, rfl, by simp; omega, by rw [cells_self _ _ _ hl]; rfl⟩)
    rw [ok1, c2] at this; exact this
  have a4 : ∀ lk h, ev P T K d 22 [.sc (.int .u64 16777216)] lk h = some (.v (.sc (.int .i64 1)), h) := fun lk h => by
    have ho : (⟨1, 0, 0, 0, 1, 0, 0, 0⟩ : Hdr).ok := by simp [Hdr.ok]
    have hm : (⟨1, 0, 0, 0, 1, 0, 0, 0⟩ : Hdr).may = true := by rw [may_eq _ ho]; simp [Hdr.fits, keptH]
    have hw : (⟨1, 0, 0, 0, 1, 0, 0, 0⟩ : Hdr).word = 16777216 := by simp [Hdr.word, Hdr.fits]
    have h2 := (may_rd hm).2
    rw [hw] at h2
    have := s22 S (d := d) (by omega) 16777216 (by omega) lk h
    rw [h2] at this; exact this
  have a5 : ∀ lk h, ev P T K d 42 [.sc (.int .u64 16777221)] lk h = some (.v (.sc (.int .i64 0)), h) := fun lk h => by
    have := s42 S (d := d) (by omega) 16777221 (by omega) lk h
    rw [ow] at this; exact this
  simp (maxSteps := 1000000) (disch := first | omega | (simp (disch := first | omega | (simp only [Hdr.len, Hdr.fr, Obj.len, chg_len, chg_fr, List.length_append, List.length_cons, List.length_nil, List.length_set]; first | done | omega)) only [Hdr.len, Hdr.fr, Obj.len, chg_len, chg_fr, amSide, Int.reduceToNat, Nat.reducePow, Nat.reduceMul]; first | done | omega)) only  [↓amPre, amPost, ↓s_lit', Nat.reduceAdd, Nat.reduceSub, List.replicate, retA, resultsA, resultA, toC, toCL, Nat.reduceEqDiff, (ze64 S.p), (bu30 S.p), (bu67 S.p), lit_fill (un60 S.p) (sz3 S.p) (ze3 S.p), (fa64_1 S.p), (fa64_2 S.p), (fa64_3 S.p), part_sc (ag26 S.p), part_sc (ag3 S.p), store_last (sz64 S.p), (sz64 S.p), splice_def, cells_self, cells_other, set_self, set_other, a1, a2, a3, a4, a5, chg_len, chg_1, chg_2, chg_3, List.flatten_cons, List.flatten_nil, List.append_nil, Nat.reduceMul, Nat.mul_one, Nat.one_mul, beq_self_eq_true, Int.reduceNeg, Int.cast_ofNat_Int]
  exact Ends.some rfl
theorem oneC_chg (o : Int) (w : Nat) (cnt : List Int) : ∃ o' w' u' s', oneC o w cnt = chg o' w' u' s' := by
  unfold oneC; repeat' split
  all_goals exact ⟨_, _, _, _, rfl⟩
theorem s11 {P : Program} {T : Tab} {K d : Nat} (S : Sd P T K) (hd : 13 ≤ d) (o : Int) (w : Nat) (hw : w < 18446744073709551616) (k : Int) (q : SV) (cnt : List Int) (lk : Nat) (h : List AO) (hS : Sl h q cnt) :
    ev P T K d 11 [.sc (.int .i64 o), .ag (Obj w k q)] lk h = some (.v (.sc (.bool true)), h) := by
  obtain ⟨d, rfl⟩ : ∃ k, d = k + 1 := ⟨d - 1, by omega⟩
  refine ev_pure (at11 S.t) rfl ?_
  unfold i11 Try.f11
  have hlen : ∀ hh, lenA P hh 60 (.v (.sc q)) = some (.v (.sc (.int .i64 (cnt.length : Int)))) := fun hh => by
    rcases hS with ⟨rfl, rfl⟩ | ⟨l, rfl, _, _⟩
    · exact len_nils (un60 S.p)
    · exact len_sl (un60 S.p) _ _ _ _
  obtain ⟨o', w', u', s', hC⟩ := oneC_chg o w cnt
  have f39 : ∀ lk a, ev P T K d 39 [.sc (.int .i64 o), .ag [.int .u64 (w : Nat), .int .i64 k, q]] lk (h ++ [a]) = some (.tup [.ag (chg o' w' u' s'), .sc (.bool (oneOk o w))], h ++ [a]) := fun lk a => by
    have := s39 S (d := d) (by omega) o w hw k q cnt lk (h ++ [a]) (hS.push a)
    rw [hC] at this; exact this
  have f40 : ∀ lk a b, ev P T K d 40 [.sc (.int .i64 o), .ag (Obj w k q)] lk (h ++ [a] ++ [b]) = some (.tup [.ag (chg o' w' u' s'), .sc (.bool (oneOk o w))], h ++ [a] ++ [b]) := fun lk a b => by
    have := s40 S (d := d) (by omega) o w hw k q cnt lk (h ++ [a] ++ [b]) ((hS.push a).push b)
    rw [hC] at this; exact this
  have hcc : ∀ q : Bool, (q == q) = true := fun q => by cases q <;> rfl
  by_cases hl : (cnt.length : Int) > 1000
  · have d1 : decide ((cnt.length : Int) > 1000) = true := decide_eq_true hl
    simp (maxSteps := 1000000) (disch := first | omega | (simp (disch := first | omega | (simp only [Hdr.len, Hdr.fr, Obj.len, chg_len, chg_fr, List.length_append, List.length_cons, List.length_nil, List.length_set]; first | done | omega)) only [Hdr.len, Hdr.fr, Obj.len, chg_len, chg_fr, amSide, Int.reduceToNat, Nat.reducePow, Nat.reduceMul]; first | done | omega)) only  [↓amPre, amPost, ↓s_lit', Nat.reduceAdd, Nat.reduceSub, List.replicate, retA, resultsA, resultA, toC, toCL, Nat.reduceEqDiff, (ze64 S.p), (ze68 S.p), eql_bool (un4 S.p), neq_bool (un4 S.p), (bu67 S.p), (fa62_0 S.p), (fa62_1 S.p), (fa62_2 S.p), len_sl (un60 S.p), len_nils (un60 S.p), part_sc (ag26 S.p), part_sc (ag3 S.p), part_sc (ag60 S.p), part_all (ag62 S.p) (sz62 S.p), part_at (ag62 S.p) (sz62 S.p), part_all (ag64 S.p) (sz64 S.p), part_at (ag64 S.p) (sz64 S.p), part_all (ag68 S.p) (sz68 S.p), part_at (ag68 S.p) (sz68 S.p), store_last (sz64 S.p), (sz64 S.p), store_last (sz68 S.p), (sz68 S.p), cells_self, cells_other, set_self, set_other, hlen, d1, s38 S, Obj.len, Obj.c2]
    exact Ends.some rfl
  · have d1 : decide ((cnt.length : Int) > 1000) = false := decide_eq_false hl
    simp (maxSteps := 1000000) (disch := first | omega | (simp (disch := first | omega | (simp only [Hdr.len, Hdr.fr, Obj.len, chg_len, chg_fr, List.length_append, List.length_cons, List.length_nil, List.length_set]; first | done | omega)) only [Hdr.len, Hdr.fr, Obj.len, chg_len, chg_fr, amSide, Int.reduceToNat, Nat.reducePow, Nat.reduceMul]; first | done | omega)) only  [↓amPre, amPost, ↓s_lit', Nat.reduceAdd, Nat.reduceSub, List.replicate, retA, resultsA, resultA, toC, toCL, Nat.reduceEqDiff, (ze64 S.p), (ze68 S.p), eql_bool (un4 S.p), neq_bool (un4 S.p), (bu67 S.p), (fa62_0 S.p), (fa62_1 S.p), (fa62_2 S.p), len_sl (un60 S.p), len_nils (un60 S.p), part_sc (ag26 S.p), part_sc (ag3 S.p), part_sc (ag60 S.p), part_all (ag62 S.p) (sz62 S.p), part_at (ag62 S.p) (sz62 S.p), part_all (ag64 S.p) (sz64 S.p), part_at (ag64 S.p) (sz64 S.p), part_all (ag68 S.p) (sz68 S.p), part_at (ag68 S.p) (sz68 S.p), store_last (sz64 S.p), (sz64 S.p), store_last (sz68 S.p), (sz68 S.p), splice_def, cells_self, cells_other, set_self, set_other, hlen, d1, f39, f40, chg_len, s38 S, s41 S, s42 S, s43 S, hcc, Obj.len, Obj.c0, Obj.c1, Obj.c2, List.append_nil, beq_self_eq_true]
    exact Ends.some rfl
end Go.AM
