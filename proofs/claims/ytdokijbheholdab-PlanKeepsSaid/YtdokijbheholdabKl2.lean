/- Classes: the laws on words and epochs. Conditions: none. -/
import Derived.Test.YtdokijbheholdabKl1
set_option linter.unusedVariables false
set_option linter.unusedSimpArgs false
set_option maxRecDepth 100000
namespace Go.AM
open Go.Proofs
-- LENS: Hdr.len, Hdr.fr, Kls.len, Kls.fr
theorem frW_lt {w : Nat} {c : Kls} (hc : c.ok) : frW w c < 18446744073709551616 := by
  unfold frW
  split
  · rename_i h; exact Hdr.word_lt _ (fr_may hc h).1
  · omega
theorem hdrK_lt {c : Kls} (hc : c.ok) : hdrK c < 18446744073709551616 := by
  unfold hdrK; unfold Kls.ok at hc; split <;> omega
theorem bi_word {x : Hdr} (hm : x.may = true) (hk : x.kind = 4) : biW x.word = true ∧ rdH x.word = x := by
  obtain ⟨r1, r2⟩ := may_rd hm
  exact ⟨by unfold biW; rw [r1, r2, hk]; rfl, r2⟩
theorem valid_hdr (c : Kls) (hc : c.ok) : validK c (hdrK c) = c.bias := by
  unfold validK hdrK
  unfold Kls.ok at hc
  cases hb : c.bias with
  | false => simp
  | true =>
    obtain ⟨_, m, w⟩ := hdr_b c.ep hc
    obtain ⟨b1, b2⟩ := bi_word m rfl
    rw [w] at b1 b2
    simp only [if_true, b1, b2]; simp
theorem bi_0 : biW 0 = false := by
  have : kindW 0 = 5 := rfl
  unfold biW rdH; rw [this]; simp [takeH, zeroH]; split <;> simp
theorem valid_fr (c : Kls) (hc : c.ok) (w : Nat) : validK c (frW w c) = (biW w && c.bias) := by
  unfold frW
  cases hb : biW w with
  | false => unfold validK; simp [bi_0]
  | true =>
    obtain ⟨yo, ym, yk⟩ := fr_may hc hb
    obtain ⟨b1, b2⟩ := bi_word ym yk
    unfold validK
    simp only [if_true, b1, b2]
    simp [frH]
theorem valid_anew (c : Kls) (hc : c.ok) (w : Nat) (hv : validK c w = true) : validK (anew c) w = false ∧ validK (never c) w = false := by
  unfold Kls.ok at hc
  unfold validK at hv ⊢
  simp only [Bool.and_eq_true, decide_eq_true_eq] at hv
  obtain ⟨⟨h1, h2⟩, h3⟩ := hv
  constructor
  · have : ¬ (rdH w).ep = (anew c).ep := by rw [h3]; simp only [anew]; omega
    simp [this]
  · simp [never]
theorem s34 {P : Program} {T : Tab} {K d : Nat} (S : Sd P T K) (hd : 11 ≤ d) (lk : Nat) (h : List AO) : ev P T K d 34 [] lk h = some (.v (.sc (.bool true)), h) := by
  obtain ⟨d, rfl⟩ : ∃ k, d = k + 1 := ⟨d - 1, by omega⟩
  refine ev_pure (at34 S.t) rfl ?_
  unfold i34 Try.f34
  have b5 : biW 5 = true ∧ (rdH 5).ep = 0 := by
    obtain ⟨_, m, w⟩ := hdr_b 0 (by omega)
    obtain ⟨b1, b2⟩ := bi_word m rfl
    rw [w] at b1 b2
    exact ⟨b1, by rw [b2]⟩
  have v1 : validK ⟨true, 0, 0⟩ 5 = true := by unfold validK; rw [b5.1, b5.2]; rfl
  have v2 : validK ⟨true, 1, 0⟩ 5 = false := by unfold validK; rw [b5.1, b5.2]; rfl
  have a1 : ∀ lk h, ev P T K d 30 [.ag [.bool true, .int .u8 0, .int .i64 0]] lk h = some (.v (.sc (.int .u64 5)), h) := fun lk h => s30 S (by omega) ⟨true, 0, 0⟩ (by simp [Kls.ok]) lk h
  have a2 : ∀ lk h, ev P T K d 32 [.ag [.bool true, .int .u8 0, .int .i64 0], .sc (.int .u64 5)] lk h = some (.v (.sc (.bool true)), h) := fun lk h => by
    have := s32 S (d := d) (by omega) ⟨true, 0, 0⟩ 5 (by omega) lk h
    rw [v1] at this; exact this
  have a3 : ∀ lk h, ev P T K d 32 [.ag [.bool true, .int .u8 1, .int .i64 0], .sc (.int .u64 5)] lk h = some (.v (.sc (.bool false)), h) := fun lk h => by
    have := s32 S (d := d) (by omega) ⟨true, 1, 0⟩ 5 (by omega) lk h
    rw [v2] at this; exact this
  have a4 : ∀ lk h, ev P T K d 35 [.ag [.bool true, .int .u8 0, .int .i64 0]] lk h = some (.v (.ag [.bool true, .int .u8 1, .int .i64 0]), h) := fun lk h => s35 S (by omega) ⟨true, 0, 0⟩ lk h
  have a5 : ∀ lk h, ev P T K d 36 [.ag [.bool true, .int .u8 0, .int .i64 0]] lk h = some (.v (.ag [.bool false, .int .u8 0, .int .i64 0]), h) := fun lk h => s36 S (by omega) ⟨true, 0, 0⟩ lk h
  simp (maxSteps := 1000000) (disch := first | omega | (simp (disch := first | omega | (simp only [Hdr.len, Hdr.fr, Kls.len, Kls.fr, List.length_append, List.length_cons, List.length_nil, List.length_set]; first | done | omega)) only [Hdr.len, Hdr.fr, Kls.len, Kls.fr, amSide, Int.reduceToNat, Nat.reducePow, Nat.reduceMul]; first | done | omega)) only  [↓amPre, amPost, ↓s_lit', Nat.reduceAdd, Nat.reduceSub, List.replicate, retA, resultsA, resultA, toC, toCL, Nat.reduceEqDiff, (ze50 S.p), (bu50 S.p), (fd50_0 S.p), part_sc (ag4 S.p), (fd50_1 S.p), part_sc (ag5 S.p), part_all (ag50 S.p) (sz50 S.p), part_at (ag50 S.p) (sz50 S.p), store_last (sz50 S.p), (sz50 S.p), splice_def, cells_self, cells_other, set_self, set_other, a1, a2, a3, a4, a5, beq_self_eq_true]
  exact Ends.some rfl
theorem s8 {P : Program} {T : Tab} {K d : Nat} (S : Sd P T K) (hd : 12 ≤ d) (c : Kls) (hc : c.ok) (w : Nat) (hw : w < 18446744073709551616) (lk : Nat) (h : List AO) :
    ev P T K d 8 [.ag c.cells, .sc (.int .u64 (w : Nat))] lk h = some (.v (.sc (.bool true)), h) := by
  obtain ⟨d, rfl⟩ : ∃ k, d = k + 1 := ⟨d - 1, by omega⟩
  refine ev_pure (at8 S.t) rfl ?_
  unfold i8 Try.f8
  simp (maxSteps := 1000000) (disch := first | omega | (simp (disch := first | omega | (simp only [Hdr.len, Hdr.fr, Kls.len, Kls.fr, List.length_append, List.length_cons, List.length_nil, List.length_set]; first | done | omega)) only [Hdr.len, Hdr.fr, Kls.len, Kls.fr, amSide, Int.reduceToNat, Nat.reducePow, Nat.reduceMul]; first | done | omega)) only  [↓amPre, amPost, ↓s_lit', Nat.reduceAdd, Nat.reduceSub, List.replicate, retA, resultsA, resultA, toC, toCL, Nat.reduceEqDiff, eql_bool (un4 S.p), neq_bool (un4 S.p), part_all (ag47 S.p) (sz47 S.p), part_at (ag47 S.p) (sz47 S.p), cells_self, cells_other, set_self, set_other, s27 S _ c hc, s28 S, s29 S _ c hc, s30 S _ c hc, s31 S _ c hc, s32 S, s33 S, s34 S, Kls.len, beq_self_eq_true]
  exact Ends.some rfl
theorem s9 {P : Program} {T : Tab} {K d : Nat} (S : Sd P T K) (hd : 12 ≤ d) (c : Kls) (hc : c.ok) (w : Nat) (hw : w < 18446744073709551616) (lk : Nat) (h : List AO) :
    ev P T K d 9 [.ag c.cells, .sc (.int .u64 (w : Nat))] lk h = some (.v (.sc (.bool true)), h) := by
  obtain ⟨d, rfl⟩ : ∃ k, d = k + 1 := ⟨d - 1, by omega⟩
  refine ev_pure (at9 S.t) rfl ?_
  unfold i9 Try.f9
  have k1 := hdrK_lt hc
  have k2 := frW_lt (w := w) hc
  have e1 := valid_hdr c hc
  have e2 := valid_fr c hc w
  have e3 : IntKind.u8.wrap ((c.ep : Int) + 1) = (((c.ep + 1) % 256 : Nat) : Int) := by
    simp only [IntKind.wrap, IntKind.bits, IntKind.signed]; simp
  have e4 : (anew c).ep = (c.ep + 1) % 256 := rfl
  have e5 : (anew c).bias = c.bias := rfl
  have hcc : ∀ q : Bool, (q == q) = true := fun q => by cases q <;> rfl
  have hbe : ∀ q : Bool, (q != q) = false := fun q => by cases q <;> rfl
  cases hb : biW w <;> cases hv : validK c w
  all_goals first
    | (exfalso; unfold validK at hv; rw [hb] at hv; simp at hv; done)
    | skip
  · simp (maxSteps := 1000000) (disch := first | omega | (simp (disch := first | omega | (simp only [Hdr.len, Hdr.fr, Kls.len, Kls.fr, List.length_append, List.length_cons, List.length_nil, List.length_set]; first | done | omega)) only [Hdr.len, Hdr.fr, Kls.len, Kls.fr, amSide, Int.reduceToNat, Nat.reducePow, Nat.reduceMul]; first | done | omega)) only  [↓amPre, amPost, ↓s_lit', Nat.reduceAdd, Nat.reduceSub, List.replicate, retA, resultsA, resultA, toC, toCL, Nat.reduceEqDiff, (ze50 S.p), eql_bool (un4 S.p), neq_bool (un4 S.p), (fd50_0 S.p), part_sc (ag4 S.p), (fd50_1 S.p), part_sc (ag5 S.p), (fa47_0 S.p), (fa47_1 S.p), part_all (ag47 S.p) (sz47 S.p), part_at (ag47 S.p) (sz47 S.p), part_all (ag50 S.p) (sz50 S.p), part_at (ag50 S.p) (sz50 S.p), store_last (sz50 S.p), (sz50 S.p), cells_self, cells_other, set_self, set_other, s27 S _ c hc, s28 S, s30 S _ c hc, s32 S, s34 S, s35 S, s36 S, Kls.len, Kls.c0, Kls.c1, e1, e2, e3, e4, e5, hb, hv, hcc, hbe, Bool.false_and, beq_self_eq_true]
    exact Ends.some rfl
  · cases hbi : c.bias
    all_goals
      simp (maxSteps := 1000000) (disch := first | omega | (simp (disch := first | omega | (simp only [Hdr.len, Hdr.fr, Kls.len, Kls.fr, List.length_append, List.length_cons, List.length_nil, List.length_set]; first | done | omega)) only [Hdr.len, Hdr.fr, Kls.len, Kls.fr, amSide, Int.reduceToNat, Nat.reducePow, Nat.reduceMul]; first | done | omega)) only  [↓amPre, amPost, ↓s_lit', Nat.reduceAdd, Nat.reduceSub, List.replicate, retA, resultsA, resultA, toC, toCL, Nat.reduceEqDiff, (ze50 S.p), eql_bool (un4 S.p), neq_bool (un4 S.p), (fd50_0 S.p), part_sc (ag4 S.p), (fd50_1 S.p), part_sc (ag5 S.p), (fa47_0 S.p), (fa47_1 S.p), part_all (ag47 S.p) (sz47 S.p), part_at (ag47 S.p) (sz47 S.p), part_all (ag50 S.p) (sz50 S.p), part_at (ag50 S.p) (sz50 S.p), store_last (sz50 S.p), (sz50 S.p), cells_self, cells_other, set_self, set_other, s27 S _ c hc, s28 S, s30 S _ c hc, s32 S, s34 S, s35 S, s36 S, Kls.len, Kls.c0, Kls.c1, e1, e2, e3, e4, e5, hb, hv, hbi, hcc, hbe, Bool.true_and, beq_self_eq_true]
      exact Ends.some rfl
  · obtain ⟨v1, v2⟩ := valid_anew c hc w hv
    cases hbi : c.bias
    all_goals
      simp (maxSteps := 1000000) (disch := first | omega | (simp (disch := first | omega | (simp only [Hdr.len, Hdr.fr, Kls.len, Kls.fr, List.length_append, List.length_cons, List.length_nil, List.length_set]; first | done | omega)) only [Hdr.len, Hdr.fr, Kls.len, Kls.fr, amSide, Int.reduceToNat, Nat.reducePow, Nat.reduceMul]; first | done | omega)) only  [↓amPre, amPost, ↓s_lit', Nat.reduceAdd, Nat.reduceSub, List.replicate, retA, resultsA, resultA, toC, toCL, Nat.reduceEqDiff, (ze50 S.p), eql_bool (un4 S.p), neq_bool (un4 S.p), (fd50_0 S.p), part_sc (ag4 S.p), (fd50_1 S.p), part_sc (ag5 S.p), (fa47_0 S.p), (fa47_1 S.p), part_all (ag47 S.p) (sz47 S.p), part_at (ag47 S.p) (sz47 S.p), part_all (ag50 S.p) (sz50 S.p), part_at (ag50 S.p) (sz50 S.p), store_last (sz50 S.p), (sz50 S.p), cells_self, cells_other, set_self, set_other, s27 S _ c hc, s28 S, s30 S _ c hc, s32 S, s34 S, s35 S, s36 S, Kls.len, Kls.c0, Kls.c1, e1, e2, e3, e4, e5, hb, hv, v1, v2, hbi, hcc, hbe, Bool.true_and, beq_self_eq_true]
      exact Ends.some rfl
theorem list3 {α : Type} {xs : List α} (h : xs.length = 3) : ∃ a b c, xs = [a, b, c] := by
  match xs, h with
  | [a, b, c], _ => exact ⟨a, b, c, rfl⟩
end Go.AM
