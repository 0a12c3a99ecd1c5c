/- Logs: how many entries are right; the law's probe, turns, and a log that nobody made. Conditions: none. -/
import Derived.Test.YtjhhjmngjmflaaaGhus
set_option linter.unusedVariables false
set_option linter.unusedSimpArgs false
set_option maxRecDepth 100000
namespace Go.AM
open Go.Proofs
-- LENS: EvV.len, MonV.len, ThV.len, EnV.len
/-- A slice of the first n records. -/
def Rs2 {α : Type} (f : α → List SV) (s : Nat) (h : List AO) (q : SV) (l : List α) (n : Nat) : Prop := (q = .nils ∧ n = 0) ∨ ∃ b, q = .sl b 0 n s ∧ b < h.length ∧ cellsAt h b = some (recs f l) ∧ n ≤ l.length
theorem Rs2.len {α : Type} {f : α → List SV} {s : Nat} {P : Program} {t el : TypeId} (hu : P.underlying t = some (.slice el)) {h : List AO} {q : SV} {l : List α} {n : Nat} (H : Rs2 f s h q l n) (hh : List AO) : lenA P hh t (.v (.sc q)) = some (.v (.sc (.int .i64 (n : Int)))) := by
  rcases H with ⟨rfl, rfl⟩ | ⟨b, rfl, _, _⟩
  · exact len_nils hu
  · exact len_sl hu _ _ _ _
theorem Rs2.ext {α : Type} {f : α → List SV} {s : Nat} {h h' : List AO} {q : SV} {l : List α} {n : Nat} (H : Rs2 f s h q l n) (hx : Ext1 h h') : Rs2 f s h' q l n := by
  rcases H with ⟨h1, h2⟩ | ⟨b, h1, h2, h3, h4⟩
  · exact .inl ⟨h1, h2⟩
  · exact .inr ⟨b, h1, Nat.lt_of_lt_of_le h2 hx.len, by rw [hx.cells h2]; exact h3, h4⟩
structure RiSt where
  i : Nat
  G : LgV
  qe : SV
  h : List AO
def al1 : EnV := ⟨1, 0, 0, 3, 0, 0, noEv, 0, 0⟩
def al2 : EnV := ⟨3, 0, 0, 0, 0, 0, noEv, 0, 9⟩
def al3 : EnV := ⟨2, 0, 0, 0, 0, 0, ⟨3, 0, 0, 0, 9⟩, 0, 0⟩
def alG1 : LgV := ⟨1, (newL 2 1 3).V, [⟨3, 0, 0, 1, true, 0, noEv⟩, noTh], [al1]⟩
def alG2 : LgV := ⟨1, (newL 2 1 3).V, [⟨3, 0, 0, 1, true, 1, ⟨3, 0, 0, 0, 9⟩⟩, noTh], [al1, al3]⟩
def alG3 : LgV := ⟨1, (newL 2 1 3).V, [⟨0, 0, 0, 1, false, 0, noEv⟩, noTh], [al1, al3, al2]⟩
theorem al_1 : addL (newL 2 1 3) al1 = some alG1 := by rfl
theorem al_2 : addL alG1 al2 = none := by rfl
theorem al_3 : addL alG1 al3 = some alG2 := by rfl
theorem al_4 : addL alG2 al2 = some alG3 := by rfl
section
variable {P : Program} {T : Tab} {K d : Nat} (S : Sd P T K)
include S
theorem s10 (hd : 1 ≤ d) (x : EnV) (lk : Nat) (h : List AO) : ev P T K d 10 [.ag x.cells] lk h = some (.v (.ag x.cells), h) := by
  obtain ⟨d, rfl⟩ : ∃ k, d = k + 1 := ⟨d - 1, by omega⟩
  refine ev_pure (at10 S.t) (EnV.fr x) ?_
  unfold i10 Try.f10
  obtain ⟨kd, th, nm, ok, oo, oa, ⟨vk, vt, vo, va, ve⟩, vl, er⟩ := x
  unfold EnV.cells
  simp (maxSteps := 1000000) (disch := first | omega | (simp (disch := first | omega | (simp only [EvV.len, MonV.len, ThV.len, EnV.len, List.length_append, List.length_cons, List.length_nil, List.length_set]; first | done | omega)) only [EvV.len, MonV.len, ThV.len, EnV.len, amSide, Int.reduceToNat, Nat.reducePow, Nat.reduceMul]; first | done | omega)) only  [↓amPre, amPost, ↓s_lit', Nat.reduceAdd, Nat.reduceSub, List.replicate, retA, resultsA, resultA, toC, toCL, Nat.reduceEqDiff, (ze29 S.p), (ze36 S.p), (bu34 S.p), (bu36 S.p), (fa29_0 S.p), (fa29_1 S.p), (fa29_2 S.p), (fa29_3 S.p), (fa29_4 S.p), (fa31_0 S.p), (fa31_1 S.p), (fa31_2 S.p), (fa31_3 S.p), (fa31_4 S.p), (fa31_5 S.p), (fa31_6 S.p), part_all (ag27 S.p) (sz27 S.p), part_at (ag27 S.p) (sz27 S.p), part_all (ag29 S.p) (sz29 S.p), part_at (ag29 S.p) (sz29 S.p), part_sc (ag3 S.p), part_all (ag36 S.p) (sz36 S.p), part_at (ag36 S.p) (sz36 S.p), store_last (sz29 S.p), (sz29 S.p), store_last (sz36 S.p), (sz36 S.p), splice_def, beqI_t, beqI_f, bneI_t, bneI_f, bne_self_eq_false, beq_self_eq_true, dec_t, dec_f, cells_self, cells_other, idx_ok, Int.toNat_natCast, Nat.zero_add, Nat.add_zero, wrap_i64]
  exact Ends.some rfl
set_option maxHeartbeats 4000000 in
/-- The law's probe. -/
theorem s13 (hd : 7 ≤ d) (lk : Nat) (h : List AO) : ev P T K d 13 [] lk h = some (.v (.sc (.bool true)), h) := by
  obtain ⟨d, rfl⟩ : ∃ k, d = k + 1 := ⟨d - 1, by omega⟩
  refine ev_pure (at13 S.t) rfl ?_
  unfold i13 Try.f13
  obtain ⟨v, h0, e14, X1, p, pm, bm, bf, bw, bl, bt, rfl, L0, b0, b1, b2, b3, b4, b5⟩ := s14 S (show 3 ≤ d by omega) (n := 2) (m := 1) (c := 3) (by omega) (by omega) (by omega) h.length h (Nat.le_refl _)
  have I0 : LgI 2 1 3 (newL 2 1 3) := newL_I (by omega) (by omega) (by omega)
  have I1 := I0.add (by omega) al_1
  have I2 := I1.add (by omega) al_3
  have I3 := I2.add (by omega) al_4
  have hn1 : binOpA P .eql 56 (.v (.sc (.ptr p 0))) (.v (.sc .nilp)) = some (.v (.sc (.bool false))) := by simp [binOpA, eqA, un56 S.p]
  obtain ⟨v, ha, e1, rfl, q1, L1, F1, Q1⟩ := s15 S (show 6 ≤ d by omega) (by omega) L0 I0 (by omega) (by simp [newL]) al1 h.length (by omega)
  rw [al_1] at e1 L1
  simp only [Option.isSome_some, if_true, Option.getD_some] at e1 L1
  obtain ⟨v, hb, e2, rfl, q2, L2, F2, Q2⟩ := s15 S (show 6 ≤ d by omega) (by omega) L1 I1 (by omega) (by simp [alG1]) al2 h.length (by omega)
  rw [al_2] at e2 L2
  simp only [Option.isSome_none, Bool.false_eq_true, if_false, Option.getD_none] at e2 L2
  obtain ⟨v, hc, e3, rfl, q3, L3, F3, Q3⟩ := s15 S (show 6 ≤ d by omega) (by omega) L2 I1 (by omega) (by simp [alG1]) al3 h.length (by omega)
  rw [al_3] at e3 L3
  simp only [Option.isSome_some, if_true, Option.getD_some] at e3 L3
  obtain ⟨v, he, e4, rfl, q4, L4, F4, Q4⟩ := s15 S (show 6 ≤ d by omega) (by omega) L3 I2 (by omega) (by simp [alG2]) al2 h.length (by omega)
  rw [al_4] at e4 L4
  simp only [Option.isSome_some, if_true, Option.getD_some] at e4 L4
  have f18 := fun lk => s18 S (show 2 ≤ d by omega) L4 lk
  rw [show alG3.ents.length = 3 from rfl] at f18
  unfold EnV.cells al1 noEv at e1
  unfold EnV.cells al2 noEv at e2 e4
  unfold EnV.cells al3 at e3
  have hz3 : ((3 : Nat) : Int) = 3 := rfl
  rw [show ((2 : Nat) : Int) = 2 from rfl, show ((1 : Nat) : Int) = 1 from rfl] at e14
  simp (maxSteps := 1000000) (disch := first | omega | (simp (disch := first | omega | (simp only [EvV.len, MonV.len, ThV.len, EnV.len, List.length_append, List.length_cons, List.length_nil, List.length_set]; first | done | omega)) only [EvV.len, MonV.len, ThV.len, EnV.len, amSide, Int.reduceToNat, Nat.reducePow, Nat.reduceMul]; first | done | omega)) only  [↓amPre, amPost, ↓s_lit', Nat.reduceAdd, Nat.reduceSub, List.replicate, retA, resultsA, resultA, toC, toCL, Nat.reduceEqDiff, (bu27 S.p), (bu34 S.p), (bu36 S.p), e14, hn1, e1, e2, e3, e4, f18, hz3, splice_def, beqI_t, beqI_f, bneI_t, bneI_f, bne_self_eq_false, beq_self_eq_true, dec_t, dec_f, cells_self, cells_other, idx_ok, Int.toNat_natCast, Nat.zero_add, Nat.add_zero, wrap_i64]
  exact Ends.some rfl
end
end Go.AM
