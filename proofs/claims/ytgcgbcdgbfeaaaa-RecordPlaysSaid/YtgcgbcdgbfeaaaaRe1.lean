/- Records: a stack in memory; what only reads it. Conditions: none. -/
import Derived.Test.YtgcgbcdgbfeaaaaAmTab
import Derived.Test.YtgcgbcdgbfeaaaaAmRecs
set_option linter.unusedVariables false
set_option linter.unusedSimpArgs false
set_option maxRecDepth 100000
namespace Go.AM
open Go.Proofs
structure Rec where
  o : Int
  s : Int
def Rec.cells (x : Rec) : List SV := [.int .i64 x.o, .int .u64 x.s]
theorem Rec.len (x : Rec) : x.cells.length = 2 := nrfl rfl
theorem Rec.c0 (x : Rec) : x.cells[0]? = some (.int .i64 x.o) := nrfl rfl
theorem Rec.c1 (x : Rec) : x.cells[1]? = some (.int .u64 x.s) := nrfl rfl
-- LENS: Rec.len
theorem splice_def (cs : List SV) (o : Nat) (new : List SV) : splice cs o new = cs.take o ++ new ++ cs.drop (o + new.length) := nrfl rfl
def NotAt (q : SV) (j : Nat) : Prop := ∀ o n s, q ≠ .sl j o n s
/-- A stack at p: its places, its records. -/
structure Stk (lo p : Nat) (hh : List AO) (qs : SV) (n : Int) (l : List Rec) : Prop where
  pp : hh[p]? = some (.rw 88 [.int .i64 n, qs])
  q : (qs = .nils ∧ l = []) ∨ ∃ b g, qs = .sl b 0 l.length 2 ∧ hh[b]? = some (.rw 62 (recs Rec.cells l ++ g)) ∧ g.length % 2 = 0 ∧ lo ≤ b
  lt : p < lo
theorem Stk.push {lo p : Nat} {hh : List AO} {qs : SV} {n : Int} {l : List Rec} (H : Stk lo p hh qs n l) (o : AO) : Stk lo p (hh ++ [o]) qs n l := by
  have hp := (List.getElem?_eq_some_iff.1 H.pp).1
  refine ⟨by rw [List.getElem?_append_left hp]; exact H.pp, ?_, H.lt⟩
  rcases H.q with h | ⟨b, g, h1, h2, h3, h4⟩
  · exact .inl h
  · have := (List.getElem?_eq_some_iff.1 h2).1
    exact .inr ⟨b, g, h1, by rw [List.getElem?_append_left this]; exact h2, h3, h4⟩
theorem Stk.ext {lo p : Nat} {hh h' : List AO} {qs : SV} {n : Int} {l : List Rec} (H : Stk lo p hh qs n l) (hx : Ext1 hh h') : Stk lo p h' qs n l := by
  refine ⟨ext1_get hx H.pp, ?_, H.lt⟩
  rcases H.q with h | ⟨b, g, h1, h2, h3, h4⟩
  · exact .inl h
  · exact .inr ⟨b, g, h1, ext1_get hx h2, h3, h4⟩
/-- What an operation of a stack leaves alone. -/
structure Frm (p : Nat) (hh : List AO) (qs : SV) (h' : List AO) (qs' : SV) : Prop where
  get : ∀ j, j < hh.length → j ≠ p → NotAt qs j → h'[j]? = hh[j]?
  at_ : ∀ j, j < hh.length → j ≠ p → NotAt qs j → NotAt qs' j
  len : hh.length ≤ h'.length
theorem Frm.refl (p : Nat) (hh : List AO) (qs : SV) : Frm p hh qs hh qs := ⟨fun _ _ _ _ => rfl, fun _ _ _ h => h, Nat.le_refl _⟩
theorem Frm.push {p : Nat} {hh : List AO} {qs : SV} {h' : List AO} {qs' : SV} (H : Frm p hh qs h' qs') (o : AO) : Frm p hh qs (h' ++ [o]) qs' :=
  ⟨fun j h1 h2 h3 => by rw [List.getElem?_append_left (by have := H.len; omega)]; exact H.get j h1 h2 h3, H.at_, by have := H.len; simp; omega⟩
theorem Frm.ext {p : Nat} {hh : List AO} {qs : SV} {h' h2 : List AO} {qs' : SV} (H : Frm p hh qs h' qs') (hx : Ext1 h' h2) : Frm p hh qs h2 qs' :=
  ⟨fun j h1 h3 h4 => by rw [hx.get (by have := H.len; omega)]; exact H.get j h1 h3 h4, H.at_, Nat.le_trans H.len hx.len⟩
theorem Frm.pre {p : Nat} {hh h0 : List AO} {qs : SV} {h' : List AO} {qs' : SV} (H : Frm p hh qs h' qs') (hx : Ext1 h0 hh) : Frm p h0 qs h' qs' :=
  ⟨fun j h1 h3 h4 => by rw [H.get j (by have := hx.len; omega) h3 h4, hx.get h1], fun j h1 h3 h4 => H.at_ j (by have := hx.len; omega) h3 h4, Nat.le_trans hx.len H.len⟩
theorem Frm.trans {p : Nat} {a b c : List AO} {qa qb qc : SV} (H : Frm p a qa b qb) (G : Frm p b qb c qc) : Frm p a qa c qc :=
  ⟨fun j h1 h2 h3 => by rw [G.get j (by have := H.len; omega) h2 (H.at_ j h1 h2 h3), H.get j h1 h2 h3], fun j h1 h2 h3 => G.at_ j (by have := H.len; omega) h2 (H.at_ j h1 h2 h3), Nat.le_trans H.len G.len⟩
theorem Stk.len {P : Program} {T : Tab} {K : Nat} (S : Sd P T K) {lo p : Nat} {hh : List AO} {qs : SV} {n : Int} {l : List Rec} (H : Stk lo p hh qs n l) (h' : List AO) : lenA P h' 59 (.v (.sc qs)) = some (.v (.sc (.int .i64 (l.length : Int)))) := by
  rcases H.q with ⟨rfl, rfl⟩ | ⟨b, g, rfl, _⟩
  · exact len_nils (un59 S.p)
  · exact len_sl (un59 S.p) _ _ _ _
theorem Stk.cell {lo p : Nat} {hh : List AO} {qs : SV} {n : Int} {l : List Rec} (H : Stk lo p hh qs n l) : cellsAt hh p = some [.int .i64 n, qs] := cells_at H.pp
theorem recs_gpart {P : Program} {α : Type} {f : α → List SV} {s : Nat} {t : TypeId} (ha : aggT P t = some true) (hsz : szT P t = some s) (hf : ∀ a, (f a).length = s) {l : List α} {i : Nat} {x : α} (hx : l[i]? = some x) (g : List SV) : partA P t (recs f l ++ g) (i * s) = some (.ag (f x)) := by
  have hle := recs_le hf hx
  rw [part_ag ha hsz, if_pos (by simp; omega)]
  have : ((recs f l ++ g).drop (i * s)).take s = ((recs f l).drop (i * s)).take s := by
    rw [List.drop_append_of_le_length (by omega), List.take_append_of_le_length (by simp; omega)]
  rw [this, recs_at hf hx]
theorem Stk.at {lo p : Nat} {hh : List AO} {qs : SV} {n : Int} {l : List Rec} (H : Stk lo p hh qs n l) {i : Nat} (hi : i < l.length) : ∃ b g, qs = .sl b 0 l.length 2 ∧ hh[b]? = some (.rw 62 (recs Rec.cells l ++ g)) ∧ g.length % 2 = 0 ∧ lo ≤ b ∧ b < hh.length := by
  rcases H.q with ⟨_, rfl⟩ | ⟨b, g, h1, h2, h3, h4⟩
  · simp at hi
  · exact ⟨b, g, h1, h2, h3, h4, (List.getElem?_eq_some_iff.1 h2).1⟩
theorem neq_pn {P : Program} {t el : TypeId} (hu : P.underlying t = some (.pointer el)) (l o : Nat) : binOpA P .neq t (.v (.sc (.ptr l o))) (.v (.sc .nilp)) = some (.v (.sc (.bool true))) := by
  simp [binOpA, eqA, hu]
theorem neq_nn {P : Program} {t el : TypeId} (hu : P.underlying t = some (.pointer el)) : binOpA P .neq t (.v (.sc .nilp)) (.v (.sc .nilp)) = some (.v (.sc (.bool false))) := by
  simp [binOpA, eqA, hu]
theorem eql_pn {P : Program} {t el : TypeId} (hu : P.underlying t = some (.pointer el)) (l o : Nat) : binOpA P .eql t (.v (.sc (.ptr l o))) (.v (.sc .nilp)) = some (.v (.sc (.bool false))) := by
  simp [binOpA, eqA, hu]
theorem eql_nn {P : Program} {t el : TypeId} (hu : P.underlying t = some (.pointer el)) : binOpA P .eql t (.v (.sc .nilp)) (.v (.sc .nilp)) = some (.v (.sc (.bool true))) := by
  simp [binOpA, eqA, hu]
theorem s65 {P : Program} {T : Tab} {K d : Nat} (S : Sd P T K) (hd : 1 ≤ d) {lo p : Nat} {hh : List AO} {qs : SV} {n : Int} {l : List Rec} (H : Stk lo p hh qs n l) (lk : Nat) :
    ev P T K d 65 [.sc (.ptr p 0)] lk hh = some (.v (.sc (.bool (decide (n > 0)))), hh) := by
  obtain ⟨d, rfl⟩ : ∃ k, d = k + 1 := ⟨d - 1, by omega⟩
  refine ev_pure (at65 S.t) rfl ?_
  unfold i65 Try.f65
  have hc := H.cell
  simp (maxSteps := 1000000) (disch := first | omega | (simp (disch := first | omega | (simp only [Rec.len, List.length_append, List.length_cons, List.length_nil, List.length_set]; first | done | omega)) only [Rec.len, amSide, Int.reduceToNat, Nat.reducePow, Nat.reduceMul]; first | done | omega)) only  [↓amPre, amPost, ↓s_lit', Nat.reduceAdd, Nat.reduceSub, List.replicate, retA, resultsA, resultA, toC, toCL, Nat.reduceEqDiff, (fa88_0 S.p), part_sc (ag3 S.p), neq_pn (un51 S.p), hc, Nat.add_zero]
  exact Ends.some rfl
theorem s65n {P : Program} {T : Tab} {K d : Nat} (S : Sd P T K) (hd : 1 ≤ d) (lk : Nat) (hh : List AO) :
    ev P T K d 65 [.sc .nilp] lk hh = some (.v (.sc (.bool false)), hh) := by
  obtain ⟨d, rfl⟩ : ∃ k, d = k + 1 := ⟨d - 1, by omega⟩
  refine ev_pure (at65 S.t) rfl ?_
  unfold i65 Try.f65
  simp (maxSteps := 1000000) (disch := first | omega | (simp (disch := first | omega | (simp only [Rec.len, List.length_append, List.length_cons, List.length_nil, List.length_set]; first | done | omega)) only [Rec.len, amSide, Int.reduceToNat, Nat.reducePow, Nat.reduceMul]; first | done | omega)) only  [↓amPre, amPost, ↓s_lit', Nat.reduceAdd, Nat.reduceSub, List.replicate, retA, resultsA, resultA, toC, toCL, Nat.reduceEqDiff, (fa88_0 S.p), part_sc (ag3 S.p), neq_nn (un51 S.p)]
  exact Ends.some rfl
end Go.AM
