/- Records: the law of pushed and popped. Conditions: none. -/
import Derived.Test.YtgcgbcdgbfeaaaaRe4
set_option linter.unusedVariables false
set_option linter.unusedSimpArgs false
set_option maxRecDepth 100000
namespace Go.AM
open Go.Proofs
structure StV where
  k : Int
  o : Int
  s : Int
def StV.cells (x : StV) : List SV := [.int .u8 x.k, .int .i64 x.o, .int .u64 x.s]
theorem StV.len (x : StV) : x.cells.length = 3 := nrfl rfl
theorem StV.c0 (x : StV) : x.cells[0]? = some (.int .u8 x.k) := nrfl rfl
theorem StV.c1 (x : StV) : x.cells[1]? = some (.int .i64 x.o) := nrfl rfl
theorem StV.c2 (x : StV) : x.cells[2]? = some (.int .u64 x.s) := nrfl rfl
-- LENS: Rec.len, StV.len
/-- What is pushed. -/
def pushL (l : List StV) : List Rec := l.filterMap fun x => if 0 ≤ x.o ∧ x.o < 65536 then some ⟨x.o, x.s⟩ else none
theorem pushL_snoc (l : List StV) (x : StV) : pushL (l ++ [x]) = if 0 ≤ x.o ∧ x.o < 65536 then pushL l ++ [⟨x.o, x.s⟩] else pushL l := by
  unfold pushL
  rw [List.filterMap_append]
  by_cases h : 0 ≤ x.o ∧ x.o < 65536
  · simp [h]
  · simp [h]
theorem pushL_len (l : List StV) : (pushL l).length ≤ l.length := List.length_filterMap_le _ _
theorem ext_of {h h' : List AO} (hl : h.length ≤ h'.length) (hg : ∀ j, j < h.length → h'[j]? = h[j]?) : Ext1 h h' := by
  refine ⟨h'.drop h.length, ?_⟩
  apply List.ext_getElem?
  intro i
  rcases Nat.lt_or_ge i h.length with h1 | h1
  · rw [List.getElem?_append_left h1, hg i h1]
  · rw [List.getElem?_append_right h1, List.getElem?_drop]; congr 1; omega
theorem Stk.notAt {lo p : Nat} {hh : List AO} {qs : SV} {n : Int} {l : List Rec} (H : Stk lo p hh qs n l) {j : Nat} (hj : j < lo) : NotAt qs j := by
  rcases H.q with ⟨rfl, _⟩ | ⟨b, g, rfl, _, _, hb⟩
  · intro o n s e; cases e
  · intro o n s e
    simp only [SV.sl.injEq] at e
    omega
theorem Frm.ext1 {lo p : Nat} {hh h0 : List AO} {qs : SV} {h' : List AO} {qs' : SV} {n : Int} {l : List Rec} (F : Frm p hh qs h' qs') (H : Stk lo p hh qs n l) (hx : Ext1 h0 hh) (h1 : h0.length ≤ p) : Ext1 h0 h' :=
  ext_of (Nat.le_trans hx.len F.len) fun j hj => by
    have := H.lt
    have := hx.len
    rw [F.get j (by omega) (by omega) (H.notAt (by omega)), hx.get hj]
/-- What is taken is one of those behind. -/
theorem pop_math {W R : List Rec} {o : Int} {i : Nat} {x : Rec} (hx : (W ++ R)[i]? = some x) (hl : Last o (W ++ R) (some i)) (ho : o ∈ R.map Rec.o) :
    ∃ R2, (W ++ R).take i ++ (W ++ R).drop (i + 1) = W ++ R2 ∧ (R.map Rec.o).Perm (o :: R2.map Rec.o) ∧ x.o = o := by
  cases hl with
  | some _ x' hx' hxo hb =>
    rw [hx] at hx'
    obtain rfl := Option.some.inj hx'
    obtain ⟨y, hy, hyo⟩ := List.mem_map.1 ho
    have hi : W.length ≤ i := by
      apply Classical.byContradiction
      intro hn
      refine hb y ?_ hyo
      rw [List.drop_append_of_le_length (by omega)]
      exact List.mem_append_right _ hy
    obtain ⟨k, rfl⟩ : ∃ k, i = W.length + k := ⟨i - W.length, by omega⟩
    rw [List.getElem?_append_right (by omega), show W.length + k - W.length = k by omega] at hx
    have hk := List.getElem?_eq_some_iff.1 hx
    have hsp : R = R.take k ++ x :: R.drop (k + 1) := by
      rw [← hk.2, ← List.drop_eq_getElem_cons hk.1, List.take_append_drop]
    refine ⟨R.take k ++ R.drop (k + 1), ?_, ?_, hxo⟩
    · rw [List.take_append, List.take_of_length_le (by omega), show W.length + k - W.length = k by omega, List.drop_append, List.drop_eq_nil_of_le (by omega), show W.length + k + 1 - W.length = k + 1 by omega]
      simp
    · conv => lhs; rw [hsp]
      rw [List.map_append, List.map_cons, hxo, List.map_append]
      exact List.perm_middle
theorem pop_some {W R : List Rec} {o : Int} (ho : o ∈ R.map Rec.o) : ∃ i x, (W ++ R)[i]? = some x ∧ Last o (W ++ R) (some i) := by
  obtain ⟨r, hr⟩ := last_ex o (W ++ R)
  cases r with
  | none =>
    cases hr with
    | none h =>
      obtain ⟨y, hy, hyo⟩ := List.mem_map.1 ho
      exact absurd hyo (h y (List.mem_append_right _ hy))
  | some i =>
    have hr2 := hr
    cases hr with
    | some _ x hx _ _ => exact ⟨i, x, hx, hr2⟩
theorem rec_eq (c : Rec) : eqL [1, 1] c.cells c.cells = some true := by
  simp [eqL, eqS, Rec.cells]
theorem s24k {P : Program} {T : Tab} {K d : Nat} (S : Sd P T K) (hd : 1 ≤ d) (lk : Nat) (h : List AO) : ev P T K d 24 [] lk h = some (.v (.sc (.bool true)), h) := by
  obtain ⟨d, rfl⟩ : ∃ k, d = k + 1 := ⟨d - 1, by omega⟩
  simp only [ev, at24 S.t]; rfl
structure Bk0 where
  i : Nat
  qs : SV
  h : List AO
structure Bk1 where
  i : Nat
  qw : SV
  h : List AO
structure Bk2 where
  i : Nat
  qs : SV
  qb : SV
  R : List Rec
  h : List AO
/-- Three that share no block: a stack, two lists. -/
structure Sep (lo lo2 p : Nat) (hh : List AO) (qs qw qb : SV) (W R : List Rec) (bk : List Int) : Prop where
  st : Stk lo p hh qs 512 (W ++ R)
  w : Own 62 2 lo2 hh qw (recs Rec.cells W)
  b : Own 3 1 lo2 hh qb (bk.map (SV.int .i64))
  ws : ∀ j, (∃ o n s, qw = .sl j o n s) → NotAt qs j
  bs : ∀ j, (∃ o n s, qb = .sl j o n s) → NotAt qs j
  wb : Apart qw qb
  l1 : lo ≤ lo2
  l2 : lo2 ≤ hh.length
theorem Sep.push {lo lo2 p : Nat} {hh : List AO} {qs qw qb : SV} {W R : List Rec} {bk : List Int} (H : Sep lo lo2 p hh qs qw qb W R bk) (o : AO) : Sep lo lo2 p (hh ++ [o]) qs qw qb W R bk :=
  ⟨H.st.push o, H.w.push o, H.b.push o, H.ws, H.bs, H.wb, H.l1, by have := H.l2; simp; omega⟩
theorem own_frm {p : Nat} {hh : List AO} {qs : SV} {h' : List AO} {qs' : SV} (F : Frm p hh qs h' qs') {e s lo : Nat} {q : SV} {cs : List SV} (H : Own e s lo hh q cs) (hp : p < lo) (hn : ∀ j, (∃ o n s, q = .sl j o n s) → NotAt qs j) :
    Own e s lo h' q cs ∧ ∀ j, (∃ o n s, q = .sl j o n s) → NotAt qs' j := by
  rcases H with ⟨rfl, h2⟩ | ⟨l, h1, h2, rfl, h4, h5⟩
  · exact ⟨.inl ⟨rfl, h2⟩, fun j ⟨o, n, s, e⟩ => by cases e⟩
  · have hq := hn l ⟨_, _, _, rfl⟩
    refine ⟨.inr ⟨l, h1, Nat.lt_of_lt_of_le h2 F.len, rfl, by rw [F.get l h2 (by omega) hq]; exact h4, h5⟩, fun j ⟨o, n, s, e⟩ => ?_⟩
    simp only [SV.sl.injEq] at e
    rw [← e.1]
    exact F.at_ l h2 (by omega) hq
theorem Sep.frm {lo lo2 p : Nat} {hh : List AO} {qs qw qb : SV} {W R R' : List Rec} {bk : List Int} (H : Sep lo lo2 p hh qs qw qb W R bk) {h' : List AO} {qs' : SV} (F : Frm p hh qs h' qs') (hst : Stk lo p h' qs' 512 (W ++ R')) : Sep lo lo2 p h' qs' qw qb W R' bk := by
  have := hst.lt
  have := H.l1
  obtain ⟨w1, w2⟩ := own_frm F H.w (by omega) H.ws
  obtain ⟨b1, b2⟩ := own_frm F H.b (by omega) H.bs
  exact ⟨hst, w1, b1, w2, b2, H.wb, H.l1, Nat.le_trans H.l2 F.len⟩
/-- One more behind the second list. -/
theorem Sep.grow {lo lo2 p : Nat} {hh : List AO} {qs qw qb : SV} {W R : List Rec} {bk : List Int} (H : Sep lo lo2 p hh qs qw qb W R bk) (o : Int) (lk : Nat) (hlk : lk ≤ lo2) (hn : bk.length ≤ 1000) :
    ∃ q2 h2, (∀ k, appB 3 1 8 lk hh (.v (.sc qb)) (some [.int .i64 o]) k = k (.v (.sc q2)) h2) ∧ Sep lo lo2 p h2 qs qw q2 W R (bk ++ [o]) ∧ (∀ a, Ext1 a hh → a.length ≤ lo2 → Ext1 a h2) := by
  obtain ⟨q2, h2, happ, hown, hl2, hg2, hx2, hq2, hap⟩ := grow_own (b := 8) (lk := lk) H.b [.int .i64 o] (by omega) (by simp) (by simp) hlk H.l2 (by simp; omega)
  have hpl := (List.getElem?_eq_some_iff.1 H.st.pp).1
  have hplo := H.st.lt
  have hl1 := H.l1
  have hlh := H.l2
  refine ⟨q2, h2, happ, ⟨⟨by rw [hg2 p (by omega)]; exact H.st.pp, ?_, hplo⟩, ?_, by simpa using hown, H.ws, ?_, ?_, hl1, by omega⟩, hx2⟩
  · rcases H.st.q with h | ⟨b, g, e1, e2, e3, e4⟩
    · exact .inl h
    · have hbl := (List.getElem?_eq_some_iff.1 e2).1
      have hA : Apart (.sl b 0 (W ++ R).length 2) qb := fun l o1 n1 s1 o' n' s' f1 f2 => by
        have := H.bs l ⟨_, _, _, f2⟩
        exact this o1 n1 s1 (by rw [e1]; exact f1)
      exact .inr ⟨b, g, e1, by rw [(hap b 0 (W ++ R).length 2 hA hbl).1]; exact e2, e3, e4⟩
  · rcases H.w with h | ⟨l, f1, f2, f3, f4, f5⟩
    · exact .inl h
    · have hA : Apart (.sl l 0 ((recs Rec.cells W).length / 2) 2) qb := by rw [← f3]; exact H.wb
      exact .inr ⟨l, f1, by omega, f3, by rw [(hap l 0 _ 2 hA f2).1]; exact f4, f5⟩
  · rintro j ⟨o1, n1, s1, e⟩
    rw [hq2] at e
    simp only [SV.sl.injEq] at e
    rw [← e.1]
    intro o2 n2 s2 e2
    rcases H.st.q with ⟨h, _⟩ | ⟨b, g, g1, g2, _, _⟩
    · rw [h] at e2; cases e2
    · have hbl := (List.getElem?_eq_some_iff.1 g2).1
      rw [g1] at e2
      simp only [SV.sl.injEq] at e2
      omega
  · intro l o1 n1 s1 o' n' s' f1 f2
    rw [hq2] at f2
    simp only [SV.sl.injEq] at f2
    rcases H.w with ⟨h, _⟩ | ⟨l', g1, g2, g3, _, _⟩
    · rw [h] at f1; cases f1
    · rw [g3] at f1
      simp only [SV.sl.injEq] at f1
      omega
end Go.AM
