/- Monitors' model: the document's New; plays. Conditions: none. -/
import Derived.Test.YtgcgbcdgbfeaaaaMr1
set_option linter.unusedVariables false
set_option linter.unusedSimpArgs false
set_option maxRecDepth 100000
-- NOTY: ze112, bu112
namespace Go.AM
open Go.Proofs
-- LENS: EvV.len, MonV.len, refC_len
theorem ownR_rep {V : MdV} {k : Nat} (h : V.mons = List.replicate k ⟨-1, 0, 0⟩) (o : Nat) : ownR V o = 0 ∧ cntR V o = 0 ∧ hshR V o = 0 := by
  unfold ownR cntR hshR
  rw [h]
  cases hg : (List.replicate k (⟨-1, 0, 0⟩ : MonV))[o]? with
  | none => exact ⟨rfl, rfl, rfl⟩
  | some x =>
    have := List.mem_of_getElem? hg
    rw [List.mem_replicate] at this
    rw [this.2]; exact ⟨rfl, rfl, rfl⟩
theorem flgR_rep {V : MdV} {k : Nat} (h : V.flags = List.replicate k false) (t : Nat) : flgR V t = false := by
  unfold flgR
  rw [h]
  cases hg : (List.replicate k false)[t]? with
  | none => rfl
  | some x =>
    have := List.mem_of_getElem? hg
    rw [List.mem_replicate] at this
    rw [this.2]
theorem refC_new (n m : Nat) (c : Int) : (((refC nilM).set 0 (.int .i64 n)).set 1 (.int .i64 m)).set 2 (.int .i64 c) = refC (newV n m c) := by
  have A : ∀ (V : MdV) (a b : Nat), V.mons = List.replicate a ⟨-1, 0, 0⟩ → V.flags = List.replicate b false → V.waits = [] → V.left = [] → ∀ (W : MdV) (a' b' : Nat), W.mons = List.replicate a' ⟨-1, 0, 0⟩ → W.flags = List.replicate b' false → W.waits = [] → W.left = [] → ∀ j, j < 227 → j ≠ 0 → j ≠ 1 → j ≠ 2 → refF W j = refF V j := fun V a b v1 v2 v3 v4 W a' b' w1 w2 w3 w4 j hj h0 h1 h2 => by
    have hV := ownR_rep v1
    have hW := ownR_rep w1
    have p1 : ∀ o, ownR W o = ownR V o := fun o => by rw [(hW o).1, (hV o).1]
    have p2 : ∀ o, cntR W o = cntR V o := fun o => by rw [(hW o).2.1, (hV o).2.1]
    have p3 : ∀ o, hshR W o = hshR V o := fun o => by rw [(hW o).2.2, (hV o).2.2]
    have p4 : ∀ o, flgR W o = flgR V o := fun o => by rw [flgR_rep w2, flgR_rep v2]
    have p5 : ∀ o t, wtR W o t = wtR V o t := fun o t => by unfold wtR; rw [w3, v3]
    have p6 : ∀ o t, lcR W o t = lcR V o t := fun o t => by unfold lcR; rw [w4, v4]
    have p7 : ∀ o t, lwR W o t = lwR V o t := fun o t => by unfold lwR; rw [w4, v4]
    unfold refF
    rw [if_neg h0, if_neg h0, if_neg h1, if_neg h1, if_neg h2, if_neg h2]
    simp only [p1, p2, p3, p4, p5, p6, p7]
  have s1 : (refC nilM).set 0 (.int .i64 n) = refC ⟨0, [], List.replicate n false, [], []⟩ := refC_set (by omega) (by simp [refF]) fun j hj hne => by
    by_cases h1 : j = 1
    · subst h1; rfl
    · by_cases h2 : j = 2
      · subst h2; rfl
      · exact A nilM 0 0 rfl rfl rfl rfl ⟨0, [], List.replicate n false, [], []⟩ 0 n rfl rfl rfl rfl j hj hne h1 h2
  have s2 : (refC ⟨0, [], List.replicate n false, [], []⟩).set 1 (.int .i64 m) = refC ⟨0, List.replicate m ⟨-1, 0, 0⟩, List.replicate n false, [], []⟩ := refC_set (by omega) (by simp [refF]) fun j hj hne => by
    by_cases h1 : j = 0
    · subst h1; rfl
    · by_cases h2 : j = 2
      · subst h2; rfl
      · exact A ⟨0, [], List.replicate n false, [], []⟩ 0 n rfl rfl rfl rfl ⟨0, List.replicate m ⟨-1, 0, 0⟩, List.replicate n false, [], []⟩ m n rfl rfl rfl rfl j hj h1 hne h2
  have s3 : (refC ⟨0, List.replicate m ⟨-1, 0, 0⟩, List.replicate n false, [], []⟩).set 2 (.int .i64 c) = refC (newV n m c) := refC_set (by omega) rfl fun j hj hne => by
    by_cases h1 : j = 0
    · subst h1; rfl
    · by_cases h2 : j = 1
      · subst h2; rfl
      · exact A ⟨0, List.replicate m ⟨-1, 0, 0⟩, List.replicate n false, [], []⟩ m n rfl rfl rfl rfl (newV n m c) m n rfl rfl rfl rfl j hj h1 h2 hne
  rw [s1, s2, s3]
theorem newV_H (n m : Nat) (c : Int) : MdH (newV n m c) := fun i o h => by
  have := List.mem_of_getElem? h
  rw [newV, List.mem_replicate] at this
  rw [this.2]; simp
section
variable {P : Program} {T : Tab} {K d : Nat} (S : Sd P T K)
include S
theorem bu112r (ps : List (Nat × AV)) : ∃ pl : List (Nat × Nat), pl.take 3 = [(0, 1), (1, 1), (2, 1)] ∧ buildA P 112 ps = (fillA (fun i => pl[i]?) (refC nilM) ps).map fun cs => .v (.ag cs) := by
  have h := bu112 S.p ps
  rw [Option.some.inj ((ze112 S.p).symm.trans (ze112r S))] at h
  exact ⟨_, rfl, h⟩
theorem bu112n : buildA P 112 [] = some (.v (.ag (refC nilM))) := by
  obtain ⟨pl, _, h⟩ := bu112r S []
  rw [h, fill_nil]; rfl
theorem bu112m (n m : Nat) (c : Int) : buildA P 112 [(0, .v (.sc (.int .i64 n))), (1, .v (.sc (.int .i64 m))), (2, .v (.sc (.int .i64 c)))] = some (.v (.ag (refC (newV n m c)))) := by
  obtain ⟨pl, hp, h⟩ := bu112r S [(0, .v (.sc (.int .i64 n))), (1, .v (.sc (.int .i64 m))), (2, .v (.sc (.int .i64 c)))]
  have p0 : pl[0]? = some (0, 1) := by have := congrArg (·[0]?) hp; simpa [List.getElem?_take] using this
  have p1 : pl[1]? = some (1, 1) := by have := congrArg (·[1]?) hp; simpa [List.getElem?_take] using this
  have p2 : pl[2]? = some (2, 1) := by have := congrArg (·[2]?) hp; simpa [List.getElem?_take] using this
  have q0 : splice (refC nilM) 0 [SV.int .i64 n] = (refC nilM).set 0 (.int .i64 n) := splice_one _ _ _ (by rw [refC_len]; omega)
  have q1 : splice ((refC nilM).set 0 (.int .i64 n)) 1 [SV.int .i64 m] = ((refC nilM).set 0 (.int .i64 n)).set 1 (.int .i64 m) := splice_one _ _ _ (by rw [List.length_set, refC_len]; omega)
  have q2 : splice (((refC nilM).set 0 (.int .i64 n)).set 1 (.int .i64 m)) 2 [SV.int .i64 c] = (((refC nilM).set 0 (.int .i64 n)).set 1 (.int .i64 m)).set 2 (.int .i64 c) := splice_one _ _ _ (by rw [List.length_set, List.length_set, refC_len]; omega)
  rw [h, fill_cons, p0, fillP_some 0 1 (.sc (.int .i64 n)) _ _ rfl (by rw [refC_len]; omega)]
  show Option.map _ (fillA _ (splice (refC nilM) 0 [SV.int .i64 n]) _) = _
  rw [q0, fill_cons, p1, fillP_some 1 1 (.sc (.int .i64 m)) _ _ rfl (by rw [List.length_set, refC_len]; omega)]
  show Option.map _ (fillA _ (splice _ 1 [SV.int .i64 m]) _) = _
  rw [q1, fill_cons, p2, fillP_some 2 1 (.sc (.int .i64 c)) _ _ rfl (by rw [List.length_set, List.length_set, refC_len]; omega)]
  show Option.map _ (fillA _ (splice _ 2 [SV.int .i64 c]) _) = _
  rw [q2, fill_nil, refC_new]; rfl
theorem s51f (hd : 1 ≤ d) (n m c : Int) (hb : ¬ ((1 ≤ n ∧ n ≤ 8) ∧ (1 ≤ m ∧ m ≤ 8) ∧ 1 ≤ c ∧ c ≤ 60)) (lk : Nat) (h : List AO) : ev P T K d 51 [.sc (.int .i64 n), .sc (.int .i64 m), .sc (.int .i64 c)] lk h = some (.tup [.ag (refC nilM), .sc (.int .i64 1)], h) := by
  obtain ⟨d, rfl⟩ : ∃ k, d = k + 1 := ⟨d - 1, by omega⟩
  refine ev_pure (at51 S.t) (refC_fr2 _ _) ?_
  unfold i51 Try.f51
  have hz := ze112r S
  have hb0 := bu112n S
  have hpV := partV S nilM
  by_cases c1 : n < 1
  · simp (maxSteps := 1000000) (disch := first | omega | (simp (disch := first | omega | (simp only [EvV.len, MonV.len, refC_len, List.length_append, List.length_cons, List.length_nil, List.length_set]; first | done | omega)) only [EvV.len, MonV.len, refC_len, amSide, Int.reduceToNat, Nat.reducePow, Nat.reduceMul]; first | done | omega)) only  [↓amPre, amPost, ↓s_lit', Nat.reduceAdd, Nat.reduceSub, List.replicate, retA, resultsA, resultA, toC, toCL, Nat.reduceEqDiff, part_all (ag112 S.p) (sz112 S.p), part_at (ag112 S.p) (sz112 S.p), store_last (sz112 S.p), (sz112 S.p), hz, hb0, hpV, splC, dec_t, dec_f, cells_self, cells_other, Nat.zero_add, Nat.add_zero]
    exact Ends.some rfl
  by_cases c2 : n > 8
  · simp (maxSteps := 1000000) (disch := first | omega | (simp (disch := first | omega | (simp only [EvV.len, MonV.len, refC_len, List.length_append, List.length_cons, List.length_nil, List.length_set]; first | done | omega)) only [EvV.len, MonV.len, refC_len, amSide, Int.reduceToNat, Nat.reducePow, Nat.reduceMul]; first | done | omega)) only  [↓amPre, amPost, ↓s_lit', Nat.reduceAdd, Nat.reduceSub, List.replicate, retA, resultsA, resultA, toC, toCL, Nat.reduceEqDiff, part_all (ag112 S.p) (sz112 S.p), part_at (ag112 S.p) (sz112 S.p), store_last (sz112 S.p), (sz112 S.p), hz, hb0, hpV, splC, dec_t, dec_f, cells_self, cells_other, Nat.zero_add, Nat.add_zero]
    exact Ends.some rfl
  by_cases c3 : m < 1
  · simp (maxSteps := 1000000) (disch := first | omega | (simp (disch := first | omega | (simp only [EvV.len, MonV.len, refC_len, List.length_append, List.length_cons, List.length_nil, List.length_set]; first | done | omega)) only [EvV.len, MonV.len, refC_len, amSide, Int.reduceToNat, Nat.reducePow, Nat.reduceMul]; first | done | omega)) only  [↓amPre, amPost, ↓s_lit', Nat.reduceAdd, Nat.reduceSub, List.replicate, retA, resultsA, resultA, toC, toCL, Nat.reduceEqDiff, part_all (ag112 S.p) (sz112 S.p), part_at (ag112 S.p) (sz112 S.p), store_last (sz112 S.p), (sz112 S.p), hz, hb0, hpV, splC, dec_t, dec_f, cells_self, cells_other, Nat.zero_add, Nat.add_zero]
    exact Ends.some rfl
  by_cases c4 : m > 8
  · simp (maxSteps := 1000000) (disch := first | omega | (simp (disch := first | omega | (simp only [EvV.len, MonV.len, refC_len, List.length_append, List.length_cons, List.length_nil, List.length_set]; first | done | omega)) only [EvV.len, MonV.len, refC_len, amSide, Int.reduceToNat, Nat.reducePow, Nat.reduceMul]; first | done | omega)) only  [↓amPre, amPost, ↓s_lit', Nat.reduceAdd, Nat.reduceSub, List.replicate, retA, resultsA, resultA, toC, toCL, Nat.reduceEqDiff, part_all (ag112 S.p) (sz112 S.p), part_at (ag112 S.p) (sz112 S.p), store_last (sz112 S.p), (sz112 S.p), hz, hb0, hpV, splC, dec_t, dec_f, cells_self, cells_other, Nat.zero_add, Nat.add_zero]
    exact Ends.some rfl
  by_cases c5 : c < 1
  · simp (maxSteps := 1000000) (disch := first | omega | (simp (disch := first | omega | (simp only [EvV.len, MonV.len, refC_len, List.length_append, List.length_cons, List.length_nil, List.length_set]; first | done | omega)) only [EvV.len, MonV.len, refC_len, amSide, Int.reduceToNat, Nat.reducePow, Nat.reduceMul]; first | done | omega)) only  [↓amPre, amPost, ↓s_lit', Nat.reduceAdd, Nat.reduceSub, List.replicate, retA, resultsA, resultA, toC, toCL, Nat.reduceEqDiff, part_all (ag112 S.p) (sz112 S.p), part_at (ag112 S.p) (sz112 S.p), store_last (sz112 S.p), (sz112 S.p), hz, hb0, hpV, splC, dec_t, dec_f, cells_self, cells_other, Nat.zero_add, Nat.add_zero]
    exact Ends.some rfl
  have c6 : c > 60 := by omega
  simp (maxSteps := 1000000) (disch := first | omega | (simp (disch := first | omega | (simp only [EvV.len, MonV.len, refC_len, List.length_append, List.length_cons, List.length_nil, List.length_set]; first | done | omega)) only [EvV.len, MonV.len, refC_len, amSide, Int.reduceToNat, Nat.reducePow, Nat.reduceMul]; first | done | omega)) only  [↓amPre, amPost, ↓s_lit', Nat.reduceAdd, Nat.reduceSub, List.replicate, retA, resultsA, resultA, toC, toCL, Nat.reduceEqDiff, part_all (ag112 S.p) (sz112 S.p), part_at (ag112 S.p) (sz112 S.p), store_last (sz112 S.p), (sz112 S.p), hz, hb0, hpV, splC, dec_t, dec_f, cells_self, cells_other, Nat.zero_add, Nat.add_zero]
  exact Ends.some rfl
theorem s51 (hd : 1 ≤ d) {n m : Nat} {c : Int} (h1 : 1 ≤ n ∧ n ≤ 8) (h2 : 1 ≤ m ∧ m ≤ 8) (h3 : 1 ≤ c ∧ c ≤ 60) (lk : Nat) (h : List AO) : ev P T K d 51 [.sc (.int .i64 n), .sc (.int .i64 m), .sc (.int .i64 c)] lk h = some (.tup [.ag (refC (newV n m c)), .sc (.int .i64 0)], h) := by
  obtain ⟨d, rfl⟩ : ∃ k, d = k + 1 := ⟨d - 1, by omega⟩
  refine ev_pure (at51 S.t) (refC_fr2 _ _) ?_
  unfold i51 Try.f51
  have hz := ze112r S
  have hb0 := bu112m S n m c
  have hpV := partV S (newV n m c)
  simp (maxSteps := 1000000) (disch := first | omega | (simp (disch := first | omega | (simp only [EvV.len, MonV.len, refC_len, List.length_append, List.length_cons, List.length_nil, List.length_set]; first | done | omega)) only [EvV.len, MonV.len, refC_len, amSide, Int.reduceToNat, Nat.reducePow, Nat.reduceMul]; first | done | omega)) only  [↓amPre, amPost, ↓s_lit', Nat.reduceAdd, Nat.reduceSub, List.replicate, retA, resultsA, resultA, toC, toCL, Nat.reduceEqDiff, part_all (ag112 S.p) (sz112 S.p), part_at (ag112 S.p) (sz112 S.p), store_last (sz112 S.p), (sz112 S.p), hz, hb0, hpV, splC, dec_t, dec_f, cells_self, cells_other, Nat.zero_add, Nat.add_zero]
  exact Ends.some rfl
structure PlSt where
  i : Nat
  V : MdV
  h : List AO
set_option maxHeartbeats 16000000 in
theorem s11 (hd : 8 ≤ d) (a b c : Int) (q : SV) (l : List EvV) (lk : Nat) (h : List AO) (hq : Rs EvV.cells 5 h q l) :
    ev P T K d 11 [.ag [.int .i64 a, .int .i64 b, .int .i64 c], .sc q] lk h = some (.v (.sc (.bool true)), h) := by
  obtain ⟨d, rfl⟩ : ∃ k, d = k + 1 := ⟨d - 1, by omega⟩
  refine ev_pure (at11 S.t) rfl ?_
  unfold i11 Try.f11
  have f50 := fun lk h => s50 S (show 1 ≤ d by omega) lk h
  have hz := ze112r S
  have hpV := fun V => partV S V
  have i0 : ((0 : Int) ≤ 0 ∧ (0 : Int) < ((3 : Nat) : Int)) = True := by simp
  have i1 : ((0 : Int) ≤ 1 ∧ (1 : Int) < ((3 : Nat) : Int)) = True := by simp
  have i2 : ((0 : Int) ≤ 2 ∧ (2 : Int) < ((3 : Nat) : Int)) = True := by simp
  have n1 : binOpA P .neq 92 (.v (.sc .nilp)) (.v (.sc .nilp)) = some (.v (.sc (.bool false))) := by simp [binOpA, eqA, un92 S.p]
  by_cases hb : (1 ≤ a ∧ a ≤ 8) ∧ (1 ≤ b ∧ b ≤ 8) ∧ 1 ≤ c ∧ c ≤ 60
  · obtain ⟨n, rfl⟩ := Int.eq_ofNat_of_zero_le (show 0 ≤ a by omega)
    obtain ⟨m, rfl⟩ := Int.eq_ofNat_of_zero_le (show 0 ≤ b by omega)
    obtain ⟨v, h1, e41, X1, p, bm, bf, bw, bl, rfl, M0, b0, b1, b2, b3, b4⟩ := s41 S (show 2 ≤ d by omega) (n := n) (m := m) (c := c) (by omega) (by omega) hb.2.2 h.length (h ++ [.rw 95 [.int .i64 n, .int .i64 m, .int .i64 c]]) (by simp)
    have e51 := fun lk h => s51 S (show 1 ≤ d by omega) (n := n) (m := m) (c := c) (by omega) (by omega) hb.2.2 lk h
    have hn1 : binOpA P .eql 92 (.v (.sc (.ptr p 0))) (.v (.sc .nilp)) = some (.v (.sc (.bool false))) := by simp [binOpA, eqA, un92 S.p]
    have hx1 := X1.len
    simp only [List.length_append, List.length_cons, List.length_nil] at hx1 b0 b1 b2 b3 b4
    have hX : Ext1 h h1 := ((Ext1.refl h).push _).trans X1
    have hcs : cellsAt h1 h.length = some [.int .i64 n, .int .i64 m, .int .i64 c] := by rw [X1.cells (by simp)]; exact cells_self _ _ _ rfl
    obtain ⟨q', e42, hE⟩ := s42 S (show 1 ≤ d by omega) q l h.length (h1 ++ [.rw 112 (refC (newV n m c))]) (hq.ext (hX.push _))
    have hlen := (hE h hq).len (un91 S.p)
    simp (maxSteps := 1000000) (disch := first | omega | (simp (disch := first | omega | (simp only [EvV.len, MonV.len, refC_len, List.length_append, List.length_cons, List.length_nil, List.length_set]; first | done | omega)) only [EvV.len, MonV.len, refC_len, amSide, Int.reduceToNat, Nat.reducePow, Nat.reduceMul]; first | done | omega)) only  [↓amPre, amPost, ↓s_lit', Nat.reduceAdd, Nat.reduceSub, List.replicate, retA, resultsA, resultA, toC, toCL, Nat.reduceEqDiff, (ze98 S.p), eql_bool (un4 S.p), neq_bool (un4 S.p), iaddr_sl (un91 S.p) (sz98 S.p), iaddr_ptr (un95 S.p) (sz3 S.p), len_sl (un91 S.p), len_nils (un91 S.p), part_all (ag112 S.p) (sz112 S.p), part_at (ag112 S.p) (sz112 S.p), part_sc (ag3 S.p), part_all (ag98 S.p) (sz98 S.p), part_at (ag98 S.p) (sz98 S.p), store_last (sz112 S.p), (sz112 S.p), store_last (sz98 S.p), (sz98 S.p), i0, i1, i2, e41, e51, e42, hcs, hz, hpV, splC, hn1, hlen, bneI_f, bne_self_eq_false, cells_self, cells_other, Int.reduceToNat, Nat.reduceMul, Nat.zero_add, Nat.add_zero]
    generalize hN : min l.length 200 = N at *
    refine ends_loop (X := PlSt) ⟨0, newV n m c, _⟩ [4, 10, 11, 12, 61, 62, 63, 64, 65, 66, 67, 68, 69, 70, 71, 72, 73, 74, 75, 76, 77, 78, 79, 80, 81, 82, 83] (fun x => x.i ≤ N ∧ Ext1 h x.h ∧ MdAt x.h p bm bf bw bl x.V ∧ MdI n m c x.V ∧ MdW x.V ∧ MdH x.V ∧ x.h[h1.length]? = some (.rw 112 (refC x.V))) (fun x => N - x.i)
      (fun x e => e.set 60 (.v (.sc (.int .i64 x.i)))) (fun x => x.h)
      (by have := S.k; show _ < K; simp only; omega) ⟨by simp only; omega, hX.push _, M0.ext ((Ext1.refl h1).push _), newV_I (by omega) (by omega) hb.2.2, (fun x hx => by cases hx), newV_H n m c, obj_self _ _ rfl⟩ rfl rfl ?_
    obtain ⟨m1, m2, m3, m4, m5⟩ := M0.lts
    clear M0 e41 e51 X1 hcs
    rintro ⟨i, V, hj⟩ ⟨hi, hx, M, I, Wy, Hh, hbx⟩ again hag e he
    simp only at hi hx M I Wy Hh hbx hag he
    simp only [↓amPre, amPost, ↓s_lit', Nat.reduceAdd, Nat.reduceSub, List.replicate, retA, resultsA, resultA, toC, toCL, Nat.reduceEqDiff] at he
    simp only [↓amPre, amPost, ↓s_lit', Nat.reduceAdd, Nat.reduceSub, List.replicate, retA, resultsA, resultA, toC, toCL, Nat.reduceEqDiff, he]
    refine ends_cond (fun hc1 => ?_) (fun hc1 => ?_)
    rotate_left
    · simp (maxSteps := 1000000) (disch := first | omega | (simp (disch := first | omega | (simp only [EvV.len, MonV.len, refC_len, List.length_append, List.length_cons, List.length_nil, List.length_set]; first | done | omega)) only [EvV.len, MonV.len, refC_len, amSide, Int.reduceToNat, Nat.reducePow, Nat.reduceMul]; first | done | omega)) only  [↓amPre, amPost, ↓s_lit', Nat.reduceAdd, Nat.reduceSub, List.replicate, retA, resultsA, resultA, toC, toCL, Nat.reduceEqDiff, he, (ze98 S.p), eql_bool (un4 S.p), neq_bool (un4 S.p), iaddr_sl (un91 S.p) (sz98 S.p), iaddr_ptr (un95 S.p) (sz3 S.p), len_sl (un91 S.p), len_nils (un91 S.p), part_all (ag112 S.p) (sz112 S.p), part_at (ag112 S.p) (sz112 S.p), part_sc (ag3 S.p), part_all (ag98 S.p) (sz98 S.p), part_at (ag98 S.p) (sz98 S.p), store_last (sz112 S.p), (sz112 S.p), store_last (sz98 S.p), (sz98 S.p), f50]
      exact Ends.some rfl
    simp only [decide_eq_true_eq] at hc1
    have hiN : i < N := by omega
    have hxl := hx.len
    have hbl1 := (List.getElem?_eq_some_iff.1 hbx).1
    rcases hE hj (hq.ext hx) with ⟨rfl, hz⟩ | ⟨b, rfl, hbl, hcb, hNl⟩
    · omega
    obtain ⟨y, hy⟩ : ∃ y, l[i]? = some y := ⟨_, List.getElem?_eq_getElem (by omega)⟩
    have hpt := recs_part (ag98 S.p) (sz98 S.p) EvV.len hy
    have hpy := partR S y
    have hyl := EvV.len y
    have hc7 := cells_at hbx
    have f44 := fun lk h => s44 S (show 1 ≤ d by omega) y lk h
    have f52 := fun lk h => s52 S (show 4 ≤ d by omega) I Wy Hh hb.2.2 y lk h
    have P2 := ((Ext1.refl hj).push (.rw 98 y.cells)).push (.rw 112 (refC (nextM V y)))
    have Q1 : cellsAt (hj ++ [.rw 98 y.cells] ++ [.rw 112 (refC (nextM V y))]) hj.length = some y.cells := by rw [cells_other _ _ (by simp)]; exact cells_self _ _ _ rfl
    have Q2 : (hj ++ [.rw 98 y.cells] ++ [.rw 112 (refC (nextM V y))])[hj.length + 1]? = some (.rw 112 (refC (nextM V y))) := obj_self _ _ (by simp)
    have M1 := M.ext P2
    obtain ⟨v3, h3, e43, rfl, M3, F3⟩ := s43 S (show 5 ≤ d by omega) M1 I.ok y h.length (by omega)
    have hf3 := F3.1
    simp only [List.length_append, List.length_cons, List.length_nil] at hf3
    have hq2 : cellsAt h3 (hj.length + 1) = some (refC (nextM V y)) := cells_at ((F3.2 _ (by simp) (by omega) (by omega) (by omega) (by omega)).trans Q2)
    have I3 := I.next hb.2.2 y
    have Wy3 := Wy.next y
    have Hh3 := Hh.next y
    have hx3 : Ext1 h h3 := F3.ext1 ((hx.push _).push _) (by omega) (by omega) (by omega) (by omega)
    have f53 := fun lk => s53 S (show 4 ≤ d by omega) M3 I3 hb.2.2 lk
    have hl7 : h3[h1.length]? = some (.rw 112 (refC V)) := (F3.2 _ (by simp; omega) (by omega) (by omega) (by omega) (by omega)).trans (ext1_get P2 hbx)
    have hc7b := cells_at hl7
    have hst : storeA P h3 h.length 112 (.v (.sc (.ptr h1.length 0))) (.v (.ag (refC (nextM V y)))) = some (h3.set h1.length (.rw 112 (refC (nextM V y)))) := by
      rw [store_at (n := 227) (c := .ag (refC (nextM V y))) hl7 (by omega) (sz112 S.p) (refC_len _) (by rw [refC_len]; omega)]
      show some (h3.set h1.length (AO.rw 112 (splice (refC V) 0 (refC (nextM V y))))) = _
      rw [splC]
    have M5 := M3.frame (l := h1.length) (.rw 112 (refC (nextM V y))) (by have := M3.lts; omega) (by omega) (by omega) (by omega) (by omega)
    simp (maxSteps := 1000000) (disch := first | omega | (simp (disch := first | omega | (simp only [EvV.len, MonV.len, refC_len, List.length_append, List.length_cons, List.length_nil, List.length_set]; first | done | omega)) only [EvV.len, MonV.len, refC_len, amSide, Int.reduceToNat, Nat.reducePow, Nat.reduceMul]; first | done | omega)) only  [↓amPre, amPost, ↓s_lit', Nat.reduceAdd, Nat.reduceSub, List.replicate, retA, resultsA, resultA, toC, toCL, Nat.reduceEqDiff, he, (ze98 S.p), eql_bool (un4 S.p), neq_bool (un4 S.p), iaddr_sl (un91 S.p) (sz98 S.p), iaddr_ptr (un95 S.p) (sz3 S.p), len_sl (un91 S.p), len_nils (un91 S.p), part_all (ag112 S.p) (sz112 S.p), part_at (ag112 S.p) (sz112 S.p), part_sc (ag3 S.p), part_all (ag98 S.p) (sz98 S.p), part_at (ag98 S.p) (sz98 S.p), store_last (sz112 S.p), (sz112 S.p), store_last (sz98 S.p), (sz98 S.p), idx_ok, hcb, hpt, hpy, hpV, hz, splC, hc7, hc7b, hq2, Q1, f44, f52, e43, f53, hst, bneI_f, bne_self_eq_false, cells_self, cells_other, Int.toNat_natCast, Nat.zero_add, Nat.add_zero, wrap_i64]
    refine hag ⟨i + 1, nextM V y, h3.set h1.length (.rw 112 (refC (nextM V y)))⟩ ⟨by simp only; omega, hx3.set (by omega) _, M5, I3, Wy3, Hh3, List.getElem?_set_self (by omega)⟩ (by simp only; omega) _ ?_
    simp (maxSteps := 1000000) (disch := first | omega | (simp (disch := first | omega | (simp only [EvV.len, MonV.len, refC_len, List.length_append, List.length_cons, List.length_nil, List.length_set]; first | done | omega)) only [EvV.len, MonV.len, refC_len, amSide, Int.reduceToNat, Nat.reducePow, Nat.reduceMul]; first | done | omega)) only [↓amPre, amPost, ↓s_lit', Nat.reduceAdd, Nat.reduceSub, List.replicate, retA, resultsA, resultA, toC, toCL, Nat.reduceEqDiff, Int.natCast_add, Int.cast_ofNat_Int, dec_t, dec_f]
  · have e41 := fun lk h => s41f S (show 2 ≤ d by omega) a b c hb lk h
    have e51 := fun lk h => s51f S (show 1 ≤ d by omega) a b c hb lk h
    simp (maxSteps := 1000000) (disch := first | omega | (simp (disch := first | omega | (simp only [EvV.len, MonV.len, refC_len, List.length_append, List.length_cons, List.length_nil, List.length_set]; first | done | omega)) only [EvV.len, MonV.len, refC_len, amSide, Int.reduceToNat, Nat.reducePow, Nat.reduceMul]; first | done | omega)) only  [↓amPre, amPost, ↓s_lit', Nat.reduceAdd, Nat.reduceSub, List.replicate, retA, resultsA, resultA, toC, toCL, Nat.reduceEqDiff, (ze98 S.p), eql_bool (un4 S.p), neq_bool (un4 S.p), iaddr_sl (un91 S.p) (sz98 S.p), iaddr_ptr (un95 S.p) (sz3 S.p), len_sl (un91 S.p), len_nils (un91 S.p), part_all (ag112 S.p) (sz112 S.p), part_at (ag112 S.p) (sz112 S.p), part_sc (ag3 S.p), part_all (ag98 S.p) (sz98 S.p), part_at (ag98 S.p) (sz98 S.p), store_last (sz112 S.p), (sz112 S.p), store_last (sz98 S.p), (sz98 S.p), i0, i1, i2, e41, e51, hz, hpV, splC, f50, n1, beqI_t, beqI_f, beq_self_eq_true, bneI_f, bneI_t, bne_self_eq_false, cells_self, cells_other, Int.reduceToNat, Nat.reduceMul, Nat.zero_add, Nat.add_zero]
    exact Ends.some rfl
end
end Go.AM
