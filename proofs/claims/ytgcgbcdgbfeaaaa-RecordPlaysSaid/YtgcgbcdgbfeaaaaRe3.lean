/- Records: one more, one less. Conditions: none. -/
import Derived.Test.YtgcgbcdgbfeaaaaRe2
set_option linter.unusedVariables false
set_option linter.unusedSimpArgs false
set_option maxRecDepth 100000
namespace Go.AM
open Go.Proofs
-- LENS: Rec.len
theorem splice_mid (A B g new : List SV) (h : new.length = B.length) : splice (A ++ B ++ g) A.length new = A ++ new ++ g := by
  rw [splice_def, h]
  rw [List.append_assoc A B g, List.take_left, List.append_assoc A new _, ← List.drop_drop, List.drop_left, List.drop_left, List.append_assoc]
theorem del_cells (A B D g Z : List SV) (h : Z.length = B.length) : splice (splice (A ++ B ++ D ++ g) A.length D) (A.length + D.length) Z = A ++ D ++ Z ++ g := by
  have e1 : splice (A ++ B ++ D ++ g) A.length D = A ++ D ++ (B ++ D ++ g).drop D.length := by
    rw [splice_def, show A ++ B ++ D ++ g = A ++ (B ++ D ++ g) by simp, List.take_left, ← List.drop_drop, List.drop_left]
  have hl : (A ++ D).length = A.length + D.length := List.length_append
  rw [e1, splice_def, ← hl, List.take_left, ← List.drop_drop, List.drop_left, List.drop_drop, h]
  have : (B ++ D ++ g).drop (D.length + B.length) = g := by
    rw [Nat.add_comm, ← List.length_append, List.drop_left]
  rw [this]
theorem s67 {P : Program} {T : Tab} {K d : Nat} (S : Sd P T K) (hd : 1 ≤ d) {l : List Rec} {g : List SV} {i : Nat} {x : Rec} (hx : l[i]? = some x) (hl : l.length ≤ 600) {b lk : Nat} (hlk : lk ≤ b) {hh : List AO} (hb : hh[b]? = some (.rw 62 (recs Rec.cells l ++ g))) :
    ev P T K d 67 [.sc (.sl b 0 l.length 2), .sc (.int .i64 (i : Nat)), .sc (.int .i64 ((i + 1 : Nat) : Int))] lk hh =
      some (.v (.sc (.sl b 0 (l.length - 1) 2)), hh.set b (.rw 62 (recs Rec.cells (l.take i ++ l.drop (i + 1)) ++ ([.int .i64 0, .int .u64 0] ++ g)))) := by
  obtain ⟨d, rfl⟩ : ∃ k, d = k + 1 := ⟨d - 1, by omega⟩
  rw [ev_run (at67 S.t)]
  unfold i67 Try.f67
  have hi := (List.getElem?_eq_some_iff.1 hx).1
  have hbl := (List.getElem?_eq_some_iff.1 hb).1
  have hsplit : recs Rec.cells l = recs Rec.cells (l.take i) ++ x.cells ++ recs Rec.cells (l.drop (i + 1)) := by
    have h1 : l = l.take i ++ x :: l.drop (i + 1) := by
      have := List.getElem?_eq_some_iff.1 hx
      rw [← this.2, ← List.drop_eq_getElem_cons this.1, List.take_append_drop]
    conv => lhs; rw [h1]
    rw [recs_app, recs_cons, List.append_assoc]
  have hAl : (recs Rec.cells (l.take i)).length = i * 2 := by rw [recs_len Rec.len, List.length_take]; congr 1; omega
  have hDl : (recs Rec.cells (l.drop (i + 1))).length = (l.length - (i + 1)) * 2 := by rw [recs_len Rec.len, List.length_drop]
  have hDA : recs Rec.cells (l.take i ++ l.drop (i + 1)) = recs Rec.cells (l.take i) ++ recs Rec.cells (l.drop (i + 1)) := recs_app _ _ _
  have hcl : (recs Rec.cells l ++ g).length = l.length * 2 + g.length := by rw [List.length_append, recs_len Rec.len]
  have hc := cells_at hb
  have hxl := Rec.len x
  have hdr : (recs Rec.cells l ++ g).drop ((i + 1) * 2) = recs Rec.cells (l.drop (i + 1)) ++ g := by
    rw [List.drop_append_of_le_length (by rw [recs_len Rec.len]; omega), recs_drop Rec.len]
  have htk : (recs Rec.cells (l.drop (i + 1)) ++ g).take ((l.length - (i + 1)) * 2) = recs Rec.cells (l.drop (i + 1)) := by
    rw [← hDl, List.take_left]
  rw [hDA]
  have hi1 : (i : Int) ≠ ((i + 1 : Nat) : Int) := by omega
  rcases Nat.eq_or_lt_of_le (show i + 1 ≤ l.length by omega) with he | hlt
  · have hD : recs Rec.cells (l.drop (i + 1)) = [] := by rw [he, List.drop_length]; rfl
    rw [hD] at hdr htk hsplit
    rw [hD]
    simp only [List.nil_append] at hdr htk
    have hfin : splice (recs Rec.cells l ++ g) (i * 2) [.int .i64 0, .int .u64 0] = recs Rec.cells (l.take i) ++ [] ++ ([.int .i64 0, .int .u64 0] ++ g) := by
      rw [hsplit, ← hAl, List.append_nil, splice_mid _ _ _ _ (by rw [hxl]; rfl)]; simp
    have hli : l.length - 1 = i := by omega
    generalize recs Rec.cells l ++ g = R at *
    have hz : (List.replicate 1 [SV.int .i64 0, .int .u64 0]).flatten = [.int .i64 0, .int .u64 0] := rfl
    simp (maxSteps := 1000000) (disch := first | omega | (simp (disch := first | omega | (simp only [Rec.len, List.length_append, List.length_cons, List.length_nil, List.length_set]; first | done | omega)) only [Rec.len, amSide, Int.reduceToNat, Nat.reducePow, Nat.reduceMul]; first | done | omega)) only  [↓amPre, amPost, ↓s_lit', Nat.reduceAdd, Nat.reduceSub, List.replicate, retA, resultsA, resultA, toC, toCL, Nat.reduceEqDiff, append_at (un59 S.p) (sz62 S.p) (by62 S.p) (ze62 S.p) (by decide) (by decide) rfl, sl_cells (sz62 S.p), clear_sl (un59 S.p) (ze62 S.p), len_sl (un59 S.p), len_nils (un59 S.p), slice_lo (un59 S.p) (sz62 S.p), slice_hi (un59 S.p) (sz62 S.p), slice_lohi (un59 S.p) (sz62 S.p), slice_nil (un59 S.p) (sz62 S.p), slice_none (un59 S.p), sliceE_lohi (un59 S.p) (sz62 S.p) (by decide), sliceE_hi (un59 S.p) (sz62 S.p) (by decide), slice_mx (un59 S.p), sliceE_mx (un59 S.p) (sz62 S.p) (by decide), beqI_f, hc, hcl, hdr, htk, hb, appB_nil, idx_ok, hli, hfin, hz, Int.toNat_natCast, Nat.zero_add, Nat.sub_zero, Int.ofNat_sub]
    rw [show l.length - i = 1 by omega, hz, hfin]
    rfl
  · have hfin := del_cells (recs Rec.cells (l.take i)) x.cells (recs Rec.cells (l.drop (i + 1))) g [.int .i64 0, .int .u64 0] (by rw [hxl]; rfl)
    rw [← hsplit, hAl, hDl, show i * 2 + (l.length - (i + 1)) * 2 = (l.length - 1) * 2 by omega] at hfin
    have hz : (List.replicate 1 [SV.int .i64 0, .int .u64 0]).flatten = [.int .i64 0, .int .u64 0] := rfl
    generalize hDe : recs Rec.cells (l.drop (i + 1)) = D at *
    generalize recs Rec.cells l ++ g = R at *
    have hsl : (splice R (i * 2) D).length = l.length * 2 + g.length := by rw [splice_length (by omega)]; exact hcl
    have hb2 : (hh.set b (.rw 62 (splice R (i * 2) D)))[b]? = some (.rw 62 (splice R (i * 2) D)) := List.getElem?_set_self hbl
    have hmod : D.length % 2 = 0 := by omega
    have hdiv : i + D.length / 2 = l.length - 1 := by omega
    have hsub : ((l.length - 1 : Nat) : Int) = (l.length : Int) - 1 := by omega
    simp (maxSteps := 1000000) (disch := first | omega | (simp (disch := first | omega | (simp only [Rec.len, List.length_append, List.length_cons, List.length_nil, List.length_set]; first | done | omega)) only [Rec.len, amSide, Int.reduceToNat, Nat.reducePow, Nat.reduceMul]; first | done | omega)) only  [↓amPre, amPost, ↓s_lit', Nat.reduceAdd, Nat.reduceSub, List.replicate, retA, resultsA, resultA, toC, toCL, Nat.reduceEqDiff, append_at (un59 S.p) (sz62 S.p) (by62 S.p) (ze62 S.p) (by decide) (by decide) rfl, sl_cells (sz62 S.p), clear_sl (un59 S.p) (ze62 S.p), len_sl (un59 S.p), len_nils (un59 S.p), slice_lo (un59 S.p) (sz62 S.p), slice_hi (un59 S.p) (sz62 S.p), slice_lohi (un59 S.p) (sz62 S.p), slice_nil (un59 S.p) (sz62 S.p), slice_none (un59 S.p), sliceE_lohi (un59 S.p) (sz62 S.p) (by decide), sliceE_hi (un59 S.p) (sz62 S.p) (by decide), slice_mx (un59 S.p), sliceE_mx (un59 S.p) (sz62 S.p) (by decide), beqI_f, hc, hcl, hdr, htk, hb, hb2, hsl, appB_slG, appC_in, hmod, hdiv, idx_ok, Int.toNat_natCast, Nat.zero_add, Nat.sub_zero, List.set_set]
    rw [show l.length - (l.length - 1) = 1 by omega, hz, hfin]
    simp
/-- One more: the slice's part. -/
theorem stk_app {lo p : Nat} {hh : List AO} {qs : SV} {n : Int} {l : List Rec} (H : Stk lo p hh qs n l) (hl : l.length ≤ 600) (y : Rec) (lk : Nat) (hlk : lk ≤ lo) (hlo : lo ≤ hh.length) :
    ∃ q2 h2, (∀ k, appB 62 2 16 lk (hh ++ [.rw 62 y.cells]) (.v (.sc qs)) (some y.cells) k = k (.v (.sc q2)) h2) ∧ h2[p]? = some (.rw 88 [.int .i64 n, qs]) ∧
      (∃ b g, q2 = .sl b 0 (l ++ [y]).length 2 ∧ h2[b]? = some (.rw 62 (recs Rec.cells (l ++ [y]) ++ g)) ∧ g.length % 2 = 0 ∧ lo ≤ b) ∧ Frm p hh qs h2 q2 := by
  have hp := (List.getElem?_eq_some_iff.1 H.pp).1
  have hyl := Rec.len y
  have hlen : (l ++ [y]).length = l.length + 1 := by simp
  have f0 : Frm p hh qs (hh ++ [.rw 62 y.cells]) qs := (Frm.refl p hh qs).push _
  rcases H.q with ⟨rfl, rfl⟩ | ⟨b, g, rfl, hb, hg, hlb⟩
  · refine ⟨_, _, fun k => appB_nilsG 62 2 16 y.cells k (by omega) (by omega) (by rw [hyl]; simp), ?_, ⟨(hh ++ [AO.rw 62 y.cells]).length, [], ?_, ?_, rfl, by first | (simp; done) | (simp; omega)⟩, ?_⟩
    · rw [List.getElem?_append_left (by simp; omega), List.getElem?_append_left hp]; exact H.pp
    · simp [hyl]
    · simp [recs]
    · refine ⟨fun j h1 h2 h3 => ?_, fun j h1 h2 h3 o' n' s' he => ?_, by first | (simp; done) | (simp; omega)⟩
      · rw [List.getElem?_append_left (by simp; omega), List.getElem?_append_left h1]
      · simp only [SV.sl.injEq, List.length_append, List.length_singleton] at he; omega
  · have hbl := (List.getElem?_eq_some_iff.1 hb).1
    have hb1 : (hh ++ [AO.rw 62 y.cells])[b]? = some (.rw 62 (recs Rec.cells l ++ g)) := by rw [List.getElem?_append_left hbl]; exact hb
    have hpb : p ≠ b := by have := H.lt; omega
    have hcl : (recs Rec.cells l ++ g).length = l.length * 2 + g.length := by rw [List.length_append, recs_len Rec.len]
    cases g with
    | nil =>
      rw [List.append_nil] at hb1 hcl
      refine ⟨_, _, fun k => by rw [appB_slG _ _ _ _ _ _ _ _ (by omega) (by omega), hb1, appC_rw _ _ _ _ _ _ _ _ _ (by omega) (by rw [hcl]; simp) (by rw [hyl]; omega)], ?_, ⟨(hh ++ [AO.rw 62 y.cells]).length, [], ?_, ?_, rfl, by first | (simp; done) | (simp; omega)⟩, ?_⟩
      · rw [List.getElem?_append_left (by simp; omega), List.getElem?_set_ne (Ne.symm hpb), List.getElem?_append_left hp]; exact H.pp
      · rw [hyl, hlen]
      · rw [List.append_nil, List.drop_zero, recs_snoc]; simp
      · refine ⟨fun j h1 h2 h3 => ?_, fun j h1 h2 h3 o' n' s' he => ?_, by first | (simp; done) | (simp; omega)⟩
        · have hjb : b ≠ j := fun e => h3 0 l.length 2 (by rw [e])
          rw [List.getElem?_append_left (by simp; omega), List.getElem?_set_ne hjb, List.getElem?_append_left h1]
        · simp only [SV.sl.injEq, List.length_append, List.length_singleton] at he; omega
    | cons g0 g' =>
      obtain ⟨g1, g2, rfl⟩ : ∃ a t, g' = a :: t := by
        cases g' with
        | nil => simp at hg
        | cons a t => exact ⟨a, t, rfl⟩
      simp only [List.length_cons] at hg hcl
      refine ⟨_, _, fun k => by rw [appB_slG _ _ _ _ _ _ _ _ (by omega) (by omega), hb1, appC_in _ _ _ _ _ _ _ _ _ (by omega) (by omega) (by omega)], ?_, ⟨b, g2, ?_, ?_, by omega, hlb⟩, ?_⟩
      · rw [List.getElem?_set_ne (Ne.symm hpb), List.getElem?_append_left hp]; exact H.pp
      · rw [hyl, hlen]
      · rw [List.getElem?_set_self (by simp; omega), Nat.zero_add]
        have hm := splice_mid (recs Rec.cells l) [g0, g1] g2 y.cells (by rw [hyl]; rfl)
        rw [recs_len Rec.len, List.append_assoc] at hm
        simp only [List.cons_append, List.nil_append] at hm
        rw [hm, recs_snoc]
      · refine ⟨fun j h1 h2 h3 => ?_, fun j h1 h2 h3 o' n' s' he => ?_, by simp⟩
        · have hjb : b ≠ j := fun e => h3 0 l.length 2 (by rw [e])
          rw [List.getElem?_set_ne hjb, List.getElem?_append_left h1]
        · simp only [SV.sl.injEq] at he
          exact h3 0 l.length 2 (by rw [he.1])
theorem Frm.setp {p : Nat} {hh : List AO} {qs : SV} {h' : List AO} {qs' : SV} (H : Frm p hh qs h' qs') (o : AO) : Frm p hh qs (h'.set p o) qs' :=
  ⟨fun j h1 h2 h3 => by rw [List.getElem?_set_ne (Ne.symm h2)]; exact H.get j h1 h2 h3, H.at_, by have := H.len; simpa using this⟩
theorem s26 {P : Program} {T : Tab} {K d : Nat} (S : Sd P T K) (hd : 2 ≤ d) {lo p : Nat} {hh : List AO} {qs : SV} {n : Int} {l : List Rec} (H : Stk lo p hh qs n l) (hn : 0 < n) (hl : l.length ≤ 600) (o s : Int) (lk : Nat) (hlk : lk ≤ p) (hlo : lo ≤ hh.length) :
    (¬ (0 ≤ o ∧ o < 65536 ∧ (l.length : Int) ≠ n) → ∃ e, e ≠ 0 ∧ ev P T K d 26 [.sc (.ptr p 0), .sc (.int .i64 o), .sc (.int .u64 s)] lk hh = some (.tup [.sc (.int .i64 0), .sc (.int .i64 e)], hh)) ∧
    (0 ≤ o ∧ o < 65536 ∧ (l.length : Int) ≠ n → ∃ h' qs', ev P T K d 26 [.sc (.ptr p 0), .sc (.int .i64 o), .sc (.int .u64 s)] lk hh = some (.tup [.sc (.int .i64 (l.length : Int)), .sc (.int .i64 0)], h') ∧ Stk lo p h' qs' n (l ++ [⟨o, s⟩]) ∧ Frm p hh qs h' qs') := by
  obtain ⟨d, rfl⟩ : ∃ k, d = k + 1 := ⟨d - 1, by omega⟩
  rw [ev_run (at26 S.t)]
  unfold i26 Try.f26
  have hc := H.cell
  have hlp := H.lt
  have f65 : ∀ lk, ev P T K d 65 [.sc (.ptr p 0)] lk hh = some (.v (.sc (.bool true)), hh) := fun lk => by rw [s65 S (by omega) H lk, dec_t (show n > 0 by omega)]
  have hll := H.len S
  refine ⟨fun hno => ?_, fun ⟨h1, h2, h3⟩ => ?_⟩
  · by_cases c1 : o < 0
    · refine ⟨1, by omega, ?_⟩
      simp (maxSteps := 1000000) (disch := first | omega | (simp (disch := first | omega | (simp only [Rec.len, List.length_append, List.length_cons, List.length_nil, List.length_set]; first | done | omega)) only [Rec.len, amSide, Int.reduceToNat, Nat.reducePow, Nat.reduceMul]; first | done | omega)) only  [↓amPre, amPost, ↓s_lit', Nat.reduceAdd, Nat.reduceSub, List.replicate, retA, resultsA, resultA, toC, toCL, Nat.reduceEqDiff, append_at (un59 S.p) (sz62 S.p) (by62 S.p) (ze62 S.p) (by decide) (by decide) rfl, sl_cells (sz62 S.p), (bu62 S.p), lit_fill (un59 S.p) (sz62 S.p) (ze62 S.p), (fa88_0 S.p), (fa88_1 S.p), len_sl (un59 S.p), len_nils (un59 S.p), part_sc (ag3 S.p), part_sc (ag59 S.p), store_last (sz59 S.p), (sz59 S.p), f65, hc, hll, dec_t, Nat.zero_add]
    by_cases c2 : o ≥ 65536
    · refine ⟨1, by omega, ?_⟩
      simp (maxSteps := 1000000) (disch := first | omega | (simp (disch := first | omega | (simp only [Rec.len, List.length_append, List.length_cons, List.length_nil, List.length_set]; first | done | omega)) only [Rec.len, amSide, Int.reduceToNat, Nat.reducePow, Nat.reduceMul]; first | done | omega)) only  [↓amPre, amPost, ↓s_lit', Nat.reduceAdd, Nat.reduceSub, List.replicate, retA, resultsA, resultA, toC, toCL, Nat.reduceEqDiff, append_at (un59 S.p) (sz62 S.p) (by62 S.p) (ze62 S.p) (by decide) (by decide) rfl, sl_cells (sz62 S.p), (bu62 S.p), lit_fill (un59 S.p) (sz62 S.p) (ze62 S.p), (fa88_0 S.p), (fa88_1 S.p), len_sl (un59 S.p), len_nils (un59 S.p), part_sc (ag3 S.p), part_sc (ag59 S.p), store_last (sz59 S.p), (sz59 S.p), f65, hc, hll, dec_t, dec_f, Nat.zero_add]
    · have c3 : (l.length : Int) = n := by apply Classical.byContradiction; intro q; exact hno ⟨by omega, by omega, q⟩
      refine ⟨5, by omega, ?_⟩
      simp (maxSteps := 1000000) (disch := first | omega | (simp (disch := first | omega | (simp only [Rec.len, List.length_append, List.length_cons, List.length_nil, List.length_set]; first | done | omega)) only [Rec.len, amSide, Int.reduceToNat, Nat.reducePow, Nat.reduceMul]; first | done | omega)) only  [↓amPre, amPost, ↓s_lit', Nat.reduceAdd, Nat.reduceSub, List.replicate, retA, resultsA, resultA, toC, toCL, Nat.reduceEqDiff, append_at (un59 S.p) (sz62 S.p) (by62 S.p) (ze62 S.p) (by decide) (by decide) rfl, sl_cells (sz62 S.p), (bu62 S.p), lit_fill (un59 S.p) (sz62 S.p) (ze62 S.p), (fa88_0 S.p), (fa88_1 S.p), len_sl (un59 S.p), len_nils (un59 S.p), part_sc (ag3 S.p), part_sc (ag59 S.p), store_last (sz59 S.p), (sz59 S.p), f65, hc, hll, dec_f, beqI_t, Nat.zero_add]
  · obtain ⟨q2, h2', happ, hp2, ⟨b, g, rfl, hb, hg, hlb⟩, hF⟩ := stk_app H hl ⟨o, s⟩ lk (by omega) hlo
    have hpl := (List.getElem?_eq_some_iff.1 hp2).1
    have hbl := (List.getElem?_eq_some_iff.1 hb).1
    have st : storeA P h2' lk 59 (.v (.sc (.ptr p 1))) (.v (.sc (.sl b 0 (l ++ [(⟨o, s⟩ : Rec)]).length 2))) = some (h2'.set p (.rw 88 [.int .i64 n, .sl b 0 (l ++ [(⟨o, s⟩ : Rec)]).length 2])) := by
      rw [store_at hp2 hlk (sz59 S.p) rfl (by simp)]; rfl
    have hy : [SV.int .i64 o, .int .u64 s] = Rec.cells ⟨o, s⟩ := rfl
    have htk : (Rec.cells ⟨o, s⟩).take 2 = Rec.cells ⟨o, s⟩ := rfl
    have hyl := Rec.len ⟨o, s⟩
    have cp : cellsAt (h2'.set p (.rw 88 [.int .i64 n, .sl b 0 (l ++ [(⟨o, s⟩ : Rec)]).length 2])) p = some [.int .i64 n, .sl b 0 (l ++ [(⟨o, s⟩ : Rec)]).length 2] := cells_set _ _ _ hpl
    have l59 : ∀ hh, lenA P hh 59 (.v (.sc (.sl b 0 (l ++ [(⟨o, s⟩ : Rec)]).length 2))) = some (.v (.sc (.int .i64 (((l ++ [(⟨o, s⟩ : Rec)]).length : Nat) : Int)))) := fun hh => len_sl (un59 S.p) _ _ _ _
    have hL : ((((l ++ [(⟨o, s⟩ : Rec)]).length : Nat) : Int)) = (l.length : Int) + 1 := by simp
    refine ⟨_, _, ?_, ⟨List.getElem?_set_self hpl, .inr ⟨b, g, rfl, by rw [List.getElem?_set_ne (by omega)]; exact hb, hg, hlb⟩, hlp⟩, hF.setp _⟩
    generalize l ++ [(⟨o, s⟩ : Rec)] = l2 at *
    generalize Rec.cells ⟨o, s⟩ = Y at *
    have hw : IntKind.i64.wrap ((l.length : Int) + 1 - 1) = (l.length : Int) := by rw [wrap_i64 (by omega) (by omega)]; omega
    simp (maxSteps := 1000000) (disch := first | omega | (simp (disch := first | omega | (simp only [Rec.len, List.length_append, List.length_cons, List.length_nil, List.length_set]; first | done | omega)) only [Rec.len, amSide, Int.reduceToNat, Nat.reducePow, Nat.reduceMul]; first | done | omega)) only  [↓amPre, amPost, ↓s_lit', Nat.reduceAdd, Nat.reduceSub, List.replicate, retA, resultsA, resultA, toC, toCL, Nat.reduceEqDiff, append_at (un59 S.p) (sz62 S.p) (by62 S.p) (ze62 S.p) (by decide) (by decide) rfl, sl_cells (sz62 S.p), (bu62 S.p), lit_fill (un59 S.p) (sz62 S.p) (ze62 S.p), (fa88_0 S.p), (fa88_1 S.p), len_sl (un59 S.p), len_nils (un59 S.p), part_sc (ag3 S.p), part_sc (ag59 S.p), store_last (sz59 S.p), (sz59 S.p), f65, hc, hll, dec_f, beqI_f, hy, htk, hyl, happ, st, cp, l59, hL, hw, cells_self, cells_other, List.flatten_cons, List.flatten_nil, List.append_nil, Nat.zero_mul, Nat.one_mul, Nat.zero_add]
end Go.AM
