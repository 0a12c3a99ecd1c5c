/- Monitors' model: errors turn nothing. Conditions: none. -/
import Derived.Test.YtgcgbcdgbfeaaaaMp1
import Derived.Test.YtgcgbcdgbfeaaaaMn2
set_option linter.unusedVariables false
set_option linter.unusedSimpArgs false
set_option maxRecDepth 100000
namespace Go.AM
open Go.Proofs
-- LENS: EvV.len, MonV.len
/-- Why one left: woken, interrupted, or late. -/
def MdW (V : MdV) : Prop := ∀ x ∈ V.left, x.2.why = 0 ∨ x.2.why = 12 ∨ x.2.why = 13
theorem MdW.app {V W : MdV} {e : EvV} {o : MonV} {f : Bool} (H : MdW V) (hA : applyV V e o f = some W) : MdW W := by
  have hup : ∀ (k : Pk) (x : LfV), (x.why = 0 ∨ x.why = 12 ∨ x.why = 13) → ∀ y ∈ updP k x V.left, y.2.why = 0 ∨ y.2.why = 12 ∨ y.2.why = 13 := fun k x hx y hy => by
    rcases updP_mem k x V.left y hy with rfl | h
    · exact hx
    · exact H y h
  have hdl : ∀ (k : Pk), ∀ y ∈ delP k V.left, y.2.why = 0 ∨ y.2.why = 12 ∨ y.2.why = 13 := fun k y hy => H y (mem_delP k _ y hy)
  unfold applyV at hA
  split at hA
  · split at hA
    · unfold enterV at hA
      repeat' split at hA
      all_goals first | (cases hA; done) | (obtain rfl := Option.some.inj hA; exact H)
    · cases hA
  · split at hA
    · split at hA
      · unfold exitV at hA
        split at hA
        · split at hA
          · obtain rfl := Option.some.inj hA; exact H
          · cases hA
        · split at hA
          · cases hA
          · obtain rfl := Option.some.inj hA; exact H
      · cases hA
    · split at hA
      · split at hA
        · unfold beginV at hA
          repeat' split at hA
          all_goals first | (cases hA; done) | (obtain rfl := Option.some.inj hA; exact H)
        · cases hA
      · split at hA
        · split at hA
          · rename_i hc
            unfold leaveV at hA
            split at hA
            · obtain rfl := Option.some.inj hA
              refine hup _ _ ?_
              rcases hc.2 with h | h
              · exact .inr (.inr h)
              · exact .inr (.inl h.1)
            · cases hA
          · cases hA
        · split at hA
          · split at hA
            · unfold endV at hA
              split at hA
              · split at hA
                · cases hA
                · obtain rfl := Option.some.inj hA
                  exact hdl _
              · cases hA
            · cases hA
          · split at hA
            · unfold tellV at hA
              split at hA
              · split at hA
                · unfold leaveV at hA
                  split at hA
                  · obtain rfl := Option.some.inj hA
                    exact hup _ _ (.inl rfl)
                  · cases hA
                · cases hA
              · repeat' split at hA
                all_goals first | (cases hA; done) | (obtain rfl := Option.some.inj hA; exact H)
            · split at hA
              · unfold hashV at hA
                repeat' split at hA
                all_goals first | (cases hA; done) | (obtain rfl := Option.some.inj hA; exact H)
              · split at hA
                · unfold holdsV at hA
                  split at hA
                  · obtain rfl := Option.some.inj hA; exact H
                  · cases hA
                · split at hA
                  · unfold intrV at hA
                    split at hA
                    · obtain rfl := Option.some.inj hA; exact H
                    · cases hA
                  · cases hA
theorem AppV_app {V W : MdV} {e : EvV} (h : AppV V e = some W) : applyV V e (V.mons.getD e.o.toNat ⟨-1, 0, 0⟩) (V.flags.getD e.t.toNat false) = some W := by
  unfold AppV at h
  split at h
  · exact h
  · cases h
theorem MdW.next {V : MdV} (H : MdW V) (e : EvV) : MdW (nextM V e) := by
  unfold nextM
  cases h : AppV V e with
  | none => exact H
  | some W => exact H.app (AppV_app h)
/-- What tells an error turns nothing. -/
theorem still_same {V : MdV} (H : MdW V) (e : EvV) (he : e.e = 9 ∨ e.e = 10 ∨ e.e = 11 ∨ e.e = 14) : nextM V e = V := by
  unfold nextM
  cases h : AppV V e with
  | none => rfl
  | some W =>
    have hA := AppV_app h
    simp only [Option.getD_some]
    clear h
    generalize V.mons.getD e.o.toNat ⟨-1, 0, 0⟩ = o at hA
    generalize V.flags.getD e.t.toNat false = f at hA
    unfold applyV at hA
    split at hA
    · split at hA
      · unfold enterV at hA
        split at hA
        · omega
        · repeat' split at hA
          all_goals first | (cases hA; done) | exact (Option.some.inj hA).symm
      · cases hA
    · split at hA
      · split at hA
        · unfold exitV at hA
          split at hA
          · split at hA
            · exact (Option.some.inj hA).symm
            · cases hA
          · split at hA
            · cases hA
            · rename_i hn
              exact absurd (Or.inl (by omega)) hn
        · cases hA
      · split at hA
        · split at hA
          · unfold beginV at hA
            split at hA
            · split at hA
              · exact (Option.some.inj hA).symm
              · cases hA
            · split at hA
              · split at hA
                · exact (Option.some.inj hA).symm
                · cases hA
              · split at hA
                · omega
                · split at hA
                  · omega
                  · cases hA
          · cases hA
        · split at hA
          · split at hA
            · rename_i hc
              have := hc.2
              omega
            · cases hA
          · split at hA
            · split at hA
              · unfold endV at hA
                split at hA
                · rename_i l hg
                  split at hA
                  · cases hA
                  · rename_i hn
                    have hw := H _ (getP_mem hg)
                    simp only at hw
                    exact absurd (Or.inr (by omega)) hn
                · cases hA
              · cases hA
            · split at hA
              · unfold tellV at hA
                split at hA
                · split at hA
                  · rename_i hc
                    have := hc.1
                    omega
                  · cases hA
                · split at hA
                  · split at hA
                    · exact (Option.some.inj hA).symm
                    · cases hA
                  · split at hA
                    · cases hA
                    · rename_i hn
                      exact absurd (Or.inl (by omega)) hn
              · split at hA
                · unfold hashV at hA
                  split at hA
                  · split at hA
                    · exact (Option.some.inj hA).symm
                    · cases hA
                  · split at hA
                    · cases hA
                    · rename_i hn
                      exact absurd (Or.inl (by omega)) hn
                · split at hA
                  · unfold holdsV at hA
                    split at hA
                    · exact (Option.some.inj hA).symm
                    · cases hA
                  · split at hA
                    · unfold intrV at hA
                      split at hA
                      · rename_i hc
                        have := hc.1
                        omega
                      · cases hA
                    · cases hA
/-- An interrupted Begin. -/
theorem intr_begin {V W : MdV} {e : EvV} (h : AppV V e = some W) (hk : e.k = 4) (he : e.e = 12) : flagV V e.t = true ∧ flagV W e.t = false ∧ W.mons = V.mons := by
  have hm : mayV V e = true := by
    unfold AppV at h
    split at h
    · assumption
    · cases h
  unfold mayV at hm
  simp only [Bool.and_eq_true, decide_eq_true_eq] at hm
  obtain ⟨⟨c1, _⟩, _⟩ := hm
  obtain ⟨th, hth⟩ := Int.eq_ofNat_of_zero_le c1.1
  have hl : th < V.flags.length := by omega
  have hA := AppV_app h
  unfold applyV at hA
  rw [if_neg (by omega), if_neg (by omega), if_pos hk] at hA
  split at hA
  · unfold beginV at hA
    rw [if_neg (by omega), if_neg (by omega), if_pos he] at hA
    split at hA
    · rename_i hc
      obtain rfl := Option.some.inj hA
      refine ⟨?_, ?_, rfl⟩
      · unfold flagV
        rw [if_pos c1]; exact hc.2
      · unfold flagV
        simp only [MdV.setF, List.length_set]
        rw [if_pos c1, hth, Int.toNat_natCast, List.getD_eq_getElem?_getD, List.getElem?_set_self hl]; rfl
    · cases hA
  · cases hA
theorem atV_mons {V W : MdV} (h : W.mons = V.mons) (n : Int) : atV W n = atV V n := by unfold atV; rw [h]
theorem MdAt.fr {h h' : List AO} {bm bf bw bl p' bm' bf' bw' bl' : Nat} {V : MdV} (M : MdAt h p' bm' bf' bw' bl' V) (F : Fr bm bf bw bl h h')
    (hn : ∀ x, x = p' ∨ x = bm' ∨ x = bf' ∨ x = bw' ∨ x = bl' → x ≠ bm ∧ x ≠ bf ∧ x ≠ bw ∧ x ≠ bl) : MdAt h' p' bm' bf' bw' bl' V := by
  obtain ⟨l1, l2, l3, l4, l5⟩ := M.lts
  have g : ∀ x, x < h.length → (x = p' ∨ x = bm' ∨ x = bf' ∨ x = bw' ∨ x = bl') → h'[x]? = h[x]? := fun x hl hx => F.2 x hl (hn x hx).1 (hn x hx).2.1 (hn x hx).2.2.1 (hn x hx).2.2.2
  exact ⟨(g _ l1 (.inl rfl)).trans M.pp, (g _ l2 (.inr (.inl rfl))).trans M.pm, (g _ l3 (.inr (.inr (.inl rfl)))).trans M.pf, (g _ l4 (.inr (.inr (.inr (.inl rfl))))).trans M.pw, (g _ l5 (.inr (.inr (.inr (.inr rfl))))).trans M.pl, M.ne⟩
structure ErSt where
  i : Nat
  V : MdV
  h : List AO
section
variable {P : Program} {T : Tab} {K d : Nat} (S : Sd P T K)
include S
set_option maxHeartbeats 16000000 in
theorem s12 (hd : 8 ≤ d) (q : SV) (l : List EvV) (lk : Nat) (h : List AO) (hq : Rs EvV.cells 5 h q l) :
    ev P T K d 12 [.sc q] lk h = some (.v (.sc (.bool true)), h) := by
  obtain ⟨d, rfl⟩ : ∃ k, d = k + 1 := ⟨d - 1, by omega⟩
  refine ev_pure (at12 S.t) rfl ?_
  unfold i12 Try.f12
  have f50 := fun lk h => s50 S (show 1 ≤ d by omega) lk h
  obtain ⟨v, h1, e41, X1, p, bm, bf, bw, bl, rfl, M0, b0, b1, b2, b3, b4⟩ := s41 S (show 2 ≤ d by omega) (n := 4) (m := 3) (c := 3) (by omega) (by omega) (by omega) h.length h (Nat.le_refl _)
  have hn1 : binOpA P .eql 92 (.v (.sc (.ptr p 0))) (.v (.sc .nilp)) = some (.v (.sc (.bool false))) := by simp [binOpA, eqA, un92 S.p]
  have hx1 := X1.len
  obtain ⟨q', e42, hE⟩ := s42 S (show 1 ≤ d by omega) q l h.length h1 (hq.ext X1)
  have hlen := (hE h hq).len (un91 S.p)
  have c4 : ((4 : Nat) : Int) = 4 := rfl
  have c3 : ((3 : Nat) : Int) = 3 := rfl
  rw [c4, c3] at e41
  simp (maxSteps := 1000000) (disch := first | omega | (simp (disch := first | omega | (simp only [EvV.len, MonV.len, List.length_append, List.length_cons, List.length_nil, List.length_set]; first | done | omega)) only [EvV.len, MonV.len, amSide, Int.reduceToNat, Nat.reducePow, Nat.reduceMul]; first | done | omega)) only  [↓amPre, amPost, ↓s_lit', Nat.reduceAdd, Nat.reduceSub, List.replicate, retA, resultsA, resultA, toC, toCL, Nat.reduceEqDiff, (ze98 S.p), (fa98_0 S.p), (fa98_1 S.p), (fa98_2 S.p), (fa98_4 S.p), iaddr_sl (un91 S.p) (sz98 S.p), len_sl (un91 S.p), len_nils (un91 S.p), part_sc (ag3 S.p), part_all (ag98 S.p) (sz98 S.p), part_at (ag98 S.p) (sz98 S.p), store_last (sz98 S.p), (sz98 S.p), e41, hn1, e42, hlen, bneI_f, bne_self_eq_false]
  obtain ⟨m1, m2, m3, m4, m5⟩ := M0.lts
  have hn200 : min l.length 200 ≤ 200 := by omega
  generalize hN : min l.length 200 = N at *
  refine ends_loop (X := ErSt) ⟨0, newV 4 3 3, _⟩ [2, 6, 7, 8, 9, 24, 25, 26, 27, 28, 29, 30, 31, 32, 33, 34, 35, 36, 37, 38, 39, 40, 41, 42, 43, 44, 45, 46, 47, 48, 49, 50, 51, 52, 53, 54, 55, 56, 57, 58, 59, 60, 61, 62, 63, 64, 65, 66, 67, 68, 69, 70, 71, 72, 73, 74, 75, 76, 77, 78, 79, 80, 81, 82, 83, 84, 85, 86, 87, 88, 89, 90, 91, 92, 93, 94, 95, 96, 97, 98, 99, 100, 101, 102, 103, 104, 105, 106, 107, 108, 109] (fun x => x.i ≤ N ∧ Ext1 h x.h ∧ MdAt x.h p bm bf bw bl x.V ∧ MdI 4 3 3 x.V ∧ MdW x.V) (fun x => N - x.i)
    (fun x e => e.set 23 (.v (.sc (.int .i64 x.i)))) (fun x => x.h)
    (by have := S.k; show _ < K; simp only; omega) ⟨by simp only; omega, X1, M0, newV_I (by omega) (by omega) (by omega), fun x hx => by cases hx⟩ rfl rfl ?_
  rintro ⟨i, V, hj⟩ ⟨hi, hx, M, I, Wy⟩ again hag e he
  simp only at hi hx M I Wy hag he
  simp only [↓amPre, amPost, ↓s_lit', Nat.reduceAdd, Nat.reduceSub, List.replicate, retA, resultsA, resultA, toC, toCL, Nat.reduceEqDiff] at he
  simp only [↓amPre, amPost, ↓s_lit', Nat.reduceAdd, Nat.reduceSub, List.replicate, retA, resultsA, resultA, toC, toCL, Nat.reduceEqDiff, he]
  refine ends_cond (fun hc1 => ?_) (fun hc1 => ?_)
  rotate_left
  · simp (maxSteps := 1000000) (disch := first | omega | (simp (disch := first | omega | (simp only [EvV.len, MonV.len, List.length_append, List.length_cons, List.length_nil, List.length_set]; first | done | omega)) only [EvV.len, MonV.len, amSide, Int.reduceToNat, Nat.reducePow, Nat.reduceMul]; first | done | omega)) only  [↓amPre, amPost, ↓s_lit', Nat.reduceAdd, Nat.reduceSub, List.replicate, retA, resultsA, resultA, toC, toCL, Nat.reduceEqDiff, he, (ze98 S.p), (fa98_0 S.p), (fa98_1 S.p), (fa98_2 S.p), (fa98_4 S.p), iaddr_sl (un91 S.p) (sz98 S.p), len_sl (un91 S.p), len_nils (un91 S.p), part_sc (ag3 S.p), part_all (ag98 S.p) (sz98 S.p), part_at (ag98 S.p) (sz98 S.p), store_last (sz98 S.p), (sz98 S.p), f50]
    exact Ends.some rfl
  simp only [decide_eq_true_eq] at hc1
  have hiN : i < N := by omega
  rcases hE hj (hq.ext hx) with ⟨rfl, hz⟩ | ⟨b, rfl, hbl, hcb, hNl⟩
  · omega
  obtain ⟨y, hy⟩ : ∃ y, l[i]? = some y := ⟨_, List.getElem?_eq_getElem (by omega)⟩
  have hpt := recs_part (ag98 S.p) (sz98 S.p) EvV.len hy
  have hpy := partR S y
  have hyl := EvV.len y
  have f44 := fun lk h => s44 S (show 1 ≤ d by omega) y lk h
  have y0 := y.c0
  have y1 := y.c1
  have y2 := y.c2
  have y4 := y.c4
  have M1 := M.ext ((Ext1.refl hj).push (.rw 98 y.cells))
  obtain ⟨u1, u2, u3, u4, u5⟩ := M.lts
  have hfn := I.fn
  have hmn := I.mn
  have hlj := hx.len
  obtain ⟨v2, h2, e54, X2, p', bm', bf', bw', bl', rfl, W2, r0, r1, r2, r3, r4⟩ := s54 S (show 2 ≤ d by omega) M1 (by omega) (by omega) h.length (by simp; omega)
  simp only [List.length_append, List.length_cons, List.length_nil] at r0 r1 r2 r3 r4
  have hbx2 : cellsAt h2 hj.length = some y.cells := by rw [X2.cells (by simp)]; exact cells_self _ _ _ rfl
  obtain ⟨v3, h3, e43, rfl, M3, F3⟩ := s43 S (show 5 ≤ d by omega) (M1.ext X2) I.ok y h.length ⟨b1, b2, b3, b4⟩
  have hl2 := X2.len
  simp only [List.length_append, List.length_cons, List.length_nil] at hl2
  have W3 := W2.fr F3 (fun x hx => by rcases hx with rfl | rfl | rfl | rfl | rfl <;> (refine ⟨?_, ?_, ?_, ?_⟩ <;> omega))
  have hbx3 : cellsAt h3 hj.length = some y.cells := by
    have : h3[hj.length]? = h2[hj.length]? := F3.2 _ (by omega) (by omega) (by omega) (by omega) (by omega)
    rw [← hbx2]; simp only [cellsAt, this]
  have I3 := I.next (by omega) y
  have Wy3 := Wy.next y
  have hx3 : Ext1 h h3 := F3.ext1 ((hx.push _).trans X2) b1 b2 b3 b4
  clear X2 W2 M1 hx hl2 r0 r1 r2 r3 r4 F3
  have hstill := still_same Wy y
  cases hA : AppV V y with
  | none =>
    have hcode : codeM V y = 15 := by unfold codeM; rw [hA]; rfl
    have hnext : nextM V y = V := by unfold nextM; rw [hA]; rfl
    rw [hcode] at e43
    rw [hnext] at M3
    have f55 := fun lk => s55 S (show 2 ≤ d by omega) M3 W3 I.ok lk
    clear hstill I3 Wy3
    have fin : ∀ e', _ → Ends (fun v x => v = AV.v (CV.sc (SV.bool true))) (again (e', h3)) := fun e' he' => hag ⟨i + 1, V, h3⟩ ⟨by simp only; omega, hx3, M3, I, Wy⟩ (by simp only; omega) e' he'
    clear hag
    by_cases k9 : y.e = 9
    · skip
      simp (maxSteps := 1000000) (disch := first | omega | (simp (disch := first | omega | (simp only [EvV.len, MonV.len, List.length_append, List.length_cons, List.length_nil, List.length_set]; first | done | omega)) only [EvV.len, MonV.len, amSide, Int.reduceToNat, Nat.reducePow, Nat.reduceMul]; first | done | omega)) only  [↓amPre, amPost, ↓s_lit', Nat.reduceAdd, Nat.reduceSub, List.replicate, retA, resultsA, resultA, toC, toCL, Nat.reduceEqDiff, he, (ze98 S.p), (fa98_0 S.p), (fa98_1 S.p), (fa98_2 S.p), (fa98_4 S.p), iaddr_sl (un91 S.p) (sz98 S.p), len_sl (un91 S.p), len_nils (un91 S.p), part_sc (ag3 S.p), part_all (ag98 S.p) (sz98 S.p), part_at (ag98 S.p) (sz98 S.p), store_last (sz98 S.p), (sz98 S.p), idx_ok, hcb, hpt, hpy, hbx2, hbx3, y0, y1, y2, y4, f44, e54, e43, f55, beqI_t, beqI_f, bneI_t, bneI_f, bne_self_eq_false, cells_self, cells_other, Int.toNat_natCast, Nat.zero_add, Nat.add_zero, wrap_i64]
      refine fin _ ?_
      simp (maxSteps := 1000000) (disch := first | omega | (simp (disch := first | omega | (simp only [EvV.len, MonV.len, List.length_append, List.length_cons, List.length_nil, List.length_set]; first | done | omega)) only [EvV.len, MonV.len, amSide, Int.reduceToNat, Nat.reducePow, Nat.reduceMul]; first | done | omega)) only [↓amPre, amPost, ↓s_lit', Nat.reduceAdd, Nat.reduceSub, List.replicate, retA, resultsA, resultA, toC, toCL, Nat.reduceEqDiff, Int.natCast_add, Int.cast_ofNat_Int, dec_t, dec_f]
    by_cases k10 : y.e = 10
    · skip
      simp (maxSteps := 1000000) (disch := first | omega | (simp (disch := first | omega | (simp only [EvV.len, MonV.len, List.length_append, List.length_cons, List.length_nil, List.length_set]; first | done | omega)) only [EvV.len, MonV.len, amSide, Int.reduceToNat, Nat.reducePow, Nat.reduceMul]; first | done | omega)) only  [↓amPre, amPost, ↓s_lit', Nat.reduceAdd, Nat.reduceSub, List.replicate, retA, resultsA, resultA, toC, toCL, Nat.reduceEqDiff, he, (ze98 S.p), (fa98_0 S.p), (fa98_1 S.p), (fa98_2 S.p), (fa98_4 S.p), iaddr_sl (un91 S.p) (sz98 S.p), len_sl (un91 S.p), len_nils (un91 S.p), part_sc (ag3 S.p), part_all (ag98 S.p) (sz98 S.p), part_at (ag98 S.p) (sz98 S.p), store_last (sz98 S.p), (sz98 S.p), idx_ok, hcb, hpt, hpy, hbx2, hbx3, y0, y1, y2, y4, f44, e54, e43, f55, beqI_t, beqI_f, bneI_t, bneI_f, bne_self_eq_false, cells_self, cells_other, Int.toNat_natCast, Nat.zero_add, Nat.add_zero, wrap_i64]
      refine fin _ ?_
      simp (maxSteps := 1000000) (disch := first | omega | (simp (disch := first | omega | (simp only [EvV.len, MonV.len, List.length_append, List.length_cons, List.length_nil, List.length_set]; first | done | omega)) only [EvV.len, MonV.len, amSide, Int.reduceToNat, Nat.reducePow, Nat.reduceMul]; first | done | omega)) only [↓amPre, amPost, ↓s_lit', Nat.reduceAdd, Nat.reduceSub, List.replicate, retA, resultsA, resultA, toC, toCL, Nat.reduceEqDiff, Int.natCast_add, Int.cast_ofNat_Int, dec_t, dec_f]
    by_cases k14 : y.e = 14
    · skip
      simp (maxSteps := 1000000) (disch := first | omega | (simp (disch := first | omega | (simp only [EvV.len, MonV.len, List.length_append, List.length_cons, List.length_nil, List.length_set]; first | done | omega)) only [EvV.len, MonV.len, amSide, Int.reduceToNat, Nat.reducePow, Nat.reduceMul]; first | done | omega)) only  [↓amPre, amPost, ↓s_lit', Nat.reduceAdd, Nat.reduceSub, List.replicate, retA, resultsA, resultA, toC, toCL, Nat.reduceEqDiff, he, (ze98 S.p), (fa98_0 S.p), (fa98_1 S.p), (fa98_2 S.p), (fa98_4 S.p), iaddr_sl (un91 S.p) (sz98 S.p), len_sl (un91 S.p), len_nils (un91 S.p), part_sc (ag3 S.p), part_all (ag98 S.p) (sz98 S.p), part_at (ag98 S.p) (sz98 S.p), store_last (sz98 S.p), (sz98 S.p), idx_ok, hcb, hpt, hpy, hbx2, hbx3, y0, y1, y2, y4, f44, e54, e43, f55, beqI_t, beqI_f, bneI_t, bneI_f, bne_self_eq_false, cells_self, cells_other, Int.toNat_natCast, Nat.zero_add, Nat.add_zero, wrap_i64]
      refine fin _ ?_
      simp (maxSteps := 1000000) (disch := first | omega | (simp (disch := first | omega | (simp only [EvV.len, MonV.len, List.length_append, List.length_cons, List.length_nil, List.length_set]; first | done | omega)) only [EvV.len, MonV.len, amSide, Int.reduceToNat, Nat.reducePow, Nat.reduceMul]; first | done | omega)) only [↓amPre, amPost, ↓s_lit', Nat.reduceAdd, Nat.reduceSub, List.replicate, retA, resultsA, resultA, toC, toCL, Nat.reduceEqDiff, Int.natCast_add, Int.cast_ofNat_Int, dec_t, dec_f]
    by_cases k11 : y.e = 11
    · skip
      simp (maxSteps := 1000000) (disch := first | omega | (simp (disch := first | omega | (simp only [EvV.len, MonV.len, List.length_append, List.length_cons, List.length_nil, List.length_set]; first | done | omega)) only [EvV.len, MonV.len, amSide, Int.reduceToNat, Nat.reducePow, Nat.reduceMul]; first | done | omega)) only  [↓amPre, amPost, ↓s_lit', Nat.reduceAdd, Nat.reduceSub, List.replicate, retA, resultsA, resultA, toC, toCL, Nat.reduceEqDiff, he, (ze98 S.p), (fa98_0 S.p), (fa98_1 S.p), (fa98_2 S.p), (fa98_4 S.p), iaddr_sl (un91 S.p) (sz98 S.p), len_sl (un91 S.p), len_nils (un91 S.p), part_sc (ag3 S.p), part_all (ag98 S.p) (sz98 S.p), part_at (ag98 S.p) (sz98 S.p), store_last (sz98 S.p), (sz98 S.p), idx_ok, hcb, hpt, hpy, hbx2, hbx3, y0, y1, y2, y4, f44, e54, e43, f55, beqI_t, beqI_f, bneI_t, bneI_f, bne_self_eq_false, cells_self, cells_other, Int.toNat_natCast, Nat.zero_add, Nat.add_zero, wrap_i64]
      refine fin _ ?_
      simp (maxSteps := 1000000) (disch := first | omega | (simp (disch := first | omega | (simp only [EvV.len, MonV.len, List.length_append, List.length_cons, List.length_nil, List.length_set]; first | done | omega)) only [EvV.len, MonV.len, amSide, Int.reduceToNat, Nat.reducePow, Nat.reduceMul]; first | done | omega)) only [↓amPre, amPost, ↓s_lit', Nat.reduceAdd, Nat.reduceSub, List.replicate, retA, resultsA, resultA, toC, toCL, Nat.reduceEqDiff, Int.natCast_add, Int.cast_ofNat_Int, dec_t, dec_f]
    simp (maxSteps := 1000000) (disch := first | omega | (simp (disch := first | omega | (simp only [EvV.len, MonV.len, List.length_append, List.length_cons, List.length_nil, List.length_set]; first | done | omega)) only [EvV.len, MonV.len, amSide, Int.reduceToNat, Nat.reducePow, Nat.reduceMul]; first | done | omega)) only  [↓amPre, amPost, ↓s_lit', Nat.reduceAdd, Nat.reduceSub, List.replicate, retA, resultsA, resultA, toC, toCL, Nat.reduceEqDiff, he, (ze98 S.p), (fa98_0 S.p), (fa98_1 S.p), (fa98_2 S.p), (fa98_4 S.p), iaddr_sl (un91 S.p) (sz98 S.p), len_sl (un91 S.p), len_nils (un91 S.p), part_sc (ag3 S.p), part_all (ag98 S.p) (sz98 S.p), part_at (ag98 S.p) (sz98 S.p), store_last (sz98 S.p), (sz98 S.p), idx_ok, hcb, hpt, hpy, hbx2, hbx3, y0, y1, y2, y4, f44, e54, e43, f55, beqI_t, beqI_f, bneI_t, bneI_f, bne_self_eq_false, cells_self, cells_other, Int.toNat_natCast, Nat.zero_add, Nat.add_zero, wrap_i64]
    refine fin _ ?_
    simp (maxSteps := 1000000) (disch := first | omega | (simp (disch := first | omega | (simp only [EvV.len, MonV.len, List.length_append, List.length_cons, List.length_nil, List.length_set]; first | done | omega)) only [EvV.len, MonV.len, amSide, Int.reduceToNat, Nat.reducePow, Nat.reduceMul]; first | done | omega)) only [↓amPre, amPost, ↓s_lit', Nat.reduceAdd, Nat.reduceSub, List.replicate, retA, resultsA, resultA, toC, toCL, Nat.reduceEqDiff, Int.natCast_add, Int.cast_ofNat_Int, dec_t, dec_f]
  | some W =>
    have hcode : codeM V y = 0 := by unfold codeM; rw [hA]; rfl
    have hnext : nextM V y = W := by unfold nextM; rw [hA]; rfl
    rw [hcode] at e43
    rw [hnext] at M3 I3 Wy3 hstill
    have fin : ∀ e', _ → Ends (fun v x => v = AV.v (CV.sc (SV.bool true))) (again (e', h3)) := fun e' he' => hag ⟨i + 1, W, h3⟩ ⟨by simp only; omega, hx3, M3, I3, Wy3⟩ (by simp only; omega) e' he'
    clear hag
    by_cases ks : y.e = 9 ∨ y.e = 10 ∨ y.e = 11 ∨ y.e = 14
    · have hWV := hstill ks
      rw [hWV] at M3
      have f55 := fun lk => s55 S (show 2 ≤ d by omega) M3 W3 I.ok lk
      rcases ks with ks | ks | ks | ks
      · by_cases k4 : y.k = 4
        · skip
          simp (maxSteps := 1000000) (disch := first | omega | (simp (disch := first | omega | (simp only [EvV.len, MonV.len, List.length_append, List.length_cons, List.length_nil, List.length_set]; first | done | omega)) only [EvV.len, MonV.len, amSide, Int.reduceToNat, Nat.reducePow, Nat.reduceMul]; first | done | omega)) only  [↓amPre, amPost, ↓s_lit', Nat.reduceAdd, Nat.reduceSub, List.replicate, retA, resultsA, resultA, toC, toCL, Nat.reduceEqDiff, he, (ze98 S.p), (fa98_0 S.p), (fa98_1 S.p), (fa98_2 S.p), (fa98_4 S.p), iaddr_sl (un91 S.p) (sz98 S.p), len_sl (un91 S.p), len_nils (un91 S.p), part_sc (ag3 S.p), part_all (ag98 S.p) (sz98 S.p), part_at (ag98 S.p) (sz98 S.p), store_last (sz98 S.p), (sz98 S.p), idx_ok, hcb, hpt, hpy, hbx2, hbx3, y0, y1, y2, y4, f44, e54, e43, f55, beqI_t, beqI_f, bneI_t, bneI_f, bne_self_eq_false, cells_self, cells_other, Int.toNat_natCast, Nat.zero_add, Nat.add_zero, wrap_i64]
          refine fin _ ?_
          simp (maxSteps := 1000000) (disch := first | omega | (simp (disch := first | omega | (simp only [EvV.len, MonV.len, List.length_append, List.length_cons, List.length_nil, List.length_set]; first | done | omega)) only [EvV.len, MonV.len, amSide, Int.reduceToNat, Nat.reducePow, Nat.reduceMul]; first | done | omega)) only [↓amPre, amPost, ↓s_lit', Nat.reduceAdd, Nat.reduceSub, List.replicate, retA, resultsA, resultA, toC, toCL, Nat.reduceEqDiff, Int.natCast_add, Int.cast_ofNat_Int, dec_t, dec_f]
        · skip
          simp (maxSteps := 1000000) (disch := first | omega | (simp (disch := first | omega | (simp only [EvV.len, MonV.len, List.length_append, List.length_cons, List.length_nil, List.length_set]; first | done | omega)) only [EvV.len, MonV.len, amSide, Int.reduceToNat, Nat.reducePow, Nat.reduceMul]; first | done | omega)) only  [↓amPre, amPost, ↓s_lit', Nat.reduceAdd, Nat.reduceSub, List.replicate, retA, resultsA, resultA, toC, toCL, Nat.reduceEqDiff, he, (ze98 S.p), (fa98_0 S.p), (fa98_1 S.p), (fa98_2 S.p), (fa98_4 S.p), iaddr_sl (un91 S.p) (sz98 S.p), len_sl (un91 S.p), len_nils (un91 S.p), part_sc (ag3 S.p), part_all (ag98 S.p) (sz98 S.p), part_at (ag98 S.p) (sz98 S.p), store_last (sz98 S.p), (sz98 S.p), idx_ok, hcb, hpt, hpy, hbx2, hbx3, y0, y1, y2, y4, f44, e54, e43, f55, beqI_t, beqI_f, bneI_t, bneI_f, bne_self_eq_false, cells_self, cells_other, Int.toNat_natCast, Nat.zero_add, Nat.add_zero, wrap_i64]
          refine fin _ ?_
          simp (maxSteps := 1000000) (disch := first | omega | (simp (disch := first | omega | (simp only [EvV.len, MonV.len, List.length_append, List.length_cons, List.length_nil, List.length_set]; first | done | omega)) only [EvV.len, MonV.len, amSide, Int.reduceToNat, Nat.reducePow, Nat.reduceMul]; first | done | omega)) only [↓amPre, amPost, ↓s_lit', Nat.reduceAdd, Nat.reduceSub, List.replicate, retA, resultsA, resultA, toC, toCL, Nat.reduceEqDiff, Int.natCast_add, Int.cast_ofNat_Int, dec_t, dec_f]
      · by_cases k4 : y.k = 4
        · skip
          simp (maxSteps := 1000000) (disch := first | omega | (simp (disch := first | omega | (simp only [EvV.len, MonV.len, List.length_append, List.length_cons, List.length_nil, List.length_set]; first | done | omega)) only [EvV.len, MonV.len, amSide, Int.reduceToNat, Nat.reducePow, Nat.reduceMul]; first | done | omega)) only  [↓amPre, amPost, ↓s_lit', Nat.reduceAdd, Nat.reduceSub, List.replicate, retA, resultsA, resultA, toC, toCL, Nat.reduceEqDiff, he, (ze98 S.p), (fa98_0 S.p), (fa98_1 S.p), (fa98_2 S.p), (fa98_4 S.p), iaddr_sl (un91 S.p) (sz98 S.p), len_sl (un91 S.p), len_nils (un91 S.p), part_sc (ag3 S.p), part_all (ag98 S.p) (sz98 S.p), part_at (ag98 S.p) (sz98 S.p), store_last (sz98 S.p), (sz98 S.p), idx_ok, hcb, hpt, hpy, hbx2, hbx3, y0, y1, y2, y4, f44, e54, e43, f55, beqI_t, beqI_f, bneI_t, bneI_f, bne_self_eq_false, cells_self, cells_other, Int.toNat_natCast, Nat.zero_add, Nat.add_zero, wrap_i64]
          refine fin _ ?_
          simp (maxSteps := 1000000) (disch := first | omega | (simp (disch := first | omega | (simp only [EvV.len, MonV.len, List.length_append, List.length_cons, List.length_nil, List.length_set]; first | done | omega)) only [EvV.len, MonV.len, amSide, Int.reduceToNat, Nat.reducePow, Nat.reduceMul]; first | done | omega)) only [↓amPre, amPost, ↓s_lit', Nat.reduceAdd, Nat.reduceSub, List.replicate, retA, resultsA, resultA, toC, toCL, Nat.reduceEqDiff, Int.natCast_add, Int.cast_ofNat_Int, dec_t, dec_f]
        · skip
          simp (maxSteps := 1000000) (disch := first | omega | (simp (disch := first | omega | (simp only [EvV.len, MonV.len, List.length_append, List.length_cons, List.length_nil, List.length_set]; first | done | omega)) only [EvV.len, MonV.len, amSide, Int.reduceToNat, Nat.reducePow, Nat.reduceMul]; first | done | omega)) only  [↓amPre, amPost, ↓s_lit', Nat.reduceAdd, Nat.reduceSub, List.replicate, retA, resultsA, resultA, toC, toCL, Nat.reduceEqDiff, he, (ze98 S.p), (fa98_0 S.p), (fa98_1 S.p), (fa98_2 S.p), (fa98_4 S.p), iaddr_sl (un91 S.p) (sz98 S.p), len_sl (un91 S.p), len_nils (un91 S.p), part_sc (ag3 S.p), part_all (ag98 S.p) (sz98 S.p), part_at (ag98 S.p) (sz98 S.p), store_last (sz98 S.p), (sz98 S.p), idx_ok, hcb, hpt, hpy, hbx2, hbx3, y0, y1, y2, y4, f44, e54, e43, f55, beqI_t, beqI_f, bneI_t, bneI_f, bne_self_eq_false, cells_self, cells_other, Int.toNat_natCast, Nat.zero_add, Nat.add_zero, wrap_i64]
          refine fin _ ?_
          simp (maxSteps := 1000000) (disch := first | omega | (simp (disch := first | omega | (simp only [EvV.len, MonV.len, List.length_append, List.length_cons, List.length_nil, List.length_set]; first | done | omega)) only [EvV.len, MonV.len, amSide, Int.reduceToNat, Nat.reducePow, Nat.reduceMul]; first | done | omega)) only [↓amPre, amPost, ↓s_lit', Nat.reduceAdd, Nat.reduceSub, List.replicate, retA, resultsA, resultA, toC, toCL, Nat.reduceEqDiff, Int.natCast_add, Int.cast_ofNat_Int, dec_t, dec_f]
      · by_cases k4 : y.k = 4
        · skip
          simp (maxSteps := 1000000) (disch := first | omega | (simp (disch := first | omega | (simp only [EvV.len, MonV.len, List.length_append, List.length_cons, List.length_nil, List.length_set]; first | done | omega)) only [EvV.len, MonV.len, amSide, Int.reduceToNat, Nat.reducePow, Nat.reduceMul]; first | done | omega)) only  [↓amPre, amPost, ↓s_lit', Nat.reduceAdd, Nat.reduceSub, List.replicate, retA, resultsA, resultA, toC, toCL, Nat.reduceEqDiff, he, (ze98 S.p), (fa98_0 S.p), (fa98_1 S.p), (fa98_2 S.p), (fa98_4 S.p), iaddr_sl (un91 S.p) (sz98 S.p), len_sl (un91 S.p), len_nils (un91 S.p), part_sc (ag3 S.p), part_all (ag98 S.p) (sz98 S.p), part_at (ag98 S.p) (sz98 S.p), store_last (sz98 S.p), (sz98 S.p), idx_ok, hcb, hpt, hpy, hbx2, hbx3, y0, y1, y2, y4, f44, e54, e43, f55, beqI_t, beqI_f, bneI_t, bneI_f, bne_self_eq_false, cells_self, cells_other, Int.toNat_natCast, Nat.zero_add, Nat.add_zero, wrap_i64]
          refine fin _ ?_
          simp (maxSteps := 1000000) (disch := first | omega | (simp (disch := first | omega | (simp only [EvV.len, MonV.len, List.length_append, List.length_cons, List.length_nil, List.length_set]; first | done | omega)) only [EvV.len, MonV.len, amSide, Int.reduceToNat, Nat.reducePow, Nat.reduceMul]; first | done | omega)) only [↓amPre, amPost, ↓s_lit', Nat.reduceAdd, Nat.reduceSub, List.replicate, retA, resultsA, resultA, toC, toCL, Nat.reduceEqDiff, Int.natCast_add, Int.cast_ofNat_Int, dec_t, dec_f]
        · skip
          simp (maxSteps := 1000000) (disch := first | omega | (simp (disch := first | omega | (simp only [EvV.len, MonV.len, List.length_append, List.length_cons, List.length_nil, List.length_set]; first | done | omega)) only [EvV.len, MonV.len, amSide, Int.reduceToNat, Nat.reducePow, Nat.reduceMul]; first | done | omega)) only  [↓amPre, amPost, ↓s_lit', Nat.reduceAdd, Nat.reduceSub, List.replicate, retA, resultsA, resultA, toC, toCL, Nat.reduceEqDiff, he, (ze98 S.p), (fa98_0 S.p), (fa98_1 S.p), (fa98_2 S.p), (fa98_4 S.p), iaddr_sl (un91 S.p) (sz98 S.p), len_sl (un91 S.p), len_nils (un91 S.p), part_sc (ag3 S.p), part_all (ag98 S.p) (sz98 S.p), part_at (ag98 S.p) (sz98 S.p), store_last (sz98 S.p), (sz98 S.p), idx_ok, hcb, hpt, hpy, hbx2, hbx3, y0, y1, y2, y4, f44, e54, e43, f55, beqI_t, beqI_f, bneI_t, bneI_f, bne_self_eq_false, cells_self, cells_other, Int.toNat_natCast, Nat.zero_add, Nat.add_zero, wrap_i64]
          refine fin _ ?_
          simp (maxSteps := 1000000) (disch := first | omega | (simp (disch := first | omega | (simp only [EvV.len, MonV.len, List.length_append, List.length_cons, List.length_nil, List.length_set]; first | done | omega)) only [EvV.len, MonV.len, amSide, Int.reduceToNat, Nat.reducePow, Nat.reduceMul]; first | done | omega)) only [↓amPre, amPost, ↓s_lit', Nat.reduceAdd, Nat.reduceSub, List.replicate, retA, resultsA, resultA, toC, toCL, Nat.reduceEqDiff, Int.natCast_add, Int.cast_ofNat_Int, dec_t, dec_f]
      · by_cases k4 : y.k = 4
        · skip
          simp (maxSteps := 1000000) (disch := first | omega | (simp (disch := first | omega | (simp only [EvV.len, MonV.len, List.length_append, List.length_cons, List.length_nil, List.length_set]; first | done | omega)) only [EvV.len, MonV.len, amSide, Int.reduceToNat, Nat.reducePow, Nat.reduceMul]; first | done | omega)) only  [↓amPre, amPost, ↓s_lit', Nat.reduceAdd, Nat.reduceSub, List.replicate, retA, resultsA, resultA, toC, toCL, Nat.reduceEqDiff, he, (ze98 S.p), (fa98_0 S.p), (fa98_1 S.p), (fa98_2 S.p), (fa98_4 S.p), iaddr_sl (un91 S.p) (sz98 S.p), len_sl (un91 S.p), len_nils (un91 S.p), part_sc (ag3 S.p), part_all (ag98 S.p) (sz98 S.p), part_at (ag98 S.p) (sz98 S.p), store_last (sz98 S.p), (sz98 S.p), idx_ok, hcb, hpt, hpy, hbx2, hbx3, y0, y1, y2, y4, f44, e54, e43, f55, beqI_t, beqI_f, bneI_t, bneI_f, bne_self_eq_false, cells_self, cells_other, Int.toNat_natCast, Nat.zero_add, Nat.add_zero, wrap_i64]
          refine fin _ ?_
          simp (maxSteps := 1000000) (disch := first | omega | (simp (disch := first | omega | (simp only [EvV.len, MonV.len, List.length_append, List.length_cons, List.length_nil, List.length_set]; first | done | omega)) only [EvV.len, MonV.len, amSide, Int.reduceToNat, Nat.reducePow, Nat.reduceMul]; first | done | omega)) only [↓amPre, amPost, ↓s_lit', Nat.reduceAdd, Nat.reduceSub, List.replicate, retA, resultsA, resultA, toC, toCL, Nat.reduceEqDiff, Int.natCast_add, Int.cast_ofNat_Int, dec_t, dec_f]
        · skip
          simp (maxSteps := 1000000) (disch := first | omega | (simp (disch := first | omega | (simp only [EvV.len, MonV.len, List.length_append, List.length_cons, List.length_nil, List.length_set]; first | done | omega)) only [EvV.len, MonV.len, amSide, Int.reduceToNat, Nat.reducePow, Nat.reduceMul]; first | done | omega)) only  [↓amPre, amPost, ↓s_lit', Nat.reduceAdd, Nat.reduceSub, List.replicate, retA, resultsA, resultA, toC, toCL, Nat.reduceEqDiff, he, (ze98 S.p), (fa98_0 S.p), (fa98_1 S.p), (fa98_2 S.p), (fa98_4 S.p), iaddr_sl (un91 S.p) (sz98 S.p), len_sl (un91 S.p), len_nils (un91 S.p), part_sc (ag3 S.p), part_all (ag98 S.p) (sz98 S.p), part_at (ag98 S.p) (sz98 S.p), store_last (sz98 S.p), (sz98 S.p), idx_ok, hcb, hpt, hpy, hbx2, hbx3, y0, y1, y2, y4, f44, e54, e43, f55, beqI_t, beqI_f, bneI_t, bneI_f, bne_self_eq_false, cells_self, cells_other, Int.toNat_natCast, Nat.zero_add, Nat.add_zero, wrap_i64]
          refine fin _ ?_
          simp (maxSteps := 1000000) (disch := first | omega | (simp (disch := first | omega | (simp only [EvV.len, MonV.len, List.length_append, List.length_cons, List.length_nil, List.length_set]; first | done | omega)) only [EvV.len, MonV.len, amSide, Int.reduceToNat, Nat.reducePow, Nat.reduceMul]; first | done | omega)) only [↓amPre, amPost, ↓s_lit', Nat.reduceAdd, Nat.reduceSub, List.replicate, retA, resultsA, resultA, toC, toCL, Nat.reduceEqDiff, Int.natCast_add, Int.cast_ofNat_Int, dec_t, dec_f]
    · have n9 : y.e ≠ 9 := fun q => ks (.inl q)
      have n10 : y.e ≠ 10 := fun q => ks (.inr (.inl q))
      have n11 : y.e ≠ 11 := fun q => ks (.inr (.inr (.inl q)))
      have n14 : y.e ≠ 14 := fun q => ks (.inr (.inr (.inr q)))
      by_cases k4 : y.k = 4
      · by_cases k12 : y.e = 12
        · obtain ⟨z1, z2, z3⟩ := intr_begin hA k4 k12
          have g1 := fun lk => s56 S (show 3 ≤ d by omega) W3 (by omega) y.t lk
          have g2 := fun lk => s56 S (show 3 ≤ d by omega) M3 (by have := I3.fn; omega) y.t lk
          have g3 := fun lk => s45 S (show 3 ≤ d by omega) W3 (by omega) y.o lk
          have g4 := fun lk => s45 S (show 3 ≤ d by omega) M3 (by have := I3.mn; omega) y.o lk
          have g5 := fun lk => s46 S (show 3 ≤ d by omega) W3 (by omega) y.o lk
          have g6 := fun lk => s46 S (show 3 ≤ d by omega) M3 (by have := I3.mn; omega) y.o lk
          rw [z1] at g1
          rw [z2] at g2
          rw [atV_mons z3] at g4 g6
          simp (maxSteps := 1000000) (disch := first | omega | (simp (disch := first | omega | (simp only [EvV.len, MonV.len, List.length_append, List.length_cons, List.length_nil, List.length_set]; first | done | omega)) only [EvV.len, MonV.len, amSide, Int.reduceToNat, Nat.reducePow, Nat.reduceMul]; first | done | omega)) only  [↓amPre, amPost, ↓s_lit', Nat.reduceAdd, Nat.reduceSub, List.replicate, retA, resultsA, resultA, toC, toCL, Nat.reduceEqDiff, he, (ze98 S.p), (fa98_0 S.p), (fa98_1 S.p), (fa98_2 S.p), (fa98_4 S.p), iaddr_sl (un91 S.p) (sz98 S.p), len_sl (un91 S.p), len_nils (un91 S.p), part_sc (ag3 S.p), part_all (ag98 S.p) (sz98 S.p), part_at (ag98 S.p) (sz98 S.p), store_last (sz98 S.p), (sz98 S.p), idx_ok, hcb, hpt, hpy, hbx2, hbx3, y0, y1, y2, y4, f44, e54, e43, g1, g2, g3, g4, g5, g6, beqI_t, beqI_f, bneI_t, bneI_f, bne_self_eq_false, cells_self, cells_other, Int.toNat_natCast, Nat.zero_add, Nat.add_zero, wrap_i64]
          refine fin _ ?_
          simp (maxSteps := 1000000) (disch := first | omega | (simp (disch := first | omega | (simp only [EvV.len, MonV.len, List.length_append, List.length_cons, List.length_nil, List.length_set]; first | done | omega)) only [EvV.len, MonV.len, amSide, Int.reduceToNat, Nat.reducePow, Nat.reduceMul]; first | done | omega)) only [↓amPre, amPost, ↓s_lit', Nat.reduceAdd, Nat.reduceSub, List.replicate, retA, resultsA, resultA, toC, toCL, Nat.reduceEqDiff, Int.natCast_add, Int.cast_ofNat_Int, dec_t, dec_f]
        · skip
          simp (maxSteps := 1000000) (disch := first | omega | (simp (disch := first | omega | (simp only [EvV.len, MonV.len, List.length_append, List.length_cons, List.length_nil, List.length_set]; first | done | omega)) only [EvV.len, MonV.len, amSide, Int.reduceToNat, Nat.reducePow, Nat.reduceMul]; first | done | omega)) only  [↓amPre, amPost, ↓s_lit', Nat.reduceAdd, Nat.reduceSub, List.replicate, retA, resultsA, resultA, toC, toCL, Nat.reduceEqDiff, he, (ze98 S.p), (fa98_0 S.p), (fa98_1 S.p), (fa98_2 S.p), (fa98_4 S.p), iaddr_sl (un91 S.p) (sz98 S.p), len_sl (un91 S.p), len_nils (un91 S.p), part_sc (ag3 S.p), part_all (ag98 S.p) (sz98 S.p), part_at (ag98 S.p) (sz98 S.p), store_last (sz98 S.p), (sz98 S.p), idx_ok, hcb, hpt, hpy, hbx2, hbx3, y0, y1, y2, y4, f44, e54, e43, f44, beqI_t, beqI_f, bneI_t, bneI_f, bne_self_eq_false, cells_self, cells_other, Int.toNat_natCast, Nat.zero_add, Nat.add_zero, wrap_i64]
          refine fin _ ?_
          simp (maxSteps := 1000000) (disch := first | omega | (simp (disch := first | omega | (simp only [EvV.len, MonV.len, List.length_append, List.length_cons, List.length_nil, List.length_set]; first | done | omega)) only [EvV.len, MonV.len, amSide, Int.reduceToNat, Nat.reducePow, Nat.reduceMul]; first | done | omega)) only [↓amPre, amPost, ↓s_lit', Nat.reduceAdd, Nat.reduceSub, List.replicate, retA, resultsA, resultA, toC, toCL, Nat.reduceEqDiff, Int.natCast_add, Int.cast_ofNat_Int, dec_t, dec_f]
      · skip
        simp (maxSteps := 1000000) (disch := first | omega | (simp (disch := first | omega | (simp only [EvV.len, MonV.len, List.length_append, List.length_cons, List.length_nil, List.length_set]; first | done | omega)) only [EvV.len, MonV.len, amSide, Int.reduceToNat, Nat.reducePow, Nat.reduceMul]; first | done | omega)) only  [↓amPre, amPost, ↓s_lit', Nat.reduceAdd, Nat.reduceSub, List.replicate, retA, resultsA, resultA, toC, toCL, Nat.reduceEqDiff, he, (ze98 S.p), (fa98_0 S.p), (fa98_1 S.p), (fa98_2 S.p), (fa98_4 S.p), iaddr_sl (un91 S.p) (sz98 S.p), len_sl (un91 S.p), len_nils (un91 S.p), part_sc (ag3 S.p), part_all (ag98 S.p) (sz98 S.p), part_at (ag98 S.p) (sz98 S.p), store_last (sz98 S.p), (sz98 S.p), idx_ok, hcb, hpt, hpy, hbx2, hbx3, y0, y1, y2, y4, f44, e54, e43, f44, beqI_t, beqI_f, bneI_t, bneI_f, bne_self_eq_false, cells_self, cells_other, Int.toNat_natCast, Nat.zero_add, Nat.add_zero, wrap_i64]
        refine fin _ ?_
        simp (maxSteps := 1000000) (disch := first | omega | (simp (disch := first | omega | (simp only [EvV.len, MonV.len, List.length_append, List.length_cons, List.length_nil, List.length_set]; first | done | omega)) only [EvV.len, MonV.len, amSide, Int.reduceToNat, Nat.reducePow, Nat.reduceMul]; first | done | omega)) only [↓amPre, amPost, ↓s_lit', Nat.reduceAdd, Nat.reduceSub, List.replicate, retA, resultsA, resultA, toC, toCL, Nat.reduceEqDiff, Int.natCast_add, Int.cast_ofNat_Int, dec_t, dec_f]
end
end Go.AM
