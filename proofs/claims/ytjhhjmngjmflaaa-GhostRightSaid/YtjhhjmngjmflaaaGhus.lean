/- Logs: a new one; an entry that is added; what is told. Conditions: none. -/
import Derived.Test.YtjhhjmngjmflaaaGhts
set_option linter.unusedVariables false
set_option linter.unusedSimpArgs false
set_option maxRecDepth 100000
namespace Go.AM
open Go.Proofs
-- LENS: EvV.len, MonV.len, ThV.len, EnV.len
section
variable {P : Program} {T : Tab} {K d : Nat} (S : Sd P T K)
include S
theorem s14f (hd : 3 ≤ d) (n m c : Int) (hb : ¬ ((1 ≤ n ∧ n ≤ 8) ∧ (1 ≤ m ∧ m ≤ 8) ∧ 1 ≤ c ∧ c ≤ 60)) (lk : Nat) (h : List AO) : ev P T K d 14 [.sc (.int .i64 n), .sc (.int .i64 m), .sc (.int .i64 c)] lk h = some (.tup [.sc .nilp, .sc (.int .i64 1)], h) := by
  obtain ⟨d, rfl⟩ : ∃ k, d = k + 1 := ⟨d - 1, by omega⟩
  rw [ev_run (at14 S.t)]
  unfold i14 Try.f14
  have f37 := fun lk h => s37f S (show 2 ≤ d by omega) n m c hb lk h
  simp (maxSteps := 1000000) (disch := first | omega | (simp (disch := first | omega | (simp only [EvV.len, MonV.len, ThV.len, EnV.len, List.length_append, List.length_cons, List.length_nil, List.length_set]; first | done | omega)) only [EvV.len, MonV.len, ThV.len, EnV.len, amSide, Int.reduceToNat, Nat.reducePow, Nat.reduceMul]; first | done | omega)) only  [↓amPre, amPost, ↓s_lit', Nat.reduceAdd, Nat.reduceSub, List.replicate, retA, resultsA, resultA, toC, toCL, Nat.reduceEqDiff, (bu67 S.p), make_at (un65 S.p) (sz109 S.p) (by109 S.p) (ze109 S.p) (by decide) rfl, f37, bneI_t]
set_option maxHeartbeats 1000000 in
theorem s14 (hd : 3 ≤ d) {n m : Nat} {c : Int} (h1 : 1 ≤ n ∧ n ≤ 8) (h2 : 1 ≤ m ∧ m ≤ 8) (h3 : 1 ≤ c ∧ c ≤ 60) (lk : Nat) (h : List AO) (hlk : lk ≤ h.length) :
    Ends (fun v h' => Ext1 h h' ∧ ∃ p pm bm bf bw bl bt, v = .tup [.sc (.ptr p 0), .sc (.int .i64 0)] ∧ LgAt h' p pm bm bf bw bl bt .nils (newL n m c) ∧ h.length ≤ p ∧ h.length ≤ bm ∧ h.length ≤ bf ∧ h.length ≤ bw ∧ h.length ≤ bl ∧ h.length ≤ bt) (ev P T K d 14 [.sc (.int .i64 n), .sc (.int .i64 m), .sc (.int .i64 c)] lk h) := by
  obtain ⟨d, rfl⟩ : ∃ k, d = k + 1 := ⟨d - 1, by omega⟩
  rw [ev_run (at14 S.t)]
  unfold i14 Try.f14
  obtain ⟨v, h', f37, x1, pm, bm, bf, bw, bl, rfl, M, l1, l2, l3, l4, l5⟩ := s37 S (show 2 ≤ d by omega) h1 h2 h3 lk h hlk
  simp (maxSteps := 1000000) (disch := first | omega | (simp (disch := first | omega | (simp only [EvV.len, MonV.len, ThV.len, EnV.len, List.length_append, List.length_cons, List.length_nil, List.length_set]; first | done | omega)) only [EvV.len, MonV.len, ThV.len, EnV.len, amSide, Int.reduceToNat, Nat.reducePow, Nat.reduceMul]; first | done | omega)) only  [↓amPre, amPost, ↓s_lit', Nat.reduceAdd, Nat.reduceSub, List.replicate, retA, resultsA, resultA, toC, toCL, Nat.reduceEqDiff, (bu67 S.p), make_at (un65 S.p) (sz109 S.p) (by109 S.p) (ze109 S.p) (by decide) rfl, f37, bneI_f, makeB_ok, Int.toNat_natCast]
  have hzz : (List.replicate n [SV.int .i64 0, .int .i64 0, .int .i64 0, .int .i64 0, .bool false, .int .i64 0, .int .i64 0, .int .i64 0, .int .i64 0, .int .i64 0, .int .i64 0]).flatten = recs ThV.cells (List.replicate n noTh) := by
    have : ∀ k : Nat, (List.replicate k [SV.int .i64 0, .int .i64 0, .int .i64 0, .int .i64 0, .bool false, .int .i64 0, .int .i64 0, .int .i64 0, .int .i64 0, .int .i64 0, .int .i64 0]).flatten = recs ThV.cells (List.replicate k noTh) := fun k => by
      induction k with
      | zero => rfl
      | succ k ih => rw [List.replicate_succ, List.replicate_succ, List.flatten_cons, recs_cons, ih]; rfl
    exact this n
  rw [hzz]
  obtain ⟨q1, q2, q3, q4, q5⟩ := M.lts
  have hxl := x1.len
  refine Ends.some ⟨(x1.push _).push _, h'.length + 1, pm, bm, bf, bw, bl, h'.length, rfl, ⟨?_, (M.ext ((Ext1.refl _).push _)).ext ((Ext1.refl _).push _), ?_, ⟨h'.length + 2, Own.nil _ _ _ _, by omega, by omega, by omega, by omega, by omega, by omega, by omega⟩, fun _ => rfl⟩, by omega, by omega, by omega, by omega, by omega, by omega⟩
  · rw [obj_self _ _ (by simp)]
    simp only [lgC, newL, List.length_replicate]
  · rw [List.getElem?_append_left (by simp), obj_self _ _ rfl]; rfl
end
end Go.AM
/- Logs: an entry that is added. Conditions: none. -/
set_option linter.unusedVariables false
set_option linter.unusedSimpArgs false
set_option maxRecDepth 100000
namespace Go.AM
open Go.Proofs
-- LENS: EvV.len, MonV.len, ThV.len, EnV.len
theorem spl3 (a b c x y z : SV) (l : List SV) : splice (a :: b :: c :: l) 0 [x, y, z] = x :: y :: z :: l := nrfl rfl
theorem cells_other' (h : List AO) (b l : Nat) (o : AO) (hn : b ≠ l) : cellsAt (h.set b o) l = cellsAt h l := by simp only [cellsAt, List.getElem?_set_ne hn]
theorem set_last (h : List AO) (a b : AO) : (h ++ [a]).set h.length b = h ++ [b] := by simp
theorem FrL.fr {h h' h2 : List AO} {p bm bf bw bl bt : Nat} {qe : SV} (F : FrL p bm bf bw bl bt qe h h') (F2 : Fr bm bf bw bl h' h2) : FrL p bm bf bw bl bt qe h h2 :=
  ⟨Nat.le_trans F.1 F2.1, fun l hl n0 n1 n2 n3 n4 n5 n6 => (F2.2 l (Nat.lt_of_lt_of_le hl F.1) n1 n2 n3 n4).trans (F.2 l hl n0 n1 n2 n3 n4 n5 n6)⟩
theorem FrL.setT {h h' : List AO} {p bm bf bw bl bt : Nat} {qe : SV} (F : FrL p bm bf bw bl bt qe h h') (hb : bt < h.length) (o : AO) : FrL p bm bf bw bl bt qe h (h'.set bt o) :=
  ⟨by rw [List.length_set]; exact F.1, fun l hl n0 n1 n2 n3 n4 n5 n6 => by rw [List.getElem?_set_ne (Ne.symm n5)]; exact F.2 l hl n0 n1 n2 n3 n4 n5 n6⟩
/-- What is written of a thread. -/
theorem LgAt.storeP {h : List AO} {p pm bm bf bw bl bt : Nat} {qe : SV} {G : LgV} (L : LgAt h p pm bm bf bw bl bt qe G) {P : Program} {lk : Nat} (hlk : lk ≤ bt) {i : Nat} {t : ThV} (hg : G.ths[i]? = some t) {ty k : Nat} (hs : szT P ty = some k) (c : CV) (hcl : c.cells.length = k) (off : Nat) (ho : off + k ≤ 11) (y : ThV) (hy : splice t.cells off c.cells = y.cells) :
    storeA P h lk ty (.v (.sc (.ptr bt (i * 11 + off)))) (.v c) = some (h.set bt (.rw 109 (recs ThV.cells (G.ths.set i y)))) := by
  have hle := recs_le ThV.len hg
  rw [store_at L.pt hlk hs (c := c) hcl (by omega), recs_splice ThV.len hg off c.cells (by omega) y hy]
/-- What a call of Add comes to. -/
def Ad (p pm bm bf bw bl bt : Nat) (qe : SV) (h : List AO) (G : LgV) (x : EnV) : AV → List AO → Prop := fun v h' => v = .v (.sc (.int .i64 (if (addL G x).isSome = true then 0 else 15))) ∧
  ∃ qe', LgAt h' p pm bm bf bw bl bt qe' ((addL G x).getD G) ∧ FrL p bm bf bw bl bt qe h h' ∧ QN h qe qe'
theorem ad_no {h h' : List AO} {p pm bm bf bw bl bt : Nat} {qe : SV} {G : LgV} {x : EnV} (L : LgAt h' p pm bm bf bw bl bt qe G) (F : FrL p bm bf bw bl bt qe h h') (hn : addL G x = none) : Ad p pm bm bf bw bl bt qe h G x (.v (.sc (.int .i64 15))) h' :=
  ⟨by rw [hn]; rfl, qe, by rw [hn]; exact L, F, .inl rfl⟩
theorem QN.mono {a h : List AO} {q q' : SV} (H : QN h q q') (hl : a.length ≤ h.length) : QN a q q' := by
  rcases H with rfl | ⟨b, o, n, s, hb, rfl⟩
  · exact .inl rfl
  · exact .inr ⟨b, o, n, s, by omega, rfl⟩
theorem ad_yes {h h2 h3 : List AO} {p pm bm bf bw bl bt : Nat} {qe q2 : SV} {G G' : LgV} {x : EnV} (hS : addL G x = some G') (L : LgAt h3 p pm bm bf bw bl bt q2 G') (F2 : FrL p bm bf bw bl bt qe h h2) (F3 : FrL p bm bf bw bl bt qe h2 h3) (Q : QN h2 qe q2) :
    Ad p pm bm bf bw bl bt qe h G x (.v (.sc (.int .i64 0))) h3 :=
  ⟨by rw [hS]; rfl, q2, by rw [hS]; exact L, F2.trans (.inl rfl) F3, Q.mono F2.1⟩
section
variable {P : Program} {T : Tab} {K d : Nat} (S : Sd P T K)
include S
theorem LgAt.addE {h : List AO} {p pm bm bf bw bl bt : Nat} {qe : SV} {G : LgV} (L : LgAt h p pm bm bf bw bl bt qe G) (x : EnV) (hl : G.ents.length ≤ 1000000) {lk : Nat} (hlk : lk ≤ p) :
    ∃ q2 h3, (∀ k, appB 36 13 104 lk (h ++ [.rw 36 x.cells]) (.v (.sc qe)) (some x.cells) k = k (.v (.sc q2)) h3) ∧ storeA P h3 lk 25 (.v (.sc (.ptr p 3))) (.v (.sc q2)) = some (h3.set p (.rw 67 (lgC G pm bt q2))) ∧
      LgAt (h3.set p (.rw 67 (lgC G pm bt q2))) p pm bm bf bw bl bt q2 { G with ents := G.ents ++ [x] } ∧ FrL p bm bf bw bl bt qe h (h3.set p (.rw 67 (lgC G pm bt q2))) ∧ QN h qe q2 ∧ cellsAt h3 p = some (lgC G pm bt qe) := by
  obtain ⟨lo, e1, f0, f1, f2, f3, f4, f5, f6⟩ := L.en
  obtain ⟨n1, n2, n3, n4, n5, n6, n7, n8, n9, n10, n11⟩ := L.nes
  obtain ⟨l1, l2⟩ := L.lts
  obtain ⟨m1, m2, m3, m4, m5⟩ := L.md.lts
  have hrl : (recs EnV.cells G.ents).length = G.ents.length * 13 := recs_len EnV.len G.ents
  have hxl := x.len
  have hloh : lo ≤ h.length ∨ qe = .nils := by
    rcases e1 with ⟨h1, _⟩ | ⟨b, b1, b2, b3, _⟩
    · exact .inr h1
    · exact .inl (by omega)
  -- a bound that holds for nil, too
  obtain ⟨lo, e1, f0, f1, f2, f3, f4, f5, f6, hlo⟩ : ∃ lo, Own 36 13 lo h qe (recs EnV.cells G.ents) ∧ p < lo ∧ pm < lo ∧ bm < lo ∧ bf < lo ∧ bw < lo ∧ bl < lo ∧ bt < lo ∧ lo ≤ h.length := by
    rcases hloh with hh | hh
    · exact ⟨lo, e1, f0, f1, f2, f3, f4, f5, f6, hh⟩
    · rcases e1 with ⟨_, hc⟩ | ⟨b, _, _, hb, _⟩
      · exact ⟨h.length, .inl ⟨hh, hc⟩, l1, m1, m2, m3, m4, m5, l2, Nat.le_refl _⟩
      · rw [hh] at hb; cases hb
  obtain ⟨q2, h3, happ, hown, hl3, hlow, hx3, hq2, hap⟩ := grow_own (b := 104) (lk := lk) (e1.push (.rw 36 x.cells)) x.cells (by omega) (by omega) (by omega) (by omega) (by simp; omega) (by rw [hrl, hxl]; omega)
  rw [recs_snoc] at hown
  have get : ∀ j, j < lo → h3[j]? = h[j]? := fun j hj => by rw [hlow j hj, List.getElem?_append_left (by omega)]
  have hp3 : h3[p]? = some (.rw 67 (lgC G pm bt qe)) := (get p f0).trans L.pl
  have hl3' : h3.length = h.length + 2 := by rw [hl3]; simp
  have M3 : MdAt h3 pm bm bf bw bl G.V := ⟨(get _ f1).trans L.md.pp, (get _ f2).trans L.md.pm, (get _ f3).trans L.md.pf, (get _ f4).trans L.md.pw, (get _ f5).trans L.md.pl, L.md.ne⟩
  refine ⟨q2, h3, happ, ?_, ⟨?_, M3.frame _ n1 n2 n3 n4 n5, ?_, ⟨lo, hown.set f0 _, f0, f1, f2, f3, f4, f5, f6⟩, ?_⟩, ⟨by rw [List.length_set]; omega, ?_⟩, ?_, cells_at hp3⟩
  · rw [store_at hp3 hlk (sz25 S.p) (c := .sc q2) rfl (by simp [lgC])]; rfl
  · rw [List.getElem?_set_self (by omega)]; rfl
  · rw [List.getElem?_set_ne n6]; exact (get _ f6).trans L.pt
  · intro q; simp at q
  · intro l hl k0 k1 k2 k3 k4 k5 k6
    rw [List.getElem?_set_ne (Ne.symm k0), (hap l 0 0 0 (fun l' o n s o' n' s' a b => by simp only [SV.sl.injEq] at a; exact k6 o' n' s' (by rw [b, a.1])) (by simp; omega)).1, List.getElem?_append_left hl]
  · refine .inr ⟨_, _, _, _, ?_, hq2⟩
    simp
set_option maxHeartbeats 16000000 in
theorem s15 (hd : 6 ≤ d) {n m : Nat} {c : Int} (hc : 1 ≤ c ∧ c ≤ 60) {p pm bm bf bw bl bt : Nat} {qe : SV} {G : LgV} {h : List AO} (L : LgAt h p pm bm bf bw bl bt qe G) (I : LgI n m c G) (hn : n ≤ 8) (hl : G.ents.length ≤ 100000) (x : EnV) (lk : Nat) (hlk : lk ≤ p ∧ lk ≤ bm ∧ lk ≤ bf ∧ lk ≤ bw ∧ lk ≤ bl ∧ lk ≤ bt) :
    Ends (Ad p pm bm bf bw bl bt qe h G x) (ev P T K d 15 [.sc (.ptr p 0), .ag x.cells] lk h) := by
  obtain ⟨d, rfl⟩ : ∃ k, d = k + 1 := ⟨d - 1, by omega⟩
  rw [ev_run (at15 S.t)]
  unfold i15 Try.f15
  have L1 := L.ext ((Ext1.refl h).push (.rw 36 x.cells))
  have F1 : FrL p bm bf bw bl bt qe h (h ++ [.rw 36 x.cells]) := FrL.of_ext ((Ext1.refl h).push (.rw 36 x.cells))
  obtain ⟨l1, l2⟩ := L.lts
  obtain ⟨n1, n2, n3, n4, n5, n6, n7, n8, n9, n10, n11⟩ := L.nes
  have f38 := fun lk => s38 S (show 1 ≤ d by omega) L1 lk
  have f39 := fun lk h => s39 S (show 1 ≤ d by omega) x lk h
  have hp := L.cl
  have ht := L.ct
  have hpx := partEn S x
  have x0 := x.c0
  have x1 := x.c1
  have x2 := x.c2
  have x11 := x.c11
  have x12 := x.c12
  have xop := x.op
  have xvs := x.vs
  have hxl := x.len
  have htn := I.tn
  have f40 := fun k o a lk => s40 S (show 2 ≤ d by omega) G (pm := pm) (bt := bt) (qe := qe) k o a lk (h ++ [.rw 36 x.cells]) L1.cl
  unfold lgC at hp
  by_cases cb : bareE x
  · rw [decide_eq_true cb] at f39
    by_cases cr : 0 ≤ x.th ∧ x.th < (G.ths.length : Int)
    · obtain ⟨th, hth⟩ := Int.eq_ofNat_of_zero_le cr.1
      rw [hth] at x1 cr
      obtain ⟨t, hg⟩ : ∃ t, G.ths[th]? = some t := ⟨_, List.getElem?_eq_getElem (by omega)⟩
      have hadd : addL G x = (addT G t x).map fun p => { G with V := p.1, ths := G.ths.set th p.2, ents := G.ents ++ [x] } := by
        unfold addL
        rw [if_pos ⟨cb, by omega, by omega⟩, hth, Int.toNat_natCast, List.getD_eq_getElem?_getD, hg]; rfl
      have hb := I.cl th t hg
      have hbk := I.ok th t hg
      have g3 := recs_get ThV.len hg 3 (by omega)
      have g4 := recs_get ThV.len hg 4 (by omega)
      have g5 := recs_get ThV.len hg 5 (by omega)
      rw [t.c3] at g3
      rw [t.c4] at g4
      rw [t.c5] at g5
      have gp := recs_part (ag109 S.p) (sz109 S.p) ThV.len hg
      have hle := recs_le ThV.len hg
      have c1c2c3 : x.kd = 1 ∨ x.kd = 2 ∨ x.kd = 3 := by
        unfold bareE at cb
        by_cases k1 : x.kd = 1
        · exact .inl k1
        · by_cases k2 : x.kd = 2
          · exact .inr (.inl k2)
          · rw [if_neg k1, if_neg k2] at cb
            by_cases k3 : x.kd = 3
            · exact .inr (.inr k3)
            · rw [if_neg k3] at cb; exact cb.elim
      clear cb
      rcases c1c2c3 with k1 | k2 | k3
      · -- a Call
        have hT : addT G t x = if t.op = true ∨ x.nm ≠ t.cl ∨ ¬ mayO G.objs G.ths.length x.ok x.oo x.oa then none else some (G.V, ⟨x.ok, x.oo, x.oa, t.cl + 1, true, 0, noEv⟩) := by unfold addT; rw [if_pos k1]
        cases ho : t.op with
        | true =>
          rw [ho] at g4
          have hN : addL G x = none := by rw [hadd, hT, if_pos (.inl ho)]; rfl
          simp (maxSteps := 1000000) (disch := first | omega | (simp (disch := first | omega | (simp only [EvV.len, MonV.len, ThV.len, EnV.len, List.length_append, List.length_cons, List.length_nil, List.length_set]; first | done | omega)) only [EvV.len, MonV.len, ThV.len, EnV.len, amSide, Int.reduceToNat, Nat.reducePow, Nat.reduceMul]; first | done | omega)) only  [↓amPre, amPost, ↓s_lit', Nat.reduceAdd, Nat.reduceSub, List.replicate, retA, resultsA, resultA, toC, toCL, Nat.reduceEqDiff, append_at (un25 S.p) (sz36 S.p) (by36 S.p) (ze36 S.p) (by decide) (by decide) rfl, copy_at (un25 S.p) (sz36 S.p) (by36 S.p) (ze36 S.p) (by decide) (by decide) rfl, sl_cells (sz36 S.p), (bu109 S.p), lit_fill (un25 S.p) (sz36 S.p) (ze36 S.p), (fa109_1 S.p), (fa109_2 S.p), (fa109_3 S.p), (fa109_4 S.p), (fa36_0 S.p), (fa36_1 S.p), (fa36_2 S.p), (fa36_3 S.p), (fa36_4 S.p), (fa36_5 S.p), (fa36_6 S.p), (fa67_1 S.p), (fa67_2 S.p), (fa67_3 S.p), iaddr_sl (un65 S.p) (sz109 S.p), len_sl (un65 S.p), len_nils (un65 S.p), part_all (ag109 S.p) (sz109 S.p), part_at (ag109 S.p) (sz109 S.p), part_sc (ag25 S.p), part_all (ag27 S.p) (sz27 S.p), part_at (ag27 S.p) (sz27 S.p), part_sc (ag3 S.p), part_sc (ag32 S.p), part_all (ag34 S.p) (sz34 S.p), part_at (ag34 S.p) (sz34 S.p), part_all (ag36 S.p) (sz36 S.p), part_at (ag36 S.p) (sz36 S.p), part_sc (ag4 S.p), part_sc (ag64 S.p), part_sc (ag65 S.p), store_last (sz109 S.p), (sz109 S.p), store_last (sz25 S.p), (sz25 S.p), store_last (sz3 S.p), (sz3 S.p), store_last (sz34 S.p), (sz34 S.p), f38, f39, hp, ht, hpx, x0, x1, x2, g3, g4, g5, beqI_t, beqI_f, bneI_t, bneI_f, bne_self_eq_false, beq_self_eq_true, dec_t, dec_f, cells_self, cells_other, idx_ok, Int.toNat_natCast, Nat.zero_add, Nat.add_zero, wrap_i64]
          exact Ends.some (ad_no L1 F1 hN)
        | false =>
          rw [ho] at g4
          by_cases cn : x.nm = t.cl
          · by_cases cm : mayO G.objs G.ths.length x.ok x.oo x.oa
            · have f40' := fun lk => f40 x.ok x.oo x.oa lk
              rw [decide_eq_true cm] at f40'
              have hS : addL G x = some { G with ths := G.ths.set th ⟨x.ok, x.oo, x.oa, t.cl + 1, true, 0, noEv⟩, ents := G.ents ++ [x] } := by
                rw [hadd, hT, if_neg (fun q => q.elim (fun q => by rw [ho] at q; cases q) (fun q => q.elim (fun q => q cn) (fun q => q cm)))]; rfl
              have L2 := L1.setT th ⟨x.ok, x.oo, x.oa, t.cl + 1, true, 0, noEv⟩
              have st := L1.storeP (P := P) hlk.2.2.2.2.2 hg (sz109 S.p) (.ag (ThV.cells ⟨x.ok, x.oo, x.oa, t.cl + 1, true, 0, noEv⟩)) rfl 0 (by omega) ⟨x.ok, x.oo, x.oa, t.cl + 1, true, 0, noEv⟩ (by rw [splice_def]; simp [t.len, ThV.len, CV.cells])
              rw [Nat.add_zero] at st
              rw [show ThV.cells ⟨x.ok, x.oo, x.oa, t.cl + 1, true, 0, noEv⟩ = [.int .i64 x.ok, .int .i64 x.oo, .int .i64 x.oa, .int .i64 (t.cl + 1), .bool true, .int .i64 0, .int .i64 0, .int .i64 0, .int .i64 0, .int .i64 0, .int .i64 0] from rfl] at st
              have hx2 : cellsAt ((h ++ [AO.rw 36 x.cells]).set bt (.rw 109 (recs ThV.cells (G.ths.set th ⟨x.ok, x.oo, x.oa, t.cl + 1, true, 0, noEv⟩)))) h.length = some x.cells := cells_at (by rw [List.getElem?_set_ne (by omega), obj_self _ _ rfl])
              have hln : ((h ++ [AO.rw 36 x.cells]).set bt (.rw 109 (recs ThV.cells (G.ths.set th ⟨x.ok, x.oo, x.oa, t.cl + 1, true, 0, noEv⟩)))).length = h.length + 1 := by simp
              have F2 := F1.setT l2 (.rw 109 (recs ThV.cells (G.ths.set th ⟨x.ok, x.oo, x.oa, t.cl + 1, true, 0, noEv⟩)))
              generalize (h ++ [AO.rw 36 x.cells]).set bt (.rw 109 (recs ThV.cells (G.ths.set th ⟨x.ok, x.oo, x.oa, t.cl + 1, true, 0, noEv⟩))) = H2 at st L2 hx2 hln F2
              obtain ⟨q2, h3, happ, st3, L3, F3, Q3, hp3⟩ := L2.addE S x (by show G.ents.length ≤ _; omega) hlk.1
              have hp2 := L2.cl
              unfold lgC at hp2 hp3
              have htk : List.take (1 * 13) x.cells = x.cells := List.take_of_length_le (by omega)
              simp (maxSteps := 1000000) (disch := first | omega | (simp (disch := first | omega | (simp only [EvV.len, MonV.len, ThV.len, EnV.len, List.length_append, List.length_cons, List.length_nil, List.length_set]; first | done | omega)) only [EvV.len, MonV.len, ThV.len, EnV.len, amSide, Int.reduceToNat, Nat.reducePow, Nat.reduceMul]; first | done | omega)) only  [↓amPre, amPost, ↓s_lit', Nat.reduceAdd, Nat.reduceSub, List.replicate, retA, resultsA, resultA, toC, toCL, Nat.reduceEqDiff, append_at (un25 S.p) (sz36 S.p) (by36 S.p) (ze36 S.p) (by decide) (by decide) rfl, copy_at (un25 S.p) (sz36 S.p) (by36 S.p) (ze36 S.p) (by decide) (by decide) rfl, sl_cells (sz36 S.p), (bu109 S.p), lit_fill (un25 S.p) (sz36 S.p) (ze36 S.p), (fa109_1 S.p), (fa109_2 S.p), (fa109_3 S.p), (fa109_4 S.p), (fa36_0 S.p), (fa36_1 S.p), (fa36_2 S.p), (fa36_3 S.p), (fa36_4 S.p), (fa36_5 S.p), (fa36_6 S.p), (fa67_1 S.p), (fa67_2 S.p), (fa67_3 S.p), iaddr_sl (un65 S.p) (sz109 S.p), len_sl (un65 S.p), len_nils (un65 S.p), part_all (ag109 S.p) (sz109 S.p), part_at (ag109 S.p) (sz109 S.p), part_sc (ag25 S.p), part_all (ag27 S.p) (sz27 S.p), part_at (ag27 S.p) (sz27 S.p), part_sc (ag3 S.p), part_sc (ag32 S.p), part_all (ag34 S.p) (sz34 S.p), part_at (ag34 S.p) (sz34 S.p), part_all (ag36 S.p) (sz36 S.p), part_at (ag36 S.p) (sz36 S.p), part_sc (ag4 S.p), part_sc (ag64 S.p), part_sc (ag65 S.p), store_last (sz109 S.p), (sz109 S.p), store_last (sz25 S.p), (sz25 S.p), store_last (sz3 S.p), (sz3 S.p), store_last (sz34 S.p), (sz34 S.p), f38, f39, f40', hp, hp2, hp3, hx2, set_last, htk, ht, hpx, x0, x1, x2, xop, hxl, g3, g4, g5, gp, st, happ, st3, spl3, obj_self, List.flatten_cons, List.flatten_nil, List.append_nil, Nat.zero_mul, beqI_t, beqI_f, bneI_t, bneI_f, bne_self_eq_false, beq_self_eq_true, dec_t, dec_f, cells_self, cells_other, idx_ok, Int.toNat_natCast, Nat.zero_add, Nat.add_zero, wrap_i64]
              exact Ends.some (ad_yes hS L3 F2 F3 Q3)
            · have f40' := fun lk => f40 x.ok x.oo x.oa lk
              rw [decide_eq_false cm] at f40'
              have hN : addL G x = none := by rw [hadd, hT, if_pos (.inr (.inr cm))]; rfl
              simp (maxSteps := 1000000) (disch := first | omega | (simp (disch := first | omega | (simp only [EvV.len, MonV.len, ThV.len, EnV.len, List.length_append, List.length_cons, List.length_nil, List.length_set]; first | done | omega)) only [EvV.len, MonV.len, ThV.len, EnV.len, amSide, Int.reduceToNat, Nat.reducePow, Nat.reduceMul]; first | done | omega)) only  [↓amPre, amPost, ↓s_lit', Nat.reduceAdd, Nat.reduceSub, List.replicate, retA, resultsA, resultA, toC, toCL, Nat.reduceEqDiff, append_at (un25 S.p) (sz36 S.p) (by36 S.p) (ze36 S.p) (by decide) (by decide) rfl, copy_at (un25 S.p) (sz36 S.p) (by36 S.p) (ze36 S.p) (by decide) (by decide) rfl, sl_cells (sz36 S.p), (bu109 S.p), lit_fill (un25 S.p) (sz36 S.p) (ze36 S.p), (fa109_1 S.p), (fa109_2 S.p), (fa109_3 S.p), (fa109_4 S.p), (fa36_0 S.p), (fa36_1 S.p), (fa36_2 S.p), (fa36_3 S.p), (fa36_4 S.p), (fa36_5 S.p), (fa36_6 S.p), (fa67_1 S.p), (fa67_2 S.p), (fa67_3 S.p), iaddr_sl (un65 S.p) (sz109 S.p), len_sl (un65 S.p), len_nils (un65 S.p), part_all (ag109 S.p) (sz109 S.p), part_at (ag109 S.p) (sz109 S.p), part_sc (ag25 S.p), part_all (ag27 S.p) (sz27 S.p), part_at (ag27 S.p) (sz27 S.p), part_sc (ag3 S.p), part_sc (ag32 S.p), part_all (ag34 S.p) (sz34 S.p), part_at (ag34 S.p) (sz34 S.p), part_all (ag36 S.p) (sz36 S.p), part_at (ag36 S.p) (sz36 S.p), part_sc (ag4 S.p), part_sc (ag64 S.p), part_sc (ag65 S.p), store_last (sz109 S.p), (sz109 S.p), store_last (sz25 S.p), (sz25 S.p), store_last (sz3 S.p), (sz3 S.p), store_last (sz34 S.p), (sz34 S.p), f38, f39, f40', hp, ht, hpx, x0, x1, x2, xop, hxl, g3, g4, g5, beqI_t, beqI_f, bneI_t, bneI_f, bne_self_eq_false, beq_self_eq_true, dec_t, dec_f, cells_self, cells_other, idx_ok, Int.toNat_natCast, Nat.zero_add, Nat.add_zero, wrap_i64]
              exact Ends.some (ad_no L1 F1 hN)
          · have hN : addL G x = none := by rw [hadd, hT, if_pos (.inr (.inl cn))]; rfl
            simp (maxSteps := 1000000) (disch := first | omega | (simp (disch := first | omega | (simp only [EvV.len, MonV.len, ThV.len, EnV.len, List.length_append, List.length_cons, List.length_nil, List.length_set]; first | done | omega)) only [EvV.len, MonV.len, ThV.len, EnV.len, amSide, Int.reduceToNat, Nat.reducePow, Nat.reduceMul]; first | done | omega)) only  [↓amPre, amPost, ↓s_lit', Nat.reduceAdd, Nat.reduceSub, List.replicate, retA, resultsA, resultA, toC, toCL, Nat.reduceEqDiff, append_at (un25 S.p) (sz36 S.p) (by36 S.p) (ze36 S.p) (by decide) (by decide) rfl, copy_at (un25 S.p) (sz36 S.p) (by36 S.p) (ze36 S.p) (by decide) (by decide) rfl, sl_cells (sz36 S.p), (bu109 S.p), lit_fill (un25 S.p) (sz36 S.p) (ze36 S.p), (fa109_1 S.p), (fa109_2 S.p), (fa109_3 S.p), (fa109_4 S.p), (fa36_0 S.p), (fa36_1 S.p), (fa36_2 S.p), (fa36_3 S.p), (fa36_4 S.p), (fa36_5 S.p), (fa36_6 S.p), (fa67_1 S.p), (fa67_2 S.p), (fa67_3 S.p), iaddr_sl (un65 S.p) (sz109 S.p), len_sl (un65 S.p), len_nils (un65 S.p), part_all (ag109 S.p) (sz109 S.p), part_at (ag109 S.p) (sz109 S.p), part_sc (ag25 S.p), part_all (ag27 S.p) (sz27 S.p), part_at (ag27 S.p) (sz27 S.p), part_sc (ag3 S.p), part_sc (ag32 S.p), part_all (ag34 S.p) (sz34 S.p), part_at (ag34 S.p) (sz34 S.p), part_all (ag36 S.p) (sz36 S.p), part_at (ag36 S.p) (sz36 S.p), part_sc (ag4 S.p), part_sc (ag64 S.p), part_sc (ag65 S.p), store_last (sz109 S.p), (sz109 S.p), store_last (sz25 S.p), (sz25 S.p), store_last (sz3 S.p), (sz3 S.p), store_last (sz34 S.p), (sz34 S.p), f38, f39, hp, ht, hpx, x0, x1, x2, g3, g4, g5, beqI_t, beqI_f, bneI_t, bneI_f, bne_self_eq_false, beq_self_eq_true, dec_t, dec_f, cells_self, cells_other, idx_ok, Int.toNat_natCast, Nat.zero_add, Nat.add_zero, wrap_i64]
            exact Ends.some (ad_no L1 F1 hN)
      · -- a Commit
        have hT : addT G t x = if takesT t x.ev then (AppV G.V x.ev).map fun W => (W, { t with mn := t.mn + 1, ls := x.ev }) else none := by unfold addT; rw [if_neg (by omega), if_pos k2]
        have f41 := fun lk h => s41 S (show 3 ≤ d by omega) t x.ev lk h
        by_cases ck : takesT t x.ev
        · rw [decide_eq_true ck] at f41
          obtain ⟨v, ha, e20, rfl, M2, Fa⟩ := s20 S (show 5 ≤ d by omega) L1.md I.I.ok x.ev lk ⟨hlk.2.1, hlk.2.2.1, hlk.2.2.2.1, hlk.2.2.2.2.1⟩
          have La := L1.setV Fa M2
          have F1a := F1.fr Fa
          have hal := Fa.1
          simp only [List.length_append, List.length_cons, List.length_nil] at hal
          cases hA : AppV G.V x.ev with
          | none =>
            have hN : addL G x = none := by rw [hadd, hT, if_pos ck, hA]; rfl
            have hcd : codeM G.V x.ev = 15 := by unfold codeM; rw [hA]; rfl
            have hnx : nextM G.V x.ev = G.V := by unfold nextM; rw [hA]; rfl
            rw [hcd] at e20
            rw [hnx] at La
            simp (maxSteps := 1000000) (disch := first | omega | (simp (disch := first | omega | (simp only [EvV.len, MonV.len, ThV.len, EnV.len, List.length_append, List.length_cons, List.length_nil, List.length_set]; first | done | omega)) only [EvV.len, MonV.len, ThV.len, EnV.len, amSide, Int.reduceToNat, Nat.reducePow, Nat.reduceMul]; first | done | omega)) only  [↓amPre, amPost, ↓s_lit', Nat.reduceAdd, Nat.reduceSub, List.replicate, retA, resultsA, resultA, toC, toCL, Nat.reduceEqDiff, append_at (un25 S.p) (sz36 S.p) (by36 S.p) (ze36 S.p) (by decide) (by decide) rfl, copy_at (un25 S.p) (sz36 S.p) (by36 S.p) (ze36 S.p) (by decide) (by decide) rfl, sl_cells (sz36 S.p), (bu109 S.p), lit_fill (un25 S.p) (sz36 S.p) (ze36 S.p), (fa109_1 S.p), (fa109_2 S.p), (fa109_3 S.p), (fa109_4 S.p), (fa36_0 S.p), (fa36_1 S.p), (fa36_2 S.p), (fa36_3 S.p), (fa36_4 S.p), (fa36_5 S.p), (fa36_6 S.p), (fa67_1 S.p), (fa67_2 S.p), (fa67_3 S.p), iaddr_sl (un65 S.p) (sz109 S.p), len_sl (un65 S.p), len_nils (un65 S.p), part_all (ag109 S.p) (sz109 S.p), part_at (ag109 S.p) (sz109 S.p), part_sc (ag25 S.p), part_all (ag27 S.p) (sz27 S.p), part_at (ag27 S.p) (sz27 S.p), part_sc (ag3 S.p), part_sc (ag32 S.p), part_all (ag34 S.p) (sz34 S.p), part_at (ag34 S.p) (sz34 S.p), part_all (ag36 S.p) (sz36 S.p), part_at (ag36 S.p) (sz36 S.p), part_sc (ag4 S.p), part_sc (ag64 S.p), part_sc (ag65 S.p), store_last (sz109 S.p), (sz109 S.p), store_last (sz25 S.p), (sz25 S.p), store_last (sz3 S.p), (sz3 S.p), store_last (sz34 S.p), (sz34 S.p), f38, f39, f41, e20, hp, ht, hpx, x0, x1, x2, xvs, hxl, gp, g3, g4, g5, beqI_t, beqI_f, bneI_t, bneI_f, bne_self_eq_false, beq_self_eq_true, dec_t, dec_f, cells_self, cells_other, idx_ok, Int.toNat_natCast, Nat.zero_add, Nat.add_zero, wrap_i64]
            exact Ends.some (ad_no La F1a hN)
          | some W =>
            have hcd : codeM G.V x.ev = 0 := by unfold codeM; rw [hA]; rfl
            have hnx : nextM G.V x.ev = W := by unfold nextM; rw [hA]; rfl
            rw [hcd] at e20
            rw [hnx] at La
            have hS : addL G x = some { G with V := W, ths := G.ths.set th { t with mn := t.mn + 1, ls := x.ev }, ents := G.ents ++ [x] } := by rw [hadd, hT, if_pos ck, hA]; rfl
            have hpa := La.cl
            have hta := La.ct
            simp only at hta
            have hba : cellsAt ha h.length = some x.cells := by
              rcases Nat.lt_or_ge h.length ha.length with hh | hh
              · have := Fa.2 h.length (by simp) (by have := L.md.lts; omega) (by have := L.md.lts; omega) (by have := L.md.lts; omega) (by have := L.md.lts; omega)
                rw [obj_self _ _ rfl] at this
                exact cells_at this
              · omega
            have st := La.storeP (P := P) (lk := lk) hlk.2.2.2.2.2 hg (sz3 S.p) (.sc (.int .i64 (t.mn + 1))) rfl 5 (by omega) { t with mn := t.mn + 1 } rfl
            have Lb := La.setT th { t with mn := t.mn + 1 }
            have hg1 : (G.ths.set th { t with mn := t.mn + 1 })[th]? = some { t with mn := t.mn + 1 } := List.getElem?_set_self (List.getElem?_eq_some_iff.1 hg).1
            have st1 := Lb.storeP (P := P) (lk := lk) hlk.2.2.2.2.2 hg1 (sz34 S.p) (.ag x.ev.cells) x.ev.len 6 (by omega) { t with mn := t.mn + 1, ls := x.ev } rfl
            have L2 := Lb.setT th { t with mn := t.mn + 1, ls := x.ev }
            have hbb : cellsAt (ha.set bt (.rw 109 (recs ThV.cells (G.ths.set th { t with mn := t.mn + 1 })))) h.length = some x.cells := by
              rw [cells_other' _ _ _ _ (by omega)]; exact hba
            simp only [List.set_set] at st1 L2
            have hx2 : cellsAt (ha.set bt (.rw 109 (recs ThV.cells (G.ths.set th { t with mn := t.mn + 1, ls := x.ev })))) h.length = some x.cells := by
              rw [cells_other' _ _ _ _ (by omega)]; exact hba
            have F2 := F1a.setT l2 (.rw 109 (recs ThV.cells (G.ths.set th { t with mn := t.mn + 1, ls := x.ev })))
            have hln : (ha.set bt (.rw 109 (recs ThV.cells (G.ths.set th { t with mn := t.mn + 1, ls := x.ev })))).length = ha.length := by simp
            have hlb : (ha.set bt (.rw 109 (recs ThV.cells (G.ths.set th { t with mn := t.mn + 1 })))).length = ha.length := by simp
            generalize ha.set bt (.rw 109 (recs ThV.cells (G.ths.set th { t with mn := t.mn + 1, ls := x.ev }))) = H2 at st1 L2 hx2 hln F2
            generalize ha.set bt (.rw 109 (recs ThV.cells (G.ths.set th { t with mn := t.mn + 1 }))) = Hb at st st1 hbb hlb
            obtain ⟨q2, h3, happ, st3, L3, F3, Q3, hp3⟩ := L2.addE S x (by show G.ents.length ≤ _; omega) hlk.1
            have hp2 := L2.cl
            unfold lgC at hp2 hp3
            have htk : List.take (1 * 13) x.cells = x.cells := List.take_of_length_le (by omega)
            simp (maxSteps := 1000000) (disch := first | omega | (simp (disch := first | omega | (simp only [EvV.len, MonV.len, ThV.len, EnV.len, List.length_append, List.length_cons, List.length_nil, List.length_set]; first | done | omega)) only [EvV.len, MonV.len, ThV.len, EnV.len, amSide, Int.reduceToNat, Nat.reducePow, Nat.reduceMul]; first | done | omega)) only  [↓amPre, amPost, ↓s_lit', Nat.reduceAdd, Nat.reduceSub, List.replicate, retA, resultsA, resultA, toC, toCL, Nat.reduceEqDiff, append_at (un25 S.p) (sz36 S.p) (by36 S.p) (ze36 S.p) (by decide) (by decide) rfl, copy_at (un25 S.p) (sz36 S.p) (by36 S.p) (ze36 S.p) (by decide) (by decide) rfl, sl_cells (sz36 S.p), (bu109 S.p), lit_fill (un25 S.p) (sz36 S.p) (ze36 S.p), (fa109_1 S.p), (fa109_2 S.p), (fa109_3 S.p), (fa109_4 S.p), (fa36_0 S.p), (fa36_1 S.p), (fa36_2 S.p), (fa36_3 S.p), (fa36_4 S.p), (fa36_5 S.p), (fa36_6 S.p), (fa67_1 S.p), (fa67_2 S.p), (fa67_3 S.p), iaddr_sl (un65 S.p) (sz109 S.p), len_sl (un65 S.p), len_nils (un65 S.p), part_all (ag109 S.p) (sz109 S.p), part_at (ag109 S.p) (sz109 S.p), part_sc (ag25 S.p), part_all (ag27 S.p) (sz27 S.p), part_at (ag27 S.p) (sz27 S.p), part_sc (ag3 S.p), part_sc (ag32 S.p), part_all (ag34 S.p) (sz34 S.p), part_at (ag34 S.p) (sz34 S.p), part_all (ag36 S.p) (sz36 S.p), part_at (ag36 S.p) (sz36 S.p), part_sc (ag4 S.p), part_sc (ag64 S.p), part_sc (ag65 S.p), store_last (sz109 S.p), (sz109 S.p), store_last (sz25 S.p), (sz25 S.p), store_last (sz3 S.p), (sz3 S.p), store_last (sz34 S.p), (sz34 S.p), f38, f39, f41, e20, hp, hp2, hp3, hx2, hba, hbb, hta, set_last, htk, ht, hpx, x0, x1, x2, xvs, hxl, gp, g3, g4, g5, st, st1, happ, st3, obj_self, List.flatten_cons, List.flatten_nil, List.append_nil, Nat.zero_mul, beqI_t, beqI_f, bneI_t, bneI_f, bne_self_eq_false, beq_self_eq_true, dec_t, dec_f, cells_self, cells_other, idx_ok, Int.toNat_natCast, Nat.zero_add, Nat.add_zero, wrap_i64]
            exact Ends.some (ad_yes hS L3 F2 F3 Q3)
        · rw [decide_eq_false ck] at f41
          have hN : addL G x = none := by rw [hadd, hT, if_neg ck]; rfl
          simp (maxSteps := 1000000) (disch := first | omega | (simp (disch := first | omega | (simp only [EvV.len, MonV.len, ThV.len, EnV.len, List.length_append, List.length_cons, List.length_nil, List.length_set]; first | done | omega)) only [EvV.len, MonV.len, ThV.len, EnV.len, amSide, Int.reduceToNat, Nat.reducePow, Nat.reduceMul]; first | done | omega)) only  [↓amPre, amPost, ↓s_lit', Nat.reduceAdd, Nat.reduceSub, List.replicate, retA, resultsA, resultA, toC, toCL, Nat.reduceEqDiff, append_at (un25 S.p) (sz36 S.p) (by36 S.p) (ze36 S.p) (by decide) (by decide) rfl, copy_at (un25 S.p) (sz36 S.p) (by36 S.p) (ze36 S.p) (by decide) (by decide) rfl, sl_cells (sz36 S.p), (bu109 S.p), lit_fill (un25 S.p) (sz36 S.p) (ze36 S.p), (fa109_1 S.p), (fa109_2 S.p), (fa109_3 S.p), (fa109_4 S.p), (fa36_0 S.p), (fa36_1 S.p), (fa36_2 S.p), (fa36_3 S.p), (fa36_4 S.p), (fa36_5 S.p), (fa36_6 S.p), (fa67_1 S.p), (fa67_2 S.p), (fa67_3 S.p), iaddr_sl (un65 S.p) (sz109 S.p), len_sl (un65 S.p), len_nils (un65 S.p), part_all (ag109 S.p) (sz109 S.p), part_at (ag109 S.p) (sz109 S.p), part_sc (ag25 S.p), part_all (ag27 S.p) (sz27 S.p), part_at (ag27 S.p) (sz27 S.p), part_sc (ag3 S.p), part_sc (ag32 S.p), part_all (ag34 S.p) (sz34 S.p), part_at (ag34 S.p) (sz34 S.p), part_all (ag36 S.p) (sz36 S.p), part_at (ag36 S.p) (sz36 S.p), part_sc (ag4 S.p), part_sc (ag64 S.p), part_sc (ag65 S.p), store_last (sz109 S.p), (sz109 S.p), store_last (sz25 S.p), (sz25 S.p), store_last (sz3 S.p), (sz3 S.p), store_last (sz34 S.p), (sz34 S.p), f38, f39, f41, hp, ht, hpx, x0, x1, x2, xvs, hxl, gp, g3, g4, g5, beqI_t, beqI_f, bneI_t, bneI_f, bne_self_eq_false, beq_self_eq_true, dec_t, dec_f, cells_self, cells_other, idx_ok, Int.toNat_natCast, Nat.zero_add, Nat.add_zero, wrap_i64]
          exact Ends.some (ad_no L1 F1 hN)
      · -- a Return
        have hT : addT G t x = if doneT t ∧ x.nm = t.cl - 1 ∧ x.vl = numT t ∧ x.er = t.ls.e then some (G.V, { noTh with cl := t.cl }) else none := by unfold addT; rw [if_neg (by omega), if_neg (by omega)]
        by_cases cd : t.op = false ∨ t.mn = 0
        · have f42 := fun lk h => s42n S (show 2 ≤ d by omega) t cd lk h
          have hN : addL G x = none := by
            rw [hadd, hT, if_neg]; · rfl
            intro q
            rcases cd with cd | cd
            · rw [q.1.1] at cd; cases cd
            · exact q.1.2.1 cd
          simp (maxSteps := 1000000) (disch := first | omega | (simp (disch := first | omega | (simp only [EvV.len, MonV.len, ThV.len, EnV.len, List.length_append, List.length_cons, List.length_nil, List.length_set]; first | done | omega)) only [EvV.len, MonV.len, ThV.len, EnV.len, amSide, Int.reduceToNat, Nat.reducePow, Nat.reduceMul]; first | done | omega)) only  [↓amPre, amPost, ↓s_lit', Nat.reduceAdd, Nat.reduceSub, List.replicate, retA, resultsA, resultA, toC, toCL, Nat.reduceEqDiff, append_at (un25 S.p) (sz36 S.p) (by36 S.p) (ze36 S.p) (by decide) (by decide) rfl, copy_at (un25 S.p) (sz36 S.p) (by36 S.p) (ze36 S.p) (by decide) (by decide) rfl, sl_cells (sz36 S.p), (bu109 S.p), lit_fill (un25 S.p) (sz36 S.p) (ze36 S.p), (fa109_1 S.p), (fa109_2 S.p), (fa109_3 S.p), (fa109_4 S.p), (fa36_0 S.p), (fa36_1 S.p), (fa36_2 S.p), (fa36_3 S.p), (fa36_4 S.p), (fa36_5 S.p), (fa36_6 S.p), (fa67_1 S.p), (fa67_2 S.p), (fa67_3 S.p), iaddr_sl (un65 S.p) (sz109 S.p), len_sl (un65 S.p), len_nils (un65 S.p), part_all (ag109 S.p) (sz109 S.p), part_at (ag109 S.p) (sz109 S.p), part_sc (ag25 S.p), part_all (ag27 S.p) (sz27 S.p), part_at (ag27 S.p) (sz27 S.p), part_sc (ag3 S.p), part_sc (ag32 S.p), part_all (ag34 S.p) (sz34 S.p), part_at (ag34 S.p) (sz34 S.p), part_all (ag36 S.p) (sz36 S.p), part_at (ag36 S.p) (sz36 S.p), part_sc (ag4 S.p), part_sc (ag64 S.p), part_sc (ag65 S.p), store_last (sz109 S.p), (sz109 S.p), store_last (sz25 S.p), (sz25 S.p), store_last (sz3 S.p), (sz3 S.p), store_last (sz34 S.p), (sz34 S.p), f38, f39, f42, hp, ht, hpx, x0, x1, x2, x11, x12, hxl, gp, g3, g4, g5, beqI_t, beqI_f, bneI_t, bneI_f, bne_self_eq_false, beq_self_eq_true, dec_t, dec_f, cells_self, cells_other, idx_ok, Int.toNat_natCast, Nat.zero_add, Nat.add_zero, wrap_i64]
          exact Ends.some (ad_no L1 F1 hN)
        · have ho : t.op = true := by cases q : t.op; exact absurd (.inl q) cd; rfl
          have f42 := fun lk h => s42 S (show 2 ≤ d by omega) t ho (fun q => cd (.inr q)) (by omega) lk h
          have hbb : -9223372036854775808 ≤ t.cl - 1 ∧ t.cl - 1 ≤ 9223372036854775807 := by omega
          by_cases c1 : doneT t
          · rw [decide_eq_true c1] at f42
            by_cases c2 : x.nm = t.cl - 1
            · by_cases c3 : x.vl = numT t
              · by_cases c4 : x.er = t.ls.e
                · have hS : addL G x = some { G with ths := G.ths.set th { noTh with cl := t.cl }, ents := G.ents ++ [x] } := by rw [hadd, hT, if_pos ⟨c1, c2, c3, c4⟩]; rfl
                  have L2 := L1.setT th { noTh with cl := t.cl }
                  have st := L1.storeP (P := P) hlk.2.2.2.2.2 hg (sz109 S.p) (.ag (ThV.cells { noTh with cl := t.cl })) rfl 0 (by omega) { noTh with cl := t.cl } (by rw [splice_def]; simp [t.len, ThV.len, CV.cells])
                  rw [Nat.add_zero] at st
                  rw [show ThV.cells { noTh with cl := t.cl } = [.int .i64 0, .int .i64 0, .int .i64 0, .int .i64 t.cl, .bool false, .int .i64 0, .int .i64 0, .int .i64 0, .int .i64 0, .int .i64 0, .int .i64 0] from rfl] at st
                  have hx2 : cellsAt ((h ++ [AO.rw 36 x.cells]).set bt (.rw 109 (recs ThV.cells (G.ths.set th { noTh with cl := t.cl })))) h.length = some x.cells := cells_at (by rw [List.getElem?_set_ne (by omega), obj_self _ _ rfl])
                  have hln : ((h ++ [AO.rw 36 x.cells]).set bt (.rw 109 (recs ThV.cells (G.ths.set th { noTh with cl := t.cl })))).length = h.length + 1 := by simp
                  have F2 := F1.setT l2 (.rw 109 (recs ThV.cells (G.ths.set th { noTh with cl := t.cl })))
                  generalize (h ++ [AO.rw 36 x.cells]).set bt (.rw 109 (recs ThV.cells (G.ths.set th { noTh with cl := t.cl }))) = H2 at st L2 hx2 hln F2
                  obtain ⟨q2, h3, happ, st3, L3, F3, Q3, hp3⟩ := L2.addE S x (by show G.ents.length ≤ _; omega) hlk.1
                  have hp2 := L2.cl
                  unfold lgC at hp2 hp3
                  have htk : List.take (1 * 13) x.cells = x.cells := List.take_of_length_le (by omega)
                  simp (maxSteps := 1000000) (disch := first | omega | (simp (disch := first | omega | (simp only [EvV.len, MonV.len, ThV.len, EnV.len, List.length_append, List.length_cons, List.length_nil, List.length_set]; first | done | omega)) only [EvV.len, MonV.len, ThV.len, EnV.len, amSide, Int.reduceToNat, Nat.reducePow, Nat.reduceMul]; first | done | omega)) only  [↓amPre, amPost, ↓s_lit', Nat.reduceAdd, Nat.reduceSub, List.replicate, retA, resultsA, resultA, toC, toCL, Nat.reduceEqDiff, append_at (un25 S.p) (sz36 S.p) (by36 S.p) (ze36 S.p) (by decide) (by decide) rfl, copy_at (un25 S.p) (sz36 S.p) (by36 S.p) (ze36 S.p) (by decide) (by decide) rfl, sl_cells (sz36 S.p), (bu109 S.p), lit_fill (un25 S.p) (sz36 S.p) (ze36 S.p), (fa109_1 S.p), (fa109_2 S.p), (fa109_3 S.p), (fa109_4 S.p), (fa36_0 S.p), (fa36_1 S.p), (fa36_2 S.p), (fa36_3 S.p), (fa36_4 S.p), (fa36_5 S.p), (fa36_6 S.p), (fa67_1 S.p), (fa67_2 S.p), (fa67_3 S.p), iaddr_sl (un65 S.p) (sz109 S.p), len_sl (un65 S.p), len_nils (un65 S.p), part_all (ag109 S.p) (sz109 S.p), part_at (ag109 S.p) (sz109 S.p), part_sc (ag25 S.p), part_all (ag27 S.p) (sz27 S.p), part_at (ag27 S.p) (sz27 S.p), part_sc (ag3 S.p), part_sc (ag32 S.p), part_all (ag34 S.p) (sz34 S.p), part_at (ag34 S.p) (sz34 S.p), part_all (ag36 S.p) (sz36 S.p), part_at (ag36 S.p) (sz36 S.p), part_sc (ag4 S.p), part_sc (ag64 S.p), part_sc (ag65 S.p), store_last (sz109 S.p), (sz109 S.p), store_last (sz25 S.p), (sz25 S.p), store_last (sz3 S.p), (sz3 S.p), store_last (sz34 S.p), (sz34 S.p), f38, f39, f42, hp, hp2, hp3, hx2, set_last, htk, ht, hpx, x0, x1, x2, x11, x12, hxl, gp, g3, g4, g5, st, happ, st3, obj_self, List.flatten_cons, List.flatten_nil, List.append_nil, Nat.zero_mul, beqI_t, beqI_f, bneI_t, bneI_f, bne_self_eq_false, beq_self_eq_true, dec_t, dec_f, cells_self, cells_other, idx_ok, Int.toNat_natCast, Nat.zero_add, Nat.add_zero, wrap_i64]
                  exact Ends.some (ad_yes hS L3 F2 F3 Q3)
                · have hN : addL G x = none := by rw [hadd, hT, if_neg (fun q => c4 q.2.2.2)]; rfl
                  simp (maxSteps := 1000000) (disch := first | omega | (simp (disch := first | omega | (simp only [EvV.len, MonV.len, ThV.len, EnV.len, List.length_append, List.length_cons, List.length_nil, List.length_set]; first | done | omega)) only [EvV.len, MonV.len, ThV.len, EnV.len, amSide, Int.reduceToNat, Nat.reducePow, Nat.reduceMul]; first | done | omega)) only  [↓amPre, amPost, ↓s_lit', Nat.reduceAdd, Nat.reduceSub, List.replicate, retA, resultsA, resultA, toC, toCL, Nat.reduceEqDiff, append_at (un25 S.p) (sz36 S.p) (by36 S.p) (ze36 S.p) (by decide) (by decide) rfl, copy_at (un25 S.p) (sz36 S.p) (by36 S.p) (ze36 S.p) (by decide) (by decide) rfl, sl_cells (sz36 S.p), (bu109 S.p), lit_fill (un25 S.p) (sz36 S.p) (ze36 S.p), (fa109_1 S.p), (fa109_2 S.p), (fa109_3 S.p), (fa109_4 S.p), (fa36_0 S.p), (fa36_1 S.p), (fa36_2 S.p), (fa36_3 S.p), (fa36_4 S.p), (fa36_5 S.p), (fa36_6 S.p), (fa67_1 S.p), (fa67_2 S.p), (fa67_3 S.p), iaddr_sl (un65 S.p) (sz109 S.p), len_sl (un65 S.p), len_nils (un65 S.p), part_all (ag109 S.p) (sz109 S.p), part_at (ag109 S.p) (sz109 S.p), part_sc (ag25 S.p), part_all (ag27 S.p) (sz27 S.p), part_at (ag27 S.p) (sz27 S.p), part_sc (ag3 S.p), part_sc (ag32 S.p), part_all (ag34 S.p) (sz34 S.p), part_at (ag34 S.p) (sz34 S.p), part_all (ag36 S.p) (sz36 S.p), part_at (ag36 S.p) (sz36 S.p), part_sc (ag4 S.p), part_sc (ag64 S.p), part_sc (ag65 S.p), store_last (sz109 S.p), (sz109 S.p), store_last (sz25 S.p), (sz25 S.p), store_last (sz3 S.p), (sz3 S.p), store_last (sz34 S.p), (sz34 S.p), f38, f39, f42, hp, ht, hpx, x0, x1, x2, x11, x12, hxl, gp, g3, g4, g5, beqI_t, beqI_f, bneI_t, bneI_f, bne_self_eq_false, beq_self_eq_true, dec_t, dec_f, cells_self, cells_other, idx_ok, Int.toNat_natCast, Nat.zero_add, Nat.add_zero, wrap_i64]
                  exact Ends.some (ad_no L1 F1 hN)
              · have hN : addL G x = none := by rw [hadd, hT, if_neg (fun q => c3 q.2.2.1)]; rfl
                simp (maxSteps := 1000000) (disch := first | omega | (simp (disch := first | omega | (simp only [EvV.len, MonV.len, ThV.len, EnV.len, List.length_append, List.length_cons, List.length_nil, List.length_set]; first | done | omega)) only [EvV.len, MonV.len, ThV.len, EnV.len, amSide, Int.reduceToNat, Nat.reducePow, Nat.reduceMul]; first | done | omega)) only  [↓amPre, amPost, ↓s_lit', Nat.reduceAdd, Nat.reduceSub, List.replicate, retA, resultsA, resultA, toC, toCL, Nat.reduceEqDiff, append_at (un25 S.p) (sz36 S.p) (by36 S.p) (ze36 S.p) (by decide) (by decide) rfl, copy_at (un25 S.p) (sz36 S.p) (by36 S.p) (ze36 S.p) (by decide) (by decide) rfl, sl_cells (sz36 S.p), (bu109 S.p), lit_fill (un25 S.p) (sz36 S.p) (ze36 S.p), (fa109_1 S.p), (fa109_2 S.p), (fa109_3 S.p), (fa109_4 S.p), (fa36_0 S.p), (fa36_1 S.p), (fa36_2 S.p), (fa36_3 S.p), (fa36_4 S.p), (fa36_5 S.p), (fa36_6 S.p), (fa67_1 S.p), (fa67_2 S.p), (fa67_3 S.p), iaddr_sl (un65 S.p) (sz109 S.p), len_sl (un65 S.p), len_nils (un65 S.p), part_all (ag109 S.p) (sz109 S.p), part_at (ag109 S.p) (sz109 S.p), part_sc (ag25 S.p), part_all (ag27 S.p) (sz27 S.p), part_at (ag27 S.p) (sz27 S.p), part_sc (ag3 S.p), part_sc (ag32 S.p), part_all (ag34 S.p) (sz34 S.p), part_at (ag34 S.p) (sz34 S.p), part_all (ag36 S.p) (sz36 S.p), part_at (ag36 S.p) (sz36 S.p), part_sc (ag4 S.p), part_sc (ag64 S.p), part_sc (ag65 S.p), store_last (sz109 S.p), (sz109 S.p), store_last (sz25 S.p), (sz25 S.p), store_last (sz3 S.p), (sz3 S.p), store_last (sz34 S.p), (sz34 S.p), f38, f39, f42, hp, ht, hpx, x0, x1, x2, x11, x12, hxl, gp, g3, g4, g5, beqI_t, beqI_f, bneI_t, bneI_f, bne_self_eq_false, beq_self_eq_true, dec_t, dec_f, cells_self, cells_other, idx_ok, Int.toNat_natCast, Nat.zero_add, Nat.add_zero, wrap_i64]
                exact Ends.some (ad_no L1 F1 hN)
            · have hN : addL G x = none := by rw [hadd, hT, if_neg (fun q => c2 q.2.1)]; rfl
              simp (maxSteps := 1000000) (disch := first | omega | (simp (disch := first | omega | (simp only [EvV.len, MonV.len, ThV.len, EnV.len, List.length_append, List.length_cons, List.length_nil, List.length_set]; first | done | omega)) only [EvV.len, MonV.len, ThV.len, EnV.len, amSide, Int.reduceToNat, Nat.reducePow, Nat.reduceMul]; first | done | omega)) only  [↓amPre, amPost, ↓s_lit', Nat.reduceAdd, Nat.reduceSub, List.replicate, retA, resultsA, resultA, toC, toCL, Nat.reduceEqDiff, append_at (un25 S.p) (sz36 S.p) (by36 S.p) (ze36 S.p) (by decide) (by decide) rfl, copy_at (un25 S.p) (sz36 S.p) (by36 S.p) (ze36 S.p) (by decide) (by decide) rfl, sl_cells (sz36 S.p), (bu109 S.p), lit_fill (un25 S.p) (sz36 S.p) (ze36 S.p), (fa109_1 S.p), (fa109_2 S.p), (fa109_3 S.p), (fa109_4 S.p), (fa36_0 S.p), (fa36_1 S.p), (fa36_2 S.p), (fa36_3 S.p), (fa36_4 S.p), (fa36_5 S.p), (fa36_6 S.p), (fa67_1 S.p), (fa67_2 S.p), (fa67_3 S.p), iaddr_sl (un65 S.p) (sz109 S.p), len_sl (un65 S.p), len_nils (un65 S.p), part_all (ag109 S.p) (sz109 S.p), part_at (ag109 S.p) (sz109 S.p), part_sc (ag25 S.p), part_all (ag27 S.p) (sz27 S.p), part_at (ag27 S.p) (sz27 S.p), part_sc (ag3 S.p), part_sc (ag32 S.p), part_all (ag34 S.p) (sz34 S.p), part_at (ag34 S.p) (sz34 S.p), part_all (ag36 S.p) (sz36 S.p), part_at (ag36 S.p) (sz36 S.p), part_sc (ag4 S.p), part_sc (ag64 S.p), part_sc (ag65 S.p), store_last (sz109 S.p), (sz109 S.p), store_last (sz25 S.p), (sz25 S.p), store_last (sz3 S.p), (sz3 S.p), store_last (sz34 S.p), (sz34 S.p), f38, f39, f42, hp, ht, hpx, x0, x1, x2, x11, x12, hxl, gp, g3, g4, g5, beqI_t, beqI_f, bneI_t, bneI_f, bne_self_eq_false, beq_self_eq_true, dec_t, dec_f, cells_self, cells_other, idx_ok, Int.toNat_natCast, Nat.zero_add, Nat.add_zero, wrap_i64]
              exact Ends.some (ad_no L1 F1 hN)
          · rw [decide_eq_false c1] at f42
            have hN : addL G x = none := by rw [hadd, hT, if_neg (fun q => c1 q.1)]; rfl
            simp (maxSteps := 1000000) (disch := first | omega | (simp (disch := first | omega | (simp only [EvV.len, MonV.len, ThV.len, EnV.len, List.length_append, List.length_cons, List.length_nil, List.length_set]; first | done | omega)) only [EvV.len, MonV.len, ThV.len, EnV.len, amSide, Int.reduceToNat, Nat.reducePow, Nat.reduceMul]; first | done | omega)) only  [↓amPre, amPost, ↓s_lit', Nat.reduceAdd, Nat.reduceSub, List.replicate, retA, resultsA, resultA, toC, toCL, Nat.reduceEqDiff, append_at (un25 S.p) (sz36 S.p) (by36 S.p) (ze36 S.p) (by decide) (by decide) rfl, copy_at (un25 S.p) (sz36 S.p) (by36 S.p) (ze36 S.p) (by decide) (by decide) rfl, sl_cells (sz36 S.p), (bu109 S.p), lit_fill (un25 S.p) (sz36 S.p) (ze36 S.p), (fa109_1 S.p), (fa109_2 S.p), (fa109_3 S.p), (fa109_4 S.p), (fa36_0 S.p), (fa36_1 S.p), (fa36_2 S.p), (fa36_3 S.p), (fa36_4 S.p), (fa36_5 S.p), (fa36_6 S.p), (fa67_1 S.p), (fa67_2 S.p), (fa67_3 S.p), iaddr_sl (un65 S.p) (sz109 S.p), len_sl (un65 S.p), len_nils (un65 S.p), part_all (ag109 S.p) (sz109 S.p), part_at (ag109 S.p) (sz109 S.p), part_sc (ag25 S.p), part_all (ag27 S.p) (sz27 S.p), part_at (ag27 S.p) (sz27 S.p), part_sc (ag3 S.p), part_sc (ag32 S.p), part_all (ag34 S.p) (sz34 S.p), part_at (ag34 S.p) (sz34 S.p), part_all (ag36 S.p) (sz36 S.p), part_at (ag36 S.p) (sz36 S.p), part_sc (ag4 S.p), part_sc (ag64 S.p), part_sc (ag65 S.p), store_last (sz109 S.p), (sz109 S.p), store_last (sz25 S.p), (sz25 S.p), store_last (sz3 S.p), (sz3 S.p), store_last (sz34 S.p), (sz34 S.p), f38, f39, f42, hp, ht, hpx, x0, x1, x2, x11, x12, hxl, gp, g3, g4, g5, beqI_t, beqI_f, bneI_t, bneI_f, bne_self_eq_false, beq_self_eq_true, dec_t, dec_f, cells_self, cells_other, idx_ok, Int.toNat_natCast, Nat.zero_add, Nat.add_zero, wrap_i64]
            exact Ends.some (ad_no L1 F1 hN)
    · have hN : addL G x = none := by unfold addL; rw [if_neg (fun q => cr q.2)]
      by_cases c0 : x.th < 0
      · simp (maxSteps := 1000000) (disch := first | omega | (simp (disch := first | omega | (simp only [EvV.len, MonV.len, ThV.len, EnV.len, List.length_append, List.length_cons, List.length_nil, List.length_set]; first | done | omega)) only [EvV.len, MonV.len, ThV.len, EnV.len, amSide, Int.reduceToNat, Nat.reducePow, Nat.reduceMul]; first | done | omega)) only  [↓amPre, amPost, ↓s_lit', Nat.reduceAdd, Nat.reduceSub, List.replicate, retA, resultsA, resultA, toC, toCL, Nat.reduceEqDiff, append_at (un25 S.p) (sz36 S.p) (by36 S.p) (ze36 S.p) (by decide) (by decide) rfl, copy_at (un25 S.p) (sz36 S.p) (by36 S.p) (ze36 S.p) (by decide) (by decide) rfl, sl_cells (sz36 S.p), (bu109 S.p), lit_fill (un25 S.p) (sz36 S.p) (ze36 S.p), (fa109_1 S.p), (fa109_2 S.p), (fa109_3 S.p), (fa109_4 S.p), (fa36_0 S.p), (fa36_1 S.p), (fa36_2 S.p), (fa36_3 S.p), (fa36_4 S.p), (fa36_5 S.p), (fa36_6 S.p), (fa67_1 S.p), (fa67_2 S.p), (fa67_3 S.p), iaddr_sl (un65 S.p) (sz109 S.p), len_sl (un65 S.p), len_nils (un65 S.p), part_all (ag109 S.p) (sz109 S.p), part_at (ag109 S.p) (sz109 S.p), part_sc (ag25 S.p), part_all (ag27 S.p) (sz27 S.p), part_at (ag27 S.p) (sz27 S.p), part_sc (ag3 S.p), part_sc (ag32 S.p), part_all (ag34 S.p) (sz34 S.p), part_at (ag34 S.p) (sz34 S.p), part_all (ag36 S.p) (sz36 S.p), part_at (ag36 S.p) (sz36 S.p), part_sc (ag4 S.p), part_sc (ag64 S.p), part_sc (ag65 S.p), store_last (sz109 S.p), (sz109 S.p), store_last (sz25 S.p), (sz25 S.p), store_last (sz3 S.p), (sz3 S.p), store_last (sz34 S.p), (sz34 S.p), f38, f39, hp, ht, hpx, x0, x1, beqI_t, beqI_f, bneI_t, bneI_f, bne_self_eq_false, beq_self_eq_true, dec_t, dec_f, cells_self, cells_other, idx_ok, Int.toNat_natCast, Nat.zero_add, Nat.add_zero, wrap_i64]
        exact Ends.some (ad_no L1 F1 hN)
      · simp (maxSteps := 1000000) (disch := first | omega | (simp (disch := first | omega | (simp only [EvV.len, MonV.len, ThV.len, EnV.len, List.length_append, List.length_cons, List.length_nil, List.length_set]; first | done | omega)) only [EvV.len, MonV.len, ThV.len, EnV.len, amSide, Int.reduceToNat, Nat.reducePow, Nat.reduceMul]; first | done | omega)) only  [↓amPre, amPost, ↓s_lit', Nat.reduceAdd, Nat.reduceSub, List.replicate, retA, resultsA, resultA, toC, toCL, Nat.reduceEqDiff, append_at (un25 S.p) (sz36 S.p) (by36 S.p) (ze36 S.p) (by decide) (by decide) rfl, copy_at (un25 S.p) (sz36 S.p) (by36 S.p) (ze36 S.p) (by decide) (by decide) rfl, sl_cells (sz36 S.p), (bu109 S.p), lit_fill (un25 S.p) (sz36 S.p) (ze36 S.p), (fa109_1 S.p), (fa109_2 S.p), (fa109_3 S.p), (fa109_4 S.p), (fa36_0 S.p), (fa36_1 S.p), (fa36_2 S.p), (fa36_3 S.p), (fa36_4 S.p), (fa36_5 S.p), (fa36_6 S.p), (fa67_1 S.p), (fa67_2 S.p), (fa67_3 S.p), iaddr_sl (un65 S.p) (sz109 S.p), len_sl (un65 S.p), len_nils (un65 S.p), part_all (ag109 S.p) (sz109 S.p), part_at (ag109 S.p) (sz109 S.p), part_sc (ag25 S.p), part_all (ag27 S.p) (sz27 S.p), part_at (ag27 S.p) (sz27 S.p), part_sc (ag3 S.p), part_sc (ag32 S.p), part_all (ag34 S.p) (sz34 S.p), part_at (ag34 S.p) (sz34 S.p), part_all (ag36 S.p) (sz36 S.p), part_at (ag36 S.p) (sz36 S.p), part_sc (ag4 S.p), part_sc (ag64 S.p), part_sc (ag65 S.p), store_last (sz109 S.p), (sz109 S.p), store_last (sz25 S.p), (sz25 S.p), store_last (sz3 S.p), (sz3 S.p), store_last (sz34 S.p), (sz34 S.p), f38, f39, hp, ht, hpx, x0, x1, beqI_t, beqI_f, bneI_t, bneI_f, bne_self_eq_false, beq_self_eq_true, dec_t, dec_f, cells_self, cells_other, idx_ok, Int.toNat_natCast, Nat.zero_add, Nat.add_zero, wrap_i64]
        exact Ends.some (ad_no L1 F1 hN)
  · rw [decide_eq_false cb] at f39
    have hN : addL G x = none := by unfold addL; rw [if_neg (fun q => cb q.1)]
    simp (maxSteps := 1000000) (disch := first | omega | (simp (disch := first | omega | (simp only [EvV.len, MonV.len, ThV.len, EnV.len, List.length_append, List.length_cons, List.length_nil, List.length_set]; first | done | omega)) only [EvV.len, MonV.len, ThV.len, EnV.len, amSide, Int.reduceToNat, Nat.reducePow, Nat.reduceMul]; first | done | omega)) only  [↓amPre, amPost, ↓s_lit', Nat.reduceAdd, Nat.reduceSub, List.replicate, retA, resultsA, resultA, toC, toCL, Nat.reduceEqDiff, append_at (un25 S.p) (sz36 S.p) (by36 S.p) (ze36 S.p) (by decide) (by decide) rfl, copy_at (un25 S.p) (sz36 S.p) (by36 S.p) (ze36 S.p) (by decide) (by decide) rfl, sl_cells (sz36 S.p), (bu109 S.p), lit_fill (un25 S.p) (sz36 S.p) (ze36 S.p), (fa109_1 S.p), (fa109_2 S.p), (fa109_3 S.p), (fa109_4 S.p), (fa36_0 S.p), (fa36_1 S.p), (fa36_2 S.p), (fa36_3 S.p), (fa36_4 S.p), (fa36_5 S.p), (fa36_6 S.p), (fa67_1 S.p), (fa67_2 S.p), (fa67_3 S.p), iaddr_sl (un65 S.p) (sz109 S.p), len_sl (un65 S.p), len_nils (un65 S.p), part_all (ag109 S.p) (sz109 S.p), part_at (ag109 S.p) (sz109 S.p), part_sc (ag25 S.p), part_all (ag27 S.p) (sz27 S.p), part_at (ag27 S.p) (sz27 S.p), part_sc (ag3 S.p), part_sc (ag32 S.p), part_all (ag34 S.p) (sz34 S.p), part_at (ag34 S.p) (sz34 S.p), part_all (ag36 S.p) (sz36 S.p), part_at (ag36 S.p) (sz36 S.p), part_sc (ag4 S.p), part_sc (ag64 S.p), part_sc (ag65 S.p), store_last (sz109 S.p), (sz109 S.p), store_last (sz25 S.p), (sz25 S.p), store_last (sz3 S.p), (sz3 S.p), store_last (sz34 S.p), (sz34 S.p), f38, f39, hp, ht, hpx, x0, x1, beqI_t, beqI_f, bneI_t, bneI_f, bne_self_eq_false, beq_self_eq_true, dec_t, dec_f, cells_self, cells_other, idx_ok, Int.toNat_natCast, Nat.zero_add, Nat.add_zero, wrap_i64]
    exact Ends.some (ad_no L1 F1 hN)
end
end Go.AM
