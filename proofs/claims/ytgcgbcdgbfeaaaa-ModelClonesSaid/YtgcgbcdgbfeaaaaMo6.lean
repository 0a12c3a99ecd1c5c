/- Monitors' model: what is written: End and Hash. Conditions: none. -/
import Derived.Test.YtgcgbcdgbfeaaaaMo5
set_option linter.unusedVariables false
set_option linter.unusedSimpArgs false
set_option maxRecDepth 100000
namespace Go.AM
open Go.Proofs
-- LENS: EvV.len, MonV.len
section
variable {P : Program} {T : Tab} {K d : Nat} (S : Sd P T K)
include S
set_option maxHeartbeats 4000000 in
theorem s111 (hd : 1 ≤ d) {p bm bf bw bl : Nat} {V : MdV} {h : List AO} (M : MdAt h p bm bf bw bl V) (e : EvV) {ob : Nat} {o : MonV} (ho : e.o = (ob : Int)) (hx : V.mons[ob]? = some o) {th : Nat} {f : Bool} (ht : e.t = (th : Int)) (hf : V.flags[th]? = some f) (lk : Nat) (hlk : lk ≤ bm ∧ lk ≤ bf ∧ lk ≤ bl) :
    Ends (Tr p bm bf bw bl h V (endV V e o)) (ev P T K d 111 [.sc (.ptr p 0), .ag e.cells] lk h) := by
  obtain ⟨d, rfl⟩ : ∃ k, d = k + 1 := ⟨d - 1, by omega⟩
  rw [ev_run (at111 S.t)]
  unfold i111 Try.f111
  have hto : e.o.toNat = ob := by rw [ho]; rfl
  have hto2 : e.t.toNat = th := by rw [ht]; rfl
  have M1 := M.ext (((Ext1.refl h).push (.rw 101 e.cells)).push (.rw 164 [.int .i64 e.o, .int .i64 e.t]))
  have hp := M.cp
  have hm := M.cm
  have hcf := M.cf
  obtain ⟨l1, l2, l3, l4, l5⟩ := M.lts
  obtain ⟨a1, a2, a3, a4, a5, a6, a7, a8, a9, a10⟩ := M.nes
  have e1 := e.c1
  have e2 := e.c2
  have e4 := e.c4
  rw [ho] at e2
  rw [ht] at e1
  have hob := (List.getElem?_eq_some_iff.1 hx).1
  have hth := (List.getElem?_eq_some_iff.1 hf).1
  have r0 : (recs MonV.cells V.mons)[ob * 3]? = some (.int .i64 o.own) := recs_get MonV.len hx 0 (by omega)
  obtain ⟨D1, D2⟩ := placeD P S.p
  have Mm := M1.ext ((Ext1.refl _).push .dead)
  have lw := lookP D2 LfV.cv Mm.pl (e.o, e.t) true
  have hpm := Mm.cp
  unfold pk at lw
  simp only [ho, ht] at hpm
  cases g : getP (e.o, e.t) V.left with
  | none =>
    rw [show endV V e o = none by unfold endV; rw [g]]
    rw [g] at lw
    simp only [if_true, ho, ht] at lw
    have M2 := M1.ext ((Ext1.refl _).push (.rw 156 [.int .i64 0, .int .i64 0]))
    simp only [ho, ht] at M2
    simp (maxSteps := 1000000) (disch := first | omega | (simp (disch := first | omega | (simp only [EvV.len, MonV.len, List.length_append, List.length_cons, List.length_nil, List.length_set]; first | done | omega)) only [EvV.len, MonV.len, amSide, Int.reduceToNat, Nat.reducePow, Nat.reduceMul]; first | done | omega)) only  [↓amPre, amPost, ↓s_lit', Nat.reduceAdd, Nat.reduceSub, List.replicate, retA, resultsA, resultA, toC, toCL, Nat.reduceEqDiff, (ze156 S.p), (ze164 S.p), (bu164 S.p), (fa101_1 S.p), (fa101_2 S.p), (fa101_4 S.p), (fa126_1 S.p), (fa126_2 S.p), (fa126_4 S.p), (fa150_0 S.p), (fa150_1 S.p), (fa156_0 S.p), (fa156_1 S.p), iaddr_sl (un121 S.p) (sz150 S.p), iaddr_sl (un122 S.p) (sz4 S.p), part_sc (ag121 S.p), part_sc (ag122 S.p), part_sc (ag124 S.p), part_all (ag164 S.p) (sz164 S.p), part_at (ag164 S.p) (sz164 S.p), part_sc (ag3 S.p), part_sc (ag52 S.p), store_last (sz156 S.p), (sz156 S.p), store_last (sz164 S.p), (sz164 S.p), store_last (sz3 S.p), (sz3 S.p), store_last (sz4 S.p), (sz4 S.p), hp, hpm, hm, e1, e2, e4, r0, lw, idx_ok, cells_self, cells_other, obj_self, set_self, Int.toNat_natCast, Nat.zero_add, Nat.add_zero]
    exact Ends.some (Tr.none M2 ((((Fr.refl bm bf bw bl h).push _).push _).push _))
  | some l =>
    rw [show endV V e o = if o.own ≠ -1 ∨ l.why ≠ e.e then none else some { (if e.e = 12 then V.setF th false else V).setM ob ⟨e.t, l.cnt, o.hsh⟩ with left := delP (e.o, e.t) V.left } by unfold endV; rw [g, hto, hto2]]
    rw [g] at lw
    simp only [if_true, LfV.cv, ho, ht] at lw
    have M2 := M1.ext ((Ext1.refl _).push (.rw 156 [.int .i64 l.cnt, .int .i64 l.why]))
    simp only [ho, ht] at M2
    by_cases co : o.own = -1
    · by_cases cw : l.why = e.e
      · rw [if_neg (fun q => q.elim (fun q => q co) (fun q => q cw))]
        have dl := del_entsP D2 LfV.cv M2.pl (e.o, e.t) (lk := lk) hlk.2.2
        rw [List.set_append_left _ _ (by simp; omega), List.set_append_left _ _ (by simp; omega), List.set_append_left _ _ l5] at dl
        unfold pk at dl
        simp only [ho, ht] at dl
        have N1 := M.setL (delP ((ob : Int), (th : Int)) V.left)
        have hx1 : ({ V with left := delP ((ob : Int), (th : Int)) V.left } : MdV).mons[ob]? = some o := hx
        have st1 := N1.store (sz3 S.p) hx1 hlk.1 0 (by omega) (.int .i64 e.t) ⟨e.t, o.cnt, o.hsh⟩ rfl
        rw [Nat.add_zero] at st1
        have N2 := N1.setM ob ⟨e.t, o.cnt, o.hsh⟩
        have hx2 : (MdV.setM { V with left := delP ((ob : Int), (th : Int)) V.left } ob ⟨e.t, o.cnt, o.hsh⟩).mons[ob]? = some ⟨e.t, o.cnt, o.hsh⟩ := List.getElem?_set_self hob
        have st2 := N2.store (sz3 S.p) hx2 hlk.1 1 (by omega) (.int .i64 l.cnt) ⟨e.t, l.cnt, o.hsh⟩ rfl
        have N3 := N2.setM ob ⟨e.t, l.cnt, o.hsh⟩
        have N3p := N3.cp
        have N3f := N3.cf
        have N1p := N1.cp
        have hth3 : th < ((MdV.setM { V with left := delP ((ob : Int), (th : Int)) V.left } ob ⟨e.t, o.cnt, o.hsh⟩).setM ob ⟨e.t, l.cnt, o.hsh⟩).flags.length := hth
        have stf := N3.storeF (sz4 S.p) hth3 hlk.2.1 false
        have N3' := ((N3.ext ((Ext1.refl _).push (.rw 101 e.cells))).ext ((Ext1.refl _).push (.rw 164 [.int .i64 (ob : Int), .int .i64 (th : Int)]))).ext ((Ext1.refl _).push (.rw 156 [.int .i64 l.cnt, .int .i64 l.why]))
        have N4 := (((N3.setF th false).ext ((Ext1.refl _).push (.rw 101 e.cells))).ext ((Ext1.refl _).push (.rw 164 [.int .i64 (ob : Int), .int .i64 (th : Int)]))).ext ((Ext1.refl _).push (.rw 156 [.int .i64 l.cnt, .int .i64 l.why]))
        simp only [MdV.setM, MdV.setF, ht] at st1 st2 stf N3p N3f N1p N3' N4
        simp only [List.set_set] at st2 stf N3p N3f N3' N4
        by_cases c12 : e.e = 12
        · rw [if_pos c12]
          simp (maxSteps := 1000000) (disch := first | omega | (simp (disch := first | omega | (simp only [EvV.len, MonV.len, List.length_append, List.length_cons, List.length_nil, List.length_set]; first | done | omega)) only [EvV.len, MonV.len, amSide, Int.reduceToNat, Nat.reducePow, Nat.reduceMul]; first | done | omega)) only  [↓amPre, amPost, ↓s_lit', Nat.reduceAdd, Nat.reduceSub, List.replicate, retA, resultsA, resultA, toC, toCL, Nat.reduceEqDiff, (ze156 S.p), (ze164 S.p), (bu164 S.p), (fa101_1 S.p), (fa101_2 S.p), (fa101_4 S.p), (fa126_1 S.p), (fa126_2 S.p), (fa126_4 S.p), (fa150_0 S.p), (fa150_1 S.p), (fa156_0 S.p), (fa156_1 S.p), iaddr_sl (un121 S.p) (sz150 S.p), iaddr_sl (un122 S.p) (sz4 S.p), part_sc (ag121 S.p), part_sc (ag122 S.p), part_sc (ag124 S.p), part_all (ag164 S.p) (sz164 S.p), part_at (ag164 S.p) (sz164 S.p), part_sc (ag3 S.p), part_sc (ag52 S.p), store_last (sz156 S.p), (sz156 S.p), store_last (sz164 S.p), (sz164 S.p), store_last (sz3 S.p), (sz3 S.p), store_last (sz4 S.p), (sz4 S.p), hp, hpm, hm, e1, e2, e4, r0, lw, dl, st1, st2, stf, N3p, N3f, N1p, store_skip, bneI_f, bne_self_eq_false, beqI_t, beqI_f, idx_ok, cells_self, cells_other, obj_self, set_self, Int.toNat_natCast, Nat.zero_add, Nat.add_zero, Nat.mul_one]
          refine Ends.some (Tr.some ?_ ?_)
          · simp only [MdV.setM, MdV.setF, ho, ht]; exact N4
          · exact ((((((Fr.refl bm bf bw bl h).set _ (.inr (.inr (.inr rfl)))).set _ (.inl rfl)).set _ (.inr (.inl rfl))).push _).push _).push _
        · rw [if_neg c12]
          simp (maxSteps := 1000000) (disch := first | omega | (simp (disch := first | omega | (simp only [EvV.len, MonV.len, List.length_append, List.length_cons, List.length_nil, List.length_set]; first | done | omega)) only [EvV.len, MonV.len, amSide, Int.reduceToNat, Nat.reducePow, Nat.reduceMul]; first | done | omega)) only  [↓amPre, amPost, ↓s_lit', Nat.reduceAdd, Nat.reduceSub, List.replicate, retA, resultsA, resultA, toC, toCL, Nat.reduceEqDiff, (ze156 S.p), (ze164 S.p), (bu164 S.p), (fa101_1 S.p), (fa101_2 S.p), (fa101_4 S.p), (fa126_1 S.p), (fa126_2 S.p), (fa126_4 S.p), (fa150_0 S.p), (fa150_1 S.p), (fa156_0 S.p), (fa156_1 S.p), iaddr_sl (un121 S.p) (sz150 S.p), iaddr_sl (un122 S.p) (sz4 S.p), part_sc (ag121 S.p), part_sc (ag122 S.p), part_sc (ag124 S.p), part_all (ag164 S.p) (sz164 S.p), part_at (ag164 S.p) (sz164 S.p), part_sc (ag3 S.p), part_sc (ag52 S.p), store_last (sz156 S.p), (sz156 S.p), store_last (sz164 S.p), (sz164 S.p), store_last (sz3 S.p), (sz3 S.p), store_last (sz4 S.p), (sz4 S.p), hp, hpm, hm, e1, e2, e4, r0, lw, dl, st1, st2, stf, N3p, N3f, N1p, store_skip, bneI_f, bne_self_eq_false, beqI_t, beqI_f, idx_ok, cells_self, cells_other, obj_self, set_self, Int.toNat_natCast, Nat.zero_add, Nat.add_zero, Nat.mul_one]
          refine Ends.some (Tr.some ?_ ?_)
          · simp only [MdV.setM, MdV.setF, ho, ht]; exact N3'
          · exact (((((Fr.refl bm bf bw bl h).set _ (.inr (.inr (.inr rfl)))).set _ (.inl rfl)).push _).push _).push _
      · rw [if_pos (Or.inr cw)]
        simp (maxSteps := 1000000) (disch := first | omega | (simp (disch := first | omega | (simp only [EvV.len, MonV.len, List.length_append, List.length_cons, List.length_nil, List.length_set]; first | done | omega)) only [EvV.len, MonV.len, amSide, Int.reduceToNat, Nat.reducePow, Nat.reduceMul]; first | done | omega)) only  [↓amPre, amPost, ↓s_lit', Nat.reduceAdd, Nat.reduceSub, List.replicate, retA, resultsA, resultA, toC, toCL, Nat.reduceEqDiff, (ze156 S.p), (ze164 S.p), (bu164 S.p), (fa101_1 S.p), (fa101_2 S.p), (fa101_4 S.p), (fa126_1 S.p), (fa126_2 S.p), (fa126_4 S.p), (fa150_0 S.p), (fa150_1 S.p), (fa156_0 S.p), (fa156_1 S.p), iaddr_sl (un121 S.p) (sz150 S.p), iaddr_sl (un122 S.p) (sz4 S.p), part_sc (ag121 S.p), part_sc (ag122 S.p), part_sc (ag124 S.p), part_all (ag164 S.p) (sz164 S.p), part_at (ag164 S.p) (sz164 S.p), part_sc (ag3 S.p), part_sc (ag52 S.p), store_last (sz156 S.p), (sz156 S.p), store_last (sz164 S.p), (sz164 S.p), store_last (sz3 S.p), (sz3 S.p), store_last (sz4 S.p), (sz4 S.p), hp, hpm, hm, e1, e2, e4, r0, lw, bneI_t, bneI_f, bne_self_eq_false, idx_ok, cells_self, cells_other, obj_self, set_self, Int.toNat_natCast, Nat.zero_add, Nat.add_zero]
        exact Ends.some (Tr.none M2 ((((Fr.refl bm bf bw bl h).push _).push _).push _))
    · rw [if_pos (Or.inl co)]
      simp (maxSteps := 1000000) (disch := first | omega | (simp (disch := first | omega | (simp only [EvV.len, MonV.len, List.length_append, List.length_cons, List.length_nil, List.length_set]; first | done | omega)) only [EvV.len, MonV.len, amSide, Int.reduceToNat, Nat.reducePow, Nat.reduceMul]; first | done | omega)) only  [↓amPre, amPost, ↓s_lit', Nat.reduceAdd, Nat.reduceSub, List.replicate, retA, resultsA, resultA, toC, toCL, Nat.reduceEqDiff, (ze156 S.p), (ze164 S.p), (bu164 S.p), (fa101_1 S.p), (fa101_2 S.p), (fa101_4 S.p), (fa126_1 S.p), (fa126_2 S.p), (fa126_4 S.p), (fa150_0 S.p), (fa150_1 S.p), (fa156_0 S.p), (fa156_1 S.p), iaddr_sl (un121 S.p) (sz150 S.p), iaddr_sl (un122 S.p) (sz4 S.p), part_sc (ag121 S.p), part_sc (ag122 S.p), part_sc (ag124 S.p), part_all (ag164 S.p) (sz164 S.p), part_at (ag164 S.p) (sz164 S.p), part_sc (ag3 S.p), part_sc (ag52 S.p), store_last (sz156 S.p), (sz156 S.p), store_last (sz164 S.p), (sz164 S.p), store_last (sz3 S.p), (sz3 S.p), store_last (sz4 S.p), (sz4 S.p), hp, hpm, hm, e1, e2, e4, r0, lw, bneI_t, bneI_f, bne_self_eq_false, idx_ok, cells_self, cells_other, obj_self, set_self, Int.toNat_natCast, Nat.zero_add, Nat.add_zero]
      exact Ends.some (Tr.none M2 ((((Fr.refl bm bf bw bl h).push _).push _).push _))
set_option maxHeartbeats 4000000 in
theorem s113 (hd : 2 ≤ d) {p bm bf bw bl : Nat} {V : MdV} {h : List AO} (M : MdAt h p bm bf bw bl V) (e : EvV) {ob : Nat} {o : MonV} (ho : e.o = (ob : Int)) (hx : V.mons[ob]? = some o) (lk : Nat) (hlk : lk ≤ bm) :
    Ends (Tr p bm bf bw bl h V (hashV V e o)) (ev P T K d 113 [.sc (.ptr p 0), .ag e.cells] lk h) := by
  obtain ⟨d, rfl⟩ : ∃ k, d = k + 1 := ⟨d - 1, by omega⟩
  rw [ev_run (at113 S.t)]
  unfold i113 Try.f113
  have hto : e.o.toNat = ob := by rw [ho]; rfl
  have M1 := M.ext ((Ext1.refl h).push (.rw 101 e.cells))
  have F1 := (Fr.refl bm bf bw bl h).push (.rw 101 e.cells)
  have hp := M.cp
  have hm := M.cm
  obtain ⟨l1, l2, l3, l4, l5⟩ := M.lts
  have e2 := e.c2
  have e3 := e.c3
  have e4 := e.c4
  rw [ho] at e2
  have hob := (List.getElem?_eq_some_iff.1 hx).1
  have r0 : (recs MonV.cells V.mons)[ob * 3]? = some (.int .i64 o.own) := recs_get MonV.len hx 0 (by omega)
  have r2 : (recs MonV.cells V.mons)[ob * 3 + 2]? = some (.int .i64 o.hsh) := by rw [recs_get MonV.len hx 2 (by omega)]; exact o.c2
  have f74 := fun a b c lk h => s74 S (show 1 ≤ d by omega) a b c lk h
  unfold hashV
  rw [hto]
  by_cases c11 : e.e = 11
  · rw [if_pos c11]
    by_cases ca : e.a = 0
    · by_cases co : o.own = -1
      · rw [if_neg (fun q => q.2 co)]
        simp (maxSteps := 1000000) (disch := first | omega | (simp (disch := first | omega | (simp only [EvV.len, MonV.len, List.length_append, List.length_cons, List.length_nil, List.length_set]; first | done | omega)) only [EvV.len, MonV.len, amSide, Int.reduceToNat, Nat.reducePow, Nat.reduceMul]; first | done | omega)) only  [↓amPre, amPost, ↓s_lit', Nat.reduceAdd, Nat.reduceSub, List.replicate, retA, resultsA, resultA, toC, toCL, Nat.reduceEqDiff, (fa101_2 S.p), (fa101_3 S.p), (fa101_4 S.p), (fa126_1 S.p), (fa150_0 S.p), (fa150_2 S.p), iaddr_sl (un121 S.p) (sz150 S.p), part_sc (ag121 S.p), part_sc (ag3 S.p), part_sc (ag52 S.p), store_last (sz3 S.p), (sz3 S.p), hp, hm, e2, e3, e4, r0, r2, bneI_t, bneI_f, bne_self_eq_false, beqI_t, beqI_f, idx_ok, cells_self, cells_other, Int.toNat_natCast, Nat.zero_add, Nat.add_zero]
        exact Ends.some (Tr.none M1 F1)
      · rw [if_pos ⟨ca, co⟩]
        simp (maxSteps := 1000000) (disch := first | omega | (simp (disch := first | omega | (simp only [EvV.len, MonV.len, List.length_append, List.length_cons, List.length_nil, List.length_set]; first | done | omega)) only [EvV.len, MonV.len, amSide, Int.reduceToNat, Nat.reducePow, Nat.reduceMul]; first | done | omega)) only  [↓amPre, amPost, ↓s_lit', Nat.reduceAdd, Nat.reduceSub, List.replicate, retA, resultsA, resultA, toC, toCL, Nat.reduceEqDiff, (fa101_2 S.p), (fa101_3 S.p), (fa101_4 S.p), (fa126_1 S.p), (fa150_0 S.p), (fa150_2 S.p), iaddr_sl (un121 S.p) (sz150 S.p), part_sc (ag121 S.p), part_sc (ag3 S.p), part_sc (ag52 S.p), store_last (sz3 S.p), (sz3 S.p), hp, hm, e2, e3, e4, r0, r2, bneI_t, bneI_f, bne_self_eq_false, beqI_t, beqI_f, idx_ok, cells_self, cells_other, Int.toNat_natCast, Nat.zero_add, Nat.add_zero]
        exact Ends.some (Tr.some M1 F1)
    · rw [if_neg (fun q => ca q.1)]
      simp (maxSteps := 1000000) (disch := first | omega | (simp (disch := first | omega | (simp only [EvV.len, MonV.len, List.length_append, List.length_cons, List.length_nil, List.length_set]; first | done | omega)) only [EvV.len, MonV.len, amSide, Int.reduceToNat, Nat.reducePow, Nat.reduceMul]; first | done | omega)) only  [↓amPre, amPost, ↓s_lit', Nat.reduceAdd, Nat.reduceSub, List.replicate, retA, resultsA, resultA, toC, toCL, Nat.reduceEqDiff, (fa101_2 S.p), (fa101_3 S.p), (fa101_4 S.p), (fa126_1 S.p), (fa150_0 S.p), (fa150_2 S.p), iaddr_sl (un121 S.p) (sz150 S.p), part_sc (ag121 S.p), part_sc (ag3 S.p), part_sc (ag52 S.p), store_last (sz3 S.p), (sz3 S.p), hp, hm, e2, e3, e4, r0, r2, bneI_t, bneI_f, bne_self_eq_false, beqI_t, beqI_f, idx_ok, cells_self, cells_other, Int.toNat_natCast, Nat.zero_add, Nat.add_zero]
      exact Ends.some (Tr.none M1 F1)
  · rw [if_neg c11]
    by_cases c0 : e.e = 0
    · by_cases ca : 1 ≤ e.a ∧ e.a ≤ 2147483647
      · have hD := decide_eq_true ca
        by_cases ch : o.hsh = 0
        · rw [if_neg (fun q => q.elim (fun q => q c0) (fun q => q.elim (fun q => q ca) (fun q => q.1 ch)))]
          have st1 := M.store (sz3 S.p) hx hlk 2 (by omega) (.int .i64 e.a) ⟨o.own, o.cnt, e.a⟩ rfl
          have N1 := (M.setM ob ⟨o.own, o.cnt, e.a⟩).ext ((Ext1.refl _).push (.rw 101 e.cells))
          simp (maxSteps := 1000000) (disch := first | omega | (simp (disch := first | omega | (simp only [EvV.len, MonV.len, List.length_append, List.length_cons, List.length_nil, List.length_set]; first | done | omega)) only [EvV.len, MonV.len, amSide, Int.reduceToNat, Nat.reducePow, Nat.reduceMul]; first | done | omega)) only  [↓amPre, amPost, ↓s_lit', Nat.reduceAdd, Nat.reduceSub, List.replicate, retA, resultsA, resultA, toC, toCL, Nat.reduceEqDiff, (fa101_2 S.p), (fa101_3 S.p), (fa101_4 S.p), (fa126_1 S.p), (fa150_0 S.p), (fa150_2 S.p), iaddr_sl (un121 S.p) (sz150 S.p), part_sc (ag121 S.p), part_sc (ag3 S.p), part_sc (ag52 S.p), store_last (sz3 S.p), (sz3 S.p), hp, hm, e2, e3, e4, r0, r2, f74, hD, st1, store_skip, bneI_t, bneI_f, bne_self_eq_false, beqI_t, beqI_f, idx_ok, cells_self, cells_other, Int.toNat_natCast, Nat.zero_add, Nat.add_zero]
          exact Ends.some (Tr.some N1 (((Fr.refl bm bf bw bl h).set _ (.inl rfl)).push _))
        · by_cases ch2 : o.hsh = e.a
          · rw [if_neg (fun q => q.elim (fun q => q c0) (fun q => q.elim (fun q => q ca) (fun q => q.2 ch2)))]
            have st1 := M.store (sz3 S.p) hx hlk 2 (by omega) (.int .i64 e.a) ⟨o.own, o.cnt, e.a⟩ rfl
            have N1 := (M.setM ob ⟨o.own, o.cnt, e.a⟩).ext ((Ext1.refl _).push (.rw 101 e.cells))
            simp (maxSteps := 1000000) (disch := first | omega | (simp (disch := first | omega | (simp only [EvV.len, MonV.len, List.length_append, List.length_cons, List.length_nil, List.length_set]; first | done | omega)) only [EvV.len, MonV.len, amSide, Int.reduceToNat, Nat.reducePow, Nat.reduceMul]; first | done | omega)) only  [↓amPre, amPost, ↓s_lit', Nat.reduceAdd, Nat.reduceSub, List.replicate, retA, resultsA, resultA, toC, toCL, Nat.reduceEqDiff, (fa101_2 S.p), (fa101_3 S.p), (fa101_4 S.p), (fa126_1 S.p), (fa150_0 S.p), (fa150_2 S.p), iaddr_sl (un121 S.p) (sz150 S.p), part_sc (ag121 S.p), part_sc (ag3 S.p), part_sc (ag52 S.p), store_last (sz3 S.p), (sz3 S.p), hp, hm, e2, e3, e4, r0, r2, f74, hD, st1, store_skip, bneI_t, bneI_f, bne_self_eq_false, beqI_t, beqI_f, idx_ok, cells_self, cells_other, Int.toNat_natCast, Nat.zero_add, Nat.add_zero]
            exact Ends.some (Tr.some N1 (((Fr.refl bm bf bw bl h).set _ (.inl rfl)).push _))
          · rw [if_pos (Or.inr (Or.inr ⟨ch, ch2⟩))]
            simp (maxSteps := 1000000) (disch := first | omega | (simp (disch := first | omega | (simp only [EvV.len, MonV.len, List.length_append, List.length_cons, List.length_nil, List.length_set]; first | done | omega)) only [EvV.len, MonV.len, amSide, Int.reduceToNat, Nat.reducePow, Nat.reduceMul]; first | done | omega)) only  [↓amPre, amPost, ↓s_lit', Nat.reduceAdd, Nat.reduceSub, List.replicate, retA, resultsA, resultA, toC, toCL, Nat.reduceEqDiff, (fa101_2 S.p), (fa101_3 S.p), (fa101_4 S.p), (fa126_1 S.p), (fa150_0 S.p), (fa150_2 S.p), iaddr_sl (un121 S.p) (sz150 S.p), part_sc (ag121 S.p), part_sc (ag3 S.p), part_sc (ag52 S.p), store_last (sz3 S.p), (sz3 S.p), hp, hm, e2, e3, e4, r0, r2, f74, hD, bneI_t, bneI_f, bne_self_eq_false, beqI_t, beqI_f, idx_ok, cells_self, cells_other, Int.toNat_natCast, Nat.zero_add, Nat.add_zero]
            exact Ends.some (Tr.none M1 F1)
      · have hD := decide_eq_false ca
        rw [if_pos (Or.inr (Or.inl ca))]
        simp (maxSteps := 1000000) (disch := first | omega | (simp (disch := first | omega | (simp only [EvV.len, MonV.len, List.length_append, List.length_cons, List.length_nil, List.length_set]; first | done | omega)) only [EvV.len, MonV.len, amSide, Int.reduceToNat, Nat.reducePow, Nat.reduceMul]; first | done | omega)) only  [↓amPre, amPost, ↓s_lit', Nat.reduceAdd, Nat.reduceSub, List.replicate, retA, resultsA, resultA, toC, toCL, Nat.reduceEqDiff, (fa101_2 S.p), (fa101_3 S.p), (fa101_4 S.p), (fa126_1 S.p), (fa150_0 S.p), (fa150_2 S.p), iaddr_sl (un121 S.p) (sz150 S.p), part_sc (ag121 S.p), part_sc (ag3 S.p), part_sc (ag52 S.p), store_last (sz3 S.p), (sz3 S.p), hp, hm, e2, e3, e4, r0, r2, f74, hD, bneI_t, bneI_f, bne_self_eq_false, beqI_t, beqI_f, idx_ok, cells_self, cells_other, Int.toNat_natCast, Nat.zero_add, Nat.add_zero]
        exact Ends.some (Tr.none M1 F1)
    · rw [if_pos (Or.inl c0)]
      simp (maxSteps := 1000000) (disch := first | omega | (simp (disch := first | omega | (simp only [EvV.len, MonV.len, List.length_append, List.length_cons, List.length_nil, List.length_set]; first | done | omega)) only [EvV.len, MonV.len, amSide, Int.reduceToNat, Nat.reducePow, Nat.reduceMul]; first | done | omega)) only  [↓amPre, amPost, ↓s_lit', Nat.reduceAdd, Nat.reduceSub, List.replicate, retA, resultsA, resultA, toC, toCL, Nat.reduceEqDiff, (fa101_2 S.p), (fa101_3 S.p), (fa101_4 S.p), (fa126_1 S.p), (fa150_0 S.p), (fa150_2 S.p), iaddr_sl (un121 S.p) (sz150 S.p), part_sc (ag121 S.p), part_sc (ag3 S.p), part_sc (ag52 S.p), store_last (sz3 S.p), (sz3 S.p), hp, hm, e2, e3, e4, r0, r2, f74, bneI_t, bneI_f, bne_self_eq_false, beqI_t, beqI_f, idx_ok, cells_self, cells_other, Int.toNat_natCast, Nat.zero_add, Nat.add_zero]
      exact Ends.some (Tr.none M1 F1)
end
end Go.AM
