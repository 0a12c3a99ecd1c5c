/- Monitors' model: what is written: Enter and Exit. Conditions: none. -/
import Derived.Test.YtgcgbcdgbfeaaaaMo2
set_option linter.unusedVariables false
set_option linter.unusedSimpArgs false
set_option maxRecDepth 100000
namespace Go.AM
open Go.Proofs
-- LENS: EvV.len, MonV.len
section
variable {h : List AO} {p bm bf bw bl : Nat} {V : MdV}
theorem Fr.push {h' : List AO} (H : Fr bm bf bw bl h h') (o : AO) : Fr bm bf bw bl h (h' ++ [o]) := H.trans (Fr.of_ext ((Ext1.refl h').push o))
theorem Fr.set {h' : List AO} (H : Fr bm bf bw bl h h') {l : Nat} (o : AO) (hl : l = bm ∨ l = bf ∨ l = bw ∨ l = bl) : Fr bm bf bw bl h (h'.set l o) := by
  refine H.trans ⟨by simp, fun k hk n1 n2 n3 n4 => ?_⟩
  rw [List.getElem?_set_ne]
  rintro rfl
  rcases hl with rfl | rfl | rfl | rfl
  · exact n1 rfl
  · exact n2 rfl
  · exact n3 rfl
  · exact n4 rfl
theorem MdAt.frame (M : MdAt h p bm bf bw bl V) {l : Nat} (o : AO) (n0 : l ≠ p) (n1 : l ≠ bm) (n2 : l ≠ bf) (n3 : l ≠ bw) (n4 : l ≠ bl) : MdAt (h.set l o) p bm bf bw bl V :=
  ⟨by rw [List.getElem?_set_ne n0]; exact M.pp, by rw [List.getElem?_set_ne n1]; exact M.pm, by rw [List.getElem?_set_ne n2]; exact M.pf, by rw [List.getElem?_set_ne n3]; exact M.pw, by rw [List.getElem?_set_ne n4]; exact M.pl, M.ne⟩
theorem MdAt.setM (M : MdAt h p bm bf bw bl V) (i : Nat) (y : MonV) : MdAt (h.set bm (.rw 150 (recs MonV.cells (V.mons.set i y)))) p bm bf bw bl (V.setM i y) := by
  obtain ⟨a1, a2, a3, a4, a5, a6, a7, a8, a9, a10⟩ := M.nes
  obtain ⟨l1, l2, l3, l4, l5⟩ := M.lts
  refine ⟨?_, List.getElem?_set_self l2, ?_, ?_, ?_, M.ne⟩
  · rw [List.getElem?_set_ne (Ne.symm a1)]
    show _ = some (AO.rw 126 [_, .sl bm 0 (V.mons.set i y).length 3, _, _, _])
    rw [List.length_set]; exact M.pp
  · rw [List.getElem?_set_ne a5]; exact M.pf
  · rw [List.getElem?_set_ne a6]; exact M.pw
  · rw [List.getElem?_set_ne a7]; exact M.pl
theorem MdAt.setF (M : MdAt h p bm bf bw bl V) (i : Nat) (b : Bool) : MdAt (h.set bf (.rw 4 ((V.flags.set i b).map SV.bool))) p bm bf bw bl (V.setF i b) := by
  obtain ⟨a1, a2, a3, a4, a5, a6, a7, a8, a9, a10⟩ := M.nes
  obtain ⟨l1, l2, l3, l4, l5⟩ := M.lts
  refine ⟨?_, ?_, List.getElem?_set_self l3, ?_, ?_, M.ne⟩
  · rw [List.getElem?_set_ne (Ne.symm a2)]
    show _ = some (AO.rw 126 [_, _, .sl bf 0 (V.flags.set i b).length 1, _, _])
    rw [List.length_set]; exact M.pp
  · rw [List.getElem?_set_ne (Ne.symm a5)]; exact M.pm
  · rw [List.getElem?_set_ne a8]; exact M.pw
  · rw [List.getElem?_set_ne a9]; exact M.pl
theorem MdAt.setW (M : MdAt h p bm bf bw bl V) (W : List (Pk × Int)) : MdAt (h.set bw (.map (entsP intV W))) p bm bf bw bl { V with waits := W } := by
  obtain ⟨a1, a2, a3, a4, a5, a6, a7, a8, a9, a10⟩ := M.nes
  obtain ⟨l1, l2, l3, l4, l5⟩ := M.lts
  refine ⟨?_, ?_, ?_, List.getElem?_set_self l4, ?_, M.ne⟩
  · rw [List.getElem?_set_ne (Ne.symm a3)]; exact M.pp
  · rw [List.getElem?_set_ne (Ne.symm a6)]; exact M.pm
  · rw [List.getElem?_set_ne (Ne.symm a8)]; exact M.pf
  · rw [List.getElem?_set_ne a10]; exact M.pl
theorem MdAt.setL (M : MdAt h p bm bf bw bl V) (W : List (Pk × LfV)) : MdAt (h.set bl (.map (entsP LfV.cv W))) p bm bf bw bl { V with left := W } := by
  obtain ⟨a1, a2, a3, a4, a5, a6, a7, a8, a9, a10⟩ := M.nes
  obtain ⟨l1, l2, l3, l4, l5⟩ := M.lts
  refine ⟨?_, ?_, ?_, ?_, List.getElem?_set_self l5, M.ne⟩
  · rw [List.getElem?_set_ne (Ne.symm a4)]; exact M.pp
  · rw [List.getElem?_set_ne (Ne.symm a7)]; exact M.pm
  · rw [List.getElem?_set_ne (Ne.symm a9)]; exact M.pf
  · rw [List.getElem?_set_ne (Ne.symm a10)]; exact M.pw
/-- One cell of an object's monitor. -/
theorem MdAt.store (M : MdAt h p bm bf bw bl V) {P : Program} (hs : szT P 3 = some 1) {ob : Nat} {o : MonV} (hx : V.mons[ob]? = some o) {lk : Nat} (hlk : lk ≤ bm) (off : Nat) (ho : off < 3) (v : SV) (y : MonV) (hy : o.cells.set off v = y.cells) :
    storeA P h lk 3 (.v (.sc (.ptr bm (ob * 3 + off)))) (.v (.sc v)) = some (h.set bm (.rw 150 (recs MonV.cells (V.mons.set ob y)))) := by
  have hle := recs_le MonV.len hx
  rw [store_at M.pm hlk hs (c := .sc v) rfl (by omega)]
  have : splice (recs MonV.cells V.mons) (ob * 3 + off) (CV.sc v).cells = (recs MonV.cells V.mons).set (ob * 3 + off) v := splice_one _ _ _ (by omega)
  rw [this, recs_put MonV.len hx off ho v y hy]
/-- All of an object's monitor. -/
theorem MdAt.storeAll (M : MdAt h p bm bf bw bl V) {P : Program} (hs : szT P 150 = some 3) {ob : Nat} {o : MonV} (hx : V.mons[ob]? = some o) {lk : Nat} (hlk : lk ≤ bm) (y : MonV) :
    storeA P h lk 150 (.v (.sc (.ptr bm (ob * 3)))) (.v (.ag y.cells)) = some (h.set bm (.rw 150 (recs MonV.cells (V.mons.set ob y)))) := by
  have hle := recs_le MonV.len hx
  rw [store_at M.pm hlk hs (c := .ag y.cells) (MonV.len y) (by omega)]
  have : splice (recs MonV.cells V.mons) (ob * 3) (CV.ag y.cells).cells = recs MonV.cells (V.mons.set ob y) := recs_set MonV.len (List.getElem?_eq_some_iff.1 hx).1 y
  rw [this]
theorem MdAt.storeF (M : MdAt h p bm bf bw bl V) {P : Program} (hs : szT P 4 = some 1) {t : Nat} (ht : t < V.flags.length) {lk : Nat} (hlk : lk ≤ bf) (b : Bool) :
    storeA P h lk 4 (.v (.sc (.ptr bf t))) (.v (.sc (.bool b))) = some (h.set bf (.rw 4 ((V.flags.set t b).map SV.bool))) := by
  rw [store_at M.pf hlk hs (c := .sc (.bool b)) rfl (by rw [List.length_map]; omega)]
  have : splice (V.flags.map SV.bool) t (CV.sc (SV.bool b)).cells = (V.flags.map SV.bool).set t (.bool b) := splice_one _ _ _ (by rw [List.length_map]; omega)
  rw [this, List.map_set]
end
section
variable {P : Program} {T : Tab} {K d : Nat} (S : Sd P T K)
include S
/-- What a transition's part comes to. -/
def Tr (p bm bf bw bl : Nat) (h : List AO) (V : MdV) (X : Option MdV) : AV → List AO → Prop := fun v h' => v = .v (.sc (.bool X.isSome)) ∧ MdAt h' p bm bf bw bl (X.getD V) ∧ Fr bm bf bw bl h h'
omit S in
theorem Tr.none {p bm bf bw bl : Nat} {h h' : List AO} {V : MdV} (M : MdAt h' p bm bf bw bl V) (F : Fr bm bf bw bl h h') : Tr p bm bf bw bl h V none (.v (.sc (.bool false))) h' := ⟨rfl, M, F⟩
omit S in
theorem Tr.some {p bm bf bw bl : Nat} {h h' : List AO} {V W : MdV} (M : MdAt h' p bm bf bw bl W) (F : Fr bm bf bw bl h h') : Tr p bm bf bw bl h V (some W) (.v (.sc (.bool true))) h' := ⟨rfl, M, F⟩
set_option maxHeartbeats 2000000 in
theorem s107 (hd : 3 ≤ d) {p bm bf bw bl : Nat} {V : MdV} {h : List AO} (M : MdAt h p bm bf bw bl V) (e : EvV) {ob : Nat} {o : MonV} (ho : e.o = (ob : Int)) (hx : V.mons[ob]? = some o) (hc : -100 ≤ o.cnt ∧ o.cnt ≤ 100) (lk : Nat) (hlk : lk ≤ bm) :
    Ends (Tr p bm bf bw bl h V (enterV V e o)) (ev P T K d 107 [.sc (.ptr p 0), .ag e.cells] lk h) := by
  obtain ⟨d, rfl⟩ : ∃ k, d = k + 1 := ⟨d - 1, by omega⟩
  rw [ev_run (at107 S.t)]
  unfold i107 Try.f107
  have hto : e.o.toNat = ob := by rw [ho]; rfl
  have M1 := M.ext ((Ext1.refl h).push (.rw 101 e.cells))
  have F1 := (Fr.refl bm bf bw bl h).push (.rw 101 e.cells)
  have hp := M.cp
  have hm := M.cm
  obtain ⟨l1, l2, l3, l4, l5⟩ := M.lts
  have e0 := e.c0
  have e1 := e.c1
  have e2 := e.c2
  have e4 := e.c4
  rw [ho] at e2
  have hob := (List.getElem?_eq_some_iff.1 hx).1
  have r1 : (recs MonV.cells V.mons)[ob * 3 + 1]? = some (.int .i64 o.cnt) := by rw [recs_get MonV.len hx 1 (by omega)]; exact o.c1
  have hpe := partE S e
  have f133 := fun lk => s133 S (show 1 ≤ d by omega) M1 e ho hx lk
  have f132 := fun lk => s132 S (show 2 ≤ d by omega) M1 e ho hx lk
  unfold enterV
  by_cases c0 : e.e = 0
  · rw [if_pos c0]
    by_cases co : o.own ≠ e.t ∧ o.own ≠ -1
    · rw [if_pos (Or.inl co)]
      rw [decide_eq_true co] at f132
      simp (maxSteps := 1000000) (disch := first | omega | (simp (disch := first | omega | (simp only [EvV.len, MonV.len, List.length_append, List.length_cons, List.length_nil, List.length_set]; first | done | omega)) only [EvV.len, MonV.len, amSide, Int.reduceToNat, Nat.reducePow, Nat.reduceMul]; first | done | omega)) only  [↓amPre, amPost, ↓s_lit', Nat.reduceAdd, Nat.reduceSub, List.replicate, retA, resultsA, resultA, toC, toCL, Nat.reduceEqDiff, (fa101_0 S.p), (fa101_1 S.p), (fa101_2 S.p), (fa101_4 S.p), (fa126_0 S.p), (fa126_1 S.p), (fa150_0 S.p), (fa150_1 S.p), iaddr_sl (un121 S.p) (sz150 S.p), part_all (ag101 S.p) (sz101 S.p), part_at (ag101 S.p) (sz101 S.p), part_sc (ag121 S.p), part_sc (ag3 S.p), part_sc (ag52 S.p), store_last (sz3 S.p), (sz3 S.p), hp, hm, e1, e2, e4, r1, hpe, f132, beqI_t, beqI_f, idx_ok, cells_self, cells_other, Int.toNat_natCast, Nat.zero_add, Nat.add_zero]
      exact Ends.some (Tr.none M1 F1)
    · rw [decide_eq_false co] at f132
      by_cases cc : o.cnt = V.most
      · rw [if_pos (Or.inr cc)]
        simp (maxSteps := 1000000) (disch := first | omega | (simp (disch := first | omega | (simp only [EvV.len, MonV.len, List.length_append, List.length_cons, List.length_nil, List.length_set]; first | done | omega)) only [EvV.len, MonV.len, amSide, Int.reduceToNat, Nat.reducePow, Nat.reduceMul]; first | done | omega)) only  [↓amPre, amPost, ↓s_lit', Nat.reduceAdd, Nat.reduceSub, List.replicate, retA, resultsA, resultA, toC, toCL, Nat.reduceEqDiff, (fa101_0 S.p), (fa101_1 S.p), (fa101_2 S.p), (fa101_4 S.p), (fa126_0 S.p), (fa126_1 S.p), (fa150_0 S.p), (fa150_1 S.p), iaddr_sl (un121 S.p) (sz150 S.p), part_all (ag101 S.p) (sz101 S.p), part_at (ag101 S.p) (sz101 S.p), part_sc (ag121 S.p), part_sc (ag3 S.p), part_sc (ag52 S.p), store_last (sz3 S.p), (sz3 S.p), hp, hm, e1, e2, e4, r1, hpe, f132, beqI_t, beqI_f, idx_ok, cells_self, cells_other, Int.toNat_natCast, Nat.zero_add, Nat.add_zero]
        exact Ends.some (Tr.none M1 F1)
      · rw [if_neg (fun q => q.elim co cc), hto]
        have st1 := M.store (sz3 S.p) hx hlk 0 (by omega) (.int .i64 e.t) ⟨e.t, o.cnt, o.hsh⟩ rfl
        rw [Nat.add_zero] at st1
        have M2 := M.setM ob ⟨e.t, o.cnt, o.hsh⟩
        have hx2 : (V.setM ob ⟨e.t, o.cnt, o.hsh⟩).mons[ob]? = some ⟨e.t, o.cnt, o.hsh⟩ := List.getElem?_set_self hob
        have st2 := M2.store (sz3 S.p) hx2 hlk 1 (by omega) (.int .i64 (o.cnt + 1)) ⟨e.t, o.cnt + 1, o.hsh⟩ rfl
        have hm2 := M2.cm
        have r2 : (recs MonV.cells (V.setM ob ⟨e.t, o.cnt, o.hsh⟩).mons)[ob * 3 + 1]? = some (.int .i64 o.cnt) := by rw [recs_get MonV.len hx2 1 (by omega)]; rfl
        have M3 := (M2.setM ob ⟨e.t, o.cnt + 1, o.hsh⟩).ext ((Ext1.refl _).push (.rw 101 e.cells))
        have hV : (V.setM ob ⟨e.t, o.cnt, o.hsh⟩).setM ob ⟨e.t, o.cnt + 1, o.hsh⟩ = V.setM ob ⟨e.t, o.cnt + 1, o.hsh⟩ := by simp [MdV.setM]
        rw [hV] at M3
        simp only [MdV.setM] at st2 hm2 r2 M3
        simp only [List.set_set] at st2 M3
        simp (maxSteps := 1000000) (disch := first | omega | (simp (disch := first | omega | (simp only [EvV.len, MonV.len, List.length_append, List.length_cons, List.length_nil, List.length_set]; first | done | omega)) only [EvV.len, MonV.len, amSide, Int.reduceToNat, Nat.reducePow, Nat.reduceMul]; first | done | omega)) only  [↓amPre, amPost, ↓s_lit', Nat.reduceAdd, Nat.reduceSub, List.replicate, retA, resultsA, resultA, toC, toCL, Nat.reduceEqDiff, (fa101_0 S.p), (fa101_1 S.p), (fa101_2 S.p), (fa101_4 S.p), (fa126_0 S.p), (fa126_1 S.p), (fa150_0 S.p), (fa150_1 S.p), iaddr_sl (un121 S.p) (sz150 S.p), part_all (ag101 S.p) (sz101 S.p), part_at (ag101 S.p) (sz101 S.p), part_sc (ag121 S.p), part_sc (ag3 S.p), part_sc (ag52 S.p), store_last (sz3 S.p), (sz3 S.p), hp, hm, hm2, e1, e2, e4, r1, r2, hpe, f132, st1, st2, store_skip, beqI_t, beqI_f, idx_ok, cells_self, cells_other, Int.toNat_natCast, Nat.zero_add, Nat.add_zero, wrap_i64]
        refine Ends.some (Tr.some ?_ ?_)
        · simp only [MdV.setM]; exact M3
        · exact ((Fr.refl bm bf bw bl h).set _ (.inl rfl)).push _
  · rw [if_neg c0]
    by_cases c10 : e.e = 10
    · rw [if_pos c10]
      by_cases co : o.own = e.t
      · have hq : (o.own == e.t) = true := by simpa using co
        rw [hq] at f133
        by_cases cc : o.cnt = V.most
        · rw [if_pos ⟨co, cc⟩]
          simp (maxSteps := 1000000) (disch := first | omega | (simp (disch := first | omega | (simp only [EvV.len, MonV.len, List.length_append, List.length_cons, List.length_nil, List.length_set]; first | done | omega)) only [EvV.len, MonV.len, amSide, Int.reduceToNat, Nat.reducePow, Nat.reduceMul]; first | done | omega)) only  [↓amPre, amPost, ↓s_lit', Nat.reduceAdd, Nat.reduceSub, List.replicate, retA, resultsA, resultA, toC, toCL, Nat.reduceEqDiff, (fa101_0 S.p), (fa101_1 S.p), (fa101_2 S.p), (fa101_4 S.p), (fa126_0 S.p), (fa126_1 S.p), (fa150_0 S.p), (fa150_1 S.p), iaddr_sl (un121 S.p) (sz150 S.p), part_all (ag101 S.p) (sz101 S.p), part_at (ag101 S.p) (sz101 S.p), part_sc (ag121 S.p), part_sc (ag3 S.p), part_sc (ag52 S.p), store_last (sz3 S.p), (sz3 S.p), hp, hm, e1, e2, e4, r1, hpe, f133, beqI_t, beqI_f, idx_ok, cells_self, cells_other, Int.toNat_natCast, Nat.zero_add, Nat.add_zero]
          exact Ends.some (Tr.some M1 F1)
        · rw [if_neg (fun q => cc q.2)]
          simp (maxSteps := 1000000) (disch := first | omega | (simp (disch := first | omega | (simp only [EvV.len, MonV.len, List.length_append, List.length_cons, List.length_nil, List.length_set]; first | done | omega)) only [EvV.len, MonV.len, amSide, Int.reduceToNat, Nat.reducePow, Nat.reduceMul]; first | done | omega)) only  [↓amPre, amPost, ↓s_lit', Nat.reduceAdd, Nat.reduceSub, List.replicate, retA, resultsA, resultA, toC, toCL, Nat.reduceEqDiff, (fa101_0 S.p), (fa101_1 S.p), (fa101_2 S.p), (fa101_4 S.p), (fa126_0 S.p), (fa126_1 S.p), (fa150_0 S.p), (fa150_1 S.p), iaddr_sl (un121 S.p) (sz150 S.p), part_all (ag101 S.p) (sz101 S.p), part_at (ag101 S.p) (sz101 S.p), part_sc (ag121 S.p), part_sc (ag3 S.p), part_sc (ag52 S.p), store_last (sz3 S.p), (sz3 S.p), hp, hm, e1, e2, e4, r1, hpe, f133, beqI_t, beqI_f, idx_ok, cells_self, cells_other, Int.toNat_natCast, Nat.zero_add, Nat.add_zero]
          exact Ends.some (Tr.none M1 F1)
      · have hq : (o.own == e.t) = false := by simpa using co
        rw [hq] at f133
        rw [if_neg (fun q => co q.1)]
        simp (maxSteps := 1000000) (disch := first | omega | (simp (disch := first | omega | (simp only [EvV.len, MonV.len, List.length_append, List.length_cons, List.length_nil, List.length_set]; first | done | omega)) only [EvV.len, MonV.len, amSide, Int.reduceToNat, Nat.reducePow, Nat.reduceMul]; first | done | omega)) only  [↓amPre, amPost, ↓s_lit', Nat.reduceAdd, Nat.reduceSub, List.replicate, retA, resultsA, resultA, toC, toCL, Nat.reduceEqDiff, (fa101_0 S.p), (fa101_1 S.p), (fa101_2 S.p), (fa101_4 S.p), (fa126_0 S.p), (fa126_1 S.p), (fa150_0 S.p), (fa150_1 S.p), iaddr_sl (un121 S.p) (sz150 S.p), part_all (ag101 S.p) (sz101 S.p), part_at (ag101 S.p) (sz101 S.p), part_sc (ag121 S.p), part_sc (ag3 S.p), part_sc (ag52 S.p), store_last (sz3 S.p), (sz3 S.p), hp, hm, e1, e2, e4, r1, hpe, f133, beqI_t, beqI_f, idx_ok, cells_self, cells_other, Int.toNat_natCast, Nat.zero_add, Nat.add_zero]
        exact Ends.some (Tr.none M1 F1)
    · rw [if_neg c10]
      by_cases c11 : e.e = 11
      · rw [if_pos c11]
        by_cases ck : e.k = 1
        · by_cases co : o.own ≠ e.t ∧ o.own ≠ -1
          · rw [if_pos ⟨ck, co⟩]
            rw [decide_eq_true co] at f132
            simp (maxSteps := 1000000) (disch := first | omega | (simp (disch := first | omega | (simp only [EvV.len, MonV.len, List.length_append, List.length_cons, List.length_nil, List.length_set]; first | done | omega)) only [EvV.len, MonV.len, amSide, Int.reduceToNat, Nat.reducePow, Nat.reduceMul]; first | done | omega)) only  [↓amPre, amPost, ↓s_lit', Nat.reduceAdd, Nat.reduceSub, List.replicate, retA, resultsA, resultA, toC, toCL, Nat.reduceEqDiff, (fa101_0 S.p), (fa101_1 S.p), (fa101_2 S.p), (fa101_4 S.p), (fa126_0 S.p), (fa126_1 S.p), (fa150_0 S.p), (fa150_1 S.p), iaddr_sl (un121 S.p) (sz150 S.p), part_all (ag101 S.p) (sz101 S.p), part_at (ag101 S.p) (sz101 S.p), part_sc (ag121 S.p), part_sc (ag3 S.p), part_sc (ag52 S.p), store_last (sz3 S.p), (sz3 S.p), hp, hm, e0, e1, e2, e4, r1, hpe, f132, beqI_t, beqI_f, idx_ok, cells_self, cells_other, Int.toNat_natCast, Nat.zero_add, Nat.add_zero]
            exact Ends.some (Tr.some M1 F1)
          · rw [if_neg (fun q => co q.2)]
            rw [decide_eq_false co] at f132
            simp (maxSteps := 1000000) (disch := first | omega | (simp (disch := first | omega | (simp only [EvV.len, MonV.len, List.length_append, List.length_cons, List.length_nil, List.length_set]; first | done | omega)) only [EvV.len, MonV.len, amSide, Int.reduceToNat, Nat.reducePow, Nat.reduceMul]; first | done | omega)) only  [↓amPre, amPost, ↓s_lit', Nat.reduceAdd, Nat.reduceSub, List.replicate, retA, resultsA, resultA, toC, toCL, Nat.reduceEqDiff, (fa101_0 S.p), (fa101_1 S.p), (fa101_2 S.p), (fa101_4 S.p), (fa126_0 S.p), (fa126_1 S.p), (fa150_0 S.p), (fa150_1 S.p), iaddr_sl (un121 S.p) (sz150 S.p), part_all (ag101 S.p) (sz101 S.p), part_at (ag101 S.p) (sz101 S.p), part_sc (ag121 S.p), part_sc (ag3 S.p), part_sc (ag52 S.p), store_last (sz3 S.p), (sz3 S.p), hp, hm, e0, e1, e2, e4, r1, hpe, f132, beqI_t, beqI_f, idx_ok, cells_self, cells_other, Int.toNat_natCast, Nat.zero_add, Nat.add_zero]
            exact Ends.some (Tr.none M1 F1)
        · rw [if_neg (fun q => ck q.1)]
          simp (maxSteps := 1000000) (disch := first | omega | (simp (disch := first | omega | (simp only [EvV.len, MonV.len, List.length_append, List.length_cons, List.length_nil, List.length_set]; first | done | omega)) only [EvV.len, MonV.len, amSide, Int.reduceToNat, Nat.reducePow, Nat.reduceMul]; first | done | omega)) only  [↓amPre, amPost, ↓s_lit', Nat.reduceAdd, Nat.reduceSub, List.replicate, retA, resultsA, resultA, toC, toCL, Nat.reduceEqDiff, (fa101_0 S.p), (fa101_1 S.p), (fa101_2 S.p), (fa101_4 S.p), (fa126_0 S.p), (fa126_1 S.p), (fa150_0 S.p), (fa150_1 S.p), iaddr_sl (un121 S.p) (sz150 S.p), part_all (ag101 S.p) (sz101 S.p), part_at (ag101 S.p) (sz101 S.p), part_sc (ag121 S.p), part_sc (ag3 S.p), part_sc (ag52 S.p), store_last (sz3 S.p), (sz3 S.p), hp, hm, e0, e1, e2, e4, r1, hpe, f132, beqI_t, beqI_f, idx_ok, cells_self, cells_other, Int.toNat_natCast, Nat.zero_add, Nat.add_zero]
          exact Ends.some (Tr.none M1 F1)
      · rw [if_neg c11]
        by_cases c14 : e.e = 14
        · rw [if_pos c14]
          by_cases ck : e.k = 2
          · by_cases co : o.own ≠ e.t ∧ o.own ≠ -1
            · rw [if_pos ⟨ck, co⟩]
              rw [decide_eq_true co] at f132
              simp (maxSteps := 1000000) (disch := first | omega | (simp (disch := first | omega | (simp only [EvV.len, MonV.len, List.length_append, List.length_cons, List.length_nil, List.length_set]; first | done | omega)) only [EvV.len, MonV.len, amSide, Int.reduceToNat, Nat.reducePow, Nat.reduceMul]; first | done | omega)) only  [↓amPre, amPost, ↓s_lit', Nat.reduceAdd, Nat.reduceSub, List.replicate, retA, resultsA, resultA, toC, toCL, Nat.reduceEqDiff, (fa101_0 S.p), (fa101_1 S.p), (fa101_2 S.p), (fa101_4 S.p), (fa126_0 S.p), (fa126_1 S.p), (fa150_0 S.p), (fa150_1 S.p), iaddr_sl (un121 S.p) (sz150 S.p), part_all (ag101 S.p) (sz101 S.p), part_at (ag101 S.p) (sz101 S.p), part_sc (ag121 S.p), part_sc (ag3 S.p), part_sc (ag52 S.p), store_last (sz3 S.p), (sz3 S.p), hp, hm, e0, e1, e2, e4, r1, hpe, f132, beqI_t, beqI_f, idx_ok, cells_self, cells_other, Int.toNat_natCast, Nat.zero_add, Nat.add_zero]
              exact Ends.some (Tr.some M1 F1)
            · rw [if_neg (fun q => co q.2)]
              rw [decide_eq_false co] at f132
              simp (maxSteps := 1000000) (disch := first | omega | (simp (disch := first | omega | (simp only [EvV.len, MonV.len, List.length_append, List.length_cons, List.length_nil, List.length_set]; first | done | omega)) only [EvV.len, MonV.len, amSide, Int.reduceToNat, Nat.reducePow, Nat.reduceMul]; first | done | omega)) only  [↓amPre, amPost, ↓s_lit', Nat.reduceAdd, Nat.reduceSub, List.replicate, retA, resultsA, resultA, toC, toCL, Nat.reduceEqDiff, (fa101_0 S.p), (fa101_1 S.p), (fa101_2 S.p), (fa101_4 S.p), (fa126_0 S.p), (fa126_1 S.p), (fa150_0 S.p), (fa150_1 S.p), iaddr_sl (un121 S.p) (sz150 S.p), part_all (ag101 S.p) (sz101 S.p), part_at (ag101 S.p) (sz101 S.p), part_sc (ag121 S.p), part_sc (ag3 S.p), part_sc (ag52 S.p), store_last (sz3 S.p), (sz3 S.p), hp, hm, e0, e1, e2, e4, r1, hpe, f132, beqI_t, beqI_f, idx_ok, cells_self, cells_other, Int.toNat_natCast, Nat.zero_add, Nat.add_zero]
              exact Ends.some (Tr.none M1 F1)
          · rw [if_neg (fun q => ck q.1)]
            simp (maxSteps := 1000000) (disch := first | omega | (simp (disch := first | omega | (simp only [EvV.len, MonV.len, List.length_append, List.length_cons, List.length_nil, List.length_set]; first | done | omega)) only [EvV.len, MonV.len, amSide, Int.reduceToNat, Nat.reducePow, Nat.reduceMul]; first | done | omega)) only  [↓amPre, amPost, ↓s_lit', Nat.reduceAdd, Nat.reduceSub, List.replicate, retA, resultsA, resultA, toC, toCL, Nat.reduceEqDiff, (fa101_0 S.p), (fa101_1 S.p), (fa101_2 S.p), (fa101_4 S.p), (fa126_0 S.p), (fa126_1 S.p), (fa150_0 S.p), (fa150_1 S.p), iaddr_sl (un121 S.p) (sz150 S.p), part_all (ag101 S.p) (sz101 S.p), part_at (ag101 S.p) (sz101 S.p), part_sc (ag121 S.p), part_sc (ag3 S.p), part_sc (ag52 S.p), store_last (sz3 S.p), (sz3 S.p), hp, hm, e0, e1, e2, e4, r1, hpe, f132, beqI_t, beqI_f, idx_ok, cells_self, cells_other, Int.toNat_natCast, Nat.zero_add, Nat.add_zero]
            exact Ends.some (Tr.none M1 F1)
        · rw [if_neg c14]
          simp (maxSteps := 1000000) (disch := first | omega | (simp (disch := first | omega | (simp only [EvV.len, MonV.len, List.length_append, List.length_cons, List.length_nil, List.length_set]; first | done | omega)) only [EvV.len, MonV.len, amSide, Int.reduceToNat, Nat.reducePow, Nat.reduceMul]; first | done | omega)) only  [↓amPre, amPost, ↓s_lit', Nat.reduceAdd, Nat.reduceSub, List.replicate, retA, resultsA, resultA, toC, toCL, Nat.reduceEqDiff, (fa101_0 S.p), (fa101_1 S.p), (fa101_2 S.p), (fa101_4 S.p), (fa126_0 S.p), (fa126_1 S.p), (fa150_0 S.p), (fa150_1 S.p), iaddr_sl (un121 S.p) (sz150 S.p), part_all (ag101 S.p) (sz101 S.p), part_at (ag101 S.p) (sz101 S.p), part_sc (ag121 S.p), part_sc (ag3 S.p), part_sc (ag52 S.p), store_last (sz3 S.p), (sz3 S.p), hp, hm, e0, e1, e2, e4, r1, hpe, f132, beqI_t, beqI_f, idx_ok, cells_self, cells_other, Int.toNat_natCast, Nat.zero_add, Nat.add_zero]
          exact Ends.some (Tr.none M1 F1)
end
end Go.AM
