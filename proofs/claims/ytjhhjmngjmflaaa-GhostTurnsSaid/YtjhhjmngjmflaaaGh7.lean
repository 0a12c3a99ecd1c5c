/- Logs: calls, commits and returns in turn; a log that nobody made. Conditions: none. -/
import Derived.Test.YtjhhjmngjmflaaaGh6
set_option linter.unusedVariables false
set_option linter.unusedSimpArgs false
set_option maxRecDepth 100000
namespace Go.AM
open Go.Proofs
-- LENS: EvV.len, MonV.len, ThV.len, EnV.len
structure TuSt where
  i : Nat
  s : TrV
  h : List AO
def intC (n : Int) : SV := .int .i64 n
theorem getD_mapC {α : Type} (f : α → SV) (l : List α) (d : α) {i : Nat} (hi : i < l.length) : (l.map f)[i]? = some (f (l.getD i d)) := by
  rw [List.getElem?_map, List.getElem?_eq_getElem hi, List.getD_eq_getElem?_getD, List.getElem?_eq_getElem hi]; rfl
theorem store_map {α : Type} (f : α → SV) {P : Program} {t el : TypeId} (hs : szT P t = some 1) {h : List AO} {b lk : Nat} {l : List α} (hb : h[b]? = some (.rw el (l.map f))) (hlk : lk ≤ b) {i : Nat} (hi : i < l.length) (v : α) :
    storeA P h lk t (.v (.sc (.ptr b i))) (.v (.sc (f v))) = some (h.set b (.rw el ((l.set i v).map f))) := by
  rw [store_at hb hlk hs (c := .sc (f v)) rfl (by rw [List.length_map]; omega)]
  have : splice (l.map f) i (CV.sc (f v)).cells = (l.map f).set i (f v) := splice_one _ _ _ (by rw [List.length_map]; omega)
  rw [this, List.map_set]
theorem trnT_len {s s' : TrV} {x : EnV} (h : trnT s x = some s') (h1 : s.op.length = 4) (h2 : s.cl.length = 4) (h3 : s.cm.length = 4) : s'.op.length = 4 ∧ s'.cl.length = 4 ∧ s'.cm.length = 4 := by
  unfold trnT at h
  repeat' split at h
  all_goals first
    | (obtain rfl := Option.some.inj h; simp only [List.length_set]; exact ⟨h1, h2, h3⟩)
    | cases h
theorem trnT_cl {s s' : TrV} {x : EnV} (h : trnT s x = some s') (k : Int) (h1 : ∀ n ∈ s.cl, 0 ≤ n ∧ n ≤ k) (h2 : ∀ n ∈ s.cm, 0 ≤ n ∧ n ≤ k) (h0 : 0 ≤ k) : (∀ n ∈ s'.cl, 0 ≤ n ∧ n ≤ k + 1) ∧ ∀ n ∈ s'.cm, 0 ≤ n ∧ n ≤ k + 1 := by
  have g : ∀ (l : List Int) (i : Nat), (∀ n ∈ l, 0 ≤ n ∧ n ≤ k) → 0 ≤ l.getD i 0 ∧ l.getD i 0 ≤ k := fun l i hl => by
    rw [List.getD_eq_getElem?_getD]
    cases q : l[i]? with
    | none => exact ⟨Int.le_refl _, h0⟩
    | some v => exact hl v (List.mem_of_getElem? q)
  have w : ∀ (l : List Int), (∀ n ∈ l, 0 ≤ n ∧ n ≤ k) → ∀ n ∈ l, 0 ≤ n ∧ n ≤ k + 1 := fun l hl n hn => ⟨(hl n hn).1, by have := (hl n hn).2; omega⟩
  have st : ∀ (l : List Int) (i : Nat) (v : Int), (∀ n ∈ l, 0 ≤ n ∧ n ≤ k) → (0 ≤ v ∧ v ≤ k + 1) → ∀ n ∈ l.set i v, 0 ≤ n ∧ n ≤ k + 1 := fun l i v hl hv n hn => by
    rcases List.mem_or_eq_of_mem_set hn with q | q
    · exact w l hl n q
    · rw [q]; exact hv
  unfold trnT at h
  repeat' split at h
  all_goals first
    | (obtain rfl := Option.some.inj h
       first
         | exact ⟨st _ _ _ h1 (by have := g s.cl x.th.toNat h1; omega), st _ _ _ h2 (by omega)⟩
         | exact ⟨w _ h1, st _ _ _ h2 (by have := g s.cm x.th.toNat h2; omega)⟩
         | exact ⟨w _ h1, w _ h2⟩)
    | cases h
theorem mem_getD {l : List Int} {k : Int} (hl : ∀ n ∈ l, 0 ≤ n ∧ n ≤ k) (h0 : 0 ≤ k) (i : Nat) : 0 ≤ l.getD i 0 ∧ l.getD i 0 ≤ k := by
  rw [List.getD_eq_getElem?_getD]
  cases q : l[i]? with
  | none => exact ⟨Int.le_refl _, h0⟩
  | some v => exact hl v (List.mem_of_getElem? q)
section
variable {P : Program} {T : Tab} {K d : Nat} (S : Sd P T K)
include S
theorem partRn (x : EnV) : partA P 31 x.cells 0 = some (.ag x.cells) := part_all (ag31 S.p) (sz31 S.p) _ x.len
set_option maxHeartbeats 16000000 in
theorem s4 (hd : 8 ≤ d) (q : SV) (l : List EnV) (lk : Nat) (h : List AO) (hq : Rs EnV.cells 13 h q l) :
    ev P T K d 4 [.sc q] lk h = some (.v (.sc (.bool true)), h) := by
  obtain ⟨d, rfl⟩ : ∃ k, d = k + 1 := ⟨d - 1, by omega⟩
  refine ev_pure (at4 S.t) rfl ?_
  unfold i4 Try.f4
  have f13 := fun lk h => s13 S (show 7 ≤ d by omega) lk h
  obtain ⟨v, h0, e14, X1, p, pm, bm, bf, bw, bl, bt, rfl, L0, b0, b1, b2, b3, b4, b5⟩ := s14 S (show 3 ≤ d by omega) (n := 4) (m := 2) (c := 3) (by omega) (by omega) (by omega) h.length h (Nat.le_refl _)
  rw [show ((4 : Nat) : Int) = 4 from rfl, show ((2 : Nat) : Int) = 2 from rfl] at e14
  have hn1 : binOpA P .eql 56 (.v (.sc (.ptr p 0))) (.v (.sc .nilp)) = some (.v (.sc (.bool false))) := by simp [binOpA, eqA, un56 S.p]
  obtain ⟨q', e9, hE⟩ := s9 S (show 1 ≤ d by omega) q l h.length h0 (hq.ext X1)
  have hlen := (hE h hq).len (un23 S.p)
  simp (maxSteps := 1000000) (disch := first | omega | (simp (disch := first | omega | (simp only [EvV.len, MonV.len, ThV.len, EnV.len, List.length_append, List.length_cons, List.length_nil, List.length_set]; first | done | omega)) only [EvV.len, MonV.len, ThV.len, EnV.len, amSide, Int.reduceToNat, Nat.reducePow, Nat.reduceMul]; first | done | omega)) only  [↓amPre, amPost, ↓s_lit', Nat.reduceAdd, Nat.reduceSub, List.replicate, retA, resultsA, resultA, toC, toCL, Nat.reduceEqDiff, (ze31 S.p), (ze36 S.p), (ze60 S.p), (ze61 S.p), (fa36_0 S.p), (fa36_1 S.p), (fa36_2 S.p), iaddr_sl (un23 S.p) (sz31 S.p), iaddr_sl (un25 S.p) (sz36 S.p), iaddr_ptr (un60 S.p) (sz4 S.p), iaddr_ptr (un61 S.p) (sz3 S.p), len_sl (un23 S.p), len_nils (un23 S.p), len_sl (un25 S.p), len_nils (un25 S.p), part_sc (ag3 S.p), part_all (ag31 S.p) (sz31 S.p), part_at (ag31 S.p) (sz31 S.p), part_all (ag36 S.p) (sz36 S.p), part_at (ag36 S.p) (sz36 S.p), part_sc (ag4 S.p), store_last (sz3 S.p), (sz3 S.p), store_last (sz31 S.p), (sz31 S.p), store_last (sz36 S.p), (sz36 S.p), store_last (sz4 S.p), (sz4 S.p), e14, hn1, e9, hlen, beqI_t, beqI_f, bneI_t, bneI_f, bne_self_eq_false, beq_self_eq_true, dec_t, dec_f, cells_self, cells_other, idx_ok, Int.toNat_natCast, Nat.zero_add, Nat.add_zero, Nat.mul_one, wrap_i64]
  have hN : min l.length 120 ≤ 120 ∧ min l.length 120 ≤ l.length := by omega
  generalize min l.length 120 = N at *
  refine ends_loop (X := RiSt) ⟨0, newL 4 2 3, .nils, h0⟩ [6, 27, 28, 29, 30, 31, 32, 33, 34] (fun x => x.i ≤ N ∧ Ext1 h x.h ∧ LgAt x.h p pm bm bf bw bl bt x.qe x.G ∧ LgI 4 2 3 x.G ∧ x.G.ents.length ≤ x.i ∧ Turns x.G ∧ ∀ j, j < h.length → NotB j x.qe) (fun x => N - x.i)
    (fun x e => e.set 26 (.v (.sc (.int .i64 x.i)))) (fun x => x.h)
    (by have := S.k; show _ < K; simp only; omega) ⟨by simp only; omega, X1, L0, newL_I (by omega) (by omega) (by omega), Nat.le_refl _, Turns.new _ _, fun j _ o n s e => by cases e⟩ rfl rfl ?_
  clear e14 L0 X1 e9
  rintro ⟨i, G, qe, hj⟩ ⟨hi, hx, L, I, hel, hTu, hnb⟩ again hag e he
  simp only at hi hx L I hel hTu hnb hag he
  simp only [↓amPre, amPost, ↓s_lit', Nat.reduceAdd, Nat.reduceSub, List.replicate, retA, resultsA, resultA, toC, toCL, Nat.reduceEqDiff] at he
  simp only [↓amPre, amPost, ↓s_lit', Nat.reduceAdd, Nat.reduceSub, List.replicate, retA, resultsA, resultA, toC, toCL, Nat.reduceEqDiff, he]
  refine ends_cond (fun hc1 => ?_) (fun hc1 => ?_)
  · simp only [decide_eq_true_eq] at hc1
    have hxl := hx.len
    rcases hE hj (hq.ext hx) with ⟨rfl, hz⟩ | ⟨b, rfl, hbl, hcb, hkl⟩
    · omega
    obtain ⟨y, hy⟩ : ∃ y, l[i]? = some y := ⟨_, List.getElem?_eq_getElem (by omega)⟩
    have hpt := recs_part (ag31 S.p) (sz31 S.p) EnV.len hy
    have hpy := partRn S y
    have hyl := EnV.len y
    have f10 := fun lk h => s10 S (show 1 ≤ d by omega) y lk h
    have Lb := L.ext ((Ext1.refl hj).push (.rw 31 y.cells))
    have Fb : FrL p bm bf bw bl bt qe hj (hj ++ [.rw 31 y.cells]) := FrL.of_ext ((Ext1.refl hj).push (.rw 31 y.cells))
    obtain ⟨v, h2, e15, rfl, q2, L2, F2, Q2⟩ := s15 S (show 6 ≤ d by omega) (by omega) Lb I (by omega) (by omega) y h.length (by omega)
    have hx2 : Ext1 h h2 := (Fb.trans (.inl rfl) F2).ext hx (by omega) (by omega) (by omega) (by omega) (by omega) (by omega) hnb
    have hG' : ((addL G y).getD G).ents.length ≤ G.ents.length + 1 ∧ LgI 4 2 3 ((addL G y).getD G) ∧ Turns ((addL G y).getD G) := by
      cases hA : addL G y with
      | none => exact ⟨by simp, I, hTu⟩
      | some G' =>
        refine ⟨?_, I.add (by omega) hA, hTu.add I.tn hA⟩
        obtain ⟨t, W, t', _, _, _, _, rfl⟩ := addL_some hA
        simp
    simp (maxSteps := 1000000) (disch := first | omega | (simp (disch := first | omega | (simp only [EvV.len, MonV.len, ThV.len, EnV.len, List.length_append, List.length_cons, List.length_nil, List.length_set]; first | done | omega)) only [EvV.len, MonV.len, ThV.len, EnV.len, amSide, Int.reduceToNat, Nat.reducePow, Nat.reduceMul]; first | done | omega)) only  [↓amPre, amPost, ↓s_lit', Nat.reduceAdd, Nat.reduceSub, List.replicate, retA, resultsA, resultA, toC, toCL, Nat.reduceEqDiff, he, (ze31 S.p), (ze36 S.p), (ze60 S.p), (ze61 S.p), (fa36_0 S.p), (fa36_1 S.p), (fa36_2 S.p), iaddr_sl (un23 S.p) (sz31 S.p), iaddr_sl (un25 S.p) (sz36 S.p), iaddr_ptr (un60 S.p) (sz4 S.p), iaddr_ptr (un61 S.p) (sz3 S.p), len_sl (un23 S.p), len_nils (un23 S.p), len_sl (un25 S.p), len_nils (un25 S.p), part_sc (ag3 S.p), part_all (ag31 S.p) (sz31 S.p), part_at (ag31 S.p) (sz31 S.p), part_all (ag36 S.p) (sz36 S.p), part_at (ag36 S.p) (sz36 S.p), part_sc (ag4 S.p), store_last (sz3 S.p), (sz3 S.p), store_last (sz31 S.p), (sz31 S.p), store_last (sz36 S.p), (sz36 S.p), store_last (sz4 S.p), (sz4 S.p), hcb, hpt, hpy, f10, e15, beqI_t, beqI_f, bneI_t, bneI_f, bne_self_eq_false, beq_self_eq_true, dec_t, dec_f, cells_self, cells_other, idx_ok, Int.toNat_natCast, Nat.zero_add, Nat.add_zero, Nat.mul_one, wrap_i64]
    refine hag ⟨i + 1, _, q2, h2⟩ ⟨by simp only; omega, hx2, L2, hG'.2.1, Nat.le_trans hG'.1 (Nat.succ_le_succ hel), hG'.2.2, fun j hj' => Q2.notB (by simp; omega) (hnb j hj')⟩ (by simp only; omega) _ ?_
    simp (maxSteps := 1000000) (disch := first | omega | (simp (disch := first | omega | (simp only [EvV.len, MonV.len, ThV.len, EnV.len, List.length_append, List.length_cons, List.length_nil, List.length_set]; first | done | omega)) only [EvV.len, MonV.len, ThV.len, EnV.len, amSide, Int.reduceToNat, Nat.reducePow, Nat.reduceMul]; first | done | omega)) only [↓amPre, amPost, ↓s_lit', Nat.reduceAdd, Nat.reduceSub, List.replicate, retA, resultsA, resultA, toC, toCL, Nat.reduceEqDiff, Int.natCast_add, Int.cast_ofNat_Int, dec_t, dec_f]
  · clear hag hc1 hE hq
    have hxl := hx.len
    obtain ⟨v, h3, e16, X3, q3, rfl, O3⟩ := s16 S (show 2 ≤ d by omega) (L.ext ((((Ext1.refl hj).push (.rw 60 [.bool false, .bool false, .bool false, .bool false])).push (.rw 61 [.int .i64 0, .int .i64 0, .int .i64 0, .int .i64 0])).push (.rw 61 [.int .i64 0, .int .i64 0, .int .i64 0, .int .i64 0]))) (by omega) h.length (by simp; omega)
    have R3 : Rs EnV.cells 13 h3 q3 G.ents := O3.rs (by omega) EnV.len
    have hlen3 := fun hh => R3.len (un25 S.p) hh
    simp (maxSteps := 1000000) (disch := first | omega | (simp (disch := first | omega | (simp only [EvV.len, MonV.len, ThV.len, EnV.len, List.length_append, List.length_cons, List.length_nil, List.length_set]; first | done | omega)) only [EvV.len, MonV.len, ThV.len, EnV.len, amSide, Int.reduceToNat, Nat.reducePow, Nat.reduceMul]; first | done | omega)) only  [↓amPre, amPost, ↓s_lit', Nat.reduceAdd, Nat.reduceSub, List.replicate, retA, resultsA, resultA, toC, toCL, Nat.reduceEqDiff, he, (ze31 S.p), (ze36 S.p), (ze60 S.p), (ze61 S.p), (fa36_0 S.p), (fa36_1 S.p), (fa36_2 S.p), iaddr_sl (un23 S.p) (sz31 S.p), iaddr_sl (un25 S.p) (sz36 S.p), iaddr_ptr (un60 S.p) (sz4 S.p), iaddr_ptr (un61 S.p) (sz3 S.p), len_sl (un23 S.p), len_nils (un23 S.p), len_sl (un25 S.p), len_nils (un25 S.p), part_sc (ag3 S.p), part_all (ag31 S.p) (sz31 S.p), part_at (ag31 S.p) (sz31 S.p), part_all (ag36 S.p) (sz36 S.p), part_at (ag36 S.p) (sz36 S.p), part_sc (ag4 S.p), store_last (sz3 S.p), (sz3 S.p), store_last (sz31 S.p), (sz31 S.p), store_last (sz36 S.p), (sz36 S.p), store_last (sz4 S.p), (sz4 S.p), e16, hlen3]
    obtain ⟨sF, hsF, _⟩ := hTu
    have g7 : h3[hj.length]? = some (.rw 60 (noTr.op.map SV.bool)) := ext1_get X3 (by simp [noTr, List.getElem?_append])
    have g8 : h3[hj.length + 1]? = some (.rw 61 (noTr.cl.map intC)) := ext1_get X3 (by simp [noTr, intC, List.getElem?_append])
    have g9 : h3[hj.length + 2]? = some (.rw 61 (noTr.cm.map intC)) := ext1_get X3 (by simp [noTr, intC, List.getElem?_append])
    have hb3 : ∀ b, q3 = .sl b 0 G.ents.length 13 → hj.length + 3 ≤ b := fun b e => by
      rcases O3 with ⟨rfl, _⟩ | ⟨b', b1, _, e', _⟩
      · cases e
      · rw [e] at e'
        simp only [SV.sl.injEq] at e'
        simp at b1
        omega
    clear e16 O3 X3
    refine ends_loop (X := TuSt) ⟨0, noTr, h3⟩ [2, 11, 12, 39, 40, 41, 42, 43, 44, 45, 46, 47, 48, 49, 50, 51, 52, 53, 54, 55, 56, 57, 58, 59, 60, 61, 62, 63, 64, 65, 66, 67, 68, 69, 70, 71, 72, 73, 74, 75, 76, 77, 78, 79, 80, 81, 82, 83, 84, 85, 86, 87, 88, 89, 90, 91, 92, 93, 94, 95, 96, 97, 98, 99, 100, 101, 102, 103, 104, 105, 106] (fun x => x.i ≤ G.ents.length ∧ trnAll noTr (G.ents.take x.i) = some x.s ∧ (x.s.op.length = 4 ∧ x.s.cl.length = 4 ∧ x.s.cm.length = 4) ∧ ((∀ n ∈ x.s.cl, 0 ≤ n ∧ n ≤ (x.i : Int)) ∧ ∀ n ∈ x.s.cm, 0 ≤ n ∧ n ≤ (x.i : Int)) ∧
        x.h[hj.length]? = some (.rw 60 (x.s.op.map SV.bool)) ∧ x.h[hj.length + 1]? = some (.rw 61 (x.s.cl.map intC)) ∧ x.h[hj.length + 2]? = some (.rw 61 (x.s.cm.map intC)) ∧ Rs EnV.cells 13 x.h q3 G.ents) (fun x => G.ents.length - x.i)
      (fun x e => e.set 38 (.v (.sc (.int .i64 x.i)))) (fun x => x.h)
      (by have := S.k; show _ < K; simp only; omega) ⟨by simp only; omega, rfl, ⟨rfl, rfl, rfl⟩, ⟨fun n hn => by simp [noTr] at hn; subst hn; simp, fun n hn => by simp [noTr] at hn; subst hn; simp⟩, g7, g8, g9, R3⟩ rfl rfl ?_
    clear g7 g8 g9 R3
    rintro ⟨k, s, hk⟩ ⟨hk1, hks, hkl, hkc, g7, g8, g9, R3⟩ again hag e he
    simp only at hk1 hks hkl hkc g7 g8 g9 R3 hag he
    simp only [↓amPre, amPost, ↓s_lit', Nat.reduceAdd, Nat.reduceSub, List.replicate, retA, resultsA, resultA, toC, toCL, Nat.reduceEqDiff] at he
    simp only [↓amPre, amPost, ↓s_lit', Nat.reduceAdd, Nat.reduceSub, List.replicate, retA, resultsA, resultA, toC, toCL, Nat.reduceEqDiff, he]
    refine ends_cond (fun hc1 => ?_) (fun hc1 => ?_)
    · simp only [decide_eq_true_eq] at hc1
      have hke : k < G.ents.length := by omega
      obtain ⟨y, hy⟩ : ∃ y, G.ents[k]? = some y := ⟨_, List.getElem?_eq_getElem (by omega)⟩
      obtain ⟨s', hs'⟩ := trnAll_take hsF (k + 1)
      rw [List.take_succ_eq_append_getElem hke, trnAll_snoc, hks, show G.ents[k] = y from by rw [List.getElem?_eq_getElem hke] at hy; exact Option.some.inj hy] at hs'
      have hst : trnT s y = some s' := hs'
      have hs2 : trnAll noTr (G.ents.take (k + 1)) = some s' := by
        rw [List.take_succ_eq_append_getElem hke, trnAll_snoc, hks, show G.ents[k] = y from by rw [List.getElem?_eq_getElem hke] at hy; exact Option.some.inj hy]; exact hst
      have hl' := trnT_len hst hkl.1 hkl.2.1 hkl.2.2
      have hc' := trnT_cl hst (k : Int) hkc.1 hkc.2 (by omega)
      obtain ⟨b, rfl, hbl, hcb⟩ := R3.at (by omega)
      have hb3 := hb3 b rfl
      have hpt := recs_part (ag36 S.p) (sz36 S.p) EnV.len hy
      have hpy := partEn S y
      have hyl := EnV.len y
      have y0 := y.c0
      have y1 := y.c1
      have y2 := y.c2
      have l7 := (List.getElem?_eq_some_iff.1 g7).1
      have l8 := (List.getElem?_eq_some_iff.1 g8).1
      have l9 := (List.getElem?_eq_some_iff.1 g9).1
      have c7 := cells_at g7
      have c8 := cells_at g8
      have c9 := cells_at g9
      have hth : 0 ≤ y.th ∧ y.th ≤ 3 := by
        unfold trnT at hst
        split at hst
        · rename_i q; exact q
        · cases hst
      obtain ⟨th, hth'⟩ := Int.eq_ofNat_of_zero_le hth.1
      rw [hth'] at y1 hth
      have hst' := hst
      unfold trnT at hst'
      rw [if_pos (by omega), hth', Int.toNat_natCast] at hst'
      have r7 := getD_mapC SV.bool s.op false (show th < s.op.length by omega)
      have r8 := getD_mapC intC s.cl 0 (show th < s.cl.length by omega)
      have r9 := getD_mapC intC s.cm 0 (show th < s.cm.length by omega)
      have v8 := mem_getD hkc.1 (by omega) th
      have v9 := mem_getD hkc.2 (by omega) th
      have hH0 : ∀ j, j < hk.length → (hk ++ [AO.rw 36 y.cells])[j]? = hk[j]? := fun j hj => List.getElem?_append_left hj
      have RR : ∀ H : List AO, hk.length ≤ H.length → H[b]? = hk[b]? → Rs EnV.cells 13 H (.sl b 0 G.ents.length 13) G.ents := fun H h1 h2 => .inr ⟨b, rfl, by omega, by unfold cellsAt at hcb ⊢; rw [h2]; exact hcb⟩
      generalize hu8 : s.cl.getD th 0 = u8 at *
      generalize hu9 : s.cm.getD th 0 = u9 at *
      generalize hu7 : s.op.getD th false = u7 at *
      simp only [intC] at r8 r9
      by_cases k1 : y.kd = 1
      · rw [if_pos k1] at hst'
        split at hst'
        · cases hst'
        · rename_i hq
          have q1 : u7 = false := by cases u7; rfl; exact absurd (.inl rfl) hq
          have q2 : y.nm = u8 := Decidable.byContradiction fun q => hq (.inr q)
          obtain rfl := Option.some.inj hst'
          subst q1
          have w7 := store_map SV.bool (P := P) (t := 4) (sz4 S.p) ((hH0 _ l7).trans g7) (show h.length ≤ hj.length by omega) (show th < s.op.length by omega) true
          have w9 := store_map intC (P := P) (t := 3) (sz3 S.p) (show ((hk ++ [AO.rw 36 y.cells]).set hj.length (.rw 60 ((s.op.set th true).map SV.bool)))[hj.length + 2]? = _ by rw [List.getElem?_set_ne (by omega)]; exact (hH0 _ l9).trans g9) (show h.length ≤ hj.length + 2 by omega) (show th < s.cm.length by omega) 0
          have G8 : (((hk ++ [AO.rw 36 y.cells]).set hj.length (.rw 60 ((s.op.set th true).map SV.bool))).set (hj.length + 2) (.rw 61 ((s.cm.set th 0).map intC)))[hj.length + 1]? = some (.rw 61 (s.cl.map intC)) := by rw [List.getElem?_set_ne (by omega), List.getElem?_set_ne (by omega)]; exact (hH0 _ l8).trans g8
          have c8b := cells_at G8
          have w8 := store_map intC (P := P) (t := 3) (sz3 S.p) G8 (show h.length ≤ hj.length + 1 by omega) (show th < s.cl.length by omega) (u8 + 1)
          simp only [intC] at w8 w9 c8b
          simp (maxSteps := 1000000) (disch := first | omega | (simp (disch := first | omega | (simp only [EvV.len, MonV.len, ThV.len, EnV.len, List.length_append, List.length_cons, List.length_nil, List.length_set]; first | done | omega)) only [EvV.len, MonV.len, ThV.len, EnV.len, amSide, Int.reduceToNat, Nat.reducePow, Nat.reduceMul]; first | done | omega)) only  [↓amPre, amPost, ↓s_lit', Nat.reduceAdd, Nat.reduceSub, List.replicate, retA, resultsA, resultA, toC, toCL, Nat.reduceEqDiff, he, (ze31 S.p), (ze36 S.p), (ze60 S.p), (ze61 S.p), (fa36_0 S.p), (fa36_1 S.p), (fa36_2 S.p), iaddr_sl (un23 S.p) (sz31 S.p), iaddr_sl (un25 S.p) (sz36 S.p), iaddr_ptr (un60 S.p) (sz4 S.p), iaddr_ptr (un61 S.p) (sz3 S.p), len_sl (un23 S.p), len_nils (un23 S.p), len_sl (un25 S.p), len_nils (un25 S.p), part_sc (ag3 S.p), part_all (ag31 S.p) (sz31 S.p), part_at (ag31 S.p) (sz31 S.p), part_all (ag36 S.p) (sz36 S.p), part_at (ag36 S.p) (sz36 S.p), part_sc (ag4 S.p), store_last (sz3 S.p), (sz3 S.p), store_last (sz31 S.p), (sz31 S.p), store_last (sz36 S.p), (sz36 S.p), store_last (sz4 S.p), (sz4 S.p), hcb, hpt, hpy, y0, y1, y2, c7, c8, c9, r7, r8, r9, c8b, w7, w8, w9, beqI_t, beqI_f, bneI_t, bneI_f, bne_self_eq_false, beq_self_eq_true, dec_t, dec_f, cells_self, cells_other, idx_ok, Int.toNat_natCast, Nat.zero_add, Nat.add_zero, Nat.mul_one, wrap_i64]
          refine hag ⟨k + 1, _, ((((hk ++ [AO.rw 36 y.cells]).set hj.length (.rw 60 ((s.op.set th true).map SV.bool))).set (hj.length + 2) (.rw 61 ((s.cm.set th 0).map intC))).set (hj.length + 1) (.rw 61 ((s.cl.set th (u8 + 1)).map intC)))⟩ ⟨by simp only; omega, hs2, hl', hc', ?_, ?_, ?_, RR _ (by simp) (by rw [List.getElem?_set_ne (by omega), List.getElem?_set_ne (by omega), List.getElem?_set_ne (by omega)]; exact hH0 _ hbl)⟩ (by simp only; omega) _ ?_
          · simp only; rw [List.getElem?_set_ne (by omega), List.getElem?_set_ne (by omega), List.getElem?_set_self (by simp; omega)]
          · simp only; rw [List.getElem?_set_self (by simp; omega)]
          · simp only; rw [List.getElem?_set_ne (by omega), List.getElem?_set_self (by simp; omega)]
          · simp (maxSteps := 1000000) (disch := first | omega | (simp (disch := first | omega | (simp only [EvV.len, MonV.len, ThV.len, EnV.len, List.length_append, List.length_cons, List.length_nil, List.length_set]; first | done | omega)) only [EvV.len, MonV.len, ThV.len, EnV.len, amSide, Int.reduceToNat, Nat.reducePow, Nat.reduceMul]; first | done | omega)) only [↓amPre, amPost, ↓s_lit', Nat.reduceAdd, Nat.reduceSub, List.replicate, retA, resultsA, resultA, toC, toCL, Nat.reduceEqDiff, Int.natCast_add, Int.cast_ofNat_Int, dec_t, dec_f]
      · rw [if_neg k1] at hst'
        by_cases k2 : y.kd = 2
        · rw [if_pos k2] at hst'
          split at hst'
          · rename_i q1
            obtain rfl := Option.some.inj hst'
            subst q1
            have w9 := store_map intC (P := P) (t := 3) (sz3 S.p) ((hH0 _ l9).trans g9) (show h.length ≤ hj.length + 2 by omega) (show th < s.cm.length by omega) (u9 + 1)
            simp only [intC] at w9
            simp (maxSteps := 1000000) (disch := first | omega | (simp (disch := first | omega | (simp only [EvV.len, MonV.len, ThV.len, EnV.len, List.length_append, List.length_cons, List.length_nil, List.length_set]; first | done | omega)) only [EvV.len, MonV.len, ThV.len, EnV.len, amSide, Int.reduceToNat, Nat.reducePow, Nat.reduceMul]; first | done | omega)) only  [↓amPre, amPost, ↓s_lit', Nat.reduceAdd, Nat.reduceSub, List.replicate, retA, resultsA, resultA, toC, toCL, Nat.reduceEqDiff, he, (ze31 S.p), (ze36 S.p), (ze60 S.p), (ze61 S.p), (fa36_0 S.p), (fa36_1 S.p), (fa36_2 S.p), iaddr_sl (un23 S.p) (sz31 S.p), iaddr_sl (un25 S.p) (sz36 S.p), iaddr_ptr (un60 S.p) (sz4 S.p), iaddr_ptr (un61 S.p) (sz3 S.p), len_sl (un23 S.p), len_nils (un23 S.p), len_sl (un25 S.p), len_nils (un25 S.p), part_sc (ag3 S.p), part_all (ag31 S.p) (sz31 S.p), part_at (ag31 S.p) (sz31 S.p), part_all (ag36 S.p) (sz36 S.p), part_at (ag36 S.p) (sz36 S.p), part_sc (ag4 S.p), store_last (sz3 S.p), (sz3 S.p), store_last (sz31 S.p), (sz31 S.p), store_last (sz36 S.p), (sz36 S.p), store_last (sz4 S.p), (sz4 S.p), hcb, hpt, hpy, y0, y1, y2, c7, c8, c9, r7, r8, r9, w9, beqI_t, beqI_f, bneI_t, bneI_f, bne_self_eq_false, beq_self_eq_true, dec_t, dec_f, cells_self, cells_other, idx_ok, Int.toNat_natCast, Nat.zero_add, Nat.add_zero, Nat.mul_one, wrap_i64]
            refine hag ⟨k + 1, _, ((hk ++ [AO.rw 36 y.cells]).set (hj.length + 2) (.rw 61 ((s.cm.set th (u9 + 1)).map intC)))⟩ ⟨by simp only; omega, hs2, hl', hc', ?_, ?_, ?_, RR _ (by simp) (by rw [List.getElem?_set_ne (by omega)]; exact hH0 _ hbl)⟩ (by simp only; omega) _ ?_
            · simp only; rw [List.getElem?_set_ne (by omega), hH0 _ l7]; exact g7
            · simp only; rw [List.getElem?_set_ne (by omega), hH0 _ l8]; exact g8
            · simp only; rw [List.getElem?_set_self (by simp; omega)]
            · simp (maxSteps := 1000000) (disch := first | omega | (simp (disch := first | omega | (simp only [EvV.len, MonV.len, ThV.len, EnV.len, List.length_append, List.length_cons, List.length_nil, List.length_set]; first | done | omega)) only [EvV.len, MonV.len, ThV.len, EnV.len, amSide, Int.reduceToNat, Nat.reducePow, Nat.reduceMul]; first | done | omega)) only [↓amPre, amPost, ↓s_lit', Nat.reduceAdd, Nat.reduceSub, List.replicate, retA, resultsA, resultA, toC, toCL, Nat.reduceEqDiff, Int.natCast_add, Int.cast_ofNat_Int, dec_t, dec_f]
          · cases hst'
        · rw [if_neg k2] at hst'
          split at hst'
          · rename_i q1
            obtain ⟨q1, q2, q3⟩ := q1
            obtain rfl := Option.some.inj hst'
            subst q1
            have w7 := store_map SV.bool (P := P) (t := 4) (sz4 S.p) ((hH0 _ l7).trans g7) (show h.length ≤ hj.length by omega) (show th < s.op.length by omega) false
            simp (maxSteps := 1000000) (disch := first | omega | (simp (disch := first | omega | (simp only [EvV.len, MonV.len, ThV.len, EnV.len, List.length_append, List.length_cons, List.length_nil, List.length_set]; first | done | omega)) only [EvV.len, MonV.len, ThV.len, EnV.len, amSide, Int.reduceToNat, Nat.reducePow, Nat.reduceMul]; first | done | omega)) only  [↓amPre, amPost, ↓s_lit', Nat.reduceAdd, Nat.reduceSub, List.replicate, retA, resultsA, resultA, toC, toCL, Nat.reduceEqDiff, he, (ze31 S.p), (ze36 S.p), (ze60 S.p), (ze61 S.p), (fa36_0 S.p), (fa36_1 S.p), (fa36_2 S.p), iaddr_sl (un23 S.p) (sz31 S.p), iaddr_sl (un25 S.p) (sz36 S.p), iaddr_ptr (un60 S.p) (sz4 S.p), iaddr_ptr (un61 S.p) (sz3 S.p), len_sl (un23 S.p), len_nils (un23 S.p), len_sl (un25 S.p), len_nils (un25 S.p), part_sc (ag3 S.p), part_all (ag31 S.p) (sz31 S.p), part_at (ag31 S.p) (sz31 S.p), part_all (ag36 S.p) (sz36 S.p), part_at (ag36 S.p) (sz36 S.p), part_sc (ag4 S.p), store_last (sz3 S.p), (sz3 S.p), store_last (sz31 S.p), (sz31 S.p), store_last (sz36 S.p), (sz36 S.p), store_last (sz4 S.p), (sz4 S.p), hcb, hpt, hpy, y0, y1, y2, c7, c8, c9, r7, r8, r9, w7, beqI_t, beqI_f, bneI_t, bneI_f, bne_self_eq_false, beq_self_eq_true, dec_t, dec_f, cells_self, cells_other, idx_ok, Int.toNat_natCast, Nat.zero_add, Nat.add_zero, Nat.mul_one, wrap_i64]
            refine hag ⟨k + 1, _, ((hk ++ [AO.rw 36 y.cells]).set hj.length (.rw 60 ((s.op.set th false).map SV.bool)))⟩ ⟨by simp only; omega, hs2, hl', hc', ?_, ?_, ?_, RR _ (by simp) (by rw [List.getElem?_set_ne (by omega)]; exact hH0 _ hbl)⟩ (by simp only; omega) _ ?_
            · simp only; rw [List.getElem?_set_self (by simp; omega)]
            · simp only; rw [List.getElem?_set_ne (by omega), hH0 _ l8]; exact g8
            · simp only; rw [List.getElem?_set_ne (by omega), hH0 _ l9]; exact g9
            · simp (maxSteps := 1000000) (disch := first | omega | (simp (disch := first | omega | (simp only [EvV.len, MonV.len, ThV.len, EnV.len, List.length_append, List.length_cons, List.length_nil, List.length_set]; first | done | omega)) only [EvV.len, MonV.len, ThV.len, EnV.len, amSide, Int.reduceToNat, Nat.reducePow, Nat.reduceMul]; first | done | omega)) only [↓amPre, amPost, ↓s_lit', Nat.reduceAdd, Nat.reduceSub, List.replicate, retA, resultsA, resultA, toC, toCL, Nat.reduceEqDiff, Int.natCast_add, Int.cast_ofNat_Int, dec_t, dec_f]
          · cases hst'
    · simp (maxSteps := 1000000) (disch := first | omega | (simp (disch := first | omega | (simp only [EvV.len, MonV.len, ThV.len, EnV.len, List.length_append, List.length_cons, List.length_nil, List.length_set]; first | done | omega)) only [EvV.len, MonV.len, ThV.len, EnV.len, amSide, Int.reduceToNat, Nat.reducePow, Nat.reduceMul]; first | done | omega)) only  [↓amPre, amPost, ↓s_lit', Nat.reduceAdd, Nat.reduceSub, List.replicate, retA, resultsA, resultA, toC, toCL, Nat.reduceEqDiff, he, (ze31 S.p), (ze36 S.p), (ze60 S.p), (ze61 S.p), (fa36_0 S.p), (fa36_1 S.p), (fa36_2 S.p), iaddr_sl (un23 S.p) (sz31 S.p), iaddr_sl (un25 S.p) (sz36 S.p), iaddr_ptr (un60 S.p) (sz4 S.p), iaddr_ptr (un61 S.p) (sz3 S.p), len_sl (un23 S.p), len_nils (un23 S.p), len_sl (un25 S.p), len_nils (un25 S.p), part_sc (ag3 S.p), part_all (ag31 S.p) (sz31 S.p), part_at (ag31 S.p) (sz31 S.p), part_all (ag36 S.p) (sz36 S.p), part_at (ag36 S.p) (sz36 S.p), part_sc (ag4 S.p), store_last (sz3 S.p), (sz3 S.p), store_last (sz31 S.p), (sz31 S.p), store_last (sz36 S.p), (sz36 S.p), store_last (sz4 S.p), (sz4 S.p), f13]
      exact Ends.some rfl
end
end Go.AM
