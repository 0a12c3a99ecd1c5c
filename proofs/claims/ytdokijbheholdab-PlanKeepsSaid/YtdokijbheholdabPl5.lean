/- Plans: lists of objects and classes; what is fresh; what a revocation comes to. Conditions: none. -/
import Derived.Test.YtdokijbheholdabPl4
import Derived.Test.YtdokijbheholdabAmRecs
import Derived.Test.YtdokijbheholdabKl3
set_option linter.unusedVariables false
set_option linter.unusedSimpArgs false
set_option maxRecDepth 100000
namespace Go.AM
open Go.Proofs
theorem Sl.ext {h h' : List AO} {q : SV} {cnt : List Int} (H : Sl h q cnt) (hx : Ext1 h h') : Sl h' q cnt := by
  rcases H with ⟨h1, h2⟩ | ⟨l, h1, h2, h3⟩
  · exact .inl ⟨h1, h2⟩
  · exact .inr ⟨l, h1, Nat.lt_of_lt_of_le h2 hx.len, by rw [hx.cells h2]; exact h3⟩
structure ObjV where
  w : Nat
  k : Int
  q : SV
  cnt : List Int
def ObjV.cells (x : ObjV) : List SV := Obj x.w x.k x.q
def ObjV.ok (h : List AO) (x : ObjV) : Prop := x.w < 18446744073709551616 ∧ Sl h x.q x.cnt
theorem ObjV.len (x : ObjV) : x.cells.length = 3 := nrfl rfl
theorem ObjV.c0 (x : ObjV) : x.cells[0]? = some (.int .u64 (x.w : Nat)) := nrfl rfl
theorem ObjV.c1 (x : ObjV) : x.cells[1]? = some (.int .i64 x.k) := nrfl rfl
theorem ObjV.c2 (x : ObjV) : x.cells[2]? = some x.q := nrfl rfl
-- LENS: Hdr.len, Hdr.fr, Obj.len, chg_len, chg_fr, ObjV.len, Kls.len
theorem sl_len {P : Program} {T : Tab} {K : Nat} (S : Sd P T K) {h : List AO} {q : SV} {cnt : List Int} (hS : Sl h q cnt) (hh : List AO) : lenA P hh 60 (.v (.sc q)) = some (.v (.sc (.int .i64 (cnt.length : Int)))) := by
  rcases hS with ⟨rfl, rfl⟩ | ⟨l, rfl, _, _⟩
  · exact len_nils (un60 S.p)
  · exact len_sl (un60 S.p) _ _ _ _
def sumC : List ObjV → Nat
  | [] => 0
  | x :: l => min x.cnt.length 1000 + sumC l
theorem sumC_snoc : ∀ (l : List ObjV) (x : ObjV), sumC (l ++ [x]) = sumC l + min x.cnt.length 1000
  | [], x => by simp [sumC]
  | a :: l, x => by simp [sumC, sumC_snoc l x]; omega
theorem sumC_le : ∀ (l : List ObjV), sumC l ≤ l.length * 1000
  | [] => by simp [sumC]
  | a :: l => by have := sumC_le l; simp only [sumC, List.length_cons]; omega
theorem take_snocG {α : Type} (l : List α) (i : Nat) (x : α) (h : l[i]? = some x) : l.take (i + 1) = l.take i ++ [x] := by
  rw [List.take_add_one, h]; rfl
/-- Are there too many? -/
def farB (os : List ObjV) (cs : List Kls) : Bool := decide (os.length > 60) && decide (os.length ≤ 256) || decide (cs.length > 600) || decide (os.length > 600) || decide (sumC (os.take (min os.length 300)) > 2000)
theorem min_300 (n : Nat) : (if (300 : Int) < (n : Int) then (300 : Int) else (n : Int)) = ((min n 300 : Nat) : Int) := by
  split <;> omega
theorem min_1000 (n : Nat) : (if (1000 : Int) < (n : Int) then (1000 : Int) else (n : Int)) = ((min n 1000 : Nat) : Int) := by
  split <;> omega
structure FarSt where
  i : Nat
  h : List AO
theorem s44 {P : Program} {T : Tab} {K d : Nat} (S : Sd P T K) (hd : 1 ≤ d) (q r : SV) (os : List ObjV) (cs : List Kls) (lk : Nat) (h : List AO) (hq : Rs ObjV.cells 3 h q os) (hr : Rs Kls.cells 3 h r cs) (hok : ∀ x ∈ os, x.ok h) :
    ev P T K d 44 [.sc q, .sc r] lk h = some (.v (.sc (.bool (farB os cs))), h) := by
  obtain ⟨d, rfl⟩ : ∃ k, d = k + 1 := ⟨d - 1, by omega⟩
  refine ev_pure (at44 S.t) rfl ?_
  unfold i44 Try.f44
  have l1 := hq.len (un73 S.p)
  have l2 := hr.len (un74 S.p)
  obtain ⟨q2, hsl, hl2, hat⟩ : ∃ q2, sliceA P 73 (.v (.sc q)) none (some (.v (.sc (.int .i64 ((min os.length 300 : Nat) : Int))))) none = some (.v (.sc q2)) ∧
      (∀ hh, lenA P hh 73 (.v (.sc q2)) = some (.v (.sc (.int .i64 ((min os.length 300 : Nat) : Int))))) ∧ (0 < min os.length 300 → ∃ b, q2 = .sl b 0 (min os.length 300) 3 ∧ b < h.length ∧ cellsAt h b = some (recs ObjV.cells os)) := by
    rcases hq with ⟨rfl, rfl⟩ | ⟨b, rfl, hb, hc⟩
    · exact ⟨.nils, slice_nil (un73 S.p) (sz62 S.p) _ _ (by simp), fun hh => by rw [len_nils (un73 S.p)]; simp, fun h0 => by simp at h0⟩
    · refine ⟨_, slice_hi (un73 S.p) (sz62 S.p) b 0 os.length .i64 _ (by omega) (by omega), fun hh => ?_, fun _ => ⟨b, ?_, hb, hc⟩⟩
      · rw [len_sl (un73 S.p), Int.toNat_natCast]
      · rw [Int.toNat_natCast]
  simp (maxSteps := 1000000) (disch := first | omega | (simp (disch := first | omega | (simp only [Hdr.len, Hdr.fr, Obj.len, chg_len, chg_fr, ObjV.len, Kls.len, List.length_append, List.length_cons, List.length_nil, List.length_set]; first | done | omega)) only [Hdr.len, Hdr.fr, Obj.len, chg_len, chg_fr, ObjV.len, Kls.len, amSide, Int.reduceToNat, Nat.reducePow, Nat.reduceMul]; first | done | omega)) only  [↓amPre, amPost, ↓s_lit', Nat.reduceAdd, Nat.reduceSub, List.replicate, retA, resultsA, resultA, toC, toCL, Nat.reduceEqDiff, (ze62 S.p), (fa62_2 S.p), iaddr_sl (un73 S.p) (sz62 S.p), len_sl (un60 S.p), len_nils (un60 S.p), len_sl (un73 S.p), len_nils (un73 S.p), len_sl (un74 S.p), len_nils (un74 S.p), part_sc (ag60 S.p), part_all (ag62 S.p) (sz62 S.p), part_at (ag62 S.p) (sz62 S.p), slice_lo (un73 S.p) (sz62 S.p), slice_hi (un73 S.p) (sz62 S.p), slice_lohi (un73 S.p) (sz62 S.p), slice_nil (un73 S.p) (sz62 S.p), slice_none (un73 S.p), sliceE_lohi (un73 S.p) (sz62 S.p) (by decide), sliceE_hi (un73 S.p) (sz62 S.p) (by decide), slice_mx (un73 S.p), sliceE_mx (un73 S.p) (sz62 S.p) (by decide), store_last (sz62 S.p), (sz62 S.p), l1, l2, min_300, hsl, hl2]
  generalize hm : min os.length 300 = m at *
  refine ends_loop (X := FarSt) ⟨0, h⟩ [7, 15, 16, 17, 18, 19, 20, 21, 22, 23, 24] (fun x => x.i ≤ m ∧ Ext1 h x.h) (fun x => m - x.i)
    (fun x e => (e.set 5 (.v (.sc (.int .i64 ((sumC (os.take x.i) : Nat) : Int))))).set 14 (.v (.sc (.int .i64 x.i)))) (fun x => x.h)
    (by have := S.k; show _ < K; simp only; omega) ⟨by simp only; omega, Ext1.refl h⟩ (by simp only [List.take_zero, sumC]; rfl) rfl ?_
  rintro ⟨i, hh⟩ ⟨hi, hx⟩ again hag e he
  simp only at hi hx hag he
  simp only [↓amPre, amPost, ↓s_lit', Nat.reduceAdd, Nat.reduceSub, List.replicate, retA, resultsA, resultA, toC, toCL, Nat.reduceEqDiff] at he
  simp only [↓amPre, amPost, ↓s_lit', Nat.reduceAdd, Nat.reduceSub, List.replicate, retA, resultsA, resultA, toC, toCL, Nat.reduceEqDiff, he]
  refine ends_cond (fun hc1 => ?_) (fun hc1 => ?_)
  · simp only [decide_eq_true_eq] at hc1
    have h0 : 0 < m := by clear hat; omega
    obtain ⟨b, rfl, hb, hc⟩ := hat h0
    clear hat
    have hio : i < os.length := by omega
    obtain ⟨x, hxi⟩ : ∃ x, os[i]? = some x := ⟨_, List.getElem?_eq_getElem hio⟩
    have hcc : cellsAt hh b = some (recs ObjV.cells os) := by rw [hx.cells hb]; exact hc
    have hlx := sl_len S (hok x (List.mem_of_getElem? hxi)).2
    have hpt := recs_part (ag62 S.p) (sz62 S.p) ObjV.len hxi
    have hsn := sumC_snoc (os.take i) x
    rw [← take_snocG os i x hxi] at hsn
    have hsl2 := sumC_le (os.take i)
    have htl : (os.take i).length ≤ 300 := by have := List.length_take_le i os; omega
    have hle := hx.len
    have w1 : IntKind.i64.wrap (((sumC (os.take i) : Nat) : Int) + ((min x.cnt.length 1000 : Nat) : Int)) = ((sumC (os.take (i + 1)) : Nat) : Int) := by rw [hsn, wrap_i64 (by omega) (by omega)]; omega
    clear hsn hsl2 htl hok
    simp (maxSteps := 1000000) (disch := first | omega | (simp (disch := first | omega | (simp only [Hdr.len, Hdr.fr, Obj.len, chg_len, chg_fr, ObjV.len, Kls.len, List.length_append, List.length_cons, List.length_nil, List.length_set]; first | done | omega)) only [Hdr.len, Hdr.fr, Obj.len, chg_len, chg_fr, ObjV.len, Kls.len, amSide, Int.reduceToNat, Nat.reducePow, Nat.reduceMul]; first | done | omega)) only  [↓amPre, amPost, ↓s_lit', Nat.reduceAdd, Nat.reduceSub, List.replicate, retA, resultsA, resultA, toC, toCL, Nat.reduceEqDiff, he, (ze62 S.p), (fa62_2 S.p), iaddr_sl (un73 S.p) (sz62 S.p), len_sl (un60 S.p), len_nils (un60 S.p), len_sl (un73 S.p), len_nils (un73 S.p), len_sl (un74 S.p), len_nils (un74 S.p), part_sc (ag60 S.p), part_all (ag62 S.p) (sz62 S.p), part_at (ag62 S.p) (sz62 S.p), slice_lo (un73 S.p) (sz62 S.p), slice_hi (un73 S.p) (sz62 S.p), slice_lohi (un73 S.p) (sz62 S.p), slice_nil (un73 S.p) (sz62 S.p), slice_none (un73 S.p), sliceE_lohi (un73 S.p) (sz62 S.p) (by decide), sliceE_hi (un73 S.p) (sz62 S.p) (by decide), slice_mx (un73 S.p), sliceE_mx (un73 S.p) (sz62 S.p) (by decide), store_last (sz62 S.p), (sz62 S.p), idx_ok, hcc, hpt, cells_self, ObjV.c2, hlx, min_1000, w1, Int.toNat_natCast, Nat.zero_add, wrap_i64]
    refine hag ⟨i + 1, _⟩ ⟨by simp only; omega, hx.push _⟩ (by simp only; omega) _ ?_
    simp (maxSteps := 1000000) (disch := first | omega | (simp (disch := first | omega | (simp only [Hdr.len, Hdr.fr, Obj.len, chg_len, chg_fr, ObjV.len, Kls.len, List.length_append, List.length_cons, List.length_nil, List.length_set]; first | done | omega)) only [Hdr.len, Hdr.fr, Obj.len, chg_len, chg_fr, ObjV.len, Kls.len, amSide, Int.reduceToNat, Nat.reducePow, Nat.reduceMul]; first | done | omega)) only [↓amPre, amPost, ↓s_lit', Nat.reduceAdd, Nat.reduceSub, List.replicate, retA, resultsA, resultA, toC, toCL, Nat.reduceEqDiff, Int.natCast_add, Int.cast_ofNat_Int, dec_t, dec_f]
  · simp only [decide_eq_false_iff_not] at hc1
    clear hat
    obtain rfl : i = m := by omega
    have hfar : farB os cs = (decide ((os.length : Int) > 60) && decide ((os.length : Int) ≤ 256) || decide ((cs.length : Int) > 600) || decide ((os.length : Int) > 600) || decide (((sumC (os.take i) : Nat) : Int) > 2000)) := by
      unfold farB
      rw [hm]
      congr 1
      · congr 1
        · congr 1
          · congr 1
            · exact decide_eq_decide.2 (by omega)
            · exact decide_eq_decide.2 (by omega)
          · exact decide_eq_decide.2 (by omega)
        · exact decide_eq_decide.2 (by omega)
      · exact decide_eq_decide.2 (by omega)
    rw [hfar]
    clear hfar hag hok hm
    generalize hb1 : decide ((os.length : Int) > 60) = b1 at *
    generalize hb2 : decide ((os.length : Int) ≤ 256) = b2 at *
    generalize hb3 : decide ((cs.length : Int) > 600) = b3 at *
    generalize hb4 : decide ((os.length : Int) > 600) = b4 at *
    generalize hb5 : decide (((sumC (os.take i) : Nat) : Int) > 2000) = b5 at *
    cases b1 <;> cases b2 <;> cases b3 <;> cases b4 <;>
    · simp (maxSteps := 1000000) (disch := first | omega | (simp (disch := first | omega | (simp only [Hdr.len, Hdr.fr, Obj.len, chg_len, chg_fr, ObjV.len, Kls.len, List.length_append, List.length_cons, List.length_nil, List.length_set]; first | done | omega)) only [Hdr.len, Hdr.fr, Obj.len, chg_len, chg_fr, ObjV.len, Kls.len, amSide, Int.reduceToNat, Nat.reducePow, Nat.reduceMul]; first | done | omega)) only  [↓amPre, amPost, ↓s_lit', Nat.reduceAdd, Nat.reduceSub, List.replicate, retA, resultsA, resultA, toC, toCL, Nat.reduceEqDiff, he, (ze62 S.p), (fa62_2 S.p), iaddr_sl (un73 S.p) (sz62 S.p), len_sl (un60 S.p), len_nils (un60 S.p), len_sl (un73 S.p), len_nils (un73 S.p), len_sl (un74 S.p), len_nils (un74 S.p), part_sc (ag60 S.p), part_all (ag62 S.p) (sz62 S.p), part_at (ag62 S.p) (sz62 S.p), slice_lo (un73 S.p) (sz62 S.p), slice_hi (un73 S.p) (sz62 S.p), slice_lohi (un73 S.p) (sz62 S.p), slice_nil (un73 S.p) (sz62 S.p), slice_none (un73 S.p), sliceE_lohi (un73 S.p) (sz62 S.p) (by decide), sliceE_hi (un73 S.p) (sz62 S.p) (by decide), slice_mx (un73 S.p), sliceE_mx (un73 S.p) (sz62 S.p) (by decide), store_last (sz62 S.p), (sz62 S.p), l1, l2, hb1, hb2, hb3, hb4, hb5]
      exact Ends.some rfl
end Go.AM
namespace Go.AM
open Go.Proofs
structure CpSt where
  i : Nat
  q : SV
  h : List AO
theorem s46 {P : Program} {T : Tab} {K d : Nat} (S : Sd P T K) (hd : 1 ≤ d) (q : SV) (os : List ObjV) (hn : os.length ≤ 600) (lk : Nat) (h : List AO) (hlk : lk ≤ h.length) (hq : Rs ObjV.cells 3 h q os) :
    Ends (fun v h' => Ext1 h h' ∧ ∃ q', v = .v (.sc q') ∧ Own 67 3 h.length h' q' (recs ObjV.cells os)) (ev P T K d 46 [.sc q] lk h) := by
  obtain ⟨d, rfl⟩ : ∃ k, d = k + 1 := ⟨d - 1, by omega⟩
  rw [ev_run (at46 S.t)]
  unfold i46 Try.f46
  have l1 := hq.len (un73 S.p)
  simp (maxSteps := 1000000) (disch := first | omega | (simp (disch := first | omega | (simp only [Hdr.len, Hdr.fr, Obj.len, chg_len, chg_fr, ObjV.len, Kls.len, List.length_append, List.length_cons, List.length_nil, List.length_set]; first | done | omega)) only [Hdr.len, Hdr.fr, Obj.len, chg_len, chg_fr, ObjV.len, Kls.len, amSide, Int.reduceToNat, Nat.reducePow, Nat.reduceMul]; first | done | omega)) only  [↓amPre, amPost, ↓s_lit', Nat.reduceAdd, Nat.reduceSub, List.replicate, retA, resultsA, resultA, toC, toCL, Nat.reduceEqDiff, (ze62 S.p), append_at (un81 S.p) (sz67 S.p) (by67 S.p) (ze67 S.p) (by decide) (by decide) rfl, sl_cells (sz67 S.p), (bu67 S.p), lit_fill (un81 S.p) (sz67 S.p) (ze67 S.p), (fa62_0 S.p), (fa62_1 S.p), (fa62_2 S.p), iaddr_sl (un73 S.p) (sz62 S.p), len_sl (un73 S.p), len_nils (un73 S.p), part_sc (ag26 S.p), part_sc (ag3 S.p), part_sc (ag60 S.p), part_all (ag62 S.p) (sz62 S.p), part_at (ag62 S.p) (sz62 S.p), store_last (sz62 S.p), (sz62 S.p), l1]
  refine ends_loop (X := CpSt) ⟨0, .nils, h⟩ [5, 9, 10, 11, 12, 13, 14, 15, 16, 17, 18, 19, 20, 21, 22] (fun x => x.i ≤ os.length ∧ Ext1 h x.h ∧ Own 67 3 h.length x.h x.q (recs ObjV.cells (os.take x.i))) (fun x => os.length - x.i)
    (fun x e => (e.set 3 (.v (.sc x.q))).set 8 (.v (.sc (.int .i64 x.i)))) (fun x => x.h)
    (by have := S.k; show _ < K; simp only; omega) ⟨by simp only; omega, Ext1.refl h, Own.nil _ _ _ _⟩ rfl rfl ?_
  rintro ⟨i, qo, hh⟩ ⟨hi, hx, ho⟩ again hag e he
  simp only at hi hx ho hag he
  simp only [↓amPre, amPost, ↓s_lit', Nat.reduceAdd, Nat.reduceSub, List.replicate, retA, resultsA, resultA, toC, toCL, Nat.reduceEqDiff] at he
  simp only [↓amPre, amPost, ↓s_lit', Nat.reduceAdd, Nat.reduceSub, List.replicate, retA, resultsA, resultA, toC, toCL, Nat.reduceEqDiff, he]
  refine ends_cond (fun hc1 => ?_) (fun hc1 => ?_)
  · simp only [decide_eq_true_eq] at hc1
    have hio : i < os.length := by omega
    obtain ⟨b, rfl, hb, hc⟩ := hq.at (by omega)
    obtain ⟨x, hxi⟩ : ∃ x, os[i]? = some x := ⟨_, List.getElem?_eq_getElem hio⟩
    have hcc : cellsAt hh b = some (recs ObjV.cells os) := by rw [hx.cells hb]; exact hc
    have hpt := recs_part (ag62 S.p) (sz62 S.p) ObjV.len hxi
    have hle := hx.len
    have hO2 := (ho.push (.rw 62 x.cells)).push (.rw 67 x.cells)
    obtain ⟨q2, h2, happ, hown, hl2, _, hx2, _⟩ := grow_own (b := 40) (lk := lk) hO2 x.cells (by omega) (by rw [ObjV.len]; omega) (by rw [ObjV.len]) (by omega) (by simp; omega) (by rw [recs_len ObjV.len, ObjV.len]; have := List.length_take_le i os; omega)
    have hx3 := hx2 h ((hx.push (.rw 62 x.cells)).push (.rw 67 x.cells)) (Nat.le_refl _)
    rw [recs_snoc, ← take_snocG os i x hxi] at hown
    have hcells : [SV.int .u64 ((x.w : Nat) : Int), .int .i64 x.k, x.q] = x.cells := rfl
    have htk : x.cells.take 3 = x.cells := rfl
    clear hO2 ho
    simp (maxSteps := 1000000) (disch := first | omega | (simp (disch := first | omega | (simp only [Hdr.len, Hdr.fr, Obj.len, chg_len, chg_fr, ObjV.len, Kls.len, List.length_append, List.length_cons, List.length_nil, List.length_set]; first | done | omega)) only [Hdr.len, Hdr.fr, Obj.len, chg_len, chg_fr, ObjV.len, Kls.len, amSide, Int.reduceToNat, Nat.reducePow, Nat.reduceMul]; first | done | omega)) only  [↓amPre, amPost, ↓s_lit', Nat.reduceAdd, Nat.reduceSub, List.replicate, retA, resultsA, resultA, toC, toCL, Nat.reduceEqDiff, he, (ze62 S.p), append_at (un81 S.p) (sz67 S.p) (by67 S.p) (ze67 S.p) (by decide) (by decide) rfl, sl_cells (sz67 S.p), (bu67 S.p), lit_fill (un81 S.p) (sz67 S.p) (ze67 S.p), (fa62_0 S.p), (fa62_1 S.p), (fa62_2 S.p), iaddr_sl (un73 S.p) (sz62 S.p), len_sl (un73 S.p), len_nils (un73 S.p), part_sc (ag26 S.p), part_sc (ag3 S.p), part_sc (ag60 S.p), part_all (ag62 S.p) (sz62 S.p), part_at (ag62 S.p) (sz62 S.p), store_last (sz62 S.p), (sz62 S.p), idx_ok, hcc, hpt, cells_self, cells_other, ObjV.c0, ObjV.c1, ObjV.c2, hcells, htk, happ, List.flatten_cons, List.flatten_nil, List.append_nil, Nat.one_mul, Nat.zero_mul, Int.toNat_natCast, Nat.zero_add, wrap_i64]
    refine hag ⟨i + 1, q2, h2⟩ ⟨hio, hx3, hown⟩ (by simp only; omega) _ ?_
    simp (maxSteps := 1000000) (disch := first | omega | (simp (disch := first | omega | (simp only [Hdr.len, Hdr.fr, Obj.len, chg_len, chg_fr, ObjV.len, Kls.len, List.length_append, List.length_cons, List.length_nil, List.length_set]; first | done | omega)) only [Hdr.len, Hdr.fr, Obj.len, chg_len, chg_fr, ObjV.len, Kls.len, amSide, Int.reduceToNat, Nat.reducePow, Nat.reduceMul]; first | done | omega)) only [↓amPre, amPost, ↓s_lit', Nat.reduceAdd, Nat.reduceSub, List.replicate, retA, resultsA, resultA, toC, toCL, Nat.reduceEqDiff, Int.natCast_add, Int.cast_ofNat_Int, dec_t, dec_f]
  · simp only [decide_eq_false_iff_not] at hc1
    obtain rfl : i = os.length := by omega
    rw [List.take_length] at ho
    simp (maxSteps := 1000000) (disch := first | omega | (simp (disch := first | omega | (simp only [Hdr.len, Hdr.fr, Obj.len, chg_len, chg_fr, ObjV.len, Kls.len, List.length_append, List.length_cons, List.length_nil, List.length_set]; first | done | omega)) only [Hdr.len, Hdr.fr, Obj.len, chg_len, chg_fr, ObjV.len, Kls.len, amSide, Int.reduceToNat, Nat.reducePow, Nat.reduceMul]; first | done | omega)) only  [↓amPre, amPost, ↓s_lit', Nat.reduceAdd, Nat.reduceSub, List.replicate, retA, resultsA, resultA, toC, toCL, Nat.reduceEqDiff, he, (ze62 S.p), append_at (un81 S.p) (sz67 S.p) (by67 S.p) (ze67 S.p) (by decide) (by decide) rfl, sl_cells (sz67 S.p), (bu67 S.p), lit_fill (un81 S.p) (sz67 S.p) (ze67 S.p), (fa62_0 S.p), (fa62_1 S.p), (fa62_2 S.p), iaddr_sl (un73 S.p) (sz62 S.p), len_sl (un73 S.p), len_nils (un73 S.p), part_sc (ag26 S.p), part_sc (ag3 S.p), part_sc (ag60 S.p), part_all (ag62 S.p) (sz62 S.p), part_at (ag62 S.p) (sz62 S.p), store_last (sz62 S.p), (sz62 S.p)]
    exact Ends.some ⟨hx, qo, rfl, ho⟩
theorem s47 {P : Program} {T : Tab} {K d : Nat} (S : Sd P T K) (hd : 1 ≤ d) (q : SV) (os : List Kls) (hn : os.length ≤ 600) (lk : Nat) (h : List AO) (hlk : lk ≤ h.length) (hq : Rs Kls.cells 3 h q os) :
    Ends (fun v h' => Ext1 h h' ∧ ∃ q', v = .v (.sc q') ∧ Own 50 3 h.length h' q' (recs Kls.cells os)) (ev P T K d 47 [.sc q] lk h) := by
  obtain ⟨d, rfl⟩ : ∃ k, d = k + 1 := ⟨d - 1, by omega⟩
  rw [ev_run (at47 S.t)]
  unfold i47 Try.f47
  have l1 := hq.len (un74 S.p)
  simp (maxSteps := 1000000) (disch := first | omega | (simp (disch := first | omega | (simp only [Hdr.len, Hdr.fr, Obj.len, chg_len, chg_fr, ObjV.len, Kls.len, List.length_append, List.length_cons, List.length_nil, List.length_set]; first | done | omega)) only [Hdr.len, Hdr.fr, Obj.len, chg_len, chg_fr, ObjV.len, Kls.len, amSide, Int.reduceToNat, Nat.reducePow, Nat.reduceMul]; first | done | omega)) only  [↓amPre, amPost, ↓s_lit', Nat.reduceAdd, Nat.reduceSub, List.replicate, retA, resultsA, resultA, toC, toCL, Nat.reduceEqDiff, (ze47 S.p), append_at (un77 S.p) (sz50 S.p) (by50 S.p) (ze50 S.p) (by decide) (by decide) rfl, sl_cells (sz50 S.p), (bu50 S.p), lit_fill (un77 S.p) (sz50 S.p) (ze50 S.p), (fa47_0 S.p), (fa47_1 S.p), (fa47_2 S.p), iaddr_sl (un74 S.p) (sz47 S.p), len_sl (un74 S.p), len_nils (un74 S.p), part_sc (ag3 S.p), part_sc (ag4 S.p), part_all (ag47 S.p) (sz47 S.p), part_at (ag47 S.p) (sz47 S.p), part_sc (ag5 S.p), store_last (sz47 S.p), (sz47 S.p), l1]
  refine ends_loop (X := CpSt) ⟨0, .nils, h⟩ [5, 9, 10, 11, 12, 13, 14, 15, 16, 17, 18, 19, 20, 21, 22] (fun x => x.i ≤ os.length ∧ Ext1 h x.h ∧ Own 50 3 h.length x.h x.q (recs Kls.cells (os.take x.i))) (fun x => os.length - x.i)
    (fun x e => (e.set 3 (.v (.sc x.q))).set 8 (.v (.sc (.int .i64 x.i)))) (fun x => x.h)
    (by have := S.k; show _ < K; simp only; omega) ⟨by simp only; omega, Ext1.refl h, Own.nil _ _ _ _⟩ rfl rfl ?_
  rintro ⟨i, qo, hh⟩ ⟨hi, hx, ho⟩ again hag e he
  simp only at hi hx ho hag he
  simp only [↓amPre, amPost, ↓s_lit', Nat.reduceAdd, Nat.reduceSub, List.replicate, retA, resultsA, resultA, toC, toCL, Nat.reduceEqDiff] at he
  simp only [↓amPre, amPost, ↓s_lit', Nat.reduceAdd, Nat.reduceSub, List.replicate, retA, resultsA, resultA, toC, toCL, Nat.reduceEqDiff, he]
  refine ends_cond (fun hc1 => ?_) (fun hc1 => ?_)
  · simp only [decide_eq_true_eq] at hc1
    have hio : i < os.length := by omega
    obtain ⟨b, rfl, hb, hc⟩ := hq.at (by omega)
    obtain ⟨x, hxi⟩ : ∃ x, os[i]? = some x := ⟨_, List.getElem?_eq_getElem hio⟩
    have hcc : cellsAt hh b = some (recs Kls.cells os) := by rw [hx.cells hb]; exact hc
    have hpt := recs_part (ag47 S.p) (sz47 S.p) Kls.len hxi
    have hle := hx.len
    have hO2 := (ho.push (.rw 47 x.cells)).push (.rw 50 x.cells)
    obtain ⟨q2, h2, happ, hown, hl2, _, hx2, _⟩ := grow_own (b := 16) (lk := lk) hO2 x.cells (by omega) (by rw [Kls.len]; omega) (by rw [Kls.len]) (by omega) (by simp; omega) (by rw [recs_len Kls.len, Kls.len]; have := List.length_take_le i os; omega)
    have hx3 := hx2 h ((hx.push (.rw 47 x.cells)).push (.rw 50 x.cells)) (Nat.le_refl _)
    rw [recs_snoc, ← take_snocG os i x hxi] at hown
    have hcells : [SV.bool x.bias, .int .u8 ((x.ep : Nat) : Int), .int .i64 x.cnt] = x.cells := rfl
    have htk : x.cells.take 3 = x.cells := rfl
    clear hO2 ho
    simp (maxSteps := 1000000) (disch := first | omega | (simp (disch := first | omega | (simp only [Hdr.len, Hdr.fr, Obj.len, chg_len, chg_fr, ObjV.len, Kls.len, List.length_append, List.length_cons, List.length_nil, List.length_set]; first | done | omega)) only [Hdr.len, Hdr.fr, Obj.len, chg_len, chg_fr, ObjV.len, Kls.len, amSide, Int.reduceToNat, Nat.reducePow, Nat.reduceMul]; first | done | omega)) only  [↓amPre, amPost, ↓s_lit', Nat.reduceAdd, Nat.reduceSub, List.replicate, retA, resultsA, resultA, toC, toCL, Nat.reduceEqDiff, he, (ze47 S.p), append_at (un77 S.p) (sz50 S.p) (by50 S.p) (ze50 S.p) (by decide) (by decide) rfl, sl_cells (sz50 S.p), (bu50 S.p), lit_fill (un77 S.p) (sz50 S.p) (ze50 S.p), (fa47_0 S.p), (fa47_1 S.p), (fa47_2 S.p), iaddr_sl (un74 S.p) (sz47 S.p), len_sl (un74 S.p), len_nils (un74 S.p), part_sc (ag3 S.p), part_sc (ag4 S.p), part_all (ag47 S.p) (sz47 S.p), part_at (ag47 S.p) (sz47 S.p), part_sc (ag5 S.p), store_last (sz47 S.p), (sz47 S.p), idx_ok, hcc, hpt, cells_self, cells_other, Kls.c0, Kls.c1, Kls.c2, hcells, htk, happ, List.flatten_cons, List.flatten_nil, List.append_nil, Nat.one_mul, Nat.zero_mul, Int.toNat_natCast, Nat.zero_add, wrap_i64]
    refine hag ⟨i + 1, q2, h2⟩ ⟨hio, hx3, hown⟩ (by simp only; omega) _ ?_
    simp (maxSteps := 1000000) (disch := first | omega | (simp (disch := first | omega | (simp only [Hdr.len, Hdr.fr, Obj.len, chg_len, chg_fr, ObjV.len, Kls.len, List.length_append, List.length_cons, List.length_nil, List.length_set]; first | done | omega)) only [Hdr.len, Hdr.fr, Obj.len, chg_len, chg_fr, ObjV.len, Kls.len, amSide, Int.reduceToNat, Nat.reducePow, Nat.reduceMul]; first | done | omega)) only [↓amPre, amPost, ↓s_lit', Nat.reduceAdd, Nat.reduceSub, List.replicate, retA, resultsA, resultA, toC, toCL, Nat.reduceEqDiff, Int.natCast_add, Int.cast_ofNat_Int, dec_t, dec_f]
  · simp only [decide_eq_false_iff_not] at hc1
    obtain rfl : i = os.length := by omega
    rw [List.take_length] at ho
    simp (maxSteps := 1000000) (disch := first | omega | (simp (disch := first | omega | (simp only [Hdr.len, Hdr.fr, Obj.len, chg_len, chg_fr, ObjV.len, Kls.len, List.length_append, List.length_cons, List.length_nil, List.length_set]; first | done | omega)) only [Hdr.len, Hdr.fr, Obj.len, chg_len, chg_fr, ObjV.len, Kls.len, amSide, Int.reduceToNat, Nat.reducePow, Nat.reduceMul]; first | done | omega)) only  [↓amPre, amPost, ↓s_lit', Nat.reduceAdd, Nat.reduceSub, List.replicate, retA, resultsA, resultA, toC, toCL, Nat.reduceEqDiff, he, (ze47 S.p), append_at (un77 S.p) (sz50 S.p) (by50 S.p) (ze50 S.p) (by decide) (by decide) rfl, sl_cells (sz50 S.p), (bu50 S.p), lit_fill (un77 S.p) (sz50 S.p) (ze50 S.p), (fa47_0 S.p), (fa47_1 S.p), (fa47_2 S.p), iaddr_sl (un74 S.p) (sz47 S.p), len_sl (un74 S.p), len_nils (un74 S.p), part_sc (ag3 S.p), part_sc (ag4 S.p), part_all (ag47 S.p) (sz47 S.p), part_at (ag47 S.p) (sz47 S.p), part_sc (ag5 S.p), store_last (sz47 S.p), (sz47 S.p)]
    exact Ends.some ⟨hx, qo, rfl, ho⟩
theorem s60 {P : Program} {T : Tab} {K d : Nat} (S : Sd P T K) (hd : 1 ≤ d) (c : Kls) (hc : -9223372036854775808 ≤ c.cnt) (rb rv : Int) (lk : Nat) (h : List AO) :
    ev P T K d 60 [.ag c.cells, .sc (.int .i64 rb), .sc (.int .i64 rv)] lk h = some (.tup [.sc (.int .i64 (polW c rb rv)), .ag (polC c).cells], h) := by
  obtain ⟨d, rfl⟩ : ∃ k, d = k + 1 := ⟨d - 1, by omega⟩
  refine ev_pure (at60 S.t) (by simp only [freeA, freeCL, freeC, Kls.cells, freeL, freeS, Option.bind_some, Option.map_some, Option.isSome_some]) ?_
  unfold i60 Try.f60 polW
  have hne : ¬ (if rb < 1 then 1 else rb) = 0 := by split <;> omega
  have key : ∀ y : Kls, y = polC c → y.bias = c.bias := fun y hy => by subst hy; rfl
  by_cases h1 : c.cnt < 1000
  · have d1 : decide (c.cnt < 1000) = true := decide_eq_true h1
    have e2 : c.cells.set 2 (.int .i64 (c.cnt + 1)) = (polC c).cells := by simp only [polC, h1, if_true]; rfl
    generalize hy : polC c = y at *
    have hb := key y rfl
    cases hbi : c.bias
    · rw [hbi] at hb
      simp (maxSteps := 1000000) (disch := first | omega | (simp (disch := first | omega | (simp only [Hdr.len, Hdr.fr, Obj.len, chg_len, chg_fr, ObjV.len, Kls.len, List.length_append, List.length_cons, List.length_nil, List.length_set]; first | done | omega)) only [Hdr.len, Hdr.fr, Obj.len, chg_len, chg_fr, ObjV.len, Kls.len, amSide, Int.reduceToNat, Nat.reducePow, Nat.reduceMul]; first | done | omega)) only  [↓amPre, amPost, ↓s_lit', Nat.reduceAdd, Nat.reduceSub, List.replicate, retA, resultsA, resultA, toC, toCL, Nat.reduceEqDiff, (ze47 S.p), (fa47_0 S.p), (fa47_2 S.p), part_sc (ag3 S.p), part_sc (ag4 S.p), part_all (ag47 S.p) (sz47 S.p), part_at (ag47 S.p) (sz47 S.p), store_last (sz3 S.p), (sz3 S.p), store_last (sz47 S.p), (sz47 S.p), cells_self, cells_other, set_self, set_other, Kls.len, Kls.c0, Kls.c1, Kls.c2, d1, e2, hb, hbi, wrap_i64, Bool.false_eq_true, decide_true, decide_false]
      exact Ends.some rfl
    · rw [hbi] at hb
      by_cases h2 : y.cnt ≥ rv
      · have d2 : decide (y.cnt ≥ rv) = true := decide_eq_true h2
        simp (maxSteps := 1000000) (disch := first | omega | (simp (disch := first | omega | (simp only [Hdr.len, Hdr.fr, Obj.len, chg_len, chg_fr, ObjV.len, Kls.len, List.length_append, List.length_cons, List.length_nil, List.length_set]; first | done | omega)) only [Hdr.len, Hdr.fr, Obj.len, chg_len, chg_fr, ObjV.len, Kls.len, amSide, Int.reduceToNat, Nat.reducePow, Nat.reduceMul]; first | done | omega)) only  [↓amPre, amPost, ↓s_lit', Nat.reduceAdd, Nat.reduceSub, List.replicate, retA, resultsA, resultA, toC, toCL, Nat.reduceEqDiff, (ze47 S.p), (fa47_0 S.p), (fa47_2 S.p), part_sc (ag3 S.p), part_sc (ag4 S.p), part_all (ag47 S.p) (sz47 S.p), part_at (ag47 S.p) (sz47 S.p), store_last (sz3 S.p), (sz3 S.p), store_last (sz47 S.p), (sz47 S.p), cells_self, cells_other, set_self, set_other, Kls.len, Kls.c0, Kls.c1, Kls.c2, d1, d2, h2, e2, hb, hbi, wrap_i64, decide_true, decide_false]
        exact Ends.some rfl
      · have d2 : decide (y.cnt ≥ rv) = false := decide_eq_false h2
        by_cases h3 : y.cnt.tmod (if rb < 1 then 1 else rb) = 0
        · simp (maxSteps := 1000000) (disch := first | omega | (simp (disch := first | omega | (simp only [Hdr.len, Hdr.fr, Obj.len, chg_len, chg_fr, ObjV.len, Kls.len, List.length_append, List.length_cons, List.length_nil, List.length_set]; first | done | omega)) only [Hdr.len, Hdr.fr, Obj.len, chg_len, chg_fr, ObjV.len, Kls.len, amSide, Int.reduceToNat, Nat.reducePow, Nat.reduceMul]; first | done | omega)) only  [↓amPre, amPost, ↓s_lit', Nat.reduceAdd, Nat.reduceSub, List.replicate, retA, resultsA, resultA, toC, toCL, Nat.reduceEqDiff, (ze47 S.p), (fa47_0 S.p), (fa47_2 S.p), part_sc (ag3 S.p), part_sc (ag4 S.p), part_all (ag47 S.p) (sz47 S.p), part_at (ag47 S.p) (sz47 S.p), store_last (sz3 S.p), (sz3 S.p), store_last (sz47 S.p), (sz47 S.p), cells_self, cells_other, set_self, set_other, Kls.len, Kls.c0, Kls.c1, Kls.c2, d1, d2, h2, h3, hne, e2, hb, hbi, wrap_i64, beq_self_eq_true, decide_true, decide_false]
          exact Ends.some rfl
        · have d3 : (y.cnt.tmod (if rb < 1 then 1 else rb) == 0) = false := beq_false_of_ne h3
          simp (maxSteps := 1000000) (disch := first | omega | (simp (disch := first | omega | (simp only [Hdr.len, Hdr.fr, Obj.len, chg_len, chg_fr, ObjV.len, Kls.len, List.length_append, List.length_cons, List.length_nil, List.length_set]; first | done | omega)) only [Hdr.len, Hdr.fr, Obj.len, chg_len, chg_fr, ObjV.len, Kls.len, amSide, Int.reduceToNat, Nat.reducePow, Nat.reduceMul]; first | done | omega)) only  [↓amPre, amPost, ↓s_lit', Nat.reduceAdd, Nat.reduceSub, List.replicate, retA, resultsA, resultA, toC, toCL, Nat.reduceEqDiff, (ze47 S.p), (fa47_0 S.p), (fa47_2 S.p), part_sc (ag3 S.p), part_sc (ag4 S.p), part_all (ag47 S.p) (sz47 S.p), part_at (ag47 S.p) (sz47 S.p), store_last (sz3 S.p), (sz3 S.p), store_last (sz47 S.p), (sz47 S.p), cells_self, cells_other, set_self, set_other, Kls.len, Kls.c0, Kls.c1, Kls.c2, d1, d2, d3, h2, h3, hne, e2, hb, hbi, wrap_i64, decide_true, decide_false]
          exact Ends.some rfl
  · have d1 : decide (c.cnt < 1000) = false := decide_eq_false h1
    have e2 : polC c = c := by simp only [polC, h1, if_false]
    rw [e2]
    cases hbi : c.bias
    · simp (maxSteps := 1000000) (disch := first | omega | (simp (disch := first | omega | (simp only [Hdr.len, Hdr.fr, Obj.len, chg_len, chg_fr, ObjV.len, Kls.len, List.length_append, List.length_cons, List.length_nil, List.length_set]; first | done | omega)) only [Hdr.len, Hdr.fr, Obj.len, chg_len, chg_fr, ObjV.len, Kls.len, amSide, Int.reduceToNat, Nat.reducePow, Nat.reduceMul]; first | done | omega)) only  [↓amPre, amPost, ↓s_lit', Nat.reduceAdd, Nat.reduceSub, List.replicate, retA, resultsA, resultA, toC, toCL, Nat.reduceEqDiff, (ze47 S.p), (fa47_0 S.p), (fa47_2 S.p), part_sc (ag3 S.p), part_sc (ag4 S.p), part_all (ag47 S.p) (sz47 S.p), part_at (ag47 S.p) (sz47 S.p), store_last (sz3 S.p), (sz3 S.p), store_last (sz47 S.p), (sz47 S.p), cells_self, cells_other, set_self, set_other, Kls.len, Kls.c0, Kls.c1, Kls.c2, d1, hbi, wrap_i64, Bool.false_eq_true, decide_true, decide_false]
      exact Ends.some rfl
    · by_cases h2 : c.cnt ≥ rv
      · have d2 : decide (c.cnt ≥ rv) = true := decide_eq_true h2
        simp (maxSteps := 1000000) (disch := first | omega | (simp (disch := first | omega | (simp only [Hdr.len, Hdr.fr, Obj.len, chg_len, chg_fr, ObjV.len, Kls.len, List.length_append, List.length_cons, List.length_nil, List.length_set]; first | done | omega)) only [Hdr.len, Hdr.fr, Obj.len, chg_len, chg_fr, ObjV.len, Kls.len, amSide, Int.reduceToNat, Nat.reducePow, Nat.reduceMul]; first | done | omega)) only  [↓amPre, amPost, ↓s_lit', Nat.reduceAdd, Nat.reduceSub, List.replicate, retA, resultsA, resultA, toC, toCL, Nat.reduceEqDiff, (ze47 S.p), (fa47_0 S.p), (fa47_2 S.p), part_sc (ag3 S.p), part_sc (ag4 S.p), part_all (ag47 S.p) (sz47 S.p), part_at (ag47 S.p) (sz47 S.p), store_last (sz3 S.p), (sz3 S.p), store_last (sz47 S.p), (sz47 S.p), cells_self, cells_other, set_self, set_other, Kls.len, Kls.c0, Kls.c1, Kls.c2, d1, d2, h2, hbi, wrap_i64, decide_true, decide_false]
        exact Ends.some rfl
      · have d2 : decide (c.cnt ≥ rv) = false := decide_eq_false h2
        by_cases h3 : c.cnt.tmod (if rb < 1 then 1 else rb) = 0
        · simp (maxSteps := 1000000) (disch := first | omega | (simp (disch := first | omega | (simp only [Hdr.len, Hdr.fr, Obj.len, chg_len, chg_fr, ObjV.len, Kls.len, List.length_append, List.length_cons, List.length_nil, List.length_set]; first | done | omega)) only [Hdr.len, Hdr.fr, Obj.len, chg_len, chg_fr, ObjV.len, Kls.len, amSide, Int.reduceToNat, Nat.reducePow, Nat.reduceMul]; first | done | omega)) only  [↓amPre, amPost, ↓s_lit', Nat.reduceAdd, Nat.reduceSub, List.replicate, retA, resultsA, resultA, toC, toCL, Nat.reduceEqDiff, (ze47 S.p), (fa47_0 S.p), (fa47_2 S.p), part_sc (ag3 S.p), part_sc (ag4 S.p), part_all (ag47 S.p) (sz47 S.p), part_at (ag47 S.p) (sz47 S.p), store_last (sz3 S.p), (sz3 S.p), store_last (sz47 S.p), (sz47 S.p), cells_self, cells_other, set_self, set_other, Kls.len, Kls.c0, Kls.c1, Kls.c2, d1, d2, h2, h3, hne, hbi, wrap_i64, beq_self_eq_true, decide_true, decide_false]
          exact Ends.some rfl
        · have d3 : (c.cnt.tmod (if rb < 1 then 1 else rb) == 0) = false := beq_false_of_ne h3
          simp (maxSteps := 1000000) (disch := first | omega | (simp (disch := first | omega | (simp only [Hdr.len, Hdr.fr, Obj.len, chg_len, chg_fr, ObjV.len, Kls.len, List.length_append, List.length_cons, List.length_nil, List.length_set]; first | done | omega)) only [Hdr.len, Hdr.fr, Obj.len, chg_len, chg_fr, ObjV.len, Kls.len, amSide, Int.reduceToNat, Nat.reducePow, Nat.reduceMul]; first | done | omega)) only  [↓amPre, amPost, ↓s_lit', Nat.reduceAdd, Nat.reduceSub, List.replicate, retA, resultsA, resultA, toC, toCL, Nat.reduceEqDiff, (ze47 S.p), (fa47_0 S.p), (fa47_2 S.p), part_sc (ag3 S.p), part_sc (ag4 S.p), part_all (ag47 S.p) (sz47 S.p), part_at (ag47 S.p) (sz47 S.p), store_last (sz3 S.p), (sz3 S.p), store_last (sz47 S.p), (sz47 S.p), cells_self, cells_other, set_self, set_other, Kls.len, Kls.c0, Kls.c1, Kls.c2, d1, d2, d3, h2, h3, hne, hbi, wrap_i64, decide_true, decide_false]
          exact Ends.some rfl
/-- A clone of classes. -/
def ClK (l : List Kls) (h : List AO) (v : AV) (h' : List AO) : Prop := (l = [] ∧ (∃ q', v = .v (.sc q') ∧ Rs Kls.cells 3 h' q' [] ∧ Ext1 h h')) ∨ (l ≠ [] ∧ v = .v (.sc (.sl (h.length + 1) 0 l.length 3)) ∧ h' = h ++ [.dead] ++ [.rw 50 (recs Kls.cells l)])
theorem s59 {P : Program} {T : Tab} {K d : Nat} (S : Sd P T K) (hd : 1 ≤ d) (q : SV) (l : List Kls) (hl : l.length ≤ 100000) (lk : Nat) (h : List AO) (hlk : lk ≤ h.length) (hS : Rs Kls.cells 3 h q l) :
    Ends (ClK l h) (ev P T K d 59 [.sc q] lk h) := by
  obtain ⟨d, rfl⟩ : ∃ k, d = k + 1 := ⟨d - 1, by omega⟩
  rw [ev_run (at59 S.t)]
  unfold i59 Try.f59
  rcases hS with ⟨rfl, rfl⟩ | ⟨b, rfl, hb, hc⟩
  · simp (maxSteps := 1000000) (disch := first | omega | (simp (disch := first | omega | (simp only [Hdr.len, Hdr.fr, Obj.len, chg_len, chg_fr, ObjV.len, Kls.len, List.length_append, List.length_cons, List.length_nil, List.length_set]; first | done | omega)) only [Hdr.len, Hdr.fr, Obj.len, chg_len, chg_fr, ObjV.len, Kls.len, amSide, Int.reduceToNat, Nat.reducePow, Nat.reduceMul]; first | done | omega)) only  [↓amPre, amPost, ↓s_lit', Nat.reduceAdd, Nat.reduceSub, List.replicate, retA, resultsA, resultA, toC, toCL, Nat.reduceEqDiff, append_at (un77 S.p) (sz50 S.p) (by50 S.p) (ze50 S.p) (by decide) (by decide) rfl, sl_cells (sz50 S.p), lit_fill (un77 S.p) (sz50 S.p) (ze50 S.p), eqls_nil (un77 S.p)]
    exact Ends.some (.inl ⟨rfl, _, rfl, .inl ⟨rfl, rfl⟩, Ext1.refl h⟩)
  have hrl := recs_len Kls.len l
  cases l with
  | nil =>
    have hc0 : cellsAt h b = some [] := hc
    simp (maxSteps := 1000000) (disch := first | omega | (simp (disch := first | omega | (simp only [Hdr.len, Hdr.fr, Obj.len, chg_len, chg_fr, ObjV.len, Kls.len, List.length_append, List.length_cons, List.length_nil, List.length_set]; first | done | omega)) only [Hdr.len, Hdr.fr, Obj.len, chg_len, chg_fr, ObjV.len, Kls.len, amSide, Int.reduceToNat, Nat.reducePow, Nat.reduceMul]; first | done | omega)) only  [↓amPre, amPost, ↓s_lit', Nat.reduceAdd, Nat.reduceSub, List.replicate, retA, resultsA, resultA, toC, toCL, Nat.reduceEqDiff, append_at (un77 S.p) (sz50 S.p) (by50 S.p) (ze50 S.p) (by decide) (by decide) rfl, sl_cells (sz50 S.p), lit_fill (un77 S.p) (sz50 S.p) (ze50 S.p), eqls_sl (un77 S.p), hc0, cells_self, cells_other, Nat.mul_one, Nat.zero_mul, Nat.zero_add, List.drop_zero, List.drop_nil, List.take_nil, List.flatten_nil, List.replicate_zero, List.nil_append]
    exact Ends.some (.inl ⟨rfl, _, rfl, .inr ⟨h.length, rfl, by simp, cells_self _ _ _ rfl⟩, (Ext1.refl h).push _⟩)
  | cons x xs =>
    generalize hre : recs Kls.cells (x :: xs) = R at *
    simp only [List.length_cons] at hl hrl
    have htk : R.take ((xs.length + 1) * 3) = R := List.take_of_length_le (by omega)
    have hmod : R.length % 3 = 0 := by omega
    have hdiv : R.length / 3 = xs.length + 1 := by omega
    simp (maxSteps := 1000000) (disch := first | omega | (simp (disch := first | omega | (simp only [Hdr.len, Hdr.fr, Obj.len, chg_len, chg_fr, ObjV.len, Kls.len, List.length_append, List.length_cons, List.length_nil, List.length_set]; first | done | omega)) only [Hdr.len, Hdr.fr, Obj.len, chg_len, chg_fr, ObjV.len, Kls.len, amSide, Int.reduceToNat, Nat.reducePow, Nat.reduceMul]; first | done | omega)) only  [↓amPre, amPost, ↓s_lit', Nat.reduceAdd, Nat.reduceSub, List.replicate, retA, resultsA, resultA, toC, toCL, Nat.reduceEqDiff, append_at (un77 S.p) (sz50 S.p) (by50 S.p) (ze50 S.p) (by decide) (by decide) rfl, sl_cells (sz50 S.p), lit_fill (un77 S.p) (sz50 S.p) (ze50 S.p), eqls_sl (un77 S.p), hc, cells_self, cells_other, obj_self, set_self, Nat.zero_mul, Nat.zero_add, htk, appB_slG, appC_rw, hmod, hdiv, List.drop_zero, List.drop_nil, List.flatten_nil, List.replicate_zero, List.nil_append]
    exact Ends.some (.inr ⟨by simp, by simp, by rw [hre]⟩)
/-- What is fresh, if it is owned. -/
def frO (x : ObjV) : Bool := biW x.w && hasC x.cnt (ownW x.w)
theorem s61 {P : Program} {T : Tab} {K d : Nat} (S : Sd P T K) (hd : 10 ≤ d) (c : Kls) (hc : c.ok) (x : ObjV) (lk : Nat) (h : List AO) (hx : x.ok h) :
    ev P T K d 61 [.ag x.cells, .ag c.cells] lk h = some (.tup [.sc (.int .u64 ((if frO x then frW x.w c else 0 : Nat) : Int)), .sc (.bool (frO x))], h) := by
  obtain ⟨d, rfl⟩ : ∃ k, d = k + 1 := ⟨d - 1, by omega⟩
  refine ev_pure (at61 S.t) rfl ?_
  unfold i61 Try.f61 frO
  obtain ⟨hw, hS⟩ := hx
  have f57 : ∀ lk a b c' u, ev P T K d 57 [.ag x.cells, .sc (.int .i64 u)] lk (h ++ [a] ++ [b] ++ [c']) = some (.v (.sc (.bool (hasC x.cnt u))), h ++ [a] ++ [b] ++ [c']) := fun lk a b c' u => s57 S (by omega) x.w x.k x.q x.cnt u lk _ (((hS.push a).push b).push c')
  have f43 : ∀ lk h, ev P T K d 43 [.sc (.int .u64 (x.w : Nat))] lk h = some (.v (.sc (.int .i64 (ownW x.w))), h) := fun lk h => s43 S (by omega) x.w hw lk h
  have f23 : ∀ lk h, ev P T K d 23 [.sc (.int .u64 (x.w : Nat))] lk h = some (.tup [.ag (rdH x.w).cells, .sc (.int .i64 (if rdOk x.w then 0 else 3))], h) := fun lk h => s23 S (by omega) x.w hw lk h
  have f29 : ∀ lk h, ev P T K d 29 [.sc (.int .u64 (x.w : Nat)), .ag c.cells] lk h = some (.tup [.sc (.int .u64 ((frW x.w c : Nat) : Int)), .sc (.bool (biW x.w))], h) := fun lk h => s29 S (by omega) c hc x.w hw lk h
  cases hb : biW x.w with
  | false =>
    rw [hb] at f29
    cases hr : rdOk x.w with
    | false =>
      rw [hr] at f23
      simp (maxSteps := 1000000) (disch := first | omega | (simp (disch := first | omega | (simp only [Hdr.len, Hdr.fr, Obj.len, chg_len, chg_fr, ObjV.len, Kls.len, List.length_append, List.length_cons, List.length_nil, List.length_set]; first | done | omega)) only [Hdr.len, Hdr.fr, Obj.len, chg_len, chg_fr, ObjV.len, Kls.len, amSide, Int.reduceToNat, Nat.reducePow, Nat.reduceMul]; first | done | omega)) only  [↓amPre, amPost, ↓s_lit', Nat.reduceAdd, Nat.reduceSub, List.replicate, retA, resultsA, resultA, toC, toCL, Nat.reduceEqDiff, (ze25 S.p), (fa25_0 S.p), (fa62_0 S.p), part_sc (ag26 S.p), part_sc (ag3 S.p), part_all (ag47 S.p) (sz47 S.p), part_at (ag47 S.p) (sz47 S.p), part_all (ag62 S.p) (sz62 S.p), part_at (ag62 S.p) (sz62 S.p), store_last (sz25 S.p), (sz25 S.p), f23, f57, f43, f29, zeroH_cells, cells_self, cells_other, ObjV.c0, Hdr.c0, Int.reduceBNe, Bool.false_and, Bool.false_eq_true]
      exact Ends.some rfl
    | true =>
      rw [hr] at f23
      have e1 : (rdH x.w).kind ≠ 4 := fun hk => by unfold biW at hb; rw [hr, hk] at hb; cases hb
      simp (maxSteps := 1000000) (disch := first | omega | (simp (disch := first | omega | (simp only [Hdr.len, Hdr.fr, Obj.len, chg_len, chg_fr, ObjV.len, Kls.len, List.length_append, List.length_cons, List.length_nil, List.length_set]; first | done | omega)) only [Hdr.len, Hdr.fr, Obj.len, chg_len, chg_fr, ObjV.len, Kls.len, amSide, Int.reduceToNat, Nat.reducePow, Nat.reduceMul]; first | done | omega)) only  [↓amPre, amPost, ↓s_lit', Nat.reduceAdd, Nat.reduceSub, List.replicate, retA, resultsA, resultA, toC, toCL, Nat.reduceEqDiff, (ze25 S.p), (fa25_0 S.p), (fa62_0 S.p), part_sc (ag26 S.p), part_sc (ag3 S.p), part_all (ag47 S.p) (sz47 S.p), part_at (ag47 S.p) (sz47 S.p), part_all (ag62 S.p) (sz62 S.p), part_at (ag62 S.p) (sz62 S.p), store_last (sz25 S.p), (sz25 S.p), f23, f57, f43, f29, zeroH_cells, cells_self, cells_other, ObjV.c0, Hdr.c0, bne_self_eq_false, bneI_t, Bool.false_and, Bool.false_eq_true]
      exact Ends.some rfl
  | true =>
    obtain ⟨hr, hk, _⟩ := bi_facts hb
    rw [hb] at f29
    rw [hr] at f23
    cases hh : hasC x.cnt (ownW x.w) with
    | false =>
      simp (maxSteps := 1000000) (disch := first | omega | (simp (disch := first | omega | (simp only [Hdr.len, Hdr.fr, Obj.len, chg_len, chg_fr, ObjV.len, Kls.len, List.length_append, List.length_cons, List.length_nil, List.length_set]; first | done | omega)) only [Hdr.len, Hdr.fr, Obj.len, chg_len, chg_fr, ObjV.len, Kls.len, amSide, Int.reduceToNat, Nat.reducePow, Nat.reduceMul]; first | done | omega)) only  [↓amPre, amPost, ↓s_lit', Nat.reduceAdd, Nat.reduceSub, List.replicate, retA, resultsA, resultA, toC, toCL, Nat.reduceEqDiff, (ze25 S.p), (fa25_0 S.p), (fa62_0 S.p), part_sc (ag26 S.p), part_sc (ag3 S.p), part_all (ag47 S.p) (sz47 S.p), part_at (ag47 S.p) (sz47 S.p), part_all (ag62 S.p) (sz62 S.p), part_at (ag62 S.p) (sz62 S.p), store_last (sz25 S.p), (sz25 S.p), f23, f57, f43, f29, hh, hk, zeroH_cells, cells_self, cells_other, ObjV.c0, Hdr.c0, bne_self_eq_false, Bool.true_and, Bool.false_eq_true]
      exact Ends.some rfl
    | true =>
      simp (maxSteps := 1000000) (disch := first | omega | (simp (disch := first | omega | (simp only [Hdr.len, Hdr.fr, Obj.len, chg_len, chg_fr, ObjV.len, Kls.len, List.length_append, List.length_cons, List.length_nil, List.length_set]; first | done | omega)) only [Hdr.len, Hdr.fr, Obj.len, chg_len, chg_fr, ObjV.len, Kls.len, amSide, Int.reduceToNat, Nat.reducePow, Nat.reduceMul]; first | done | omega)) only  [↓amPre, amPost, ↓s_lit', Nat.reduceAdd, Nat.reduceSub, List.replicate, retA, resultsA, resultA, toC, toCL, Nat.reduceEqDiff, (ze25 S.p), (fa25_0 S.p), (fa62_0 S.p), part_sc (ag26 S.p), part_sc (ag3 S.p), part_all (ag47 S.p) (sz47 S.p), part_at (ag47 S.p) (sz47 S.p), part_all (ag62 S.p) (sz62 S.p), part_at (ag62 S.p) (sz62 S.p), store_last (sz25 S.p), (sz25 S.p), f23, f57, f43, f29, hh, hk, zeroH_cells, cells_self, cells_other, ObjV.c0, Hdr.c0, bne_self_eq_false, Bool.and_self]
      exact Ends.some rfl
end Go.AM
namespace Go.AM
open Go.Proofs
structure Chg where
  o : Int
  w : Nat
  u : Int
  s : Nat
def Chg.cells (c : Chg) : List SV := chg c.o c.w c.u c.s
theorem Chg.len (c : Chg) : c.cells.length = 4 := nrfl rfl
theorem Chg.c0 (c : Chg) : c.cells[0]? = some (.int .i64 c.o) := nrfl rfl
theorem Chg.c1 (c : Chg) : c.cells[1]? = some (.int .u64 (c.w : Nat)) := nrfl rfl
theorem Chg.c2 (c : Chg) : c.cells[2]? = some (.int .i64 c.u) := nrfl rfl
theorem Chg.c3 (c : Chg) : c.cells[3]? = some (.int .u64 (c.s : Nat)) := nrfl rfl
def oneV (o : Int) (x : ObjV) : Chg := if oneOk o x.w then if hasC x.cnt (ownW x.w) then ⟨o, thinW o x.w, ownW x.w, neuW x.w⟩ else ⟨o, neuW x.w, -1, 0⟩ else ⟨0, 0, 0, 0⟩
theorem oneV_cells (o : Int) (x : ObjV) : oneC o x.w x.cnt = (oneV o x).cells := by
  unfold oneC oneV
  split
  · split <;> rfl
  · rfl
/-- The word of an object. -/
def wordAt (os : List ObjV) (i : Nat) : Nat := (os[i]?.map ObjV.w).getD 0
theorem wordAt_eq {os : List ObjV} {i : Nat} {x : ObjV} (h : os[i]? = some x) : wordAt os i = x.w := by unfold wordAt; rw [h]; rfl
def addC (os : List ObjV) (chs : List Chg) (c : Chg) (ok : Bool) : List Chg := if ok = true ∧ c.w ≠ wordAt os c.o.toNat then chs ++ [c] else chs
theorem addC_len (os : List ObjV) (chs : List Chg) (c : Chg) (ok : Bool) : (addC os chs c ok).length ≤ chs.length + 1 := by
  unfold addC; split <;> simp
/-- The heap while it is revoked. -/
structure RvInv (h hh : List AO) (qo qc : SV) (cs : List Kls) (c : Kls) (chs : List Chg) : Prop where
  x : Ext1 h hh
  p5 : hh[h.length]? = some (.rw 81 [qo])
  p15 : hh[h.length + 1]? = some (.rw 78 [qc])
  p17 : hh[h.length + 3]? = some (.rw 50 (recs Kls.cells cs))
  p19 : hh[h.length + 4]? = some (.rw 50 c.cells)
  own : Own 64 4 (h.length + 5) hh qc (recs Chg.cells chs)
  len : h.length + 5 ≤ hh.length
theorem RvInv.push {h hh : List AO} {qo qc : SV} {cs : List Kls} {c : Kls} {chs : List Chg} (H : RvInv h hh qo qc cs c chs) (o : AO) : RvInv h (hh ++ [o]) qo qc cs c chs := by
  have hl := H.len
  refine ⟨H.x.push o, ?_, ?_, ?_, ?_, H.own.push o, by simp; omega⟩
  all_goals rw [List.getElem?_append_left (by omega)]
  · exact H.p5
  · exact H.p15
  · exact H.p17
  · exact H.p19
theorem RvInv.setC {h hh : List AO} {qo qc : SV} {cs : List Kls} {c : Kls} {chs : List Chg} (H : RvInv h hh qo qc cs c chs) (c' : Kls) : RvInv h (hh.set (h.length + 4) (.rw 50 c'.cells)) qo qc cs c' chs := by
  have hl := H.len
  refine ⟨H.x.set (by omega) _, ?_, ?_, ?_, List.getElem?_set_self (by omega), H.own.set (by omega) _, by simpa using hl⟩
  all_goals rw [List.getElem?_set_ne (by omega)]
  · exact H.p5
  · exact H.p15
  · exact H.p17
-- LENS: Hdr.len, Hdr.fr, Obj.len, chg_len, chg_fr, ObjV.len, Kls.len, Chg.len
/-- The closure: one change more, if it is one. -/
theorem s58 {P : Program} {T : Tab} {K d : Nat} (S : Sd P T K) (hd : 1 ≤ d) (h hh : List AO) (b : Nat) (qc : SV) (os : List ObjV) (cs : List Kls) (c : Kls) (chs : List Chg) (y : Chg) (ok : Bool) (lk : Nat) (hlk : lk ≤ h.length)
    (hb : b < h.length) (hc : cellsAt h b = some (recs ObjV.cells os)) (hy : ok = true → 0 ≤ y.o ∧ y.o < os.length) (hn : chs.length ≤ 1000) (H : RvInv h hh (.sl b 0 os.length 3) qc cs c chs) :
    ∃ h' qc', ev P T K d 58 [.ag y.cells, .sc (.bool ok), .sc (.ptr h.length 0), .sc (.ptr (h.length + 1) 0)] lk hh = some (.tup [], h') ∧ RvInv h h' (.sl b 0 os.length 3) qc' cs c (addC os chs y ok) := by
  obtain ⟨d, rfl⟩ : ∃ k, d = k + 1 := ⟨d - 1, by omega⟩
  rw [ev_run (at58 S.t)]
  suffices G : Ends (fun v h' => v = .tup [] ∧ ∃ qc', RvInv h h' (.sl b 0 os.length 3) qc' cs c (addC os chs y ok))
      (runA ⟨P, ev P T K d, lk, K, i58.er, i58.dr⟩ i58.fn i58.c [.ag y.cells, .sc (.bool ok), .sc (.ptr h.length 0), .sc (.ptr (h.length + 1) 0)] hh) by
    obtain ⟨v, h', e, rfl, qc', g⟩ := G
    exact ⟨h', qc', e, g⟩
  unfold i58 Try.f58
  have hl := H.len
  have hcb : cellsAt hh b = some (recs ObjV.cells os) := by rw [H.x.cells hb]; exact hc
  have hb2 : b < hh.length := by omega
  have c5 : cellsAt hh h.length = some [.sl b 0 os.length 3] := cells_at H.p5
  have c15 : cellsAt hh (h.length + 1) = some [qc] := cells_at H.p15
  cases ok with
  | false =>
    have he : addC os chs y false = chs := by unfold addC; rw [if_neg (by simp)]
    rw [he]
    simp (maxSteps := 1000000) (disch := first | omega | (simp (disch := first | omega | (simp only [Hdr.len, Hdr.fr, Obj.len, chg_len, chg_fr, ObjV.len, Kls.len, Chg.len, List.length_append, List.length_cons, List.length_nil, List.length_set]; first | done | omega)) only [Hdr.len, Hdr.fr, Obj.len, chg_len, chg_fr, ObjV.len, Kls.len, Chg.len, amSide, Int.reduceToNat, Nat.reducePow, Nat.reduceMul]; first | done | omega)) only  [↓amPre, amPost, ↓s_lit', Nat.reduceAdd, Nat.reduceSub, List.replicate, retA, resultsA, resultA, toC, toCL, Nat.reduceEqDiff, append_at (un78 S.p) (sz64 S.p) (by64 S.p) (ze64 S.p) (by decide) (by decide) rfl, sl_cells (sz64 S.p), lit_fill (un78 S.p) (sz64 S.p) (ze64 S.p), (fa64_0 S.p), (fa64_1 S.p), (fa67_0 S.p), iaddr_sl (un81 S.p) (sz67 S.p), part_sc (ag26 S.p), part_sc (ag3 S.p), part_all (ag64 S.p) (sz64 S.p), part_at (ag64 S.p) (sz64 S.p), part_sc (ag78 S.p), part_sc (ag81 S.p), store_last (sz78 S.p), (sz78 S.p)]
    exact Ends.some ⟨rfl, qc, H.push _⟩
  | true =>
    obtain ⟨y0, y1⟩ := hy rfl
    obtain ⟨i, hi⟩ := Int.eq_ofNat_of_zero_le y0
    have hio : i < os.length := by omega
    obtain ⟨x, hxi⟩ : ∃ x, os[i]? = some x := ⟨_, List.getElem?_eq_getElem hio⟩
    have hg0 := recs_get0 ObjV.len hxi (by omega)
    have c0 := Chg.c0 y
    rw [hi] at c0
    have hwa : wordAt os y.o.toNat = x.w := by rw [hi, Int.toNat_natCast]; exact wordAt_eq hxi
    by_cases hw : y.w = x.w
    · have he : addC os chs y true = chs := by unfold addC; rw [if_neg (by rw [hwa]; simp [hw])]
      rw [he]
      have hwi : ((y.w : Nat) : Int) = ((x.w : Nat) : Int) := by rw [hw]
      simp (maxSteps := 1000000) (disch := first | omega | (simp (disch := first | omega | (simp only [Hdr.len, Hdr.fr, Obj.len, chg_len, chg_fr, ObjV.len, Kls.len, Chg.len, List.length_append, List.length_cons, List.length_nil, List.length_set]; first | done | omega)) only [Hdr.len, Hdr.fr, Obj.len, chg_len, chg_fr, ObjV.len, Kls.len, Chg.len, amSide, Int.reduceToNat, Nat.reducePow, Nat.reduceMul]; first | done | omega)) only  [↓amPre, amPost, ↓s_lit', Nat.reduceAdd, Nat.reduceSub, List.replicate, retA, resultsA, resultA, toC, toCL, Nat.reduceEqDiff, append_at (un78 S.p) (sz64 S.p) (by64 S.p) (ze64 S.p) (by decide) (by decide) rfl, sl_cells (sz64 S.p), lit_fill (un78 S.p) (sz64 S.p) (ze64 S.p), (fa64_0 S.p), (fa64_1 S.p), (fa67_0 S.p), iaddr_sl (un81 S.p) (sz67 S.p), part_sc (ag26 S.p), part_sc (ag3 S.p), part_all (ag64 S.p) (sz64 S.p), part_at (ag64 S.p) (sz64 S.p), part_sc (ag78 S.p), part_sc (ag81 S.p), store_last (sz78 S.p), (sz78 S.p), cells_self, cells_other, c0, Chg.c1, c5, hcb, hg0, ObjV.c0, idx_ok, Int.toNat_natCast, Nat.zero_add, Nat.add_zero, bneI_f]
      exact Ends.some ⟨rfl, qc, H.push _⟩
    · have he : addC os chs y true = chs ++ [y] := by unfold addC; rw [if_pos ⟨rfl, by rw [hwa]; exact hw⟩]
      rw [he]
      have hwi : ¬ ((y.w : Nat) : Int) = ((x.w : Nat) : Int) := by omega
      have H2 := (H.push (.rw 64 y.cells)).push (.rw 64 y.cells)
      obtain ⟨q2, h2, happ, hown, hl2, hg2, hx2, _⟩ := grow_own (b := 32) (lk := lk) H2.own y.cells (by omega) (by rw [Chg.len]; omega) (by rw [Chg.len]) (by omega) (by simp; omega) (by rw [recs_len Chg.len, Chg.len]; omega)
      have hx3 := hx2 h H2.x (by omega)
      rw [recs_snoc] at hown
      have htk : y.cells.take 4 = y.cells := rfl
      have st : storeA P h2 lk 78 (.v (.sc (.ptr (h.length + 1) 0))) (.v (.sc q2)) = some (h2.set (h.length + 1) (.rw 78 [q2])) := by
        rw [store_at (el := 78) (cs := [qc]) (n := 1) (by rw [hg2 (h.length + 1) (by omega)]; exact H2.p15) (by omega) (sz78 S.p) rfl (by simp)]
        rfl
      have hfin : RvInv h (h2.set (h.length + 1) (.rw 78 [q2])) (.sl b 0 os.length 3) q2 cs c (chs ++ [y]) := by
        simp only [List.length_append, List.length_singleton] at hl2
        refine ⟨hx3.set (by omega) _, ?_, List.getElem?_set_self (by omega), ?_, ?_, hown.set (by omega) _, by simp only [List.length_set]; omega⟩
        all_goals rw [List.getElem?_set_ne (by omega), hg2 _ (by omega)]
        · exact H2.p5
        · exact H2.p17
        · exact H2.p19
      clear hx3 hown hg2 hx2 H2
      simp (maxSteps := 1000000) (disch := first | omega | (simp (disch := first | omega | (simp only [Hdr.len, Hdr.fr, Obj.len, chg_len, chg_fr, ObjV.len, Kls.len, Chg.len, List.length_append, List.length_cons, List.length_nil, List.length_set]; first | done | omega)) only [Hdr.len, Hdr.fr, Obj.len, chg_len, chg_fr, ObjV.len, Kls.len, Chg.len, amSide, Int.reduceToNat, Nat.reducePow, Nat.reduceMul]; first | done | omega)) only  [↓amPre, amPost, ↓s_lit', Nat.reduceAdd, Nat.reduceSub, List.replicate, retA, resultsA, resultA, toC, toCL, Nat.reduceEqDiff, append_at (un78 S.p) (sz64 S.p) (by64 S.p) (ze64 S.p) (by decide) (by decide) rfl, sl_cells (sz64 S.p), lit_fill (un78 S.p) (sz64 S.p) (ze64 S.p), (fa64_0 S.p), (fa64_1 S.p), (fa67_0 S.p), iaddr_sl (un81 S.p) (sz67 S.p), part_sc (ag26 S.p), part_sc (ag3 S.p), part_all (ag64 S.p) (sz64 S.p), part_at (ag64 S.p) (sz64 S.p), part_sc (ag78 S.p), part_sc (ag81 S.p), store_last (sz78 S.p), (sz78 S.p), cells_self, cells_other, c0, Chg.c1, c5, c15, hcb, hg0, ObjV.c0, idx_ok, Int.toNat_natCast, Nat.zero_add, Nat.add_zero, bneI_t, List.flatten_cons, List.flatten_nil, List.append_nil, Nat.zero_mul, Nat.one_mul, htk, happ, st]
      exact Ends.some ⟨rfl, q2, hfin⟩
end Go.AM
