/- Waiting graphs: how far nodes are from one, by the code. Conditions: none. -/
import Derived.Test.YtdokijbheholdaaDoorWi1
set_option linter.unusedVariables false
set_option linter.unusedSimpArgs false
set_option maxRecDepth 100000
namespace Go.AM
open Go.Proofs Go.Lib
-- LENS: gC_len, Edg.len, ixC_len, wC_len
theorem own_sl {e s lo b n : Nat} {h : List AO} {cs : List SV} (H : Own e s lo h (.sl b 0 n s) cs) : lo ≤ b ∧ cellsAt h b = some cs := by
  rcases H with ⟨z, _⟩ | ⟨b', z1, z2, z3, z4, _⟩
  · cases z
  · have hb : b = b' := by
      have := congrArg (fun v => match v with | SV.sl b _ _ _ => b | _ => 0) z3
      exact this
    subst hb
    exact ⟨z1, by unfold cellsAt; rw [z4]⟩
theorem cells_ne {h : List AO} {l b : Nat} (o : AO) (hne : l ≠ b) : cellsAt (h.set l o) b = cellsAt h b := by
  unfold cellsAt; rw [List.getElem?_set_ne hne]
set_option maxHeartbeats 16000000 in
theorem s30 {P : Program} {T : Tab} {K d : Nat} (S : Sd P T K) (hd : 3 ≤ d) {E : List Nat} (G : GOk E) {s : Nat} (hs : s < 64) (lk : Nat) (h : List AO) (hT : tabB 0 h = true) :
    ev P T K d 30 [.ag (gC E), .sc (.int .i64 (s : Nat))] lk h = some (.v (.ag (wC (Dst E s 64))), h) := by
  obtain ⟨d, rfl⟩ : ∃ k, d = k + 1 := ⟨d - 1, by omega⟩
  refine ev_pure (at30 S.t) (wfr _) ?_
  unfold i30 Tryd.f30
  have hl := gC_len E
  have hl64 := G.len
  obtain ⟨B, hB⟩ : ∃ B, B = h ++ [.rw 33 (gC E)] ++ [.rw 55 (List.replicate 64 (SV.int .i64 0))] := ⟨_, rfl⟩
  have hBl : B.length = h.length + 2 := by rw [hB]; simp
  have hB0 : cellsAt B h.length = some (gC E) := by rw [hB]; unfold cellsAt; simp
  have hB1 : B[h.length + 1]? = some (.rw 55 (List.replicate 64 (SV.int .i64 0))) := by rw [hB]; simp
  have hTB : tabB 0 B = true := by rw [hB]; exact tabB_ext (tabB_ext hT ((Ext1.refl h).push _)) ((Ext1.refl _).push _)
  simp (maxSteps := 1000000) (disch := first | omega | (simp (disch := first | omega | (simp only [gC_len, Edg.len, ixC_len, wC_len, List.length_append, List.length_cons, List.length_nil, List.length_set]; first | done | omega)) only [gC_len, Edg.len, ixC_len, wC_len, amSide, Int.reduceToNat, Nat.reducePow, Nat.reduceMul]; first | done | omega)) only  [↓amPre, amPost, ↓s_lit', Nat.reduceAdd, Nat.reduceSub, List.replicate, retA, resultsA, resultA, toC, toCL, Nat.reduceEqDiff, (ze55 S.p), (fa33_0 S.p), iaddr_ptr (un31 S.p) (sz30 S.p), iaddr_sl (un35 S.p) (sz3 S.p), iaddr_ptr (un55 S.p) (sz3 S.p), len_sl (un35 S.p), len_nils (un35 S.p), part_sc (ag3 S.p), part_sc (ag30 S.p), part_all (ag55 S.p) (sz55 S.p), part_at (ag55 S.p) (sz55 S.p), store_last (sz3 S.p), (sz3 S.p), store_last (sz55 S.p), (sz55 S.p)]
  have hB2 : ∀ w, (B ++ [AO.rw 55 (wC w)])[h.length + 1 + 1]? = some (.rw 55 (wC w)) := fun w => by rw [List.getElem?_append_right (by omega), hBl]; simp
  refine ends_loop (X := ThN) ⟨0⟩ [6, 12, 13, 14, 15, 16] (fun x => x.i ≤ 64) (fun x => 64 - x.i)
    (fun x e => e.set 11 (.v (.sc (.int .i64 x.i)))) (fun x => B ++ [.rw 55 (wC fun j => if j < x.i then 65 else 0)])
    (by have := S.k; show _ < K; simp only; omega) (by simp only; omega) rfl (by rw [hB]; rfl) ?_
  rintro ⟨i⟩ hi again hag e he
  simp only at hi hag he
  simp only [↓amPre, amPost, ↓s_lit', Nat.reduceAdd, Nat.reduceSub, List.replicate, retA, resultsA, resultA, toC, toCL, Nat.reduceEqDiff] at he
  simp only [↓amPre, amPost, ↓s_lit', Nat.reduceAdd, Nat.reduceSub, List.replicate, retA, resultsA, resultA, toC, toCL, Nat.reduceEqDiff, he]
  refine ends_cond (fun hc1 => ?_) (fun hc1 => ?_)
  · simp only [decide_eq_true_eq] at hc1
    have hi64 : i < 64 := by omega
    have st := store_cell (sz3 S.p) (lk := h.length) (hB2 fun j => if j < i then 65 else 0) (by omega) i (by rw [wC_len]; omega) (.int .i64 65)
    have e65 : (wC fun j => if j < i then 65 else 0).set i (.int .i64 65) = wC fun j => if j < i + 1 then 65 else 0 := by
      have := wC_set (fun j => if j < i then 65 else 0) i 65
      refine this.trans (wC_congr fun j _ => ?_)
      show (if j = i then 65 else if j < i then 65 else 0) = if j < i + 1 then 65 else 0
      by_cases q : j = i
      · subst q; simp
      · by_cases q2 : j < i
        · rw [if_neg q, if_pos q2, if_pos (by omega)]
        · rw [if_neg q, if_neg q2, if_neg (by omega)]
    have hset : (B ++ [AO.rw 55 (wC fun j => if j < i then 65 else 0)]).set (h.length + 1 + 1) (.rw 55 (wC fun j => if j < i + 1 then 65 else 0)) = B ++ [AO.rw 55 (wC fun j => if j < i + 1 then 65 else 0)] := by
      rw [List.set_append_right _ _ (by omega), hBl]; simp
    rw [e65, hset] at st
    simp (maxSteps := 1000000) (disch := first | omega | (simp (disch := first | omega | (simp only [gC_len, Edg.len, ixC_len, wC_len, List.length_append, List.length_cons, List.length_nil, List.length_set]; first | done | omega)) only [gC_len, Edg.len, ixC_len, wC_len, amSide, Int.reduceToNat, Nat.reducePow, Nat.reduceMul]; first | done | omega)) only  [↓amPre, amPost, ↓s_lit', Nat.reduceAdd, Nat.reduceSub, List.replicate, retA, resultsA, resultA, toC, toCL, Nat.reduceEqDiff, he, (ze55 S.p), (fa33_0 S.p), iaddr_ptr (un31 S.p) (sz30 S.p), iaddr_sl (un35 S.p) (sz3 S.p), iaddr_ptr (un55 S.p) (sz3 S.p), len_sl (un35 S.p), len_nils (un35 S.p), part_sc (ag3 S.p), part_sc (ag30 S.p), part_all (ag55 S.p) (sz55 S.p), part_at (ag55 S.p) (sz55 S.p), store_last (sz3 S.p), (sz3 S.p), store_last (sz55 S.p), (sz55 S.p), idx_ok, st, e65, Nat.mul_one, Int.toNat_natCast, Nat.zero_add, wrap_i64]
    refine hag ⟨i + 1⟩ (by simp only; omega) (by simp only; omega) _ ?_
    simp (maxSteps := 1000000) (disch := first | omega | (simp (disch := first | omega | (simp only [gC_len, Edg.len, ixC_len, wC_len, List.length_append, List.length_cons, List.length_nil, List.length_set]; first | done | omega)) only [gC_len, Edg.len, ixC_len, wC_len, amSide, Int.reduceToNat, Nat.reducePow, Nat.reduceMul]; first | done | omega)) only [↓amPre, amPost, ↓s_lit', Nat.reduceAdd, Nat.reduceSub, List.replicate, retA, resultsA, resultA, toC, toCL, Nat.reduceEqDiff, Int.natCast_add, Int.cast_ofNat_Int, dec_t, dec_f]
  · simp only [decide_eq_false_iff_not] at hc1
    obtain rfl : i = 64 := by omega
    clear hag
    simp (maxSteps := 1000000) (disch := first | omega | (simp (disch := first | omega | (simp only [gC_len, Edg.len, ixC_len, wC_len, List.length_append, List.length_cons, List.length_nil, List.length_set]; first | done | omega)) only [gC_len, Edg.len, ixC_len, wC_len, amSide, Int.reduceToNat, Nat.reducePow, Nat.reduceMul]; first | done | omega)) only  [↓amPre, amPost, ↓s_lit', Nat.reduceAdd, Nat.reduceSub, List.replicate, retA, resultsA, resultA, toC, toCL, Nat.reduceEqDiff, he, (ze55 S.p), (fa33_0 S.p), iaddr_ptr (un31 S.p) (sz30 S.p), iaddr_sl (un35 S.p) (sz3 S.p), iaddr_ptr (un55 S.p) (sz3 S.p), len_sl (un35 S.p), len_nils (un35 S.p), part_sc (ag3 S.p), part_sc (ag30 S.p), part_all (ag55 S.p) (sz55 S.p), part_at (ag55 S.p) (sz55 S.p), store_last (sz3 S.p), (sz3 S.p), store_last (sz55 S.p), (sz55 S.p)]
    refine ends_loop (X := ThW) ⟨0, B ++ [.rw 55 (wC fun j => if j < 64 then 65 else 0)]⟩ [8, 10, 17, 18, 19, 20, 21, 22, 23, 24, 25, 26, 27, 28, 29, 30, 31, 32, 33, 34, 35, 36, 37, 38, 39, 40, 41, 42, 43, 44, 45, 46, 47, 48, 49, 50, 51, 52, 53, 54, 55, 56, 57, 58, 59, 60, 61, 62, 63, 64, 65, 66, 67, 68, 69]
      (fun x => x.r ≤ 64 ∧ Ext1 B x.h ∧ h.length + 1 + 1 < x.h.length ∧ x.h[h.length + 1 + 1]? = some (.rw 55 (wC (Dst E s x.r)))) (fun x => 64 - x.r)
      (fun x e => e.set 7 (.v (.sc (.int .i64 ((x.r + 1 : Nat) : Int))))) (fun x => x.h)
      (by have := S.k; show _ < K; simp only; omega) ⟨by simp only; omega, (Ext1.refl B).push _, by simp; omega, by
        rw [hB2]
        exact congrArg (fun c => some (AO.rw 55 c)) (wC_congr fun j hj => by show (if j < 64 then 65 else 0) = 65; rw [if_pos hj])⟩ rfl rfl ?_
    clear he
    rintro ⟨r, hj⟩ ⟨hr, hx, hlt, hw⟩ again hag e he
    simp only at hr hx hlt hw hag he
    simp only [↓amPre, amPost, ↓s_lit', Nat.reduceAdd, Nat.reduceSub, List.replicate, retA, resultsA, resultA, toC, toCL, Nat.reduceEqDiff] at he
    simp only [↓amPre, amPost, ↓s_lit', Nat.reduceAdd, Nat.reduceSub, List.replicate, retA, resultsA, resultA, toC, toCL, Nat.reduceEqDiff, he]
    refine ends_cond (fun hc1 => ?_) (fun hc1 => ?_)
    · simp only [decide_eq_true_eq] at hc1
      have hr64 : r < 64 := by omega
      simp (maxSteps := 1000000) (disch := first | omega | (simp (disch := first | omega | (simp only [gC_len, Edg.len, ixC_len, wC_len, List.length_append, List.length_cons, List.length_nil, List.length_set]; first | done | omega)) only [gC_len, Edg.len, ixC_len, wC_len, amSide, Int.reduceToNat, Nat.reducePow, Nat.reduceMul]; first | done | omega)) only  [↓amPre, amPost, ↓s_lit', Nat.reduceAdd, Nat.reduceSub, List.replicate, retA, resultsA, resultA, toC, toCL, Nat.reduceEqDiff, he, (ze55 S.p), (fa33_0 S.p), iaddr_ptr (un31 S.p) (sz30 S.p), iaddr_sl (un35 S.p) (sz3 S.p), iaddr_ptr (un55 S.p) (sz3 S.p), len_sl (un35 S.p), len_nils (un35 S.p), part_sc (ag3 S.p), part_sc (ag30 S.p), part_all (ag55 S.p) (sz55 S.p), part_at (ag55 S.p) (sz55 S.p), store_last (sz3 S.p), (sz3 S.p), store_last (sz55 S.p), (sz55 S.p)]
      refine ends_loop (X := ThV) ⟨s, hj⟩ [10, 22, 23, 24, 25, 26, 27, 28, 29, 30, 31, 32, 33, 34, 35, 36, 37, 38, 39, 40, 41, 42, 43, 44, 45, 46, 47, 48, 49, 50, 51, 52, 53, 54, 55, 56, 57, 58, 59, 60, 61, 62, 63, 64, 65, 66, 67, 68, 69]
        (fun x => s ≤ x.n ∧ x.n ≤ 64 ∧ Ext1 B x.h ∧ h.length + 1 + 1 < x.h.length ∧ x.h[h.length + 1 + 1]? = some (.rw 55 (wC (mixD E s r x.n)))) (fun x => 64 - x.n)
        (fun x e => e.set 8 (.v (.sc (.int .i64 x.n)))) (fun x => x.h)
        (by have := S.k; show _ < K; simp only; omega) ⟨Nat.le_refl _, by simp only; omega, hx, hlt, by
          rw [hw]
          exact congrArg (fun c => some (AO.rw 55 c)) (wC_congr fun j hj => by
            show Dst E s r j = if j < s then Dst E s (r + 1) j else Dst E s r j
            by_cases q : j < s
            · rw [if_pos q, Dst_low E q, Dst_low E q]
            · rw [if_neg q])⟩ rfl rfl ?_
      clear hx hlt hw he
      rintro ⟨n, hj⟩ ⟨hsn, hn, hx, hlt, hw⟩ again2 hag2 e2 he2
      simp only at hsn hn hx hlt hw hag2 he2
      simp only [↓amPre, amPost, ↓s_lit', Nat.reduceAdd, Nat.reduceSub, List.replicate, retA, resultsA, resultA, toC, toCL, Nat.reduceEqDiff] at he2
      simp only [↓amPre, amPost, ↓s_lit', Nat.reduceAdd, Nat.reduceSub, List.replicate, retA, resultsA, resultA, toC, toCL, Nat.reduceEqDiff, he2]
      refine ends_cond (fun hc2 => ?_) (fun hc2 => ?_)
      · simp only [decide_eq_true_eq] at hc2
        have hn64 : n < 64 := by omega
        have hle := hx.len
        have hgn := gC_at (E := E) (i := n) (by omega)
        have hcb : cellsAt hj h.length = some (gC E) := by rw [hx.cells (by omega)]; exact hB0
        have hTj := tabB_ext hTB hx
        have sr := shr_nat (E.getD n 0) s (by omega)
        have hd0 : E.getD n 0 / 2 ^ s * 2 ^ s % 18446744073709551616 < 18446744073709551616 := Nat.mod_lt _ (by decide)
        have sl := shl_nat (E.getD n 0 / 2 ^ s) s (by omega)
        obtain ⟨v1, h1, e1, hx1, q', rfl, hown⟩ := s23 S (show 2 ≤ d by omega) hd0 h.length hj (by omega) hTj
        rw [blF_eq (G.lt n)] at hown
        have hrs := hown.rs (by omega) ixC_len
        have hlen := hrs.len (un35 S.p)
        have hl1 := hx1.len
        have hw1 : h1[h.length + 1 + 1]? = some (.rw 55 (wC (mixD E s r n))) := by rw [hx1.get hlt]; exact hw
        have hll : (blF (E.getD n 0) s).length ≤ 64 := Nat.le_trans (List.length_filter_le _ _) (bl_len _)
        generalize hL : blF (E.getD n 0) s = l at *
        obtain ⟨w0, hw0⟩ : ∃ w0, w0 = mixD E s r n := ⟨_, rfl⟩
        rw [← hw0] at hw1
        have hw0n : w0 n = Dst E s r n := by rw [hw0]; show (if n < n then _ else _) = _; rw [if_neg (Nat.lt_irrefl n)]
        obtain ⟨vI, hvI⟩ : ∃ vI : Nat → Nat, ∀ i, vI i = if Dst E s r n = 65 ∧ (l.take i).any (hitK s (r + 1) (Dst E s r)) = true then r + 1 else Dst E s r n := ⟨_, fun _ => rfl⟩
        obtain ⟨Gh, hGh⟩ : ∃ Gh : Nat → List AO, ∀ v, Gh v = h1.set (h.length + 1 + 1) (.rw 55 (wC (updF w0 n v))) := ⟨_, fun _ => rfl⟩
        have hv0 : vI 0 = Dst E s r n := by rw [hvI]; simp
        have hG0 : h1 = Gh (vI 0) := by
          rw [hGh, hv0, ← hw0n]
          have : updF w0 n (w0 n) = w0 := by funext j; unfold updF; split
                                             · rename_i q; rw [q]
                                             · rfl
          rw [this]
          apply List.ext_getElem?
          intro j
          rw [List.getElem?_set]
          split
          · rename_i q; subst q; rw [if_pos (by omega)]; exact hw1
          · rfl
        have hWl : h.length + 1 + 1 < h1.length := by omega
        have gW : ∀ v, (Gh v)[h.length + 1 + 1]? = some (.rw 55 (wC (updF w0 n v))) := fun v => by rw [hGh]; exact List.getElem?_set_self hWl
        have cW : ∀ v, cellsAt (Gh v) (h.length + 1 + 1) = some (wC (updF w0 n v)) := fun v => by unfold cellsAt; rw [gW]
        have xG : ∀ v, Ext1 B (Gh v) := fun v => by rw [hGh]; exact (hx.trans hx1).set (by omega) _
        have lG : ∀ v, (Gh v).length = h1.length := fun v => by rw [hGh, List.length_set]
        simp (maxSteps := 1000000) (disch := first | omega | (simp (disch := first | omega | (simp only [gC_len, Edg.len, ixC_len, wC_len, List.length_append, List.length_cons, List.length_nil, List.length_set]; first | done | omega)) only [gC_len, Edg.len, ixC_len, wC_len, amSide, Int.reduceToNat, Nat.reducePow, Nat.reduceMul]; first | done | omega)) only  [↓amPre, amPost, ↓s_lit', Nat.reduceAdd, Nat.reduceSub, List.replicate, retA, resultsA, resultA, toC, toCL, Nat.reduceEqDiff, he2, (ze55 S.p), (fa33_0 S.p), iaddr_ptr (un31 S.p) (sz30 S.p), iaddr_sl (un35 S.p) (sz3 S.p), iaddr_ptr (un55 S.p) (sz3 S.p), len_sl (un35 S.p), len_nils (un35 S.p), part_sc (ag3 S.p), part_sc (ag30 S.p), part_all (ag55 S.p) (sz55 S.p), part_at (ag55 S.p) (sz55 S.p), store_last (sz3 S.p), (sz3 S.p), store_last (sz55 S.p), (sz55 S.p), idx_ok, hcb, hgn, sr, sl, e1, hlen, Nat.mul_one, Int.toNat_natCast, Nat.zero_add]
        refine ends_loop (X := ThN) ⟨0⟩ [10, 37, 38, 39, 40, 41, 42, 43, 44, 45, 46, 47, 48, 49, 50, 51, 52, 53, 54, 55, 56, 57, 58, 59, 60, 61, 62, 63, 64, 65, 66, 67, 68, 69] (fun x => x.i ≤ l.length) (fun x => l.length - x.i)
          (fun x e => e.set 36 (.v (.sc (.int .i64 x.i)))) (fun x => Gh (vI x.i))
          (by have := S.k; show _ < K; simp only; omega) (by simp only; omega) rfl hG0 ?_
        clear he2
        rintro ⟨i⟩ hi again3 hag3 e3 he3
        simp only at hi hag3 he3
        simp only [↓amPre, amPost, ↓s_lit', Nat.reduceAdd, Nat.reduceSub, List.replicate, retA, resultsA, resultA, toC, toCL, Nat.reduceEqDiff] at he3
        simp only [↓amPre, amPost, ↓s_lit', Nat.reduceAdd, Nat.reduceSub, List.replicate, retA, resultsA, resultA, toC, toCL, Nat.reduceEqDiff, he3]
        refine ends_cond (fun hc3 => ?_) (fun hc3 => ?_)
        · simp only [decide_eq_true_eq] at hc3
          obtain ⟨b, rfl, hb, hc⟩ := hrs.at (by omega)
          obtain ⟨k, hki⟩ : ∃ k, l[i]? = some k := ⟨_, List.getElem?_eq_getElem (by omega)⟩
          have hkm : k ∈ blF (E.getD n 0) s := by rw [hL]; exact List.mem_of_getElem? hki
          obtain ⟨hkb, hks⟩ := List.mem_filter.1 hkm
          have hk64 : k < 64 := ((bl_mem _ _).1 hkb).1
          simp only [decide_eq_true_eq] at hks
          have gk := recs_get0 ixC_len hki (by omega)
          rw [Nat.mul_one, show (ixC k)[0]? = some (.int .i64 (k : Nat)) from rfl] at gk
          have hcl : cellsAt (Gh (vI i)) b = some (recs ixC l) := by
            obtain ⟨z1, z2⟩ := own_sl hown
            rw [hGh]
            have hne : h.length + 1 + 1 ≠ b := by clear hag hag2 hag3 he3 sl sr hd0; omega
            exact (cells_ne _ hne).trans z2
          have cw := cW (vI i)
          have wn := wC_at (updF w0 n (vI i)) hn64
          rw [show updF w0 n (vI i) n = vI i by simp [updF]] at wn
          have wk := wC_at (updF w0 n (vI i)) hk64
          have hvs : vI (i + 1) = if Dst E s r n = 65 ∧ ((l.take i).any (hitK s (r + 1) (Dst E s r)) || hitK s (r + 1) (Dst E s r) k) = true then r + 1 else Dst E s r n := by
            rw [hvI, List.take_add_one, hki, List.any_append]; simp
          have hvi := hvI i
          have hdl := Dst_le E s n r
          have hr1 : ((r + 1 : Nat) : Int) - 1 = (r : Int) := by omega
          by_cases c0 : vI i = 65
          · obtain ⟨hD, hA⟩ : Dst E s r n = 65 ∧ (l.take i).any (hitK s (r + 1) (Dst E s r)) = false := by
              by_cases q : Dst E s r n = 65
              · refine ⟨q, ?_⟩
                cases q2 : (l.take i).any (hitK s (r + 1) (Dst E s r))
                · rfl
                · rw [hvi, if_pos ⟨q, q2⟩] at c0; omega
              · rw [hvi, if_neg (fun z => q z.1)] at c0; exact absurd c0 q
            rw [hA, Bool.false_or] at hvs
            have st := store_cell (sz3 S.p) (lk := h.length) (gW (vI i)) (by omega) n (by rw [wC_len]; omega) (.int .i64 ((r + 1 : Nat) : Int))
            rw [wC_set] at st
            have hup : updF (updF w0 n (vI i)) n (r + 1) = updF w0 n (r + 1) := by
              funext j; unfold updF; split <;> rfl
            have hGs : (Gh (vI i)).set (h.length + 1 + 1) (AO.rw 55 (wC (updF w0 n (r + 1)))) = Gh (r + 1) := by rw [hGh, hGh, List.set_set]
            rw [hup, hGs] at st
            have hyes : hitK s (r + 1) (Dst E s r) k = true → vI (i + 1) = r + 1 := fun z => by rw [hvs, if_pos ⟨hD, z⟩]
            have hno : hitK s (r + 1) (Dst E s r) k = false → vI (i + 1) = vI i := fun z => by rw [hvs, if_neg (fun y => by rw [z] at y; exact absurd y.2 (by simp)), hD, c0]
            by_cases hk : k = s
            · by_cases hr0 : r = 0
              · have hnx := hyes (by unfold hitK; simp [hk, hr0])
                have hh := hag3 ⟨i + 1⟩ (by simp only; omega) (by simp only; omega)
                simp only [hnx] at hh
                simp (maxSteps := 1000000) (disch := first | omega | (simp (disch := first | omega | (simp only [gC_len, Edg.len, ixC_len, wC_len, List.length_append, List.length_cons, List.length_nil, List.length_set]; first | done | omega)) only [gC_len, Edg.len, ixC_len, wC_len, amSide, Int.reduceToNat, Nat.reducePow, Nat.reduceMul]; first | done | omega)) only  [↓amPre, amPost, ↓s_lit', Nat.reduceAdd, Nat.reduceSub, List.replicate, retA, resultsA, resultA, toC, toCL, Nat.reduceEqDiff, he3, (ze55 S.p), (fa33_0 S.p), iaddr_ptr (un31 S.p) (sz30 S.p), iaddr_sl (un35 S.p) (sz3 S.p), iaddr_ptr (un55 S.p) (sz3 S.p), len_sl (un35 S.p), len_nils (un35 S.p), part_sc (ag3 S.p), part_sc (ag30 S.p), part_all (ag55 S.p) (sz55 S.p), part_at (ag55 S.p) (sz55 S.p), store_last (sz3 S.p), (sz3 S.p), store_last (sz55 S.p), (sz55 S.p), idx_ok, hcl, gk, cw, wn, st, beqI_t, beqI_f, bneI_t, bneI_f, Nat.mul_one, Int.toNat_natCast, Nat.zero_add, wrap_i64]
                refine hh _ ?_
                simp (maxSteps := 1000000) (disch := first | omega | (simp (disch := first | omega | (simp only [gC_len, Edg.len, ixC_len, wC_len, List.length_append, List.length_cons, List.length_nil, List.length_set]; first | done | omega)) only [gC_len, Edg.len, ixC_len, wC_len, amSide, Int.reduceToNat, Nat.reducePow, Nat.reduceMul]; first | done | omega)) only [↓amPre, amPost, ↓s_lit', Nat.reduceAdd, Nat.reduceSub, List.replicate, retA, resultsA, resultA, toC, toCL, Nat.reduceEqDiff, Int.natCast_add, Int.cast_ofNat_Int, dec_t, dec_f]
              · have hnx := hno (by unfold hitK; simp [hk, hr0])
                have hh := hag3 ⟨i + 1⟩ (by simp only; omega) (by simp only; omega)
                simp only [hnx] at hh
                simp (maxSteps := 1000000) (disch := first | omega | (simp (disch := first | omega | (simp only [gC_len, Edg.len, ixC_len, wC_len, List.length_append, List.length_cons, List.length_nil, List.length_set]; first | done | omega)) only [gC_len, Edg.len, ixC_len, wC_len, amSide, Int.reduceToNat, Nat.reducePow, Nat.reduceMul]; first | done | omega)) only  [↓amPre, amPost, ↓s_lit', Nat.reduceAdd, Nat.reduceSub, List.replicate, retA, resultsA, resultA, toC, toCL, Nat.reduceEqDiff, he3, (ze55 S.p), (fa33_0 S.p), iaddr_ptr (un31 S.p) (sz30 S.p), iaddr_sl (un35 S.p) (sz3 S.p), iaddr_ptr (un55 S.p) (sz3 S.p), len_sl (un35 S.p), len_nils (un35 S.p), part_sc (ag3 S.p), part_sc (ag30 S.p), part_all (ag55 S.p) (sz55 S.p), part_at (ag55 S.p) (sz55 S.p), store_last (sz3 S.p), (sz3 S.p), store_last (sz55 S.p), (sz55 S.p), idx_ok, hcl, gk, cw, wn, beqI_t, beqI_f, bneI_t, bneI_f, Nat.mul_one, Int.toNat_natCast, Nat.zero_add, wrap_i64]
                refine hh _ ?_
                simp (maxSteps := 1000000) (disch := first | omega | (simp (disch := first | omega | (simp only [gC_len, Edg.len, ixC_len, wC_len, List.length_append, List.length_cons, List.length_nil, List.length_set]; first | done | omega)) only [gC_len, Edg.len, ixC_len, wC_len, amSide, Int.reduceToNat, Nat.reducePow, Nat.reduceMul]; first | done | omega)) only [↓amPre, amPost, ↓s_lit', Nat.reduceAdd, Nat.reduceSub, List.replicate, retA, resultsA, resultA, toC, toCL, Nat.reduceEqDiff, Int.natCast_add, Int.cast_ofNat_Int, dec_t, dec_f]
            · have hiff : updF w0 n (vI i) k = r ↔ Dst E s r k = r := by
                unfold updF
                by_cases q : k = n
                · rw [if_pos q, q, hD, c0]
                · rw [if_neg q, hw0]
                  show (if k < n then Dst E s (r + 1) k else Dst E s r k) = r ↔ _
                  by_cases q2 : k < n
                  · rw [if_pos q2]; exact Dst_keep E s k hr64
                  · rw [if_neg q2]
              by_cases hwr : updF w0 n (vI i) k = r
              · have hnx := hyes (by unfold hitK; simp [hk, hiff.1 hwr])
                have hh := hag3 ⟨i + 1⟩ (by simp only; omega) (by simp only; omega)
                simp only [hnx] at hh
                simp (maxSteps := 1000000) (disch := first | omega | (simp (disch := first | omega | (simp only [gC_len, Edg.len, ixC_len, wC_len, List.length_append, List.length_cons, List.length_nil, List.length_set]; first | done | omega)) only [gC_len, Edg.len, ixC_len, wC_len, amSide, Int.reduceToNat, Nat.reducePow, Nat.reduceMul]; first | done | omega)) only  [↓amPre, amPost, ↓s_lit', Nat.reduceAdd, Nat.reduceSub, List.replicate, retA, resultsA, resultA, toC, toCL, Nat.reduceEqDiff, he3, (ze55 S.p), (fa33_0 S.p), iaddr_ptr (un31 S.p) (sz30 S.p), iaddr_sl (un35 S.p) (sz3 S.p), iaddr_ptr (un55 S.p) (sz3 S.p), len_sl (un35 S.p), len_nils (un35 S.p), part_sc (ag3 S.p), part_sc (ag30 S.p), part_all (ag55 S.p) (sz55 S.p), part_at (ag55 S.p) (sz55 S.p), store_last (sz3 S.p), (sz3 S.p), store_last (sz55 S.p), (sz55 S.p), idx_ok, hcl, gk, cw, wn, wk, hr1, st, beqI_t, beqI_f, bneI_t, bneI_f, Nat.mul_one, Int.toNat_natCast, Nat.zero_add, wrap_i64]
                refine hh _ ?_
                simp (maxSteps := 1000000) (disch := first | omega | (simp (disch := first | omega | (simp only [gC_len, Edg.len, ixC_len, wC_len, List.length_append, List.length_cons, List.length_nil, List.length_set]; first | done | omega)) only [gC_len, Edg.len, ixC_len, wC_len, amSide, Int.reduceToNat, Nat.reducePow, Nat.reduceMul]; first | done | omega)) only [↓amPre, amPost, ↓s_lit', Nat.reduceAdd, Nat.reduceSub, List.replicate, retA, resultsA, resultA, toC, toCL, Nat.reduceEqDiff, Int.natCast_add, Int.cast_ofNat_Int, dec_t, dec_f]
              · have hnr : ¬ Dst E s r k = r := fun z => hwr (hiff.2 z)
                have hnx := hno (by unfold hitK; simp [hk, hnr])
                have hh := hag3 ⟨i + 1⟩ (by simp only; omega) (by simp only; omega)
                simp only [hnx] at hh
                simp (maxSteps := 1000000) (disch := first | omega | (simp (disch := first | omega | (simp only [gC_len, Edg.len, ixC_len, wC_len, List.length_append, List.length_cons, List.length_nil, List.length_set]; first | done | omega)) only [gC_len, Edg.len, ixC_len, wC_len, amSide, Int.reduceToNat, Nat.reducePow, Nat.reduceMul]; first | done | omega)) only  [↓amPre, amPost, ↓s_lit', Nat.reduceAdd, Nat.reduceSub, List.replicate, retA, resultsA, resultA, toC, toCL, Nat.reduceEqDiff, he3, (ze55 S.p), (fa33_0 S.p), iaddr_ptr (un31 S.p) (sz30 S.p), iaddr_sl (un35 S.p) (sz3 S.p), iaddr_ptr (un55 S.p) (sz3 S.p), len_sl (un35 S.p), len_nils (un35 S.p), part_sc (ag3 S.p), part_sc (ag30 S.p), part_all (ag55 S.p) (sz55 S.p), part_at (ag55 S.p) (sz55 S.p), store_last (sz3 S.p), (sz3 S.p), store_last (sz55 S.p), (sz55 S.p), idx_ok, hcl, gk, cw, wn, wk, hr1, beqI_t, beqI_f, bneI_t, bneI_f, Nat.mul_one, Int.toNat_natCast, Nat.zero_add, wrap_i64]
                refine hh _ ?_
                simp (maxSteps := 1000000) (disch := first | omega | (simp (disch := first | omega | (simp only [gC_len, Edg.len, ixC_len, wC_len, List.length_append, List.length_cons, List.length_nil, List.length_set]; first | done | omega)) only [gC_len, Edg.len, ixC_len, wC_len, amSide, Int.reduceToNat, Nat.reducePow, Nat.reduceMul]; first | done | omega)) only [↓amPre, amPost, ↓s_lit', Nat.reduceAdd, Nat.reduceSub, List.replicate, retA, resultsA, resultA, toC, toCL, Nat.reduceEqDiff, Int.natCast_add, Int.cast_ofNat_Int, dec_t, dec_f]
          · have hnx : vI (i + 1) = vI i := by
              rw [hvs, hvi]
              by_cases q : Dst E s r n = 65
              · by_cases q2 : (l.take i).any (hitK s (r + 1) (Dst E s r)) = true
                · rw [if_pos ⟨q, by rw [q2]; rfl⟩, if_pos ⟨q, q2⟩]
                · exact absurd (by rw [hvi, if_neg (fun z => q2 z.2)]; exact q) c0
              · rw [if_neg (fun z => q z.1), if_neg (fun z => q z.1)]
            simp (maxSteps := 1000000) (disch := first | omega | (simp (disch := first | omega | (simp only [gC_len, Edg.len, ixC_len, wC_len, List.length_append, List.length_cons, List.length_nil, List.length_set]; first | done | omega)) only [gC_len, Edg.len, ixC_len, wC_len, amSide, Int.reduceToNat, Nat.reducePow, Nat.reduceMul]; first | done | omega)) only  [↓amPre, amPost, ↓s_lit', Nat.reduceAdd, Nat.reduceSub, List.replicate, retA, resultsA, resultA, toC, toCL, Nat.reduceEqDiff, he3, (ze55 S.p), (fa33_0 S.p), iaddr_ptr (un31 S.p) (sz30 S.p), iaddr_sl (un35 S.p) (sz3 S.p), iaddr_ptr (un55 S.p) (sz3 S.p), len_sl (un35 S.p), len_nils (un35 S.p), part_sc (ag3 S.p), part_sc (ag30 S.p), part_all (ag55 S.p) (sz55 S.p), part_at (ag55 S.p) (sz55 S.p), store_last (sz3 S.p), (sz3 S.p), store_last (sz55 S.p), (sz55 S.p), idx_ok, hcl, gk, cw, wn, beqI_t, beqI_f, Nat.mul_one, Int.toNat_natCast, Nat.zero_add, wrap_i64]
            have hh := hag3 ⟨i + 1⟩ (by simp only; omega) (by simp only; omega)
            simp only [hnx] at hh
            refine hh _ ?_
            simp (maxSteps := 1000000) (disch := first | omega | (simp (disch := first | omega | (simp only [gC_len, Edg.len, ixC_len, wC_len, List.length_append, List.length_cons, List.length_nil, List.length_set]; first | done | omega)) only [gC_len, Edg.len, ixC_len, wC_len, amSide, Int.reduceToNat, Nat.reducePow, Nat.reduceMul]; first | done | omega)) only [↓amPre, amPost, ↓s_lit', Nat.reduceAdd, Nat.reduceSub, List.replicate, retA, resultsA, resultA, toC, toCL, Nat.reduceEqDiff, Int.natCast_add, Int.cast_ofNat_Int, dec_t, dec_f]
        · simp only [decide_eq_false_iff_not] at hc3
          obtain rfl : i = l.length := by omega
          clear hag3
          simp (maxSteps := 1000000) (disch := first | omega | (simp (disch := first | omega | (simp only [gC_len, Edg.len, ixC_len, wC_len, List.length_append, List.length_cons, List.length_nil, List.length_set]; first | done | omega)) only [gC_len, Edg.len, ixC_len, wC_len, amSide, Int.reduceToNat, Nat.reducePow, Nat.reduceMul]; first | done | omega)) only  [↓amPre, amPost, ↓s_lit', Nat.reduceAdd, Nat.reduceSub, List.replicate, retA, resultsA, resultA, toC, toCL, Nat.reduceEqDiff, he3, (ze55 S.p), (fa33_0 S.p), iaddr_ptr (un31 S.p) (sz30 S.p), iaddr_sl (un35 S.p) (sz3 S.p), iaddr_ptr (un55 S.p) (sz3 S.p), len_sl (un35 S.p), len_nils (un35 S.p), part_sc (ag3 S.p), part_sc (ag30 S.p), part_all (ag55 S.p) (sz55 S.p), part_at (ag55 S.p) (sz55 S.p), store_last (sz3 S.p), (sz3 S.p), store_last (sz55 S.p), (sz55 S.p), wrap_i64]
          refine hag2 ⟨n + 1, Gh (vI l.length)⟩ ⟨by simp only; omega, by simp only; omega, xG _, by rw [lG]; exact hWl, ?_⟩ (by simp only; omega) _ ?_
          · simp only
            rw [gW]
            refine congrArg (fun c => some (AO.rw 55 c)) (wC_congr fun j hj => ?_)
            rw [hvI, List.take_length, hw0]
            show (if j = n then _ else if j < n then Dst E s (r + 1) j else Dst E s r j) = if j < n + 1 then Dst E s (r + 1) j else Dst E s r j
            by_cases q : j = n
            · subst q
              have hjj : j < j + 1 := by omega
              rw [if_pos rfl, if_pos hjj, Dst_succ, hL]
              by_cases q2 : Dst E s r j = 65 ∧ l.any (hitK s (r + 1) (Dst E s r)) = true
              · rw [if_pos q2, if_pos ⟨hsn, q2⟩]
              · rw [if_neg q2, if_neg (fun z => q2 z.2)]
            · rw [if_neg q]
              by_cases q2 : j < n
              · rw [if_pos q2, if_pos (by omega)]
              · rw [if_neg q2, if_neg (by omega)]
          · simp (maxSteps := 1000000) (disch := first | omega | (simp (disch := first | omega | (simp only [gC_len, Edg.len, ixC_len, wC_len, List.length_append, List.length_cons, List.length_nil, List.length_set]; first | done | omega)) only [gC_len, Edg.len, ixC_len, wC_len, amSide, Int.reduceToNat, Nat.reducePow, Nat.reduceMul]; first | done | omega)) only [↓amPre, amPost, ↓s_lit', Nat.reduceAdd, Nat.reduceSub, List.replicate, retA, resultsA, resultA, toC, toCL, Nat.reduceEqDiff, Int.natCast_add, Int.cast_ofNat_Int, dec_t, dec_f]
      · simp only [decide_eq_false_iff_not] at hc2
        obtain rfl : n = 64 := by omega
        clear hag2
        simp (maxSteps := 1000000) (disch := first | omega | (simp (disch := first | omega | (simp only [gC_len, Edg.len, ixC_len, wC_len, List.length_append, List.length_cons, List.length_nil, List.length_set]; first | done | omega)) only [gC_len, Edg.len, ixC_len, wC_len, amSide, Int.reduceToNat, Nat.reducePow, Nat.reduceMul]; first | done | omega)) only  [↓amPre, amPost, ↓s_lit', Nat.reduceAdd, Nat.reduceSub, List.replicate, retA, resultsA, resultA, toC, toCL, Nat.reduceEqDiff, he2, (ze55 S.p), (fa33_0 S.p), iaddr_ptr (un31 S.p) (sz30 S.p), iaddr_sl (un35 S.p) (sz3 S.p), iaddr_ptr (un55 S.p) (sz3 S.p), len_sl (un35 S.p), len_nils (un35 S.p), part_sc (ag3 S.p), part_sc (ag30 S.p), part_all (ag55 S.p) (sz55 S.p), part_at (ag55 S.p) (sz55 S.p), store_last (sz3 S.p), (sz3 S.p), store_last (sz55 S.p), (sz55 S.p), wrap_i64]
        refine hag ⟨r + 1, hj⟩ ⟨by simp only; omega, hx, hlt, ?_⟩ (by simp only; omega) _ ?_
        · simp only
          rw [hw]
          exact congrArg (fun c => some (AO.rw 55 c)) (wC_congr fun j hj => by show (if j < 64 then _ else _) = _; rw [if_pos hj])
        · simp (maxSteps := 1000000) (disch := first | omega | (simp (disch := first | omega | (simp only [gC_len, Edg.len, ixC_len, wC_len, List.length_append, List.length_cons, List.length_nil, List.length_set]; first | done | omega)) only [gC_len, Edg.len, ixC_len, wC_len, amSide, Int.reduceToNat, Nat.reducePow, Nat.reduceMul]; first | done | omega)) only [↓amPre, amPost, ↓s_lit', Nat.reduceAdd, Nat.reduceSub, List.replicate, retA, resultsA, resultA, toC, toCL, Nat.reduceEqDiff, Int.natCast_add, Int.cast_ofNat_Int, dec_t, dec_f]
    · simp only [decide_eq_false_iff_not] at hc1
      obtain rfl : r = 64 := by omega
      clear hag
      have c1 : cellsAt hj (h.length + 1 + 1) = some (wC (Dst E s 64)) := by unfold cellsAt; rw [hw]
      have p1 := part_self (ag55 S.p) (sz55 S.p) (wC (Dst E s 64)) (wC_len _)
      have g0 : hj[h.length + 1]? = some (.rw 55 (List.replicate 64 (SV.int .i64 0))) := by rw [hx.get (by omega)]; exact hB1
      obtain ⟨k1, k2⟩ := storeH (sz55 S.p) g0 (show h.length ≤ h.length + 1 by omega) (wC (Dst E s 64)) (wC_len _) (by simp)
      simp (maxSteps := 1000000) (disch := first | omega | (simp (disch := first | omega | (simp only [gC_len, Edg.len, ixC_len, wC_len, List.length_append, List.length_cons, List.length_nil, List.length_set]; first | done | omega)) only [gC_len, Edg.len, ixC_len, wC_len, amSide, Int.reduceToNat, Nat.reducePow, Nat.reduceMul]; first | done | omega)) only  [↓amPre, amPost, ↓s_lit', Nat.reduceAdd, Nat.reduceSub, List.replicate, retA, resultsA, resultA, toC, toCL, Nat.reduceEqDiff, he, (ze55 S.p), (fa33_0 S.p), iaddr_ptr (un31 S.p) (sz30 S.p), iaddr_sl (un35 S.p) (sz3 S.p), iaddr_ptr (un55 S.p) (sz3 S.p), len_sl (un35 S.p), len_nils (un35 S.p), part_sc (ag3 S.p), part_sc (ag30 S.p), part_all (ag55 S.p) (sz55 S.p), part_at (ag55 S.p) (sz55 S.p), store_last (sz3 S.p), (sz3 S.p), store_last (sz55 S.p), (sz55 S.p), c1, p1, k1, k2]
      exact Ends.some rfl
end Go.AM
