/- Waiting graphs: the first node all of whose next ones are done. Conditions: none. -/
import Derived.Test.YtdokijbheholdaaDoorWi3
set_option linter.unusedVariables false
set_option linter.unusedSimpArgs false
set_option maxRecDepth 100000
namespace Go.AM
open Go.Proofs Go.Lib
-- LENS: gC_len, Edg.len, ixC_len, wC_len
/-- A slice that is a block's beginning. -/
def Rp {α : Type} (f : α → List SV) (s : Nat) (h : List AO) (q : SV) (l : List α) : Prop := (q = .nils ∧ l = []) ∨ ∃ b t, q = .sl b 0 l.length s ∧ b < h.length ∧ cellsAt h b = some (recs f (l ++ t))
theorem Rs.rp {α : Type} {f : α → List SV} {s : Nat} {h : List AO} {q : SV} {l : List α} (H : Rs f s h q l) : Rp f s h q l := by
  rcases H with H | ⟨b, h1, h2, h3⟩
  · exact .inl H
  · exact .inr ⟨b, [], h1, h2, by rw [List.append_nil]; exact h3⟩
theorem Rp.len {α : Type} {f : α → List SV} {s : Nat} {P : Program} {t el : TypeId} (hu : P.underlying t = some (.slice el)) {h : List AO} {q : SV} {l : List α} (H : Rp f s h q l) (hh : List AO) : lenA P hh t (.v (.sc q)) = some (.v (.sc (.int .i64 (l.length : Int)))) := by
  rcases H with ⟨rfl, rfl⟩ | ⟨b, r, rfl, h2, h3⟩
  · exact Rs.len hu (f := f) (s := s) (h := [.ro (recs f ([] : List α))]) (.inl ⟨rfl, rfl⟩) hh
  · exact Rs.len hu (f := f) (s := s) (h := (List.replicate b .dead) ++ [.ro (recs f l)]) (.inr ⟨b, rfl, by simp, by simp [cellsAt]⟩) hh
theorem Rp.at {α : Type} {f : α → List SV} {s : Nat} {h : List AO} {q : SV} {l : List α} (H : Rp f s h q l) (h0 : 0 < l.length) : ∃ b t, q = .sl b 0 l.length s ∧ b < h.length ∧ cellsAt h b = some (recs f (l ++ t)) := by
  rcases H with ⟨rfl, rfl⟩ | H
  · simp at h0
  · exact H
theorem Rp.ext {α : Type} {f : α → List SV} {s : Nat} {h h' : List AO} {q : SV} {l : List α} (H : Rp f s h q l) (hx : Ext1 h h') : Rp f s h' q l := by
  rcases H with H | ⟨b, t, h1, h2, h3⟩
  · exact .inl H
  · exact .inr ⟨b, t, h1, by have := hx.len; omega, by rw [hx.cells h2]; exact h3⟩
def okP (E : List Nat) (done k : Nat) : Bool := decide (E.getD k 0 &&& (18446744073709551615 - done) = 0)
theorem s26 {P : Program} {T : Tab} {K d : Nat} (S : Sd P T K) (hd : 1 ≤ d) {E : List Nat} (G : GOk E) {done k : Nat} (hk : k < 64) (hdn : done < 18446744073709551616) (g dn lk : Nat) (h : List AO) (hg : cellsAt h g = some (gC E)) (hq : cellsAt h dn = some [.int .u64 (done : Nat)]) :
    ev P T K d 26 [.sc (.int .i64 (k : Nat)), .sc (.ptr g 0), .sc (.ptr dn 0)] lk h = some (.v (.sc (.bool (okP E done k))), h) := by
  obtain ⟨d, rfl⟩ : ∃ k, d = k + 1 := ⟨d - 1, by omega⟩
  refine ev_pure (at26 S.t) rfl ?_
  unfold i26 Tryd.f26
  have hl := gC_len E
  have hl64 := G.len
  have hgn := gC_at (E := E) (i := k) (by omega)
  have ha := andNot_nat (E.getD k 0) done (G.lt k) hdn
  unfold okP
  by_cases h0 : E.getD k 0 &&& (18446744073709551615 - done) = 0
  · rw [dec_t h0]
    rw [h0] at ha
    have ha' : bitsA .andNot .u64 ((E.getD k 0 : Nat) : Int) (done : Int) = 0 := ha
    simp (maxSteps := 1000000) (disch := first | omega | (simp (disch := first | omega | (simp only [gC_len, Edg.len, ixC_len, wC_len, List.length_append, List.length_cons, List.length_nil, List.length_set]; first | done | omega)) only [gC_len, Edg.len, ixC_len, wC_len, amSide, Int.reduceToNat, Nat.reducePow, Nat.reduceMul]; first | done | omega)) only  [↓amPre, amPost, ↓s_lit', Nat.reduceAdd, Nat.reduceSub, List.replicate, retA, resultsA, resultA, toC, toCL, Nat.reduceEqDiff, (fa33_0 S.p), iaddr_ptr (un31 S.p) (sz30 S.p), part_sc (ag30 S.p), hg, hq, hgn, ha', idx_ok, beqI_t, beq_self_eq_true, Nat.mul_one, Int.toNat_natCast, Nat.zero_add]
    exact Ends.some rfl
  · rw [dec_f h0]
    simp (maxSteps := 1000000) (disch := first | omega | (simp (disch := first | omega | (simp only [gC_len, Edg.len, ixC_len, wC_len, List.length_append, List.length_cons, List.length_nil, List.length_set]; first | done | omega)) only [gC_len, Edg.len, ixC_len, wC_len, amSide, Int.reduceToNat, Nat.reducePow, Nat.reduceMul]; first | done | omega)) only  [↓amPre, amPost, ↓s_lit', Nat.reduceAdd, Nat.reduceSub, List.replicate, retA, resultsA, resultA, toC, toCL, Nat.reduceEqDiff, (fa33_0 S.p), iaddr_ptr (un31 S.p) (sz30 S.p), part_sc (ag30 S.p), hg, hq, hgn, ha, idx_ok, beqI_f, Nat.mul_one, Int.toNat_natCast, Nat.zero_add]
    exact Ends.some rfl
def ixF (E : List Nat) (done : Nat) (l : List Nat) : Int := match l.findIdx? (okP E done) with | some i => (i : Nat) | none => -1
theorem idx_at {α : Type} {p : α → Bool} : ∀ {l : List α} {i : Nat} {k : α}, l[i]? = some k → (l.take i).any p = false → p k = true → l.findIdx? p = some i
  | [], i, k, h, _, _ => by simp at h
  | a :: l, 0, k, h, _, hp => by
    obtain rfl : a = k := Option.some.inj h
    simp [List.findIdx?_cons, hp]
  | a :: l, i + 1, k, h, ha, hp => by
    rw [List.take_succ_cons, List.any_cons, Bool.or_eq_false_iff] at ha
    rw [List.findIdx?_cons, ha.1, idx_at (by simpa using h) ha.2 hp]
    rfl
theorem idx_no {α : Type} {p : α → Bool} {l : List α} (h : l.any p = false) : l.findIdx? p = none := by
  rw [List.findIdx?_eq_none_iff]
  intro x hx
  rw [List.any_eq_false] at h
  simpa using h x hx
set_option maxHeartbeats 4000000 in
theorem s25 {P : Program} {T : Tab} {K d : Nat} (S : Sd P T K) (hd : 2 ≤ d) {E : List Nat} (G : GOk E) {done : Nat} (hdn : done < 18446744073709551616) (q : SV) (l : List Nat) (hl64 : l.length ≤ 64) (hk : ∀ k ∈ l, k < 64) (g dn lk : Nat) (h : List AO) (hg : cellsAt h g = some (gC E)) (hq : cellsAt h dn = some [.int .u64 (done : Nat)])
    (hrs : Rp ixC 1 h q l) : ev P T K d 25 [.sc q, .sc (.fn 26 [] [.ptr g 0, .ptr dn 0])] lk h = some (.v (.sc (.int .i64 (ixF E done l))), h) := by
  obtain ⟨d, rfl⟩ : ∃ k, d = k + 1 := ⟨d - 1, by omega⟩
  refine ev_pure (at25 S.t) rfl ?_
  unfold i25 Tryd.f25
  have hlen := hrs.len (un35 S.p)
  unfold ixF
  simp (maxSteps := 1000000) (disch := first | omega | (simp (disch := first | omega | (simp only [gC_len, Edg.len, ixC_len, wC_len, List.length_append, List.length_cons, List.length_nil, List.length_set]; first | done | omega)) only [gC_len, Edg.len, ixC_len, wC_len, amSide, Int.reduceToNat, Nat.reducePow, Nat.reduceMul]; first | done | omega)) only  [↓amPre, amPost, ↓s_lit', Nat.reduceAdd, Nat.reduceSub, List.replicate, retA, resultsA, resultA, toC, toCL, Nat.reduceEqDiff, iaddr_sl (un35 S.p) (sz3 S.p), len_sl (un35 S.p), len_nils (un35 S.p), part_sc (ag3 S.p), hlen]
  refine ends_loop (X := ThN) ⟨0⟩ [4, 5, 9, 10, 11, 12, 13, 14, 15, 16, 17, 18] (fun x => x.i ≤ l.length ∧ (l.take x.i).any (okP E done) = false) (fun x => l.length - x.i)
    (fun x e => e.set 8 (.v (.sc (.int .i64 x.i)))) (fun x => h)
    (by have := S.k; show _ < K; simp only; omega) ⟨by simp only; omega, rfl⟩ rfl rfl ?_
  rintro ⟨i⟩ ⟨hi, hno⟩ again hag e he
  simp only at hi hno hag he
  simp only [↓amPre, amPost, ↓s_lit', Nat.reduceAdd, Nat.reduceSub, List.replicate, retA, resultsA, resultA, toC, toCL, Nat.reduceEqDiff] at he
  simp only [↓amPre, amPost, ↓s_lit', Nat.reduceAdd, Nat.reduceSub, List.replicate, retA, resultsA, resultA, toC, toCL, Nat.reduceEqDiff, he]
  refine ends_cond (fun hc3 => ?_) (fun hc3 => ?_)
  · simp only [decide_eq_true_eq] at hc3
    obtain ⟨b, t, rfl, hb, hc⟩ := hrs.at (by omega)
    obtain ⟨k, hki⟩ : ∃ k, l[i]? = some k := ⟨_, List.getElem?_eq_getElem (by omega)⟩
    have hk64 := hk k (List.mem_of_getElem? hki)
    have gk := recs_get0 ixC_len (show (l ++ t)[i]? = some k by rw [List.getElem?_append_left (by omega)]; exact hki) (by omega)
    rw [Nat.mul_one, show (ixC k)[0]? = some (.int .i64 (k : Nat)) from rfl] at gk
    have f26 := fun lk => s26 S (show 1 ≤ d by omega) G hk64 hdn g dn lk h hg hq
    cases hp : okP E done k with
    | true =>
      have hf := idx_at hki hno hp
      rw [hp] at f26
      rw [hf]
      simp (maxSteps := 1000000) (disch := first | omega | (simp (disch := first | omega | (simp only [gC_len, Edg.len, ixC_len, wC_len, List.length_append, List.length_cons, List.length_nil, List.length_set]; first | done | omega)) only [gC_len, Edg.len, ixC_len, wC_len, amSide, Int.reduceToNat, Nat.reducePow, Nat.reduceMul]; first | done | omega)) only  [↓amPre, amPost, ↓s_lit', Nat.reduceAdd, Nat.reduceSub, List.replicate, retA, resultsA, resultA, toC, toCL, Nat.reduceEqDiff, he, iaddr_sl (un35 S.p) (sz3 S.p), len_sl (un35 S.p), len_nils (un35 S.p), part_sc (ag3 S.p), idx_ok, hc, gk, f26, Nat.mul_one, Int.toNat_natCast, Nat.zero_add]
      exact Ends.some rfl
    | false =>
      rw [hp] at f26
      have hsn : (l.take (i + 1)).any (okP E done) = false := by rw [List.take_add_one, hki, List.any_append, hno]; simp [hp]
      simp (maxSteps := 1000000) (disch := first | omega | (simp (disch := first | omega | (simp only [gC_len, Edg.len, ixC_len, wC_len, List.length_append, List.length_cons, List.length_nil, List.length_set]; first | done | omega)) only [gC_len, Edg.len, ixC_len, wC_len, amSide, Int.reduceToNat, Nat.reducePow, Nat.reduceMul]; first | done | omega)) only  [↓amPre, amPost, ↓s_lit', Nat.reduceAdd, Nat.reduceSub, List.replicate, retA, resultsA, resultA, toC, toCL, Nat.reduceEqDiff, he, iaddr_sl (un35 S.p) (sz3 S.p), len_sl (un35 S.p), len_nils (un35 S.p), part_sc (ag3 S.p), idx_ok, hc, gk, f26, Nat.mul_one, Int.toNat_natCast, Nat.zero_add, wrap_i64]
      refine hag ⟨i + 1⟩ ⟨by simp only; omega, hsn⟩ (by simp only; omega) _ ?_
      simp (maxSteps := 1000000) (disch := first | omega | (simp (disch := first | omega | (simp only [gC_len, Edg.len, ixC_len, wC_len, List.length_append, List.length_cons, List.length_nil, List.length_set]; first | done | omega)) only [gC_len, Edg.len, ixC_len, wC_len, amSide, Int.reduceToNat, Nat.reducePow, Nat.reduceMul]; first | done | omega)) only [↓amPre, amPost, ↓s_lit', Nat.reduceAdd, Nat.reduceSub, List.replicate, retA, resultsA, resultA, toC, toCL, Nat.reduceEqDiff, Int.natCast_add, Int.cast_ofNat_Int, dec_t, dec_f]
  · simp only [decide_eq_false_iff_not] at hc3
    obtain rfl : i = l.length := by omega
    rw [List.take_length] at hno
    rw [idx_no hno]
    simp (maxSteps := 1000000) (disch := first | omega | (simp (disch := first | omega | (simp only [gC_len, Edg.len, ixC_len, wC_len, List.length_append, List.length_cons, List.length_nil, List.length_set]; first | done | omega)) only [gC_len, Edg.len, ixC_len, wC_len, amSide, Int.reduceToNat, Nat.reducePow, Nat.reduceMul]; first | done | omega)) only  [↓amPre, amPost, ↓s_lit', Nat.reduceAdd, Nat.reduceSub, List.replicate, retA, resultsA, resultA, toC, toCL, Nat.reduceEqDiff, he, iaddr_sl (un35 S.p) (sz3 S.p), len_sl (un35 S.p), len_nils (un35 S.p), part_sc (ag3 S.p)]
    exact Ends.some rfl
end Go.AM
/- Waiting graphs: one struck from an own list. Conditions: none. -/
set_option linter.unusedVariables false
set_option linter.unusedSimpArgs false
set_option maxRecDepth 100000
namespace Go.AM
open Go.Proofs Go.Lib
-- LENS: gC_len, Edg.len, ixC_len, wC_len
theorem set_get {h : List AO} {b : Nat} {o : AO} (hb : h[b]? = some o) : h.set b o = h := by
  apply List.ext_getElem?
  intro j
  rw [List.getElem?_set]
  split
  · rename_i e; subst e
    rw [if_pos (List.getElem?_eq_some_iff.1 hb).1]; exact hb.symm
  · rfl
theorem app_del {lk b n i : Nat} {h : List AO} {cs : List SV} (hb : h[b]? = some (.rw 3 cs)) (hlk : lk ≤ b) (hi : i < n) (hn : n ≤ cs.length) (k : AV → List AO → Res) :
    appB 3 1 8 lk h (.v (.sc (.sl b 0 i 1))) (some ((cs.drop (i + 1)).take (n - (i + 1)))) k = k (.v (.sc (.sl b 0 (n - 1) 1))) (h.set b (.rw 3 (cs.take i ++ (cs.drop (i + 1)).take (n - (i + 1)) ++ cs.drop (n - 1)))) := by
  by_cases he : n = i + 1
  · subst he
    rw [Nat.sub_self, List.take_zero, appB_nil, List.append_nil, show i + 1 - 1 = i by omega, List.take_append_drop, set_get hb]
  · have hlen : ((cs.drop (i + 1)).take (n - (i + 1))).length = n - (i + 1) := by rw [List.length_take, List.length_drop]; omega
    obtain ⟨v, vs, hv⟩ : ∃ v vs, (cs.drop (i + 1)).take (n - (i + 1)) = v :: vs := by
      cases hq : (cs.drop (i + 1)).take (n - (i + 1)) with
      | nil => rw [hq] at hlen; simp at hlen; omega
      | cons v vs => exact ⟨v, vs, rfl⟩
    rw [hv] at hlen ⊢
    rw [appB_sl _ _ _ _ _ _ _ _ _ (by rw [hlen]; exact Nat.mod_one _), hb, appC_in _ _ _ _ _ _ _ _ _ hlk (by omega) (by omega), hlen, Nat.div_one, show i + (n - (i + 1)) = n - 1 by omega]
    congr 3
    unfold splice
    rw [hlen, show 0 + i * 1 = i by omega, show i + (n - (i + 1)) = n - 1 by omega]
theorem recs_erase (l : List Nat) (t : List SV) (i : Nat) (hi : i < l.length) : (recs ixC l ++ t).take i ++ ((recs ixC l ++ t).drop (i + 1)).take (l.length - (i + 1)) ++ (recs ixC l ++ t).drop (l.length - 1) = recs ixC (l.eraseIdx i) ++ ((recs ixC l).drop (l.length - 1) ++ t) := by
  have hlen : (recs ixC l).length = l.length := by rw [recs_len ixC_len]; omega
  have a1 : (recs ixC l ++ t).take i = recs ixC (l.take i) := by
    rw [List.take_append_of_le_length (by omega)]
    have := recs_take ixC_len l i
    rwa [Nat.mul_one] at this
  have a2 : ((recs ixC l ++ t).drop (i + 1)).take (l.length - (i + 1)) = recs ixC (l.drop (i + 1)) := by
    rw [List.drop_append_of_le_length (by omega), List.take_append_of_le_length (by rw [List.length_drop]; omega), List.take_of_length_le (by rw [List.length_drop]; omega)]
    have := recs_drop ixC_len l (i + 1)
    rwa [Nat.mul_one] at this
  have a3 : (recs ixC l ++ t).drop (l.length - 1) = (recs ixC l).drop (l.length - 1) ++ t := List.drop_append_of_le_length (by omega)
  rw [a1, a2, a3, List.eraseIdx_eq_take_drop_succ, recs_app]
theorem splice_zero (l : List Nat) (t : List SV) (i : Nat) (hi : i < l.length) : splice (recs ixC (l.eraseIdx i) ++ ((recs ixC l).drop (l.length - 1) ++ t)) (l.length - 1) [.int .i64 0] = recs ixC (l.eraseIdx i) ++ (.int .i64 0 :: t) := by
  have hlen : (recs ixC (l.eraseIdx i)).length = l.length - 1 := by rw [recs_len ixC_len, List.length_eraseIdx_of_lt hi]; omega
  have h1 : ((recs ixC l).drop (l.length - 1)).length = 1 := by rw [List.length_drop, recs_len ixC_len]; omega
  unfold splice
  rw [List.take_append_of_le_length (by omega), List.take_of_length_le (by omega), List.length_singleton, List.drop_append, hlen, show l.length - 1 + 1 - (l.length - 1) = 1 by omega, List.drop_append, h1, Nat.sub_self, List.drop_of_length_le (by omega), List.drop_of_length_le (by omega), List.drop_zero]
  simp
set_option maxHeartbeats 4000000 in
theorem s27 {P : Program} {T : Tab} {K d : Nat} (S : Sd P T K) (hd : 1 ≤ d) {b i : Nat} {l : List Nat} {t : List SV} {h : List AO} (hb : h[b]? = some (.rw 3 (recs ixC l ++ t))) (hi : i < l.length) (hl64 : l.length ≤ 64) (lk : Nat) (hlk : lk ≤ b) :
    ev P T K d 27 [.sc (.sl b 0 l.length 1), .sc (.int .i64 (i : Nat)), .sc (.int .i64 ((i : Int) + 1))] lk h = some (.v (.sc (.sl b 0 (l.length - 1) 1)), h.set b (.rw 3 (recs ixC (l.eraseIdx i) ++ (.int .i64 0 :: t)))) := by
  obtain ⟨d, rfl⟩ : ∃ k, d = k + 1 := ⟨d - 1, by omega⟩
  rw [ev_run (at27 S.t)]
  unfold i27 Tryd.f27
  have hlen : (recs ixC l).length = l.length := by rw [recs_len ixC_len]; omega
  have hcl : (recs ixC l ++ t).length = l.length + t.length := by rw [List.length_append, hlen]
  have hlb : b < h.length := (List.getElem?_eq_some_iff.1 hb).1
  have e1 : sliceE P h 35 (.v (.sc (.sl b 0 l.length 1))) (some (.v (.sc (.int .i64 (i : Nat))))) (some (.v (.sc (.int .i64 ((i : Int) + 1))))) (some (.v (.sc (.int .i64 (l.length : Nat))))) = some (.und, h) := sliceE_mx (un35 S.p) (sz3 S.p) (by omega) _ _ _ _ _ _ _ _ _ (by omega) (by omega) (by omega) (by omega)
  have e2 := slice_hi (un35 S.p) (sz3 S.p) b 0 l.length .i64 (i : Int) (by omega) (by omega)
  have e3 := slice_lo (un35 S.p) (sz3 S.p) b 0 l.length .i64 ((i : Int) + 1) (by omega) (by omega)
  have ti : ((i : Int) + 1).toNat = i + 1 := by omega
  have hcb : cellsAt h b = some (recs ixC l ++ t) := by unfold cellsAt; rw [hb]
  have hap := app_del (n := l.length) hb hlk hi (by omega)
  rw [recs_erase l t i hi] at hap
  obtain ⟨cs2, hcs2⟩ : ∃ cs2, cs2 = recs ixC (l.eraseIdx i) ++ ((recs ixC l).drop (l.length - 1) ++ t) := ⟨_, rfl⟩
  have hl2 : l.length ≤ cs2.length := by
    rw [hcs2, List.length_append, List.length_append, recs_len ixC_len, List.length_eraseIdx_of_lt hi, List.length_drop, hlen]; omega
  rw [← hcs2] at hap
  have hb2 : (h.set b (AO.rw 3 cs2))[b]? = some (.rw 3 cs2) := List.getElem?_set_self hlb
  have hc : ((l.length - 1 : Nat) : Int) < (l.length : Int) := by omega
  have e4' := slice_none (un35 S.p) b 0 (l.length - 1) 1 (some (.v (.sc (.int .i64 ((l.length - 1 : Nat) : Int))))) .i64 (l.length : Int) hc
  have e4 : sliceE P (h.set b (AO.rw 3 cs2)) 35 (.v (.sc (.sl b 0 (l.length - 1) 1))) (some (.v (.sc (.int .i64 ((l.length - 1 : Nat) : Int))))) (some (.v (.sc (.int .i64 (l.length : Nat))))) none = some (.v (.sc (.sl b (l.length - 1) 1 1)), h.set b (AO.rw 3 cs2)) := by
    rw [sliceE_lohi (un35 S.p) (sz3 S.p) (by omega) b 0 (l.length - 1) .i64 .i64 _ _ hb2 (by omega) (by omega) (by simp only [Int.toNat_natCast]; omega)]
    simp only [Int.toNat_natCast]
    rw [show l.length - (l.length - 1) = 1 by omega, show 0 + (l.length - 1) * 1 = l.length - 1 by omega]
  have e5 : clearA P (h.set b (AO.rw 3 cs2)) lk 35 (.v (.sc (.sl b (l.length - 1) 1 1))) = some (.tup [], h.set b (.rw 3 (recs ixC (l.eraseIdx i) ++ (.int .i64 0 :: t)))) := by
    rw [clear_sl (un35 S.p) (z := [.int .i64 0]) (by exact ze3 S.p) b (l.length - 1) 1 1 hb2 (by omega) hlk rfl (by omega) (by omega), List.set_set]
    show some (AV.tup [], h.set b (AO.rw 3 (splice cs2 (l.length - 1) [.int .i64 0]))) = _
    rw [hcs2, splice_zero l t i hi]
  simp (maxSteps := 1000000) (disch := first | omega | (simp (disch := first | omega | (simp only [gC_len, Edg.len, ixC_len, wC_len, List.length_append, List.length_cons, List.length_nil, List.length_set]; first | done | omega)) only [gC_len, Edg.len, ixC_len, wC_len, amSide, Int.reduceToNat, Nat.reducePow, Nat.reduceMul]; first | done | omega)) only  [↓amPre, amPost, ↓s_lit', Nat.reduceAdd, Nat.reduceSub, List.replicate, retA, resultsA, resultA, toC, toCL, Nat.reduceEqDiff, append_at (un35 S.p) (sz3 S.p) (by3 S.p) (ze3 S.p) (by decide) (by decide) rfl, copy_at (un35 S.p) (sz3 S.p) (by3 S.p) (ze3 S.p) (by decide) (by decide) rfl, sl_cells (sz3 S.p), clear_sl (un35 S.p) (ze3 S.p), len_sl (un35 S.p), len_nils (un35 S.p), slice_lo (un35 S.p) (sz3 S.p), slice_hi (un35 S.p) (sz3 S.p), slice_lohi (un35 S.p) (sz3 S.p), slice_nil (un35 S.p) (sz3 S.p), slice_none (un35 S.p), sliceE_lohi (un35 S.p) (sz3 S.p) (by decide), sliceE_hi (un35 S.p) (sz3 S.p) (by decide), slice_mx (un35 S.p), sliceE_mx (un35 S.p) (sz3 S.p) (by decide), e1, e2, e3, e4, e4', e5, ti, hcb, hap, beqI_f, Int.toNat_natCast, Nat.mul_one, Nat.zero_add, wrap_i64]
  rw [List.set_set, show l.length - (l.length - 1) = 1 by omega, show (List.replicate 1 [SV.int IntKind.i64 0]).flatten = [SV.int .i64 0] from rfl, hcs2, splice_zero l t i hi]
end Go.AM
/- Waiting graphs: the order, by the code. Conditions: none. -/
set_option linter.unusedVariables false
set_option linter.unusedSimpArgs false
set_option maxRecDepth 100000
namespace Go.AM
open Go.Proofs Go.Lib
-- LENS: gC_len, Edg.len, ixC_len, wC_len
/-- The order of what is left. -/
def ordV (E : List Nat) : Nat → List Nat → Nat → List Nat → Option (List Nat)
  | 0, _, _, out => some out
  | m + 1, left, done, out => match left.findIdx? (okP E done) with
    | some i => ordV E m (left.eraseIdx i) (done ||| 2 ^ (left.getD i 0)) (out ++ [left.getD i 0])
    | none => none
theorem ordV_nil (E : List Nat) (done : Nat) (out : List Nat) : ordV E ([] : List Nat).length [] done out = some out := rfl
structure ThO where
  left : List Nat
  done : Nat
  out : List Nat
  b : Nat
  t : List Nat
  q6 : SV
  q4 : SV
  h : List AO
def OrdR (R : Option (List Nat)) (h0 : List AO) (v : AV) (h' : List AO) : Prop := Ext1 h0 h' ∧ match R with
  | some out => ∃ q', v = .tup [.sc q', .sc (.bool true)] ∧ Rs ixC 1 h' q' out
  | none => v = .tup [.sc .nils, .sc (.bool false)]
theorem toSL_nil : toSL [] = some [] := nrfl rfl
theorem toSL_cons (x : SV) (xs : List AV) : toSL (.v (.sc x) :: xs) = (toSL xs).map (x :: ·) := nrfl rfl
set_option maxHeartbeats 16000000 in
theorem s10 {P : Program} {T : Tab} {K d : Nat} (S : Sd P T K) (hd : 3 ≤ d) {E : List Nat} (G : GOk E) (lk : Nat) (h : List AO) (hlk : lk ≤ h.length) (hT : tabB 0 h = true) :
    Ends (OrdR (ordV E (bl (allE E 64)).length (bl (allE E 64)) 0 []) h) (ev P T K d 10 [.ag (gC E)] lk h) := by
  obtain ⟨d, rfl⟩ : ∃ k, d = k + 1 := ⟨d - 1, by omega⟩
  rw [ev_run (at10 S.t)]
  unfold i10 Tryd.f10
  have hl := gC_len E
  have hl64 := G.len
  obtain ⟨B, hB⟩ : ∃ B, B = h ++ [.rw 33 (gC E)] := ⟨_, rfl⟩
  have hBl : B.length = h.length + 1 := by rw [hB]; simp
  have hB0 : cellsAt B h.length = some (gC E) := by rw [hB]; exact cells_self _ _ _ rfl
  have hxB : Ext1 h B := by rw [hB]; exact (Ext1.refl h).push _
  have hTB : tabB 0 B = true := tabB_ext hT hxB
  have pE := part_self (ag33 S.p) (sz33 S.p) (gC E) (by rw [gC_len]; exact hl64)
  have hal := allE_lt G 64 (Nat.le_refl _)
  have e24 := fun lk h => s24 S (show 2 ≤ d by omega) G lk h
  have hxC : Ext1 B (B ++ [.rw 30 [.int .u64 0]]) := (Ext1.refl B).push _
  obtain ⟨v1, h1, e1, hx1, q0, rfl, hown⟩ := s23 S (show 2 ≤ d by omega) hal lk (B ++ [.rw 30 [.int .u64 0]]) (by simp; omega) (tabB_ext hTB hxC)
  rw [hB] at e1
  have hL64 := bl_len (allE E 64)
  have hLk : ∀ k ∈ bl (allE E 64), k < 64 := fun k hk => ((bl_mem _ _).1 hk).1
  have hle1 := hx1.len
  simp only [List.length_append, List.length_singleton, hBl] at hle1
  have hd1 : h1[h.length + 1]? = some (.rw 30 [.int .u64 0]) := by rw [hx1.get (by simp; omega), List.getElem?_append_right (by omega), hBl]; simp
  generalize bl (allE E 64) = L at *
  obtain ⟨b0, t0, hq0⟩ : ∃ b t, (L = [] ∧ q0 = .nils) ∨ (h.length + 2 ≤ b ∧ q0 = .sl b 0 L.length 1 ∧ h1[b]? = some (.rw 3 (recs ixC L ++ recs ixC t))) := by
    rcases hown with ⟨rfl, hz⟩ | ⟨b, z1, z2, z3, z4, z5⟩
    · have : L.length = 0 := by have := recs_len ixC_len L; rw [hz] at this; simp at this; omega
      exact ⟨0, [], .inl ⟨List.eq_nil_of_length_eq_zero this, rfl⟩⟩
    · have hlen := recs_len ixC_len L
      simp only [List.length_append, List.length_singleton, hBl] at z1
      exact ⟨b, [], .inr ⟨by omega, by rw [z3, hlen]; simp, by rw [z4]; simp [recs]⟩⟩
  simp (maxSteps := 1000000) (disch := first | omega | (simp (disch := first | omega | (simp only [gC_len, Edg.len, ixC_len, wC_len, List.length_append, List.length_cons, List.length_nil, List.length_set]; first | done | omega)) only [gC_len, Edg.len, ixC_len, wC_len, amSide, Int.reduceToNat, Nat.reducePow, Nat.reduceMul]; first | done | omega)) only  [↓amPre, amPost, ↓s_lit', Nat.reduceAdd, Nat.reduceSub, List.replicate, retA, resultsA, resultA, toC, toCL, Nat.reduceEqDiff, (ze30 S.p), append_at (un35 S.p) (sz3 S.p) (by3 S.p) (ze3 S.p) (by decide) (by decide) rfl, copy_at (un35 S.p) (sz3 S.p) (by3 S.p) (ze3 S.p) (by decide) (by decide) rfl, sl_cells (sz3 S.p), lit_fill (un35 S.p) (sz3 S.p) (ze3 S.p), iaddr_sl (un35 S.p) (sz3 S.p), len_sl (un35 S.p), len_nils (un35 S.p), part_sc (ag3 S.p), part_sc (ag30 S.p), part_all (ag33 S.p) (sz33 S.p), part_at (ag33 S.p) (sz33 S.p), store_last (sz30 S.p), (sz30 S.p), pE, e24, e1, cells_self, cells_other]
  refine ends_loop (X := ThO) ⟨L, 0, [], b0, t0, q0, .nils, h1⟩ [2, 3, 7, 11, 12, 13, 14, 15, 16, 17, 18, 19, 20, 21, 22, 23, 24, 25, 26, 27, 28, 29, 30, 31, 32, 33, 34, 35, 36, 37]
    (fun x => x.left.length ≤ 64 ∧ x.out.length + x.left.length ≤ 64 ∧ (∀ k ∈ x.left, k < 64) ∧ x.done < 18446744073709551616 ∧ Ext1 B x.h ∧ h.length + 1 < x.h.length ∧ x.h[h.length + 1]? = some (.rw 30 [.int .u64 (x.done : Nat)]) ∧
      ((x.left = [] ∧ x.q6 = .nils) ∨ (h.length + 2 ≤ x.b ∧ x.q6 = .sl x.b 0 x.left.length 1 ∧ x.h[x.b]? = some (.rw 3 (recs ixC x.left ++ recs ixC x.t)) ∧ Apart (.sl x.b 0 0 0) x.q4)) ∧
      Own 3 1 (h.length + 2) x.h x.q4 (recs ixC x.out) ∧ ordV E x.left.length x.left x.done x.out = ordV E L.length L 0 []) (fun x => x.left.length)
    (fun x e => (e.set 6 (.v (.sc x.q6))).set 4 (.v (.sc x.q4))) (fun x => x.h)
    (by have := S.k; show _ < K; simp only; omega) ⟨hL64, by simp; omega, hLk, by simp only; omega, hxC.trans hx1, by simp only; omega, hd1, by
      rcases hq0 with hq0 | ⟨z1, z2, z3⟩
      · exact .inl hq0
      · exact .inr ⟨z1, z2, z3, Apart.nil _⟩, Own.nil _ _ _ _, rfl⟩ rfl rfl ?_
  clear hd1 hle1 hq0 hown e1 hLk hL64
  rintro ⟨left, done, out, b, t, q6, q4, hj⟩ ⟨i1, i2, i3, i4, i5, i6, i7, i8, i9, i10⟩ again hag e he
  simp only at i1 i2 i3 i4 i5 i6 i7 i8 i9 i10 hag he
  simp only [↓amPre, amPost, ↓s_lit', Nat.reduceAdd, Nat.reduceSub, List.replicate, retA, resultsA, resultA, toC, toCL, Nat.reduceEqDiff] at he
  simp only [↓amPre, amPost, ↓s_lit', Nat.reduceAdd, Nat.reduceSub, List.replicate, retA, resultsA, resultA, toC, toCL, Nat.reduceEqDiff, he]
  have hrp : Rp ixC 1 hj q6 left := by
    rcases i8 with ⟨z1, z2⟩ | ⟨z1, z2, z3, z4⟩
    · exact .inl ⟨z2, z1⟩
    · have hlb := (List.getElem?_eq_some_iff.1 z3).1
      exact .inr ⟨b, t, z2, hlb, by unfold cellsAt; rw [z3, recs_app]⟩
  have hlen := hrp.len (un35 S.p)
  have hle := i5.len
  have hcb : cellsAt hj h.length = some (gC E) := by rw [i5.cells (by omega)]; exact hB0
  have hcd : cellsAt hj (h.length + 1) = some [.int .u64 (done : Nat)] := by unfold cellsAt; rw [i7]
  by_cases h0 : left = []
  · subst h0
    rw [ordV_nil] at i10
    rw [← i10]
    simp (maxSteps := 1000000) (disch := first | omega | (simp (disch := first | omega | (simp only [gC_len, Edg.len, ixC_len, wC_len, List.length_append, List.length_cons, List.length_nil, List.length_set]; first | done | omega)) only [gC_len, Edg.len, ixC_len, wC_len, amSide, Int.reduceToNat, Nat.reducePow, Nat.reduceMul]; first | done | omega)) only  [↓amPre, amPost, ↓s_lit', Nat.reduceAdd, Nat.reduceSub, List.replicate, retA, resultsA, resultA, toC, toCL, Nat.reduceEqDiff, he, (ze30 S.p), append_at (un35 S.p) (sz3 S.p) (by3 S.p) (ze3 S.p) (by decide) (by decide) rfl, copy_at (un35 S.p) (sz3 S.p) (by3 S.p) (ze3 S.p) (by decide) (by decide) rfl, sl_cells (sz3 S.p), lit_fill (un35 S.p) (sz3 S.p) (ze3 S.p), iaddr_sl (un35 S.p) (sz3 S.p), len_sl (un35 S.p), len_nils (un35 S.p), part_sc (ag3 S.p), part_sc (ag30 S.p), part_all (ag33 S.p) (sz33 S.p), part_at (ag33 S.p) (sz33 S.p), store_last (sz30 S.p), (sz30 S.p), hlen, dec_f]
    exact Ends.some ⟨hxB.trans i5, _, rfl, i9.rs (by omega) ixC_len⟩
  · have hpos : 0 < left.length := List.length_pos_iff.2 h0
    obtain ⟨z1, rfl, z3, z4⟩ : h.length + 2 ≤ b ∧ q6 = .sl b 0 left.length 1 ∧ hj[b]? = some (.rw 3 (recs ixC left ++ recs ixC t)) ∧ Apart (.sl b 0 0 0) q4 := by
      rcases i8 with ⟨z, _⟩ | z
      · exact absurd z h0
      · exact z
    have hlb := (List.getElem?_eq_some_iff.1 z3).1
    obtain ⟨m, hm⟩ : ∃ m, left.length = m + 1 := ⟨left.length - 1, by omega⟩
    have f25 := fun lk => s25 S (show 2 ≤ d by omega) G i4 _ left i1 i3 h.length (h.length + 1) lk hj hcb hcd hrp
    cases hf : left.findIdx? (okP E done) with
    | none =>
      have hix : ixF E done left = -1 := by unfold ixF; rw [hf]
      rw [hix] at f25
      have hR : none = ordV E L.length L 0 [] := by
        rw [← i10, hm]
        show none = (match left.findIdx? (okP E done) with | some i => _ | none => none)
        rw [hf]
      rw [← hR]
      simp (maxSteps := 1000000) (disch := first | omega | (simp (disch := first | omega | (simp only [gC_len, Edg.len, ixC_len, wC_len, List.length_append, List.length_cons, List.length_nil, List.length_set]; first | done | omega)) only [gC_len, Edg.len, ixC_len, wC_len, amSide, Int.reduceToNat, Nat.reducePow, Nat.reduceMul]; first | done | omega)) only  [↓amPre, amPost, ↓s_lit', Nat.reduceAdd, Nat.reduceSub, List.replicate, retA, resultsA, resultA, toC, toCL, Nat.reduceEqDiff, he, (ze30 S.p), append_at (un35 S.p) (sz3 S.p) (by3 S.p) (ze3 S.p) (by decide) (by decide) rfl, copy_at (un35 S.p) (sz3 S.p) (by3 S.p) (ze3 S.p) (by decide) (by decide) rfl, sl_cells (sz3 S.p), lit_fill (un35 S.p) (sz3 S.p) (ze3 S.p), iaddr_sl (un35 S.p) (sz3 S.p), len_sl (un35 S.p), len_nils (un35 S.p), part_sc (ag3 S.p), part_sc (ag30 S.p), part_all (ag33 S.p) (sz33 S.p), part_at (ag33 S.p) (sz33 S.p), store_last (sz30 S.p), (sz30 S.p), hlen, toSL_nil, toSL_cons, f25, dec_t]
      exact Ends.some (show OrdR none h _ _ from ⟨hxB.trans i5, rfl⟩)
    | some i =>
      have hix : ixF E done left = (i : Nat) := by unfold ixF; rw [hf]
      rw [hix] at f25
      have hi : i < left.length := by
        obtain ⟨hi, _⟩ := List.findIdx?_eq_some_iff_getElem.1 hf
        exact hi
      obtain ⟨k, hki⟩ : ∃ k, left[i]? = some k := ⟨_, List.getElem?_eq_getElem hi⟩
      have hk64 := i3 k (List.mem_of_getElem? hki)
      have hkd : left.getD i 0 = k := by rw [List.getD_eq_getElem?_getD, hki]; rfl
      have hR : ordV E m (left.eraseIdx i) (done ||| 2 ^ k) (out ++ [k]) = ordV E L.length L 0 [] := by
        rw [← i10, hm]
        show _ = (match left.findIdx? (okP E done) with | some i => ordV E m (left.eraseIdx i) (done ||| 2 ^ (left.getD i 0)) (out ++ [left.getD i 0]) | none => none)
        rw [hf]
        simp only [hkd]
      have gk := recs_get0 ixC_len (show (left ++ t)[i]? = some k by rw [List.getElem?_append_left hi]; exact hki) (by omega)
      rw [Nat.mul_one, show (ixC k)[0]? = some (.int .i64 (k : Nat)) from rfl] at gk
      have clb : cellsAt hj b = some (recs ixC (left ++ t)) := by unfold cellsAt; rw [z3, recs_app]
      obtain ⟨q2, h2, happ, hown2, hl2, hlow2, hx2, hq2, hkp⟩ := grow_own (b := 8) (lk := lk) (i9.push (.rw 3 [.int .i64 (k : Nat)])) [.int .i64 (k : Nat)] (by omega) (by simp) (by simp) (by omega) (by simp; omega) (by rw [recs_len ixC_len]; simp; omega)
      have hcs : ([.int .i64 (k : Nat)] : List SV) = ixC k := rfl
      rw [hcs, recs_snoc] at hown2
      have hxh2 := hx2 B (i5.push _) (by omega)
      have hl2' : h2.length = hj.length + 2 := by simpa using hl2
      obtain ⟨kb1, kb2⟩ := hkp b 0 0 0 z4 (by simp; omega)
      have gb2 : h2[b]? = some (.rw 3 (recs ixC left ++ recs ixC t)) := by rw [kb1, List.getElem?_append_left hlb]; exact z3
      have gd2 : h2[h.length + 1]? = some (.rw 30 [.int .u64 (done : Nat)]) := by rw [hlow2 _ (by omega), List.getElem?_append_left i6]; exact i7
      have cd2 : cellsAt h2 (h.length + 1) = some [.int .u64 (done : Nat)] := by unfold cellsAt; rw [gd2]
      have clb2 : cellsAt h2 b = some (recs ixC (left ++ t)) := by unfold cellsAt; rw [gb2, recs_app]
      have hsh := one_shl hk64
      have hor := or_nat done (2 ^ k) i4 (two_lt hk64)
      have hdn : done ||| 2 ^ k < 18446744073709551616 := Nat.or_lt_two_pow (n := 64) i4 (two_lt hk64)
      have st := store_cell (sz30 S.p) (lk := lk) gd2 (by omega) 0 (by simp) (.int .u64 ((done ||| 2 ^ k : Nat) : Int))
      rw [List.set_cons_zero] at st
      obtain ⟨h3, hh3⟩ : ∃ h3, h3 = h2.set (h.length + 1) (.rw 30 [.int .u64 ((done ||| 2 ^ k : Nat) : Int)]) := ⟨_, rfl⟩
      rw [← hh3] at st
      have gb3 : h3[b]? = some (.rw 3 (recs ixC left ++ recs ixC t)) := by rw [hh3, List.getElem?_set_ne (by omega)]; exact gb2
      have e27 := s27 S (show 1 ≤ d by omega) gb3 hi i1 lk (by omega)
      have hlq2 : q2 = .sl (hj.length + 1) 0 (out ++ [k]).length 1 := by
        rw [hq2]
        have := recs_len ixC_len (out ++ [k])
        rw [hcs, recs_snoc, this]; simp
      have hwi : IntKind.i64.wrap ((i : Int) + 1) = (i : Int) + 1 := wrap_i64 (by omega) (by omega)
      have hl3 : h3.length = h2.length := by rw [hh3, List.length_set]
      have hel : (left.eraseIdx i).length = m := by rw [List.length_eraseIdx_of_lt hi]; omega
      have hown4 : Own 3 1 (h.length + 2) (h3.set b (.rw 3 (recs ixC (left.eraseIdx i) ++ (.int .i64 0 :: recs ixC t)))) q2 (recs ixC (out ++ [k])) := by
        rcases hown2 with hz | ⟨w, w1, w2, w3, w4, w5⟩
        · exact .inl hz
        · have hwb : b ≠ w := fun e => by
            rw [hlq2] at w3
            injection w3 with w3
            omega
          exact .inr ⟨w, w1, by rw [List.length_set, hl3]; exact w2, w3, by rw [List.getElem?_set_ne hwb, hh3, List.getElem?_set_ne (by omega)]; exact w4, w5⟩
      have hx4 : Ext1 B (h3.set b (.rw 3 (recs ixC (left.eraseIdx i) ++ (.int .i64 0 :: recs ixC t)))) := by rw [hh3]; exact (hxh2.set (by omega) _).set (by omega) _
      have hd4 : (h3.set b (AO.rw 3 (recs ixC (left.eraseIdx i) ++ (SV.int .i64 0 :: recs ixC t))))[h.length + 1]? = some (.rw 30 [.int .u64 ((done ||| 2 ^ k : Nat) : Int)]) := by
        rw [List.getElem?_set_ne (by omega), hh3, List.getElem?_set_self (by omega)]
      have hb4 : (h3.set b (AO.rw 3 (recs ixC (left.eraseIdx i) ++ (SV.int .i64 0 :: recs ixC t))))[b]? = some (.rw 3 (recs ixC (left.eraseIdx i) ++ recs ixC (0 :: t))) := by
        rw [List.getElem?_set_self (by rw [hl3]; omega)]; rfl
      have hag' := hag ⟨left.eraseIdx i, done ||| 2 ^ k, out ++ [k], b, 0 :: t, .sl b 0 (left.length - 1) 1, q2, h3.set b (.rw 3 (recs ixC (left.eraseIdx i) ++ (.int .i64 0 :: recs ixC t)))⟩
        ⟨by simp only [hel]; omega, by simp only [hel, List.length_append, List.length_singleton]; omega, fun j hj => i3 j (List.mem_of_mem_eraseIdx hj), hdn, hx4, by simp only [List.length_set, hl3]; omega, hd4,
          .inr ⟨z1, by rw [hel, show left.length - 1 = m by omega], hb4, kb2⟩, hown4, by simp only [hel]; exact hR⟩ (by simp only [hel]; omega)
      clear hag hown2 hown4 hx4 hd4 hb4 hx2 hkp hlow2 gb3 gb2 gd2 hR i10 i9 hkd hcs hxh2 kb1 kb2
      simp (maxSteps := 1000000) (disch := first | omega | (simp (disch := first | omega | (simp only [gC_len, Edg.len, ixC_len, wC_len, List.length_append, List.length_cons, List.length_nil, List.length_set]; first | done | omega)) only [gC_len, Edg.len, ixC_len, wC_len, amSide, Int.reduceToNat, Nat.reducePow, Nat.reduceMul]; first | done | omega)) only  [↓amPre, amPost, ↓s_lit', Nat.reduceAdd, Nat.reduceSub, List.replicate, retA, resultsA, resultA, toC, toCL, Nat.reduceEqDiff, he, (ze30 S.p), append_at (un35 S.p) (sz3 S.p) (by3 S.p) (ze3 S.p) (by decide) (by decide) rfl, copy_at (un35 S.p) (sz3 S.p) (by3 S.p) (ze3 S.p) (by decide) (by decide) rfl, sl_cells (sz3 S.p), lit_fill (un35 S.p) (sz3 S.p) (ze3 S.p), iaddr_sl (un35 S.p) (sz3 S.p), len_sl (un35 S.p), len_nils (un35 S.p), part_sc (ag3 S.p), part_sc (ag30 S.p), part_all (ag33 S.p) (sz33 S.p), part_at (ag33 S.p) (sz33 S.p), store_last (sz30 S.p), (sz30 S.p), hlen, toSL_nil, toSL_cons, f25, dec_t, dec_f, idx_ok, clb, gk, happ, cd2, clb2, hsh, hor, st, hwi, e27, cells_self, List.flatten_cons, List.flatten_nil, List.append_nil, Nat.one_mul, Nat.zero_mul, splice_one, Nat.mul_one, Int.toNat_natCast, Nat.zero_add]
      refine hag' _ ?_
      simp (maxSteps := 1000000) (disch := first | omega | (simp (disch := first | omega | (simp only [gC_len, Edg.len, ixC_len, wC_len, List.length_append, List.length_cons, List.length_nil, List.length_set]; first | done | omega)) only [gC_len, Edg.len, ixC_len, wC_len, amSide, Int.reduceToNat, Nat.reducePow, Nat.reduceMul]; first | done | omega)) only [↓amPre, amPost, ↓s_lit', Nat.reduceAdd, Nat.reduceSub, List.replicate, retA, resultsA, resultA, toC, toCL, Nat.reduceEqDiff, Int.natCast_add, Int.cast_ofNat_Int, dec_t, dec_f]
end Go.AM
