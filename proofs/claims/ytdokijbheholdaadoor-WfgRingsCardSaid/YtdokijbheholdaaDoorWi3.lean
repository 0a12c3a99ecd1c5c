/- Waiting graphs: the ring, by the code. Conditions: none. -/
import Derived.Test.YtdokijbheholdaaDoorWi2
set_option linter.unusedVariables false
set_option linter.unusedSimpArgs false
set_option maxRecDepth 100000
namespace Go.AM
open Go.Proofs Go.Lib
-- LENS: gC_len, Edg.len, ixC_len, wC_len
/-- The least way back to one of so many, and whose it is. -/
def bst (E : List Nat) : Nat → Nat × Nat
  | 0 => (65, 0)
  | s + 1 => if Dst E s 64 s < (bst E s).1 then (Dst E s 64 s, s) else bst E s
theorem bst_succ (E : List Nat) (s : Nat) : bst E (s + 1) = if Dst E s 64 s < (bst E s).1 then (Dst E s 64 s, s) else bst E s := rfl
theorem bst_le (E : List Nat) : ∀ n, (bst E n).1 ≤ 65 ∧ (bst E n).2 ≤ n ∧ 1 ≤ (bst E n).1 ∧ ((bst E n).1 = 65 ∨ (bst E n).2 < n)
  | 0 => ⟨Nat.le_refl _, Nat.le_refl _, by show 1 ≤ 65; omega, .inl rfl⟩
  | n + 1 => by
    obtain ⟨h1, h2, h3, h4⟩ := bst_le E n
    rw [bst_succ]
    split
    · rename_i h
      have := Dst_le E n n 64
      refine ⟨by simp only; omega, by simp only; omega, ?_, .inr (by simp only; omega)⟩
      simp only
      rcases this with h | h <;> omega
    · exact ⟨h1, by omega, h3, by omega⟩
/-- The ways, of the one that is the least so far. -/
def wayV (E : List Nat) (n : Nat) : Nat → Nat := if (bst E n).1 = 65 then fun _ => 0 else Dst E (bst E n).2 64
def stepP (E : List Nat) (f left k : Nat) : Bool := k != f && Dst E f 64 k == left
/-- The walk back. -/
def gwalk (E : List Nat) (f : Nat) : Nat → Nat → List Nat
  | 0, _ => []
  | m + 1, at_ => match (blF (E.getD at_ 0) f).find? (stepP E f (m + 1)) with
    | some k => k :: gwalk E f m k
    | none => []
def ringV (E : List Nat) : List Nat := if (bst E 64).1 = 65 then [] else (bst E 64).2 :: gwalk E (bst E 64).2 ((bst E 64).1 - 1) (bst E 64).2
theorem find_at {α : Type} {p : α → Bool} : ∀ {l : List α} {i : Nat} {k : α}, l[i]? = some k → (l.take i).any p = false → p k = true → l.find? p = some k
  | [], i, k, h, _, _ => by simp at h
  | a :: l, 0, k, h, _, hp => by
    obtain rfl : a = k := Option.some.inj h
    simp [List.find?, hp]
  | a :: l, i + 1, k, h, ha, hp => by
    rw [List.take_succ_cons, List.any_cons, Bool.or_eq_false_iff] at ha
    simp only [List.find?, ha.1]
    exact find_at (by simpa using h) ha.2 hp
theorem find_no {α : Type} {p : α → Bool} {l : List α} (h : l.any p = false) : l.find? p = none := by
  rw [List.find?_eq_none]
  intro x hx
  rw [List.any_eq_false] at h
  exact h x hx
structure ThR where
  s : Nat
  h : List AO
structure ThK where
  at_ : Nat
  l : List Nat
  q : SV
  h : List AO
set_option maxHeartbeats 16000000 in
theorem s13 {P : Program} {T : Tab} {K d : Nat} (S : Sd P T K) (hd : 4 ≤ d) {E : List Nat} (G : GOk E) (lk : Nat) (h : List AO) (hlk : lk ≤ h.length) (hT : tabB 0 h = true) :
    Ends (fun v h' => Ext1 h h' ∧ ∃ q', v = .v (.sc q') ∧ Rs ixC 1 h' q' (ringV E)) (ev P T K d 13 [.ag (gC E)] lk h) := by
  obtain ⟨d, rfl⟩ : ∃ k, d = k + 1 := ⟨d - 1, by omega⟩
  rw [ev_run (at13 S.t)]
  unfold i13 Tryd.f13
  have hl := gC_len E
  have hl64 := G.len
  obtain ⟨B, hB⟩ : ∃ B, B = h ++ [.rw 33 (gC E)] := ⟨_, rfl⟩
  have hBl : B.length = h.length + 1 := by rw [hB]; simp
  have hB0 : cellsAt B h.length = some (gC E) := by rw [hB]; exact cells_self _ _ _ rfl
  have hxB : Ext1 h B := by rw [hB]; exact (Ext1.refl h).push _
  have hTB : tabB 0 B = true := tabB_ext hT hxB
  have pE := part_self (ag33 S.p) (sz33 S.p) (gC E) (by rw [gC_len]; exact hl64)
  simp (maxSteps := 1000000) (disch := first | omega | (simp (disch := first | omega | (simp only [gC_len, Edg.len, ixC_len, wC_len, List.length_append, List.length_cons, List.length_nil, List.length_set]; first | done | omega)) only [gC_len, Edg.len, ixC_len, wC_len, amSide, Int.reduceToNat, Nat.reducePow, Nat.reduceMul]; first | done | omega)) only  [↓amPre, amPost, ↓s_lit', Nat.reduceAdd, Nat.reduceSub, List.replicate, retA, resultsA, resultA, toC, toCL, Nat.reduceEqDiff, (ze55 S.p), append_at (un35 S.p) (sz3 S.p) (by3 S.p) (ze3 S.p) (by decide) (by decide) rfl, copy_at (un35 S.p) (sz3 S.p) (by3 S.p) (ze3 S.p) (by decide) (by decide) rfl, sl_cells (sz3 S.p), lit_fill (un35 S.p) (sz3 S.p) (ze3 S.p), (fa33_0 S.p), iaddr_ptr (un31 S.p) (sz30 S.p), iaddr_sl (un35 S.p) (sz3 S.p), iaddr_ptr (un55 S.p) (sz3 S.p), len_sl (un35 S.p), len_nils (un35 S.p), part_sc (ag3 S.p), part_sc (ag30 S.p), part_all (ag33 S.p) (sz33 S.p), part_at (ag33 S.p) (sz33 S.p), part_all (ag55 S.p) (sz55 S.p), part_at (ag55 S.p) (sz55 S.p), store_last (sz55 S.p), (sz55 S.p)]
  refine ends_loop (X := ThR) ⟨0, B ++ [.rw 55 (wC (wayV E 0))]⟩ [6, 7, 14, 15, 16, 17, 18, 19, 20, 21, 22, 23, 24, 25, 26, 27, 28, 29]
    (fun x => x.s ≤ 64 ∧ Ext1 B x.h ∧ h.length + 1 < x.h.length ∧ x.h[h.length + 1]? = some (.rw 55 (wC (wayV E x.s)))) (fun x => 64 - x.s)
    (fun x e => ((e.set 3 (.v (.sc (.int .i64 ((bst E x.s).1 : Nat))))).set 4 (.v (.sc (.int .i64 ((bst E x.s).2 : Nat))))).set 13 (.v (.sc (.int .i64 x.s)))) (fun x => x.h)
    (by have := S.k; show _ < K; simp only; omega) ⟨by simp only; omega, (Ext1.refl B).push _, by simp; omega, by rw [List.getElem?_append_right (by omega), hBl]; simp⟩ rfl (by rw [hB]; rfl) ?_
  rintro ⟨s, hj⟩ ⟨hs, hx, hlt, hw⟩ again hag e he
  simp only at hs hx hlt hw hag he
  simp only [↓amPre, amPost, ↓s_lit', Nat.reduceAdd, Nat.reduceSub, List.replicate, retA, resultsA, resultA, toC, toCL, Nat.reduceEqDiff] at he
  simp only [↓amPre, amPost, ↓s_lit', Nat.reduceAdd, Nat.reduceSub, List.replicate, retA, resultsA, resultA, toC, toCL, Nat.reduceEqDiff, he]
  have hle := hx.len
  refine ends_cond (fun hc1 => ?_) (fun hc1 => ?_)
  · simp only [decide_eq_true_eq] at hc1
    have hs64 : s < 64 := by omega
    have hcb : cellsAt hj h.length = some (gC E) := by rw [hx.cells (by omega)]; exact hB0
    have hTj := tabB_ext hTB hx
    have e30 := s30 S (show 3 ≤ d by omega) G hs64 lk hj hTj
    have ws := wC_at (Dst E s 64) hs64
    have cs : cellsAt (hj ++ [AO.rw 55 (wC (Dst E s 64))]) hj.length = some (wC (Dst E s 64)) := cells_self _ _ _ rfl
    have pw := part_self (ag55 S.p) (sz55 S.p) (wC (Dst E s 64)) (wC_len _)
    have hsu := bst_succ E s
    have spw := spA (List.replicate 64 (SV.int .i64 0)) (wC (Dst E s 64)) (by rw [wC_len]; simp)
    by_cases hlss : Dst E s 64 s < (bst E s).1
    · rw [if_pos hlss] at hsu
      have hb65 := (bst_le E s).1
      have hwn : wayV E (s + 1) = Dst E s 64 := by
        unfold wayV
        rw [hsu]
        simp only
        rw [if_neg (by omega)]
      have g1 : (hj ++ [AO.rw 55 (wC (Dst E s 64))])[h.length + 1]? = some (.rw 55 (wC (wayV E s))) := by rw [List.getElem?_append_left hlt]; exact hw
      obtain ⟨k1, k2⟩ := storeH (sz55 S.p) g1 (show lk ≤ h.length + 1 by omega) (wC (Dst E s 64)) (wC_len _) (wC_len _)
      have hh := hag ⟨s + 1, (hj ++ [AO.rw 55 (wC (Dst E s 64))]).set (h.length + 1) (.rw 55 (wC (Dst E s 64)))⟩ ⟨by simp only; omega, (hx.push _).set (by omega) _, by simp; omega, by
        simp only; rw [hwn]; exact List.getElem?_set_self (by simp; omega)⟩ (by simp only; omega)
      simp only [hsu] at hh
      simp (maxSteps := 1000000) (disch := first | omega | (simp (disch := first | omega | (simp only [gC_len, Edg.len, ixC_len, wC_len, List.length_append, List.length_cons, List.length_nil, List.length_set]; first | done | omega)) only [gC_len, Edg.len, ixC_len, wC_len, amSide, Int.reduceToNat, Nat.reducePow, Nat.reduceMul]; first | done | omega)) only  [↓amPre, amPost, ↓s_lit', Nat.reduceAdd, Nat.reduceSub, List.replicate, retA, resultsA, resultA, toC, toCL, Nat.reduceEqDiff, he, (ze55 S.p), append_at (un35 S.p) (sz3 S.p) (by3 S.p) (ze3 S.p) (by decide) (by decide) rfl, copy_at (un35 S.p) (sz3 S.p) (by3 S.p) (ze3 S.p) (by decide) (by decide) rfl, sl_cells (sz3 S.p), lit_fill (un35 S.p) (sz3 S.p) (ze3 S.p), (fa33_0 S.p), iaddr_ptr (un31 S.p) (sz30 S.p), iaddr_sl (un35 S.p) (sz3 S.p), iaddr_ptr (un55 S.p) (sz3 S.p), len_sl (un35 S.p), len_nils (un35 S.p), part_sc (ag3 S.p), part_sc (ag30 S.p), part_all (ag33 S.p) (sz33 S.p), part_at (ag33 S.p) (sz33 S.p), part_all (ag55 S.p) (sz55 S.p), part_at (ag55 S.p) (sz55 S.p), store_last (sz55 S.p), (sz55 S.p), hcb, pE, e30, ws, cs, pw, k1, idx_ok, dec_t, Nat.mul_one, Int.toNat_natCast, Nat.zero_add, wrap_i64]
      refine hh _ ?_
      simp (maxSteps := 1000000) (disch := first | omega | (simp (disch := first | omega | (simp only [gC_len, Edg.len, ixC_len, wC_len, List.length_append, List.length_cons, List.length_nil, List.length_set]; first | done | omega)) only [gC_len, Edg.len, ixC_len, wC_len, amSide, Int.reduceToNat, Nat.reducePow, Nat.reduceMul]; first | done | omega)) only [↓amPre, amPost, ↓s_lit', Nat.reduceAdd, Nat.reduceSub, List.replicate, retA, resultsA, resultA, toC, toCL, Nat.reduceEqDiff, Int.natCast_add, Int.cast_ofNat_Int, dec_t, dec_f]
    · rw [if_neg hlss] at hsu
      have hwn : wayV E (s + 1) = wayV E s := by unfold wayV; rw [hsu]
      have hh := hag ⟨s + 1, hj ++ [AO.rw 55 (wC (Dst E s 64))]⟩ ⟨by simp only; omega, hx.push _, by simp; omega, by
        simp only; rw [hwn, List.getElem?_append_left hlt]; exact hw⟩ (by simp only; omega)
      simp only [hsu] at hh
      simp (maxSteps := 1000000) (disch := first | omega | (simp (disch := first | omega | (simp only [gC_len, Edg.len, ixC_len, wC_len, List.length_append, List.length_cons, List.length_nil, List.length_set]; first | done | omega)) only [gC_len, Edg.len, ixC_len, wC_len, amSide, Int.reduceToNat, Nat.reducePow, Nat.reduceMul]; first | done | omega)) only  [↓amPre, amPost, ↓s_lit', Nat.reduceAdd, Nat.reduceSub, List.replicate, retA, resultsA, resultA, toC, toCL, Nat.reduceEqDiff, he, (ze55 S.p), append_at (un35 S.p) (sz3 S.p) (by3 S.p) (ze3 S.p) (by decide) (by decide) rfl, copy_at (un35 S.p) (sz3 S.p) (by3 S.p) (ze3 S.p) (by decide) (by decide) rfl, sl_cells (sz3 S.p), lit_fill (un35 S.p) (sz3 S.p) (ze3 S.p), (fa33_0 S.p), iaddr_ptr (un31 S.p) (sz30 S.p), iaddr_sl (un35 S.p) (sz3 S.p), iaddr_ptr (un55 S.p) (sz3 S.p), len_sl (un35 S.p), len_nils (un35 S.p), part_sc (ag3 S.p), part_sc (ag30 S.p), part_all (ag33 S.p) (sz33 S.p), part_at (ag33 S.p) (sz33 S.p), part_all (ag55 S.p) (sz55 S.p), part_at (ag55 S.p) (sz55 S.p), store_last (sz55 S.p), (sz55 S.p), hcb, pE, e30, ws, cs, pw, idx_ok, dec_f, Nat.mul_one, Int.toNat_natCast, Nat.zero_add, wrap_i64]
      refine hh _ ?_
      simp (maxSteps := 1000000) (disch := first | omega | (simp (disch := first | omega | (simp only [gC_len, Edg.len, ixC_len, wC_len, List.length_append, List.length_cons, List.length_nil, List.length_set]; first | done | omega)) only [gC_len, Edg.len, ixC_len, wC_len, amSide, Int.reduceToNat, Nat.reducePow, Nat.reduceMul]; first | done | omega)) only [↓amPre, amPost, ↓s_lit', Nat.reduceAdd, Nat.reduceSub, List.replicate, retA, resultsA, resultA, toC, toCL, Nat.reduceEqDiff, Int.natCast_add, Int.cast_ofNat_Int, dec_t, dec_f]
  · simp only [decide_eq_false_iff_not] at hc1
    obtain rfl : s = 64 := by omega
    clear hag
    obtain ⟨b1, b2, b3, b4⟩ := bst_le E 64
    unfold ringV
    unfold wayV at hw
    generalize bst E 64 = bf at *
    obtain ⟨best, f⟩ := bf
    simp only at b1 b2 b3 b4 hw he ⊢
    by_cases h65 : best = 65
    · subst h65
      simp (maxSteps := 1000000) (disch := first | omega | (simp (disch := first | omega | (simp only [gC_len, Edg.len, ixC_len, wC_len, List.length_append, List.length_cons, List.length_nil, List.length_set]; first | done | omega)) only [gC_len, Edg.len, ixC_len, wC_len, amSide, Int.reduceToNat, Nat.reducePow, Nat.reduceMul]; first | done | omega)) only  [↓amPre, amPost, ↓s_lit', Nat.reduceAdd, Nat.reduceSub, List.replicate, retA, resultsA, resultA, toC, toCL, Nat.reduceEqDiff, he, (ze55 S.p), append_at (un35 S.p) (sz3 S.p) (by3 S.p) (ze3 S.p) (by decide) (by decide) rfl, copy_at (un35 S.p) (sz3 S.p) (by3 S.p) (ze3 S.p) (by decide) (by decide) rfl, sl_cells (sz3 S.p), lit_fill (un35 S.p) (sz3 S.p) (ze3 S.p), (fa33_0 S.p), iaddr_ptr (un31 S.p) (sz30 S.p), iaddr_sl (un35 S.p) (sz3 S.p), iaddr_ptr (un55 S.p) (sz3 S.p), len_sl (un35 S.p), len_nils (un35 S.p), part_sc (ag3 S.p), part_sc (ag30 S.p), part_all (ag33 S.p) (sz33 S.p), part_at (ag33 S.p) (sz33 S.p), part_all (ag55 S.p) (sz55 S.p), part_at (ag55 S.p) (sz55 S.p), store_last (sz55 S.p), (sz55 S.p), beqI_t, beq_self_eq_true]
      exact Ends.some ⟨hxB.trans hx, _, rfl, .inl ⟨rfl, rfl⟩⟩
    · rw [if_neg h65]
      rw [if_neg h65] at hw
      have hf : f < 64 := by omega
      have hwf : wC (Dst E f 64) = wC (Dst E f 64) := rfl
      simp (maxSteps := 1000000) (disch := first | omega | (simp (disch := first | omega | (simp only [gC_len, Edg.len, ixC_len, wC_len, List.length_append, List.length_cons, List.length_nil, List.length_set]; first | done | omega)) only [gC_len, Edg.len, ixC_len, wC_len, amSide, Int.reduceToNat, Nat.reducePow, Nat.reduceMul]; first | done | omega)) only  [↓amPre, amPost, ↓s_lit', Nat.reduceAdd, Nat.reduceSub, List.replicate, retA, resultsA, resultA, toC, toCL, Nat.reduceEqDiff, he, (ze55 S.p), append_at (un35 S.p) (sz3 S.p) (by3 S.p) (ze3 S.p) (by decide) (by decide) rfl, copy_at (un35 S.p) (sz3 S.p) (by3 S.p) (ze3 S.p) (by decide) (by decide) rfl, sl_cells (sz3 S.p), lit_fill (un35 S.p) (sz3 S.p) (ze3 S.p), (fa33_0 S.p), iaddr_ptr (un31 S.p) (sz30 S.p), iaddr_sl (un35 S.p) (sz3 S.p), iaddr_ptr (un55 S.p) (sz3 S.p), len_sl (un35 S.p), len_nils (un35 S.p), part_sc (ag3 S.p), part_sc (ag30 S.p), part_all (ag33 S.p) (sz33 S.p), part_at (ag33 S.p) (sz33 S.p), part_all (ag55 S.p) (sz55 S.p), part_at (ag55 S.p) (sz55 S.p), store_last (sz55 S.p), (sz55 S.p), beqI_f, List.flatten_cons, List.flatten_nil, List.append_nil, Nat.one_mul, Nat.zero_mul, splice_one, Nat.zero_add]
      refine ends_loop (X := ThK) ⟨f, [f], .sl hj.length 0 1 1, hj ++ [.rw 3 [.int .i64 (f : Nat)]]⟩ [10, 12, 35, 36, 37, 38, 39, 40, 41, 42, 43, 44, 45, 46, 47, 48, 49, 50, 51, 52, 53, 54, 55, 56, 57, 58, 59, 60, 61, 62, 63, 64, 65, 66, 67, 68, 69, 70, 71, 72]
        (fun x => x.at_ < 64 ∧ 1 ≤ x.l.length ∧ x.l.length ≤ best ∧ Ext1 hj x.h ∧ Own 3 1 hj.length x.h x.q (recs ixC x.l) ∧ f :: gwalk E f (best - 1) f = x.l ++ gwalk E f (best - x.l.length) x.at_) (fun x => best - x.l.length)
        (fun x e => (e.set 8 (.v (.sc x.q))).set 9 (.v (.sc (.int .i64 (x.at_ : Nat))))) (fun x => x.h)
        (by have := S.k; show _ < K; simp only [List.length_singleton]; omega) ⟨hf, by simp, by simp only [List.length_singleton]; omega, (Ext1.refl hj).push _, .inr ⟨hj.length, Nat.le_refl _, by simp, by simp [recs, ixC], by simp [recs, ixC], by simp [recs, ixC]⟩, rfl⟩ rfl rfl ?_
      clear he
      rintro ⟨at_, l, q, hk⟩ ⟨hat, hl1, hlb, hxk, hown, hring⟩ again hag e he
      simp only at hat hl1 hlb hxk hown hring hag he
      simp only [↓amPre, amPost, ↓s_lit', Nat.reduceAdd, Nat.reduceSub, List.replicate, retA, resultsA, resultA, toC, toCL, Nat.reduceEqDiff] at he
      have hrs := hown.rs (by omega) ixC_len
      have hlen := hrs.len (un35 S.p)
      have hlek := hxk.len
      by_cases hlt2 : l.length < best
      · obtain ⟨m, hm⟩ : ∃ m, best - l.length = m + 1 := ⟨best - l.length - 1, by omega⟩
        have hm2 : ((best : Int) - (l.length : Int)) = ((m + 1 : Nat) : Int) := by omega
        have hgn := gC_at (E := E) (i := at_) (by omega)
        have hxb := (hx.trans hxk)
        have hcb : cellsAt hk h.length = some (gC E) := by rw [hxb.cells (by omega)]; exact hB0
        have hTj := tabB_ext hTB hxb
        have sr := shr_nat (E.getD at_ 0) f (by omega)
        have hd0 : E.getD at_ 0 / 2 ^ f * 2 ^ f % 18446744073709551616 < 18446744073709551616 := Nat.mod_lt _ (by decide)
        have sl := shl_nat (E.getD at_ 0 / 2 ^ f) f (by omega)
        obtain ⟨v1, h1, e1, hx1, q', rfl, hown2⟩ := s23 S (show 2 ≤ d by omega) hd0 lk hk (by omega) hTj
        rw [blF_eq (G.lt at_)] at hown2
        have hrs2 := hown2.rs (by omega) ixC_len
        have hlen2 := hrs2.len (un35 S.p)
        have hxh1 := hxk.trans hx1
        have cw : cellsAt h1 (h.length + 1) = some (wC (Dst E f 64)) := by rw [hxh1.cells hlt]; unfold cellsAt; rw [hw]
        have hL64 : (blF (E.getD at_ 0) f).length ≤ 64 := Nat.le_trans (List.length_filter_le _ _) (bl_len _)
        have hLk : ∀ k ∈ blF (E.getD at_ 0) f, k < 64 := fun k hk => ((bl_mem _ _).1 (List.mem_filter.1 hk).1).1
        have hg1 : gwalk E f (best - l.length) at_ = match (blF (E.getD at_ 0) f).find? (stepP E f (m + 1)) with | some k => k :: gwalk E f m k | none => [] := by rw [hm]; rfl
        have hl1e := hx1.len
        generalize hL : blF (E.getD at_ 0) f = L at *
        simp (maxSteps := 1000000) (disch := first | omega | (simp (disch := first | omega | (simp only [gC_len, Edg.len, ixC_len, wC_len, List.length_append, List.length_cons, List.length_nil, List.length_set]; first | done | omega)) only [gC_len, Edg.len, ixC_len, wC_len, amSide, Int.reduceToNat, Nat.reducePow, Nat.reduceMul]; first | done | omega)) only  [↓amPre, amPost, ↓s_lit', Nat.reduceAdd, Nat.reduceSub, List.replicate, retA, resultsA, resultA, toC, toCL, Nat.reduceEqDiff, he, (ze55 S.p), append_at (un35 S.p) (sz3 S.p) (by3 S.p) (ze3 S.p) (by decide) (by decide) rfl, copy_at (un35 S.p) (sz3 S.p) (by3 S.p) (ze3 S.p) (by decide) (by decide) rfl, sl_cells (sz3 S.p), lit_fill (un35 S.p) (sz3 S.p) (ze3 S.p), (fa33_0 S.p), iaddr_ptr (un31 S.p) (sz30 S.p), iaddr_sl (un35 S.p) (sz3 S.p), iaddr_ptr (un55 S.p) (sz3 S.p), len_sl (un35 S.p), len_nils (un35 S.p), part_sc (ag3 S.p), part_sc (ag30 S.p), part_all (ag33 S.p) (sz33 S.p), part_at (ag33 S.p) (sz33 S.p), part_all (ag55 S.p) (sz55 S.p), part_at (ag55 S.p) (sz55 S.p), store_last (sz55 S.p), (sz55 S.p), hlen, hm2, idx_ok, hcb, hgn, sr, sl, e1, hlen2, dec_t, Nat.mul_one, Int.toNat_natCast, Nat.zero_add, wrap_i64]
        clear hcb hTj sr sl hd0 hgn e1
        refine ends_loop (X := ThN) ⟨0⟩ [9, 12, 54, 55, 56, 57, 58, 59, 60, 61, 62, 63, 64, 65, 66, 67, 68, 69, 70, 71, 72] (fun x => x.i ≤ L.length ∧ (L.take x.i).any (stepP E f (m + 1)) = false) (fun x => L.length - x.i)
          (fun x e => e.set 53 (.v (.sc (.int .i64 x.i)))) (fun x => h1)
          (by have := S.k; show _ < K; simp only; omega) ⟨by simp only; omega, rfl⟩ rfl rfl ?_
        clear he
        rintro ⟨i⟩ ⟨hi, hno⟩ again3 hag3 e3 he3
        simp only at hi hno hag3 he3
        simp only [↓amPre, amPost, ↓s_lit', Nat.reduceAdd, Nat.reduceSub, List.replicate, retA, resultsA, resultA, toC, toCL, Nat.reduceEqDiff] at he3
        simp only [↓amPre, amPost, ↓s_lit', Nat.reduceAdd, Nat.reduceSub, List.replicate, retA, resultsA, resultA, toC, toCL, Nat.reduceEqDiff, he3]
        refine ends_cond (fun hc3 => ?_) (fun hc3 => ?_)
        · simp only [decide_eq_true_eq] at hc3
          obtain ⟨b, rfl, hb, hc⟩ := hrs2.at (by omega)
          obtain ⟨k, hki⟩ : ∃ k, L[i]? = some k := ⟨_, List.getElem?_eq_getElem (by omega)⟩
          have hk64 := hLk k (List.mem_of_getElem? hki)
          have gk := recs_get0 ixC_len hki (by omega)
          rw [Nat.mul_one, show (ixC k)[0]? = some (.int .i64 (k : Nat)) from rfl] at gk
          have wk := wC_at (Dst E f 64) hk64
          cases hp : stepP E f (m + 1) k with
          | true =>
            have hp' := hp
            unfold stepP at hp'
            simp only [Bool.and_eq_true, bne_iff_ne, ne_eq, beq_iff_eq] at hp'
            obtain ⟨p1, p2⟩ := hp'
            have hfind := find_at hki hno hp
            rw [hfind] at hg1
            obtain ⟨q2, h2, happ, hown3, hl2, _, hx2, _⟩ := grow_own (b := 8) (lk := lk) ((hown.ext hx1).push (.rw 3 [.int .i64 (k : Nat)])) [.int .i64 (k : Nat)] (by omega) (by simp) (by simp) (by omega) (by simp; omega) (by rw [recs_len ixC_len]; simp; omega)
            have hx3 := hx2 hj (hxh1.push _) (Nat.le_refl _)
            have hcs : ([.int .i64 (k : Nat)] : List SV) = ixC k := rfl
            rw [hcs, recs_snoc] at hown3
            clear hx2 hown hown2
            simp (maxSteps := 1000000) (disch := first | omega | (simp (disch := first | omega | (simp only [gC_len, Edg.len, ixC_len, wC_len, List.length_append, List.length_cons, List.length_nil, List.length_set]; first | done | omega)) only [gC_len, Edg.len, ixC_len, wC_len, amSide, Int.reduceToNat, Nat.reducePow, Nat.reduceMul]; first | done | omega)) only  [↓amPre, amPost, ↓s_lit', Nat.reduceAdd, Nat.reduceSub, List.replicate, retA, resultsA, resultA, toC, toCL, Nat.reduceEqDiff, he3, (ze55 S.p), append_at (un35 S.p) (sz3 S.p) (by3 S.p) (ze3 S.p) (by decide) (by decide) rfl, copy_at (un35 S.p) (sz3 S.p) (by3 S.p) (ze3 S.p) (by decide) (by decide) rfl, sl_cells (sz3 S.p), lit_fill (un35 S.p) (sz3 S.p) (ze3 S.p), (fa33_0 S.p), iaddr_ptr (un31 S.p) (sz30 S.p), iaddr_sl (un35 S.p) (sz3 S.p), iaddr_ptr (un55 S.p) (sz3 S.p), len_sl (un35 S.p), len_nils (un35 S.p), part_sc (ag3 S.p), part_sc (ag30 S.p), part_all (ag33 S.p) (sz33 S.p), part_at (ag33 S.p) (sz33 S.p), part_all (ag55 S.p) (sz55 S.p), part_at (ag55 S.p) (sz55 S.p), store_last (sz55 S.p), (sz55 S.p), idx_ok, hc, gk, cw, wk, happ, beqI_t, bneI_t, cells_self, List.flatten_cons, List.flatten_nil, List.append_nil, Nat.one_mul, Nat.zero_mul, splice_one, Nat.mul_one, Int.toNat_natCast, Nat.zero_add]
            refine hag ⟨k, l ++ [k], q2, h2⟩ ⟨hk64, by simp, by simp; omega, hx3, hown3, ?_⟩ (by simp; omega) _ ?_
            · simp only [List.length_append, List.length_singleton]
              rw [hring, hg1, List.append_assoc, show best - (l.length + 1) = m by omega]; rfl
            · simp (maxSteps := 1000000) (disch := first | omega | (simp (disch := first | omega | (simp only [gC_len, Edg.len, ixC_len, wC_len, List.length_append, List.length_cons, List.length_nil, List.length_set]; first | done | omega)) only [gC_len, Edg.len, ixC_len, wC_len, amSide, Int.reduceToNat, Nat.reducePow, Nat.reduceMul]; first | done | omega)) only [↓amPre, amPost, ↓s_lit', Nat.reduceAdd, Nat.reduceSub, List.replicate, retA, resultsA, resultA, toC, toCL, Nat.reduceEqDiff, Int.natCast_add, Int.cast_ofNat_Int, dec_t, dec_f]
          | false =>
            have hsn : (L.take (i + 1)).any (stepP E f (m + 1)) = false := by
              rw [List.take_add_one, hki, List.any_append, hno]; simp [hp]
            unfold stepP at hp
            clear hown hown2
            by_cases p1 : k = f
            · simp (maxSteps := 1000000) (disch := first | omega | (simp (disch := first | omega | (simp only [gC_len, Edg.len, ixC_len, wC_len, List.length_append, List.length_cons, List.length_nil, List.length_set]; first | done | omega)) only [gC_len, Edg.len, ixC_len, wC_len, amSide, Int.reduceToNat, Nat.reducePow, Nat.reduceMul]; first | done | omega)) only  [↓amPre, amPost, ↓s_lit', Nat.reduceAdd, Nat.reduceSub, List.replicate, retA, resultsA, resultA, toC, toCL, Nat.reduceEqDiff, he3, (ze55 S.p), append_at (un35 S.p) (sz3 S.p) (by3 S.p) (ze3 S.p) (by decide) (by decide) rfl, copy_at (un35 S.p) (sz3 S.p) (by3 S.p) (ze3 S.p) (by decide) (by decide) rfl, sl_cells (sz3 S.p), lit_fill (un35 S.p) (sz3 S.p) (ze3 S.p), (fa33_0 S.p), iaddr_ptr (un31 S.p) (sz30 S.p), iaddr_sl (un35 S.p) (sz3 S.p), iaddr_ptr (un55 S.p) (sz3 S.p), len_sl (un35 S.p), len_nils (un35 S.p), part_sc (ag3 S.p), part_sc (ag30 S.p), part_all (ag33 S.p) (sz33 S.p), part_at (ag33 S.p) (sz33 S.p), part_all (ag55 S.p) (sz55 S.p), part_at (ag55 S.p) (sz55 S.p), store_last (sz55 S.p), (sz55 S.p), idx_ok, hc, gk, cw, wk, beqI_f, bneI_f, Nat.mul_one, Int.toNat_natCast, Nat.zero_add, wrap_i64]
              refine hag3 ⟨i + 1⟩ ⟨by simp only; omega, hsn⟩ (by simp only; omega) _ ?_
              simp (maxSteps := 1000000) (disch := first | omega | (simp (disch := first | omega | (simp only [gC_len, Edg.len, ixC_len, wC_len, List.length_append, List.length_cons, List.length_nil, List.length_set]; first | done | omega)) only [gC_len, Edg.len, ixC_len, wC_len, amSide, Int.reduceToNat, Nat.reducePow, Nat.reduceMul]; first | done | omega)) only [↓amPre, amPost, ↓s_lit', Nat.reduceAdd, Nat.reduceSub, List.replicate, retA, resultsA, resultA, toC, toCL, Nat.reduceEqDiff, Int.natCast_add, Int.cast_ofNat_Int, dec_t, dec_f]
            · have p2 : ¬ Dst E f 64 k = m + 1 := by
                intro z
                rw [z] at hp
                simp [p1] at hp
              simp (maxSteps := 1000000) (disch := first | omega | (simp (disch := first | omega | (simp only [gC_len, Edg.len, ixC_len, wC_len, List.length_append, List.length_cons, List.length_nil, List.length_set]; first | done | omega)) only [gC_len, Edg.len, ixC_len, wC_len, amSide, Int.reduceToNat, Nat.reducePow, Nat.reduceMul]; first | done | omega)) only  [↓amPre, amPost, ↓s_lit', Nat.reduceAdd, Nat.reduceSub, List.replicate, retA, resultsA, resultA, toC, toCL, Nat.reduceEqDiff, he3, (ze55 S.p), append_at (un35 S.p) (sz3 S.p) (by3 S.p) (ze3 S.p) (by decide) (by decide) rfl, copy_at (un35 S.p) (sz3 S.p) (by3 S.p) (ze3 S.p) (by decide) (by decide) rfl, sl_cells (sz3 S.p), lit_fill (un35 S.p) (sz3 S.p) (ze3 S.p), (fa33_0 S.p), iaddr_ptr (un31 S.p) (sz30 S.p), iaddr_sl (un35 S.p) (sz3 S.p), iaddr_ptr (un55 S.p) (sz3 S.p), len_sl (un35 S.p), len_nils (un35 S.p), part_sc (ag3 S.p), part_sc (ag30 S.p), part_all (ag33 S.p) (sz33 S.p), part_at (ag33 S.p) (sz33 S.p), part_all (ag55 S.p) (sz55 S.p), part_at (ag55 S.p) (sz55 S.p), store_last (sz55 S.p), (sz55 S.p), idx_ok, hc, gk, cw, wk, beqI_f, bneI_t, Nat.mul_one, Int.toNat_natCast, Nat.zero_add, wrap_i64]
              refine hag3 ⟨i + 1⟩ ⟨by simp only; omega, hsn⟩ (by simp only; omega) _ ?_
              simp (maxSteps := 1000000) (disch := first | omega | (simp (disch := first | omega | (simp only [gC_len, Edg.len, ixC_len, wC_len, List.length_append, List.length_cons, List.length_nil, List.length_set]; first | done | omega)) only [gC_len, Edg.len, ixC_len, wC_len, amSide, Int.reduceToNat, Nat.reducePow, Nat.reduceMul]; first | done | omega)) only [↓amPre, amPost, ↓s_lit', Nat.reduceAdd, Nat.reduceSub, List.replicate, retA, resultsA, resultA, toC, toCL, Nat.reduceEqDiff, Int.natCast_add, Int.cast_ofNat_Int, dec_t, dec_f]
        · simp only [decide_eq_false_iff_not] at hc3
          obtain rfl : i = L.length := by omega
          clear hag3
          rw [List.take_length] at hno
          rw [find_no hno] at hg1
          rw [hg1, List.append_nil] at hring
          simp (maxSteps := 1000000) (disch := first | omega | (simp (disch := first | omega | (simp only [gC_len, Edg.len, ixC_len, wC_len, List.length_append, List.length_cons, List.length_nil, List.length_set]; first | done | omega)) only [gC_len, Edg.len, ixC_len, wC_len, amSide, Int.reduceToNat, Nat.reducePow, Nat.reduceMul]; first | done | omega)) only  [↓amPre, amPost, ↓s_lit', Nat.reduceAdd, Nat.reduceSub, List.replicate, retA, resultsA, resultA, toC, toCL, Nat.reduceEqDiff, he3, (ze55 S.p), append_at (un35 S.p) (sz3 S.p) (by3 S.p) (ze3 S.p) (by decide) (by decide) rfl, copy_at (un35 S.p) (sz3 S.p) (by3 S.p) (ze3 S.p) (by decide) (by decide) rfl, sl_cells (sz3 S.p), lit_fill (un35 S.p) (sz3 S.p) (ze3 S.p), (fa33_0 S.p), iaddr_ptr (un31 S.p) (sz30 S.p), iaddr_sl (un35 S.p) (sz3 S.p), iaddr_ptr (un55 S.p) (sz3 S.p), len_sl (un35 S.p), len_nils (un35 S.p), part_sc (ag3 S.p), part_sc (ag30 S.p), part_all (ag33 S.p) (sz33 S.p), part_at (ag33 S.p) (sz33 S.p), part_all (ag55 S.p) (sz55 S.p), part_at (ag55 S.p) (sz55 S.p), store_last (sz55 S.p), (sz55 S.p)]
          refine Ends.some ⟨(hxB.trans hx).trans hxh1, _, rfl, ?_⟩
          rw [hring]
          exact hrs.ext hx1
      · have hle0 : best - l.length = 0 := by omega
        rw [hle0] at hring
        have hring' : f :: gwalk E f (best - 1) f = l := by rw [hring]; simp [gwalk]
        simp (maxSteps := 1000000) (disch := first | omega | (simp (disch := first | omega | (simp only [gC_len, Edg.len, ixC_len, wC_len, List.length_append, List.length_cons, List.length_nil, List.length_set]; first | done | omega)) only [gC_len, Edg.len, ixC_len, wC_len, amSide, Int.reduceToNat, Nat.reducePow, Nat.reduceMul]; first | done | omega)) only  [↓amPre, amPost, ↓s_lit', Nat.reduceAdd, Nat.reduceSub, List.replicate, retA, resultsA, resultA, toC, toCL, Nat.reduceEqDiff, he, (ze55 S.p), append_at (un35 S.p) (sz3 S.p) (by3 S.p) (ze3 S.p) (by decide) (by decide) rfl, copy_at (un35 S.p) (sz3 S.p) (by3 S.p) (ze3 S.p) (by decide) (by decide) rfl, sl_cells (sz3 S.p), lit_fill (un35 S.p) (sz3 S.p) (ze3 S.p), (fa33_0 S.p), iaddr_ptr (un31 S.p) (sz30 S.p), iaddr_sl (un35 S.p) (sz3 S.p), iaddr_ptr (un55 S.p) (sz3 S.p), len_sl (un35 S.p), len_nils (un35 S.p), part_sc (ag3 S.p), part_sc (ag30 S.p), part_all (ag33 S.p) (sz33 S.p), part_at (ag33 S.p) (sz33 S.p), part_all (ag55 S.p) (sz55 S.p), part_at (ag55 S.p) (sz55 S.p), store_last (sz55 S.p), (sz55 S.p), hlen, dec_f]
        refine Ends.some ⟨(hxB.trans hx).trans hxk, _, rfl, ?_⟩
        rw [hring']
        exact hrs
end Go.AM
