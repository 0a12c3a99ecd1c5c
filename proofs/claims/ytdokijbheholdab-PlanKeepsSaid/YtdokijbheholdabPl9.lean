/- Plans: a revocation by policy, of the document. Conditions: none. -/
import Derived.Test.YtdokijbheholdabPl8
set_option linter.unusedVariables false
set_option linter.unusedSimpArgs false
set_option maxRecDepth 100000
namespace Go.AM
open Go.Proofs
-- LENS: Hdr.len, Hdr.fr, Obj.len, chg_len, chg_fr, ObjV.len, Kls.len, Chg.len
theorem take_kind (k : Int) (w : Nat) : (takeH k w).kind = k := by
  unfold takeH
  split
  · rename_i h; exact h.symm
  · split
    · rename_i h; exact h.symm
    · split
      · rename_i h; exact h.symm
      · split
        · rename_i h; exact h.symm
        · rfl
theorem bi_mod {w : Nat} (hb : biW w = true) : w % 8 = 5 := by
  obtain ⟨hr, hk, _⟩ := bi_facts hb
  have h1 : (rdH w).kind = kindW w := by
    unfold rdH; rw [if_pos hr]; exact take_kind _ _
  rw [h1] at hk
  unfold kindW at hk
  split at hk
  · split at hk <;> cases hk
  · split at hk
    · cases hk
    · split at hk
      · cases hk
      · split at hk
        · assumption
        · cases hk
theorem kind4_bi {w : Nat} (h : (rdH w).kind = 4) : biW w = true := by
  unfold biW
  cases hr : rdOk w with
  | true => simp [h]
  | false => simp [rdH, hr, zeroH] at h
theorem bi_kind4 {w : Nat} (h : biW w = true) : (rdH w).kind = 4 := (bi_facts h).2.1
/-- What one change writes is another word. -/
theorem one_ne {j : Nat} {z : ObjV} (hj : oneOk j z.w = true) : (oneV j z).w ≠ z.w ∧ (oneV j z).o = (j : Int) := by
  have hb : biW z.w = true := by unfold oneOk at hj; simp only [Bool.and_eq_true] at hj; exact hj.1
  have hm := bi_mod hb
  unfold oneV
  rw [if_pos hj]
  split
  · refine ⟨?_, rfl⟩
    simp only [thinW]; omega
  · refine ⟨?_, rfl⟩
    simp only [neuW]; omega
theorem addC_one {os : List ObjV} {j : Nat} {z : ObjV} (hz : os[j]? = some z) (chs : List Chg) : addC os chs (oneV j z) (oneOk j z.w) = if oneOk j z.w = true then chs ++ [oneV j z] else chs := by
  unfold addC
  cases hj : oneOk j z.w with
  | false => simp
  | true =>
    obtain ⟨h1, h2⟩ := one_ne hj
    rw [if_pos ⟨rfl, by rw [h2, Int.toNat_natCast, wordAt_eq hz]; exact h1⟩, if_pos rfl]
theorem stepF_eq {os : List ObjV} {j : Nat} {z : ObjV} (hz : os[j]? = some z) (o k : Int) (c : Kls) (chs : List Chg) :
    stepF os o k c chs j z = if (j : Int) ≠ o ∧ z.k = k ∧ frO z = true ∧ frW z.w c ≠ z.w then chs ++ [⟨j, frW z.w c, -1, 0⟩] else chs := by
  unfold stepF
  by_cases h : (j : Int) ≠ o ∧ z.k = k ∧ (rdH z.w).kind = 4 ∧ hasC z.cnt (ownW z.w) = true
  · have hb := kind4_bi h.2.2.1
    have hf : frO z = true := by unfold frO; rw [hb, h.2.2.2]; rfl
    rw [if_pos h]
    unfold addC
    rw [hb]
    simp only [Int.toNat_natCast, wordAt_eq hz, true_and]
    by_cases hw : frW z.w c = z.w
    · rw [if_neg (by simp [hw]), if_neg (fun q => q.2.2.2 hw)]
    · rw [if_pos hw, if_pos ⟨h.1, h.2.1, hf, hw⟩]
  · rw [if_neg h, if_neg]
    intro q
    unfold frO at q
    simp only [Bool.and_eq_true] at q
    exact h ⟨q.1, q.2.1, bi_kind4 q.2.2.1.1, q.2.2.1.2⟩
/-- The heap while it is revoked. -/
structure RrInv (h hh : List AO) (qo : SV) (c : Kls) (chs : List Chg) : Prop where
  x : Ext1 h hh
  p10 : hh[h.length]? = some (.rw 86 [.int .i64 0, .nils, .nils, .int .i64 0])
  p13 : hh[h.length + 1]? = some (.rw 47 c.cells)
  own : Own 68 4 (h.length + 2) hh qo (recs Chg.cells chs)
  len : h.length + 2 ≤ hh.length
theorem RrInv.push {h hh : List AO} {qo : SV} {c : Kls} {chs : List Chg} (H : RrInv h hh qo c chs) (o : AO) : RrInv h (hh ++ [o]) qo c chs := by
  have hl := H.len
  refine ⟨H.x.push o, ?_, ?_, H.own.push o, by simp; omega⟩
  all_goals rw [List.getElem?_append_left (by omega)]
  · exact H.p10
  · exact H.p13
theorem RrInv.grow {h hh : List AO} {qo : SV} {c : Kls} {chs : List Chg} (H : RrInv h hh qo c chs) (y : Chg) (lk : Nat) (hlk : lk ≤ h.length) (hn : chs.length ≤ 1000) :
    ∃ q2 h2, (∀ k, appB 68 4 32 lk hh (.v (.sc qo)) (some y.cells) k = k (.v (.sc q2)) h2) ∧ RrInv h h2 q2 c (chs ++ [y]) := by
  have hl := H.len
  obtain ⟨q2, h2, happ, hown, hl2, hg2, hx2, _⟩ := grow_own (b := 32) (lk := lk) H.own y.cells (by omega) (by rw [Chg.len]; omega) (by rw [Chg.len]) (by omega) (by omega) (by rw [recs_len Chg.len, Chg.len]; omega)
  refine ⟨q2, h2, happ, hx2 h H.x (by omega), ?_, ?_, by rw [← recs_snoc]; exact hown, by omega⟩
  all_goals rw [hg2 _ (by omega)]
  · exact H.p10
  · exact H.p13
def lp2 (os : List ObjV) (i k : Nat) (x : ObjV) (W : Int) (chs1 : List Chg) (n : Nat) : List Chg :=
  if W = 2 then lpN os k n else if n ≤ i then chs1 else addC os chs1 (oneV i x) (oneOk i x.w)
theorem lp2_step {os : List ObjV} {i k j : Nat} {x z : ObjV} {W : Int} {chs1 : List Chg} (hx : os[i]? = some x) (hxk : x.k = (k : Int)) (hz : os[j]? = some z) :
    lp2 os i k x W chs1 (j + 1) = if oneOk j z.w = true ∧ z.k = (k : Int) ∧ (j = i ∨ W = 2) then lp2 os i k x W chs1 j ++ [oneV j z] else lp2 os i k x W chs1 j := by
  unfold lp2
  by_cases hW : W = 2
  · rw [if_pos hW, if_pos hW, lpN_step _ hz]
    unfold stepN
    rw [addC_one hz]
    by_cases h1 : z.k = (k : Int)
    · rw [if_pos h1]
      by_cases h2 : oneOk j z.w = true
      · rw [if_pos h2, if_pos ⟨h2, h1, .inr hW⟩]
      · rw [if_neg h2, if_neg (fun q => h2 q.1)]
    · rw [if_neg h1, if_neg (fun q => h1 q.2.1)]
  · rw [if_neg hW, if_neg hW]
    by_cases h1 : j = i
    · subst h1
      rw [hx] at hz
      obtain rfl := Option.some.inj hz
      rw [if_neg (by omega), if_pos (Nat.le_refl _), addC_one hx]
      by_cases h2 : oneOk j x.w = true
      · rw [if_pos h2, if_pos ⟨h2, hxk, .inl rfl⟩]
      · rw [if_neg h2, if_neg (fun q => h2 q.1)]
    · rw [if_neg (show ¬ (oneOk j z.w = true ∧ z.k = (k : Int) ∧ (j = i ∨ W = 2)) from fun q => by rcases q.2.2 with q | q; (· exact h1 q); (· exact hW q))]
      by_cases h2 : j + 1 ≤ i
      · rw [if_pos h2, if_pos (by omega)]
      · rw [if_neg h2, if_neg (by omega)]
theorem lp2_zero (os : List ObjV) (i k : Nat) (x : ObjV) (W : Int) : lp2 os i k x W [] 0 = [] := by
  unfold lp2; split
  · rfl
  · rw [if_pos (by omega)]
theorem lp2_zero' (os : List ObjV) (i k : Nat) (x : ObjV) (W : Int) (chs : List Chg) (hW : W ≠ 2) : lp2 os i k x W chs 0 = chs := by
  unfold lp2; rw [if_neg hW, if_pos (by omega)]
theorem lp2_len (os : List ObjV) (i k : Nat) (x : ObjV) (W : Int) (chs : List Chg) (n : Nat) : (lp2 os i k x W chs n).length ≤ chs.length + n + 1 := by
  unfold lp2
  split
  · have := lpN_len os k n; omega
  · split
    · omega
    · have := addC_len os chs (oneV i x) (oneOk i x.w); omega
def RrR (os : List ObjV) (cs : List Kls) (o rb rv : Int) (h : List AO) (v : AV) (h' : List AO) : Prop :=
  Ext1 h h' ∧ ((¬ (∃ x c i k, RvOk os cs o x c i k) ∧ v = .v (.ag [.int .i64 0, .nils, .nils, .int .i64 1])) ∨
    ∃ x c i k q1 q2, RvOk os cs o x c i k ∧ v = .v (.ag [.int .i64 (polW c rb rv), q1, q2, .int .i64 0]) ∧ Rs Kls.cells 3 h' q1 (cs.set k (clsB c rb rv)) ∧ Rs Chg.cells 4 h' q2 (chsB os o k x c rb rv))
set_option maxHeartbeats 4000000 in
theorem s48 {P : Program} {T : Tab} {K d : Nat} (S : Sd P T K) (hd : 12 ≤ d) (q r : SV) (os : List ObjV) (cs : List Kls) (o rb rv : Int) (ho : os.length ≤ 600) (hcl : cs.length ≤ 600) (hcs : ∀ c ∈ cs, c.ok ∧ -9223372036854775808 ≤ c.cnt)
    (lk : Nat) (h : List AO) (hlk : lk ≤ h.length) (hq : Rs ObjV.cells 3 h q os) (hr : Rs Kls.cells 3 h r cs) (hok : ∀ x ∈ os, x.ok h) :
    Ends (RrR os cs o rb rv h) (ev P T K d 48 [.sc q, .sc r, .sc (.int .i64 o), .sc (.int .i64 rb), .sc (.int .i64 rv)] lk h) := by
  obtain ⟨d, rfl⟩ : ∃ k, d = k + 1 := ⟨d - 1, by omega⟩
  rw [ev_run (at48 S.t)]
  unfold i48 Try.f48
  have l1 := hq.len (un73 S.p)
  have l2 := hr.len (un74 S.p)
  rcases rv_or os cs o with ⟨x, c, i, k, hrv⟩ | hbad
  rotate_left
  · have hno : ¬ ∃ x c i k, RvOk os cs o x c i k := fun ⟨x, c, i, k, a1, a2, a3, a4, a5, a6⟩ => by
      have b1 := (List.getElem?_eq_some_iff.1 a4).1
      have b2 := (List.getElem?_eq_some_iff.1 a6).1
      rcases hbad with hb | hb | hb | hb | ⟨y, y1, y2, y3⟩
      · omega
      · omega
      · omega
      · omega
      · rw [a3, Int.toNat_natCast, a4] at y1
        obtain rfl := Option.some.inj y1
        omega
    have fin : ∀ h', Ext1 h h' → RrR os cs o rb rv h (.v (.ag [.int .i64 0, .nils, .nils, .int .i64 1])) h' := fun h' hx => ⟨hx, .inl ⟨hno, rfl⟩⟩
    have hx1 : Ext1 h (h ++ [.rw 86 [.int .i64 0, .nils, .nils, .int .i64 1]]) := (Ext1.refl h).push _
    by_cases b1 : os.length > 256
    · simp (maxSteps := 1000000) (disch := first | omega | (simp (disch := first | omega | (simp only [Hdr.len, Hdr.fr, Obj.len, chg_len, chg_fr, ObjV.len, Kls.len, Chg.len, List.length_append, List.length_cons, List.length_nil, List.length_set]; first | done | omega)) only [Hdr.len, Hdr.fr, Obj.len, chg_len, chg_fr, ObjV.len, Kls.len, Chg.len, amSide, Int.reduceToNat, Nat.reducePow, Nat.reduceMul]; first | done | omega)) only  [↓amPre, amPost, ↓s_lit', Nat.reduceAdd, Nat.reduceSub, List.replicate, retA, resultsA, resultA, toC, toCL, Nat.reduceEqDiff, (ze47 S.p), (ze68 S.p), (ze86 S.p), append_at (un74 S.p) (sz47 S.p) (by47 S.p) (ze47 S.p) (by decide) (by decide) rfl, sl_cells (sz47 S.p), append_at (un84 S.p) (sz68 S.p) (by68 S.p) (ze68 S.p) (by decide) (by decide) rfl, sl_cells (sz68 S.p), (bu68 S.p), (bu86 S.p), lit_fill (un84 S.p) (sz68 S.p) (ze68 S.p), (fa47_0 S.p), (fa47_1 S.p), (fa62_0 S.p), (fa62_1 S.p), iaddr_sl (un73 S.p) (sz62 S.p), iaddr_sl (un74 S.p) (sz47 S.p), len_sl (un73 S.p), len_nils (un73 S.p), len_sl (un74 S.p), len_nils (un74 S.p), part_sc (ag26 S.p), part_sc (ag3 S.p), part_all (ag47 S.p) (sz47 S.p), part_at (ag47 S.p) (sz47 S.p), part_sc (ag5 S.p), part_all (ag62 S.p) (sz62 S.p), part_at (ag62 S.p) (sz62 S.p), part_all (ag68 S.p) (sz68 S.p), part_at (ag68 S.p) (sz68 S.p), part_all (ag86 S.p) (sz86 S.p), part_at (ag86 S.p) (sz86 S.p), store_last (sz4 S.p), (sz4 S.p), store_last (sz47 S.p), (sz47 S.p), store_last (sz5 S.p), (sz5 S.p), store_last (sz68 S.p), (sz68 S.p), store_last (sz86 S.p), (sz86 S.p), cells_self, l1, l2, dec_t, splice_def, List.append_nil]
      exact Ends.some (fin _ hx1)
    by_cases b2 : cs.length > 256
    · simp (maxSteps := 1000000) (disch := first | omega | (simp (disch := first | omega | (simp only [Hdr.len, Hdr.fr, Obj.len, chg_len, chg_fr, ObjV.len, Kls.len, Chg.len, List.length_append, List.length_cons, List.length_nil, List.length_set]; first | done | omega)) only [Hdr.len, Hdr.fr, Obj.len, chg_len, chg_fr, ObjV.len, Kls.len, Chg.len, amSide, Int.reduceToNat, Nat.reducePow, Nat.reduceMul]; first | done | omega)) only  [↓amPre, amPost, ↓s_lit', Nat.reduceAdd, Nat.reduceSub, List.replicate, retA, resultsA, resultA, toC, toCL, Nat.reduceEqDiff, (ze47 S.p), (ze68 S.p), (ze86 S.p), append_at (un74 S.p) (sz47 S.p) (by47 S.p) (ze47 S.p) (by decide) (by decide) rfl, sl_cells (sz47 S.p), append_at (un84 S.p) (sz68 S.p) (by68 S.p) (ze68 S.p) (by decide) (by decide) rfl, sl_cells (sz68 S.p), (bu68 S.p), (bu86 S.p), lit_fill (un84 S.p) (sz68 S.p) (ze68 S.p), (fa47_0 S.p), (fa47_1 S.p), (fa62_0 S.p), (fa62_1 S.p), iaddr_sl (un73 S.p) (sz62 S.p), iaddr_sl (un74 S.p) (sz47 S.p), len_sl (un73 S.p), len_nils (un73 S.p), len_sl (un74 S.p), len_nils (un74 S.p), part_sc (ag26 S.p), part_sc (ag3 S.p), part_all (ag47 S.p) (sz47 S.p), part_at (ag47 S.p) (sz47 S.p), part_sc (ag5 S.p), part_all (ag62 S.p) (sz62 S.p), part_at (ag62 S.p) (sz62 S.p), part_all (ag68 S.p) (sz68 S.p), part_at (ag68 S.p) (sz68 S.p), part_all (ag86 S.p) (sz86 S.p), part_at (ag86 S.p) (sz86 S.p), store_last (sz4 S.p), (sz4 S.p), store_last (sz47 S.p), (sz47 S.p), store_last (sz5 S.p), (sz5 S.p), store_last (sz68 S.p), (sz68 S.p), store_last (sz86 S.p), (sz86 S.p), cells_self, l1, l2, dec_t, dec_f, splice_def, List.append_nil]
      exact Ends.some (fin _ hx1)
    by_cases b3 : o < 0
    · simp (maxSteps := 1000000) (disch := first | omega | (simp (disch := first | omega | (simp only [Hdr.len, Hdr.fr, Obj.len, chg_len, chg_fr, ObjV.len, Kls.len, Chg.len, List.length_append, List.length_cons, List.length_nil, List.length_set]; first | done | omega)) only [Hdr.len, Hdr.fr, Obj.len, chg_len, chg_fr, ObjV.len, Kls.len, Chg.len, amSide, Int.reduceToNat, Nat.reducePow, Nat.reduceMul]; first | done | omega)) only  [↓amPre, amPost, ↓s_lit', Nat.reduceAdd, Nat.reduceSub, List.replicate, retA, resultsA, resultA, toC, toCL, Nat.reduceEqDiff, (ze47 S.p), (ze68 S.p), (ze86 S.p), append_at (un74 S.p) (sz47 S.p) (by47 S.p) (ze47 S.p) (by decide) (by decide) rfl, sl_cells (sz47 S.p), append_at (un84 S.p) (sz68 S.p) (by68 S.p) (ze68 S.p) (by decide) (by decide) rfl, sl_cells (sz68 S.p), (bu68 S.p), (bu86 S.p), lit_fill (un84 S.p) (sz68 S.p) (ze68 S.p), (fa47_0 S.p), (fa47_1 S.p), (fa62_0 S.p), (fa62_1 S.p), iaddr_sl (un73 S.p) (sz62 S.p), iaddr_sl (un74 S.p) (sz47 S.p), len_sl (un73 S.p), len_nils (un73 S.p), len_sl (un74 S.p), len_nils (un74 S.p), part_sc (ag26 S.p), part_sc (ag3 S.p), part_all (ag47 S.p) (sz47 S.p), part_at (ag47 S.p) (sz47 S.p), part_sc (ag5 S.p), part_all (ag62 S.p) (sz62 S.p), part_at (ag62 S.p) (sz62 S.p), part_all (ag68 S.p) (sz68 S.p), part_at (ag68 S.p) (sz68 S.p), part_all (ag86 S.p) (sz86 S.p), part_at (ag86 S.p) (sz86 S.p), store_last (sz4 S.p), (sz4 S.p), store_last (sz47 S.p), (sz47 S.p), store_last (sz5 S.p), (sz5 S.p), store_last (sz68 S.p), (sz68 S.p), store_last (sz86 S.p), (sz86 S.p), cells_self, l1, l2, dec_t, dec_f, splice_def, List.append_nil]
      exact Ends.some (fin _ hx1)
    by_cases b4 : o ≥ os.length
    · simp (maxSteps := 1000000) (disch := first | omega | (simp (disch := first | omega | (simp only [Hdr.len, Hdr.fr, Obj.len, chg_len, chg_fr, ObjV.len, Kls.len, Chg.len, List.length_append, List.length_cons, List.length_nil, List.length_set]; first | done | omega)) only [Hdr.len, Hdr.fr, Obj.len, chg_len, chg_fr, ObjV.len, Kls.len, Chg.len, amSide, Int.reduceToNat, Nat.reducePow, Nat.reduceMul]; first | done | omega)) only  [↓amPre, amPost, ↓s_lit', Nat.reduceAdd, Nat.reduceSub, List.replicate, retA, resultsA, resultA, toC, toCL, Nat.reduceEqDiff, (ze47 S.p), (ze68 S.p), (ze86 S.p), append_at (un74 S.p) (sz47 S.p) (by47 S.p) (ze47 S.p) (by decide) (by decide) rfl, sl_cells (sz47 S.p), append_at (un84 S.p) (sz68 S.p) (by68 S.p) (ze68 S.p) (by decide) (by decide) rfl, sl_cells (sz68 S.p), (bu68 S.p), (bu86 S.p), lit_fill (un84 S.p) (sz68 S.p) (ze68 S.p), (fa47_0 S.p), (fa47_1 S.p), (fa62_0 S.p), (fa62_1 S.p), iaddr_sl (un73 S.p) (sz62 S.p), iaddr_sl (un74 S.p) (sz47 S.p), len_sl (un73 S.p), len_nils (un73 S.p), len_sl (un74 S.p), len_nils (un74 S.p), part_sc (ag26 S.p), part_sc (ag3 S.p), part_all (ag47 S.p) (sz47 S.p), part_at (ag47 S.p) (sz47 S.p), part_sc (ag5 S.p), part_all (ag62 S.p) (sz62 S.p), part_at (ag62 S.p) (sz62 S.p), part_all (ag68 S.p) (sz68 S.p), part_at (ag68 S.p) (sz68 S.p), part_all (ag86 S.p) (sz86 S.p), part_at (ag86 S.p) (sz86 S.p), store_last (sz4 S.p), (sz4 S.p), store_last (sz47 S.p), (sz47 S.p), store_last (sz5 S.p), (sz5 S.p), store_last (sz68 S.p), (sz68 S.p), store_last (sz86 S.p), (sz86 S.p), cells_self, l1, l2, dec_t, dec_f, splice_def, List.append_nil]
      exact Ends.some (fin _ hx1)
    obtain ⟨y, y1, y2, y3⟩ : ∃ x, os[o.toNat]? = some x ∧ 0 ≤ o ∧ (x.k < 0 ∨ x.k ≥ cs.length) := by
      rcases hbad with hb | hb | hb | hb | hb
      · omega
      · omega
      · omega
      · omega
      · exact hb
    obtain ⟨i, rfl⟩ := Int.eq_ofNat_of_zero_le y2
    rw [Int.toNat_natCast] at y1
    obtain ⟨b, rfl, hb, hc⟩ := hq.at (by omega)
    have hg1 := recs_get ObjV.len y1 1 (by omega)
    by_cases b5 : y.k < 0
    · simp (maxSteps := 1000000) (disch := first | omega | (simp (disch := first | omega | (simp only [Hdr.len, Hdr.fr, Obj.len, chg_len, chg_fr, ObjV.len, Kls.len, Chg.len, List.length_append, List.length_cons, List.length_nil, List.length_set]; first | done | omega)) only [Hdr.len, Hdr.fr, Obj.len, chg_len, chg_fr, ObjV.len, Kls.len, Chg.len, amSide, Int.reduceToNat, Nat.reducePow, Nat.reduceMul]; first | done | omega)) only  [↓amPre, amPost, ↓s_lit', Nat.reduceAdd, Nat.reduceSub, List.replicate, retA, resultsA, resultA, toC, toCL, Nat.reduceEqDiff, (ze47 S.p), (ze68 S.p), (ze86 S.p), append_at (un74 S.p) (sz47 S.p) (by47 S.p) (ze47 S.p) (by decide) (by decide) rfl, sl_cells (sz47 S.p), append_at (un84 S.p) (sz68 S.p) (by68 S.p) (ze68 S.p) (by decide) (by decide) rfl, sl_cells (sz68 S.p), (bu68 S.p), (bu86 S.p), lit_fill (un84 S.p) (sz68 S.p) (ze68 S.p), (fa47_0 S.p), (fa47_1 S.p), (fa62_0 S.p), (fa62_1 S.p), iaddr_sl (un73 S.p) (sz62 S.p), iaddr_sl (un74 S.p) (sz47 S.p), len_sl (un73 S.p), len_nils (un73 S.p), len_sl (un74 S.p), len_nils (un74 S.p), part_sc (ag26 S.p), part_sc (ag3 S.p), part_all (ag47 S.p) (sz47 S.p), part_at (ag47 S.p) (sz47 S.p), part_sc (ag5 S.p), part_all (ag62 S.p) (sz62 S.p), part_at (ag62 S.p) (sz62 S.p), part_all (ag68 S.p) (sz68 S.p), part_at (ag68 S.p) (sz68 S.p), part_all (ag86 S.p) (sz86 S.p), part_at (ag86 S.p) (sz86 S.p), store_last (sz4 S.p), (sz4 S.p), store_last (sz47 S.p), (sz47 S.p), store_last (sz5 S.p), (sz5 S.p), store_last (sz68 S.p), (sz68 S.p), store_last (sz86 S.p), (sz86 S.p), cells_self, cells_other, l1, l2, dec_t, dec_f, hc, hg1, ObjV.c1, idx_ok, splice_def, List.append_nil, Int.toNat_natCast, Nat.zero_add]
      exact Ends.some (fin _ hx1)
    · simp (maxSteps := 1000000) (disch := first | omega | (simp (disch := first | omega | (simp only [Hdr.len, Hdr.fr, Obj.len, chg_len, chg_fr, ObjV.len, Kls.len, Chg.len, List.length_append, List.length_cons, List.length_nil, List.length_set]; first | done | omega)) only [Hdr.len, Hdr.fr, Obj.len, chg_len, chg_fr, ObjV.len, Kls.len, Chg.len, amSide, Int.reduceToNat, Nat.reducePow, Nat.reduceMul]; first | done | omega)) only  [↓amPre, amPost, ↓s_lit', Nat.reduceAdd, Nat.reduceSub, List.replicate, retA, resultsA, resultA, toC, toCL, Nat.reduceEqDiff, (ze47 S.p), (ze68 S.p), (ze86 S.p), append_at (un74 S.p) (sz47 S.p) (by47 S.p) (ze47 S.p) (by decide) (by decide) rfl, sl_cells (sz47 S.p), append_at (un84 S.p) (sz68 S.p) (by68 S.p) (ze68 S.p) (by decide) (by decide) rfl, sl_cells (sz68 S.p), (bu68 S.p), (bu86 S.p), lit_fill (un84 S.p) (sz68 S.p) (ze68 S.p), (fa47_0 S.p), (fa47_1 S.p), (fa62_0 S.p), (fa62_1 S.p), iaddr_sl (un73 S.p) (sz62 S.p), iaddr_sl (un74 S.p) (sz47 S.p), len_sl (un73 S.p), len_nils (un73 S.p), len_sl (un74 S.p), len_nils (un74 S.p), part_sc (ag26 S.p), part_sc (ag3 S.p), part_all (ag47 S.p) (sz47 S.p), part_at (ag47 S.p) (sz47 S.p), part_sc (ag5 S.p), part_all (ag62 S.p) (sz62 S.p), part_at (ag62 S.p) (sz62 S.p), part_all (ag68 S.p) (sz68 S.p), part_at (ag68 S.p) (sz68 S.p), part_all (ag86 S.p) (sz86 S.p), part_at (ag86 S.p) (sz86 S.p), store_last (sz4 S.p), (sz4 S.p), store_last (sz47 S.p), (sz47 S.p), store_last (sz5 S.p), (sz5 S.p), store_last (sz68 S.p), (sz68 S.p), store_last (sz86 S.p), (sz86 S.p), cells_self, cells_other, l1, l2, dec_t, dec_f, hc, hg1, ObjV.c1, idx_ok, splice_def, List.append_nil, Int.toNat_natCast, Nat.zero_add]
      exact Ends.some (fin _ hx1)
  obtain ⟨a1, a2, rfl, a4, a5, a6⟩ := hrv
  have hi := (List.getElem?_eq_some_iff.1 a4).1
  have hk := (List.getElem?_eq_some_iff.1 a6).1
  obtain ⟨b, rfl, hb, hc⟩ := hq.at (by omega)
  obtain ⟨b', rfl, hb', hc'⟩ := hr.at (by omega)
  have hg1 := recs_get ObjV.len a4 1 (by omega)
  have hgc := recs_part (ag47 S.p) (sz47 S.p) Kls.len a6
  obtain ⟨hcok, hcc⟩ := hcs c (List.mem_of_getElem? a6)
  have hp := fun lk h => s60 S (show 1 ≤ d by omega) c hcc rb rv lk h
  have hinv : ∀ C : Kls, RrInv h (h ++ [.rw 86 [.int .i64 0, .nils, .nils, .int .i64 0]] ++ [.rw 47 C.cells]) .nils C [] := fun C =>
    ⟨((Ext1.refl h).push _).push _, by simp, by simp, Own.nil _ _ _ _, by simp⟩
  have l73 : ∀ hh, lenA P hh 73 (.v (.sc (.sl b 0 os.length 3))) = some (.v (.sc (.int .i64 (os.length : Int)))) := fun hh => len_sl (un73 S.p) _ _ _ _
  -- the second loop, and what is behind it
  have hoks : ∀ (j : Nat) z, os[j]? = some z → z.ok h := fun j z hz => hok z (List.mem_of_getElem? hz)
  clear hok hcs
  have tail : ∀ (W : Int) (hh : List AO) (qc : SV) (C : Kls) (chs : List Chg), RrInv h hh qc C chs → polW c rb rv = W → clsB c rb rv = C → chsB os i k x c rb rv = chs →
      storeA P (hh ++ [AO.rw 47 (recs Kls.cells (cs.set k C))]) lk 86 (.v (.sc (.ptr h.length 0))) (.v (.ag [.int .i64 W, .sl hh.length 0 cs.length 3, qc, .int .i64 0])) = some ((hh ++ [AO.rw 47 (recs Kls.cells (cs.set k C))]).set h.length (AO.rw 86 [.int .i64 W, .sl hh.length 0 cs.length 3, qc, .int .i64 0])) ∧
      cellsAt hh (h.length + 1) = some C.cells ∧ RrR os cs i rb rv h (.v (.ag [.int .i64 W, .sl hh.length 0 cs.length 3, qc, .int .i64 0])) ((hh ++ [AO.rw 47 (recs Kls.cells (cs.set k C))]).set h.length (AO.rw 86 [.int .i64 W, .sl hh.length 0 cs.length 3, qc, .int .i64 0])) := by
    intro W hh qc C chs H hW hC hch
    have hl := H.len
    refine ⟨?_, cells_at H.p13, (H.x.push _).set (Nat.le_refl _) _, .inr ⟨x, c, i, k, _, _, ⟨a1, a2, rfl, a4, a5, a6⟩, by rw [hW], ?_, ?_⟩⟩
    · rw [store_at (el := 86) (cs := [.int .i64 0, .nils, .nils, .int .i64 0]) (n := 4) (by rw [List.getElem?_append_left (by omega)]; exact H.p10) hlk (sz86 S.p) rfl (by simp)]
      rfl
    · rw [hC]
      refine .inr ⟨hh.length, by rw [List.length_set], by simp, ?_⟩
      rw [cells_set_ne _ _ _ (by omega)]
      exact cells_self _ _ _ rfl
    · rw [hch]
      exact ((H.own.push _).set (by omega) _).rs (by omega) Chg.len
  rcases pol_range c rb rv with hW | hW | hW
  · rw [hW] at hp
    have hI := hinv (polC c)
    have hCe : clsB c rb rv = polC c := by unfold clsB; rw [hW]; simp
    generalize polC c = C at *
    simp (maxSteps := 1000000) (disch := first | omega | (simp (disch := first | omega | (simp only [Hdr.len, Hdr.fr, Obj.len, chg_len, chg_fr, ObjV.len, Kls.len, Chg.len, List.length_append, List.length_cons, List.length_nil, List.length_set]; first | done | omega)) only [Hdr.len, Hdr.fr, Obj.len, chg_len, chg_fr, ObjV.len, Kls.len, Chg.len, amSide, Int.reduceToNat, Nat.reducePow, Nat.reduceMul]; first | done | omega)) only  [↓amPre, amPost, ↓s_lit', Nat.reduceAdd, Nat.reduceSub, List.replicate, retA, resultsA, resultA, toC, toCL, Nat.reduceEqDiff, (ze47 S.p), (ze68 S.p), (ze86 S.p), append_at (un74 S.p) (sz47 S.p) (by47 S.p) (ze47 S.p) (by decide) (by decide) rfl, sl_cells (sz47 S.p), append_at (un84 S.p) (sz68 S.p) (by68 S.p) (ze68 S.p) (by decide) (by decide) rfl, sl_cells (sz68 S.p), (bu68 S.p), (bu86 S.p), lit_fill (un84 S.p) (sz68 S.p) (ze68 S.p), (fa47_0 S.p), (fa47_1 S.p), (fa62_0 S.p), (fa62_1 S.p), iaddr_sl (un73 S.p) (sz62 S.p), iaddr_sl (un74 S.p) (sz47 S.p), len_sl (un73 S.p), len_nils (un73 S.p), len_sl (un74 S.p), len_nils (un74 S.p), part_sc (ag26 S.p), part_sc (ag3 S.p), part_all (ag47 S.p) (sz47 S.p), part_at (ag47 S.p) (sz47 S.p), part_sc (ag5 S.p), part_all (ag62 S.p) (sz62 S.p), part_at (ag62 S.p) (sz62 S.p), part_all (ag68 S.p) (sz68 S.p), part_at (ag68 S.p) (sz68 S.p), part_all (ag86 S.p) (sz86 S.p), part_at (ag86 S.p) (sz86 S.p), store_last (sz4 S.p), (sz4 S.p), store_last (sz47 S.p), (sz47 S.p), store_last (sz5 S.p), (sz5 S.p), store_last (sz68 S.p), (sz68 S.p), store_last (sz86 S.p), (sz86 S.p), cells_self, cells_other, l1, l2, dec_f, hc, hc', hg1, ObjV.c1, a5, hgc, idx_ok, hp, Int.reduceBEq, Int.toNat_natCast, Nat.zero_add, Nat.add_zero]
    refine ends_loop (X := RvSt) ⟨0, .nils, h ++ [.rw 86 [.int .i64 0, .nils, .nils, .int .i64 0]] ++ [.rw 47 C.cells]⟩ [19, 20, 128, 129, 130, 131, 132, 133, 134, 135, 136, 137, 138, 139, 140, 141, 142, 143, 144, 145, 146, 147, 148, 149, 150, 151, 152, 153, 154, 155, 156, 157, 158, 159, 160, 161, 162, 163, 164, 165] (fun y => y.i ≤ os.length ∧ RrInv h y.h y.qc C (lp2 os i k x 0 [] y.i)) (fun y => os.length - y.i)
      (fun y e => (e.set 14 (.v (.sc y.qc))).set 18 (.v (.sc (.int .i64 y.i)))) (fun y => y.h)
      (by have := S.k; show _ < K; simp only; omega) ⟨by simp only; omega, by simp only; rw [lp2_zero]; exact hI⟩ (by simp (maxSteps := 1000000) (disch := first | omega | (simp (disch := first | omega | (simp only [Hdr.len, Hdr.fr, Obj.len, chg_len, chg_fr, ObjV.len, Kls.len, Chg.len, List.length_append, List.length_cons, List.length_nil, List.length_set]; first | done | omega)) only [Hdr.len, Hdr.fr, Obj.len, chg_len, chg_fr, ObjV.len, Kls.len, Chg.len, amSide, Int.reduceToNat, Nat.reducePow, Nat.reduceMul]; first | done | omega)) only [↓amPre, amPost, ↓s_lit', Nat.reduceAdd, Nat.reduceSub, List.replicate, retA, resultsA, resultA, toC, toCL, Nat.reduceEqDiff, Int.natCast_add, Int.cast_ofNat_Int, dec_t, dec_f]) rfl ?_
    rintro ⟨j, qc, hj⟩ ⟨hjl, H⟩ again hag e he
    simp only at hjl H hag he
    simp only [↓amPre, amPost, ↓s_lit', Nat.reduceAdd, Nat.reduceSub, List.replicate, retA, resultsA, resultA, toC, toCL, Nat.reduceEqDiff] at he
    simp only [↓amPre, amPost, ↓s_lit', Nat.reduceAdd, Nat.reduceSub, List.replicate, retA, resultsA, resultA, toC, toCL, Nat.reduceEqDiff, he]
    simp (maxSteps := 1000000) (disch := first | omega | (simp (disch := first | omega | (simp only [Hdr.len, Hdr.fr, Obj.len, chg_len, chg_fr, ObjV.len, Kls.len, Chg.len, List.length_append, List.length_cons, List.length_nil, List.length_set]; first | done | omega)) only [Hdr.len, Hdr.fr, Obj.len, chg_len, chg_fr, ObjV.len, Kls.len, Chg.len, amSide, Int.reduceToNat, Nat.reducePow, Nat.reduceMul]; first | done | omega)) only  [↓amPre, amPost, ↓s_lit', Nat.reduceAdd, Nat.reduceSub, List.replicate, retA, resultsA, resultA, toC, toCL, Nat.reduceEqDiff, he, (ze47 S.p), (ze68 S.p), (ze86 S.p), append_at (un74 S.p) (sz47 S.p) (by47 S.p) (ze47 S.p) (by decide) (by decide) rfl, sl_cells (sz47 S.p), append_at (un84 S.p) (sz68 S.p) (by68 S.p) (ze68 S.p) (by decide) (by decide) rfl, sl_cells (sz68 S.p), (bu68 S.p), (bu86 S.p), lit_fill (un84 S.p) (sz68 S.p) (ze68 S.p), (fa47_0 S.p), (fa47_1 S.p), (fa62_0 S.p), (fa62_1 S.p), iaddr_sl (un73 S.p) (sz62 S.p), iaddr_sl (un74 S.p) (sz47 S.p), len_sl (un73 S.p), len_nils (un73 S.p), len_sl (un74 S.p), len_nils (un74 S.p), part_sc (ag26 S.p), part_sc (ag3 S.p), part_all (ag47 S.p) (sz47 S.p), part_at (ag47 S.p) (sz47 S.p), part_sc (ag5 S.p), part_all (ag62 S.p) (sz62 S.p), part_at (ag62 S.p) (sz62 S.p), part_all (ag68 S.p) (sz68 S.p), part_at (ag68 S.p) (sz68 S.p), part_all (ag86 S.p) (sz86 S.p), part_at (ag86 S.p) (sz86 S.p), store_last (sz4 S.p), (sz4 S.p), store_last (sz47 S.p), (sz47 S.p), store_last (sz5 S.p), (sz5 S.p), store_last (sz68 S.p), (sz68 S.p), store_last (sz86 S.p), (sz86 S.p), l73]
    have hll := H.len
    have hcbj : cellsAt hj b = some (recs ObjV.cells os) := by rw [H.x.cells hb]; exact hc
    have hbj : b < hj.length := by omega
    refine ends_cond (fun hc1 => ?_) (fun hc1 => ?_)
    · simp only [decide_eq_true_eq] at hc1
      have hjo : j < os.length := by omega
      obtain ⟨z, hz⟩ : ∃ z, os[j]? = some z := ⟨_, List.getElem?_eq_getElem hjo⟩
      have hzo := hoks j z hz
      have hpt := recs_part (ag62 S.p) (sz62 S.p) ObjV.len hz
      have hg := recs_get ObjV.len hz 1 (by omega)
      have H2 := H.push (.rw 68 (oneV j z).cells)
      have hst := lp2_step (W := 0) (chs1 := []) a4 a5 hz
      have hlen := lp2_len os i k x 0 [] j
      have hchl : ([] : List Chg).length ≤ 600 := by first | (simp; done) | omega
      have f40 : ∀ lk, ev P T K d 40 [.sc (.int .i64 (j : Nat)), .ag z.cells] lk hj = some (.tup [.ag (oneV j z).cells, .sc (.bool (oneOk j z.w))], hj) := fun lk => by
        have := s40 S (show 10 ≤ d by omega) j z.w hzo.1 z.k z.q z.cnt lk hj (hzo.2.ext H.x)
        rw [oneV_cells] at this
        exact this
      have keep : ¬ (oneOk j z.w = true ∧ z.k = (k : Int) ∧ (j = i ∨ (0 : Int) = 2)) → lp2 os i k x 0 [] (j + 1) = lp2 os i k x 0 [] j := fun hn => by rw [hst, if_neg hn]
      cases e1 : oneOk j z.w with
      | false =>
        have := keep (fun q => by rw [e1] at q; exact absurd q.1 (by simp))
        rw [e1] at f40
        simp (maxSteps := 1000000) (disch := first | omega | (simp (disch := first | omega | (simp only [Hdr.len, Hdr.fr, Obj.len, chg_len, chg_fr, ObjV.len, Kls.len, Chg.len, List.length_append, List.length_cons, List.length_nil, List.length_set]; first | done | omega)) only [Hdr.len, Hdr.fr, Obj.len, chg_len, chg_fr, ObjV.len, Kls.len, Chg.len, amSide, Int.reduceToNat, Nat.reducePow, Nat.reduceMul]; first | done | omega)) only  [↓amPre, amPost, ↓s_lit', Nat.reduceAdd, Nat.reduceSub, List.replicate, retA, resultsA, resultA, toC, toCL, Nat.reduceEqDiff, he, (ze47 S.p), (ze68 S.p), (ze86 S.p), append_at (un74 S.p) (sz47 S.p) (by47 S.p) (ze47 S.p) (by decide) (by decide) rfl, sl_cells (sz47 S.p), append_at (un84 S.p) (sz68 S.p) (by68 S.p) (ze68 S.p) (by decide) (by decide) rfl, sl_cells (sz68 S.p), (bu68 S.p), (bu86 S.p), lit_fill (un84 S.p) (sz68 S.p) (ze68 S.p), (fa47_0 S.p), (fa47_1 S.p), (fa62_0 S.p), (fa62_1 S.p), iaddr_sl (un73 S.p) (sz62 S.p), iaddr_sl (un74 S.p) (sz47 S.p), len_sl (un73 S.p), len_nils (un73 S.p), len_sl (un74 S.p), len_nils (un74 S.p), part_sc (ag26 S.p), part_sc (ag3 S.p), part_all (ag47 S.p) (sz47 S.p), part_at (ag47 S.p) (sz47 S.p), part_sc (ag5 S.p), part_all (ag62 S.p) (sz62 S.p), part_at (ag62 S.p) (sz62 S.p), part_all (ag68 S.p) (sz68 S.p), part_at (ag68 S.p) (sz68 S.p), part_all (ag86 S.p) (sz86 S.p), part_at (ag86 S.p) (sz86 S.p), store_last (sz4 S.p), (sz4 S.p), store_last (sz47 S.p), (sz47 S.p), store_last (sz5 S.p), (sz5 S.p), store_last (sz68 S.p), (sz68 S.p), store_last (sz86 S.p), (sz86 S.p), idx_ok, hcbj, hpt, f40, cells_self, Int.toNat_natCast, Nat.zero_add, Nat.add_zero, wrap_i64]
        refine hag ⟨j + 1, qc, _⟩ ⟨hjo, by simp only; rw [this]; exact H2⟩ (by simp only; omega) _ ?_
        simp (maxSteps := 1000000) (disch := first | omega | (simp (disch := first | omega | (simp only [Hdr.len, Hdr.fr, Obj.len, chg_len, chg_fr, ObjV.len, Kls.len, Chg.len, List.length_append, List.length_cons, List.length_nil, List.length_set]; first | done | omega)) only [Hdr.len, Hdr.fr, Obj.len, chg_len, chg_fr, ObjV.len, Kls.len, Chg.len, amSide, Int.reduceToNat, Nat.reducePow, Nat.reduceMul]; first | done | omega)) only [↓amPre, amPost, ↓s_lit', Nat.reduceAdd, Nat.reduceSub, List.replicate, retA, resultsA, resultA, toC, toCL, Nat.reduceEqDiff, Int.natCast_add, Int.cast_ofNat_Int, dec_t, dec_f]
      | true =>
        rw [e1] at f40
        by_cases e2 : z.k = (k : Int)
        rotate_left
        · have := keep (fun q => e2 q.2.1)
          simp (maxSteps := 1000000) (disch := first | omega | (simp (disch := first | omega | (simp only [Hdr.len, Hdr.fr, Obj.len, chg_len, chg_fr, ObjV.len, Kls.len, Chg.len, List.length_append, List.length_cons, List.length_nil, List.length_set]; first | done | omega)) only [Hdr.len, Hdr.fr, Obj.len, chg_len, chg_fr, ObjV.len, Kls.len, Chg.len, amSide, Int.reduceToNat, Nat.reducePow, Nat.reduceMul]; first | done | omega)) only  [↓amPre, amPost, ↓s_lit', Nat.reduceAdd, Nat.reduceSub, List.replicate, retA, resultsA, resultA, toC, toCL, Nat.reduceEqDiff, he, (ze47 S.p), (ze68 S.p), (ze86 S.p), append_at (un74 S.p) (sz47 S.p) (by47 S.p) (ze47 S.p) (by decide) (by decide) rfl, sl_cells (sz47 S.p), append_at (un84 S.p) (sz68 S.p) (by68 S.p) (ze68 S.p) (by decide) (by decide) rfl, sl_cells (sz68 S.p), (bu68 S.p), (bu86 S.p), lit_fill (un84 S.p) (sz68 S.p) (ze68 S.p), (fa47_0 S.p), (fa47_1 S.p), (fa62_0 S.p), (fa62_1 S.p), iaddr_sl (un73 S.p) (sz62 S.p), iaddr_sl (un74 S.p) (sz47 S.p), len_sl (un73 S.p), len_nils (un73 S.p), len_sl (un74 S.p), len_nils (un74 S.p), part_sc (ag26 S.p), part_sc (ag3 S.p), part_all (ag47 S.p) (sz47 S.p), part_at (ag47 S.p) (sz47 S.p), part_sc (ag5 S.p), part_all (ag62 S.p) (sz62 S.p), part_at (ag62 S.p) (sz62 S.p), part_all (ag68 S.p) (sz68 S.p), part_at (ag68 S.p) (sz68 S.p), part_all (ag86 S.p) (sz86 S.p), part_at (ag86 S.p) (sz86 S.p), store_last (sz4 S.p), (sz4 S.p), store_last (sz47 S.p), (sz47 S.p), store_last (sz5 S.p), (sz5 S.p), store_last (sz68 S.p), (sz68 S.p), store_last (sz86 S.p), (sz86 S.p), idx_ok, hcbj, hpt, hg, f40, cells_self, cells_other, ObjV.c1, beqI_f, Int.toNat_natCast, Nat.zero_add, Nat.add_zero, wrap_i64]
          refine hag ⟨j + 1, qc, _⟩ ⟨hjo, by simp only; rw [this]; exact H2⟩ (by simp only; omega) _ ?_
          simp (maxSteps := 1000000) (disch := first | omega | (simp (disch := first | omega | (simp only [Hdr.len, Hdr.fr, Obj.len, chg_len, chg_fr, ObjV.len, Kls.len, Chg.len, List.length_append, List.length_cons, List.length_nil, List.length_set]; first | done | omega)) only [Hdr.len, Hdr.fr, Obj.len, chg_len, chg_fr, ObjV.len, Kls.len, Chg.len, amSide, Int.reduceToNat, Nat.reducePow, Nat.reduceMul]; first | done | omega)) only [↓amPre, amPost, ↓s_lit', Nat.reduceAdd, Nat.reduceSub, List.replicate, retA, resultsA, resultA, toC, toCL, Nat.reduceEqDiff, Int.natCast_add, Int.cast_ofNat_Int, dec_t, dec_f]
        by_cases e3 : j = i
        rotate_left
        · have := keep (fun q => by rcases q.2.2 with q | q; (· exact e3 q); (· cases q))
          simp (maxSteps := 1000000) (disch := first | omega | (simp (disch := first | omega | (simp only [Hdr.len, Hdr.fr, Obj.len, chg_len, chg_fr, ObjV.len, Kls.len, Chg.len, List.length_append, List.length_cons, List.length_nil, List.length_set]; first | done | omega)) only [Hdr.len, Hdr.fr, Obj.len, chg_len, chg_fr, ObjV.len, Kls.len, Chg.len, amSide, Int.reduceToNat, Nat.reducePow, Nat.reduceMul]; first | done | omega)) only  [↓amPre, amPost, ↓s_lit', Nat.reduceAdd, Nat.reduceSub, List.replicate, retA, resultsA, resultA, toC, toCL, Nat.reduceEqDiff, he, (ze47 S.p), (ze68 S.p), (ze86 S.p), append_at (un74 S.p) (sz47 S.p) (by47 S.p) (ze47 S.p) (by decide) (by decide) rfl, sl_cells (sz47 S.p), append_at (un84 S.p) (sz68 S.p) (by68 S.p) (ze68 S.p) (by decide) (by decide) rfl, sl_cells (sz68 S.p), (bu68 S.p), (bu86 S.p), lit_fill (un84 S.p) (sz68 S.p) (ze68 S.p), (fa47_0 S.p), (fa47_1 S.p), (fa62_0 S.p), (fa62_1 S.p), iaddr_sl (un73 S.p) (sz62 S.p), iaddr_sl (un74 S.p) (sz47 S.p), len_sl (un73 S.p), len_nils (un73 S.p), len_sl (un74 S.p), len_nils (un74 S.p), part_sc (ag26 S.p), part_sc (ag3 S.p), part_all (ag47 S.p) (sz47 S.p), part_at (ag47 S.p) (sz47 S.p), part_sc (ag5 S.p), part_all (ag62 S.p) (sz62 S.p), part_at (ag62 S.p) (sz62 S.p), part_all (ag68 S.p) (sz68 S.p), part_at (ag68 S.p) (sz68 S.p), part_all (ag86 S.p) (sz86 S.p), part_at (ag86 S.p) (sz86 S.p), store_last (sz4 S.p), (sz4 S.p), store_last (sz47 S.p), (sz47 S.p), store_last (sz5 S.p), (sz5 S.p), store_last (sz68 S.p), (sz68 S.p), store_last (sz86 S.p), (sz86 S.p), idx_ok, hcbj, hpt, hg, f40, cells_self, cells_other, ObjV.c1, beqI_t, beqI_f, Int.reduceBEq, Int.toNat_natCast, Nat.zero_add, Nat.add_zero, wrap_i64]
          refine hag ⟨j + 1, qc, _⟩ ⟨hjo, by simp only; rw [this]; exact H2⟩ (by simp only; omega) _ ?_
          simp (maxSteps := 1000000) (disch := first | omega | (simp (disch := first | omega | (simp only [Hdr.len, Hdr.fr, Obj.len, chg_len, chg_fr, ObjV.len, Kls.len, Chg.len, List.length_append, List.length_cons, List.length_nil, List.length_set]; first | done | omega)) only [Hdr.len, Hdr.fr, Obj.len, chg_len, chg_fr, ObjV.len, Kls.len, Chg.len, amSide, Int.reduceToNat, Nat.reducePow, Nat.reduceMul]; first | done | omega)) only [↓amPre, amPost, ↓s_lit', Nat.reduceAdd, Nat.reduceSub, List.replicate, retA, resultsA, resultA, toC, toCL, Nat.reduceEqDiff, Int.natCast_add, Int.cast_ofNat_Int, dec_t, dec_f]
        · skip
          have hfin := H2.push (.rw 68 (oneV j z).cells)
          obtain ⟨q2, h2, happ, hfin2⟩ := hfin.grow (oneV j z) lk hlk (by omega)
          have hn : lp2 os i k x 0 [] (j + 1) = lp2 os i k x 0 [] j ++ [oneV j z] := by rw [hst, if_pos ⟨e1, e2, .inl e3⟩]
          rw [← hn] at hfin2
          have htk : (oneV j z).cells.take 4 = (oneV j z).cells := rfl
          clear hfin hst keep hoks tail
          simp (maxSteps := 1000000) (disch := first | omega | (simp (disch := first | omega | (simp only [Hdr.len, Hdr.fr, Obj.len, chg_len, chg_fr, ObjV.len, Kls.len, Chg.len, List.length_append, List.length_cons, List.length_nil, List.length_set]; first | done | omega)) only [Hdr.len, Hdr.fr, Obj.len, chg_len, chg_fr, ObjV.len, Kls.len, Chg.len, amSide, Int.reduceToNat, Nat.reducePow, Nat.reduceMul]; first | done | omega)) only  [↓amPre, amPost, ↓s_lit', Nat.reduceAdd, Nat.reduceSub, List.replicate, retA, resultsA, resultA, toC, toCL, Nat.reduceEqDiff, he, (ze47 S.p), (ze68 S.p), (ze86 S.p), append_at (un74 S.p) (sz47 S.p) (by47 S.p) (ze47 S.p) (by decide) (by decide) rfl, sl_cells (sz47 S.p), append_at (un84 S.p) (sz68 S.p) (by68 S.p) (ze68 S.p) (by decide) (by decide) rfl, sl_cells (sz68 S.p), (bu68 S.p), (bu86 S.p), lit_fill (un84 S.p) (sz68 S.p) (ze68 S.p), (fa47_0 S.p), (fa47_1 S.p), (fa62_0 S.p), (fa62_1 S.p), iaddr_sl (un73 S.p) (sz62 S.p), iaddr_sl (un74 S.p) (sz47 S.p), len_sl (un73 S.p), len_nils (un73 S.p), len_sl (un74 S.p), len_nils (un74 S.p), part_sc (ag26 S.p), part_sc (ag3 S.p), part_all (ag47 S.p) (sz47 S.p), part_at (ag47 S.p) (sz47 S.p), part_sc (ag5 S.p), part_all (ag62 S.p) (sz62 S.p), part_at (ag62 S.p) (sz62 S.p), part_all (ag68 S.p) (sz68 S.p), part_at (ag68 S.p) (sz68 S.p), part_all (ag86 S.p) (sz86 S.p), part_at (ag86 S.p) (sz86 S.p), store_last (sz4 S.p), (sz4 S.p), store_last (sz47 S.p), (sz47 S.p), store_last (sz5 S.p), (sz5 S.p), store_last (sz68 S.p), (sz68 S.p), store_last (sz86 S.p), (sz86 S.p), idx_ok, hcbj, hpt, hg, f40, cells_self, cells_other, ObjV.c1, Chg.len, beqI_t, beqI_t, htk, happ, Int.reduceBEq, beq_self_eq_true, List.flatten_cons, List.flatten_nil, List.append_nil, Nat.zero_mul, Nat.one_mul, Int.toNat_natCast, Nat.zero_add, Nat.add_zero, wrap_i64]
          refine hag ⟨j + 1, q2, h2⟩ ⟨hjo, hfin2⟩ (by simp only; omega) _ ?_
          simp (maxSteps := 1000000) (disch := first | omega | (simp (disch := first | omega | (simp only [Hdr.len, Hdr.fr, Obj.len, chg_len, chg_fr, ObjV.len, Kls.len, Chg.len, List.length_append, List.length_cons, List.length_nil, List.length_set]; first | done | omega)) only [Hdr.len, Hdr.fr, Obj.len, chg_len, chg_fr, ObjV.len, Kls.len, Chg.len, amSide, Int.reduceToNat, Nat.reducePow, Nat.reduceMul]; first | done | omega)) only [↓amPre, amPost, ↓s_lit', Nat.reduceAdd, Nat.reduceSub, List.replicate, retA, resultsA, resultA, toC, toCL, Nat.reduceEqDiff, Int.natCast_add, Int.cast_ofNat_Int, dec_t, dec_f]
    · simp only [decide_eq_false_iff_not] at hc1
      obtain rfl : j = os.length := by omega
      have hcb' : cellsAt hj b' = some (recs Kls.cells cs) := by rw [H.x.cells hb']; exact hc'
      obtain ⟨t1, t2, t3⟩ := tail 0 hj qc C _ H hW hCe (by unfold chsB lp2; rw [hW, if_neg (by simp), if_neg (by simp), if_neg (by simp), if_neg (by omega)])
      have hrl := recs_len Kls.len cs
      have htk : (recs Kls.cells cs).take (cs.length * 3) = recs Kls.cells cs := List.take_of_length_le (by omega)
      have hmod : (recs Kls.cells cs).length % 3 = 0 := by omega
      have hdiv : (recs Kls.cells cs).length / 3 = cs.length := by omega
      have hset := recs_set Kls.len hk C
      have hkl := recs_le Kls.len a6
      generalize recs Kls.cells cs = R at *
      clear hoks tail hag H
      simp (maxSteps := 1000000) (disch := first | omega | (simp (disch := first | omega | (simp only [Hdr.len, Hdr.fr, Obj.len, chg_len, chg_fr, ObjV.len, Kls.len, Chg.len, List.length_append, List.length_cons, List.length_nil, List.length_set]; first | done | omega)) only [Hdr.len, Hdr.fr, Obj.len, chg_len, chg_fr, ObjV.len, Kls.len, Chg.len, amSide, Int.reduceToNat, Nat.reducePow, Nat.reduceMul]; first | done | omega)) only  [↓amPre, amPost, ↓s_lit', Nat.reduceAdd, Nat.reduceSub, List.replicate, retA, resultsA, resultA, toC, toCL, Nat.reduceEqDiff, he, (ze47 S.p), (ze68 S.p), (ze86 S.p), append_at (un74 S.p) (sz47 S.p) (by47 S.p) (ze47 S.p) (by decide) (by decide) rfl, sl_cells (sz47 S.p), append_at (un84 S.p) (sz68 S.p) (by68 S.p) (ze68 S.p) (by decide) (by decide) rfl, sl_cells (sz68 S.p), (bu68 S.p), (bu86 S.p), lit_fill (un84 S.p) (sz68 S.p) (ze68 S.p), (fa47_0 S.p), (fa47_1 S.p), (fa62_0 S.p), (fa62_1 S.p), iaddr_sl (un73 S.p) (sz62 S.p), iaddr_sl (un74 S.p) (sz47 S.p), len_sl (un73 S.p), len_nils (un73 S.p), len_sl (un74 S.p), len_nils (un74 S.p), part_sc (ag26 S.p), part_sc (ag3 S.p), part_all (ag47 S.p) (sz47 S.p), part_at (ag47 S.p) (sz47 S.p), part_sc (ag5 S.p), part_all (ag62 S.p) (sz62 S.p), part_at (ag62 S.p) (sz62 S.p), part_all (ag68 S.p) (sz68 S.p), part_at (ag68 S.p) (sz68 S.p), part_all (ag86 S.p) (sz86 S.p), part_at (ag86 S.p) (sz86 S.p), store_last (sz4 S.p), (sz4 S.p), store_last (sz47 S.p), (sz47 S.p), store_last (sz5 S.p), (sz5 S.p), store_last (sz68 S.p), (sz68 S.p), store_last (sz86 S.p), (sz86 S.p), idx_ok, hcb', t2, htk, appB_nilsG, hmod, hdiv, cells_self, cells_other, List.drop_zero, hset, t1, cells_set, Int.toNat_natCast, Nat.zero_add, Nat.add_zero]
      exact Ends.some t3
  · rw [hW] at hp
    have hI := hinv (anew (polC c))
    have hCe : clsB c rb rv = anew (polC c) := by unfold clsB; rw [hW]; simp
    have hCok : (anew (polC c)).ok := by unfold Kls.ok anew; exact Nat.mod_lt _ (by omega)
    have e1 : IntKind.u8.wrap (((polC c).ep : Int) + 1) = ((((polC c).ep + 1) % 256 : Nat) : Int) := by
      simp only [IntKind.wrap, IntKind.bits, IntKind.signed]; simp
    have e2 : (polC c).cells.set 1 (.int .u8 ((((polC c).ep + 1) % 256 : Nat) : Int)) = (anew (polC c)).cells := rfl
    have e3 := Kls.c1 (polC c)
    generalize anew (polC c) = C at *
    simp (maxSteps := 1000000) (disch := first | omega | (simp (disch := first | omega | (simp only [Hdr.len, Hdr.fr, Obj.len, chg_len, chg_fr, ObjV.len, Kls.len, Chg.len, List.length_append, List.length_cons, List.length_nil, List.length_set]; first | done | omega)) only [Hdr.len, Hdr.fr, Obj.len, chg_len, chg_fr, ObjV.len, Kls.len, Chg.len, amSide, Int.reduceToNat, Nat.reducePow, Nat.reduceMul]; first | done | omega)) only  [↓amPre, amPost, ↓s_lit', Nat.reduceAdd, Nat.reduceSub, List.replicate, retA, resultsA, resultA, toC, toCL, Nat.reduceEqDiff, (ze47 S.p), (ze68 S.p), (ze86 S.p), append_at (un74 S.p) (sz47 S.p) (by47 S.p) (ze47 S.p) (by decide) (by decide) rfl, sl_cells (sz47 S.p), append_at (un84 S.p) (sz68 S.p) (by68 S.p) (ze68 S.p) (by decide) (by decide) rfl, sl_cells (sz68 S.p), (bu68 S.p), (bu86 S.p), lit_fill (un84 S.p) (sz68 S.p) (ze68 S.p), (fa47_0 S.p), (fa47_1 S.p), (fa62_0 S.p), (fa62_1 S.p), iaddr_sl (un73 S.p) (sz62 S.p), iaddr_sl (un74 S.p) (sz47 S.p), len_sl (un73 S.p), len_nils (un73 S.p), len_sl (un74 S.p), len_nils (un74 S.p), part_sc (ag26 S.p), part_sc (ag3 S.p), part_all (ag47 S.p) (sz47 S.p), part_at (ag47 S.p) (sz47 S.p), part_sc (ag5 S.p), part_all (ag62 S.p) (sz62 S.p), part_at (ag62 S.p) (sz62 S.p), part_all (ag68 S.p) (sz68 S.p), part_at (ag68 S.p) (sz68 S.p), part_all (ag86 S.p) (sz86 S.p), part_at (ag86 S.p) (sz86 S.p), store_last (sz4 S.p), (sz4 S.p), store_last (sz47 S.p), (sz47 S.p), store_last (sz5 S.p), (sz5 S.p), store_last (sz68 S.p), (sz68 S.p), store_last (sz86 S.p), (sz86 S.p), cells_self, cells_other, l1, l2, dec_f, hc, hc', hg1, ObjV.c1, a5, hgc, idx_ok, hp, e1, e2, e3, Int.reduceBEq, beq_self_eq_true, Int.toNat_natCast, Nat.zero_add, Nat.add_zero]
    refine ends_loop (X := RvSt) ⟨0, .nils, h ++ [.rw 86 [.int .i64 0, .nils, .nils, .int .i64 0]] ++ [.rw 47 C.cells]⟩ [16, 17, 80, 81, 82, 83, 84, 85, 86, 87, 88, 89, 90, 91, 92, 93, 94, 95, 96, 97, 98, 99, 100, 101, 102, 103, 104, 105, 106, 107, 108, 109, 110, 111, 112, 113, 114, 115, 116, 117, 118, 119, 120, 121, 122, 123, 124] (fun y => y.i ≤ os.length ∧ RrInv h y.h y.qc C (lpF os i k C y.i)) (fun y => os.length - y.i)
      (fun y e => (e.set 14 (.v (.sc y.qc))).set 15 (.v (.sc (.int .i64 y.i)))) (fun y => y.h)
      (by have := S.k; show _ < K; simp only; omega) ⟨by simp only; omega, hI⟩ (by simp (maxSteps := 1000000) (disch := first | omega | (simp (disch := first | omega | (simp only [Hdr.len, Hdr.fr, Obj.len, chg_len, chg_fr, ObjV.len, Kls.len, Chg.len, List.length_append, List.length_cons, List.length_nil, List.length_set]; first | done | omega)) only [Hdr.len, Hdr.fr, Obj.len, chg_len, chg_fr, ObjV.len, Kls.len, Chg.len, amSide, Int.reduceToNat, Nat.reducePow, Nat.reduceMul]; first | done | omega)) only [↓amPre, amPost, ↓s_lit', Nat.reduceAdd, Nat.reduceSub, List.replicate, retA, resultsA, resultA, toC, toCL, Nat.reduceEqDiff, Int.natCast_add, Int.cast_ofNat_Int, dec_t, dec_f]) rfl ?_
    rintro ⟨j, q0, hh⟩ ⟨hjl, H⟩ again hag e he
    simp only at hjl H hag he
    simp only [↓amPre, amPost, ↓s_lit', Nat.reduceAdd, Nat.reduceSub, List.replicate, retA, resultsA, resultA, toC, toCL, Nat.reduceEqDiff] at he
    simp only [↓amPre, amPost, ↓s_lit', Nat.reduceAdd, Nat.reduceSub, List.replicate, retA, resultsA, resultA, toC, toCL, Nat.reduceEqDiff, he]
    simp (maxSteps := 1000000) (disch := first | omega | (simp (disch := first | omega | (simp only [Hdr.len, Hdr.fr, Obj.len, chg_len, chg_fr, ObjV.len, Kls.len, Chg.len, List.length_append, List.length_cons, List.length_nil, List.length_set]; first | done | omega)) only [Hdr.len, Hdr.fr, Obj.len, chg_len, chg_fr, ObjV.len, Kls.len, Chg.len, amSide, Int.reduceToNat, Nat.reducePow, Nat.reduceMul]; first | done | omega)) only  [↓amPre, amPost, ↓s_lit', Nat.reduceAdd, Nat.reduceSub, List.replicate, retA, resultsA, resultA, toC, toCL, Nat.reduceEqDiff, he, (ze47 S.p), (ze68 S.p), (ze86 S.p), append_at (un74 S.p) (sz47 S.p) (by47 S.p) (ze47 S.p) (by decide) (by decide) rfl, sl_cells (sz47 S.p), append_at (un84 S.p) (sz68 S.p) (by68 S.p) (ze68 S.p) (by decide) (by decide) rfl, sl_cells (sz68 S.p), (bu68 S.p), (bu86 S.p), lit_fill (un84 S.p) (sz68 S.p) (ze68 S.p), (fa47_0 S.p), (fa47_1 S.p), (fa62_0 S.p), (fa62_1 S.p), iaddr_sl (un73 S.p) (sz62 S.p), iaddr_sl (un74 S.p) (sz47 S.p), len_sl (un73 S.p), len_nils (un73 S.p), len_sl (un74 S.p), len_nils (un74 S.p), part_sc (ag26 S.p), part_sc (ag3 S.p), part_all (ag47 S.p) (sz47 S.p), part_at (ag47 S.p) (sz47 S.p), part_sc (ag5 S.p), part_all (ag62 S.p) (sz62 S.p), part_at (ag62 S.p) (sz62 S.p), part_all (ag68 S.p) (sz68 S.p), part_at (ag68 S.p) (sz68 S.p), part_all (ag86 S.p) (sz86 S.p), part_at (ag86 S.p) (sz86 S.p), store_last (sz4 S.p), (sz4 S.p), store_last (sz47 S.p), (sz47 S.p), store_last (sz5 S.p), (sz5 S.p), store_last (sz68 S.p), (sz68 S.p), store_last (sz86 S.p), (sz86 S.p), l73]
    have hll := H.len
    have hcbj : cellsAt hh b = some (recs ObjV.cells os) := by rw [H.x.cells hb]; exact hc
    have hbj : b < hh.length := by omega
    have hcC := cells_at H.p13
    refine ends_cond (fun hc1 => ?_) (fun hc1 => ?_)
    · simp only [decide_eq_true_eq] at hc1
      have hjo : j < os.length := by omega
      obtain ⟨z, hz⟩ : ∃ z, os[j]? = some z := ⟨_, List.getElem?_eq_getElem hjo⟩
      have hzo := hoks j z hz
      have hpt := recs_part (ag62 S.p) (sz62 S.p) ObjV.len hz
      have hg := recs_get ObjV.len hz 1 (by omega)
      have hg0 := recs_get0 ObjV.len hz (by omega)
      have hst := lpF_step i k C hz
      rw [stepF_eq hz] at hst
      have hlen := lpF_len os i k C j
      have f61 : ∀ lk, ev P T K d 61 [.ag z.cells, .ag C.cells] lk hh = some (.tup [.sc (.int .u64 ((if frO z then frW z.w C else 0 : Nat) : Int)), .sc (.bool (frO z))], hh) := fun lk => s61 S (by omega) C hCok z lk hh ⟨hzo.1, hzo.2.ext H.x⟩
      have keep : ¬ ((j : Int) ≠ (i : Int) ∧ z.k = (k : Int) ∧ frO z = true ∧ frW z.w C ≠ z.w) → lpF os i k C (j + 1) = lpF os i k C j := fun hn => by rw [hst, if_neg hn]
      by_cases g1 : j = i
      · have := keep (fun q => q.1 (by omega))
        simp (maxSteps := 1000000) (disch := first | omega | (simp (disch := first | omega | (simp only [Hdr.len, Hdr.fr, Obj.len, chg_len, chg_fr, ObjV.len, Kls.len, Chg.len, List.length_append, List.length_cons, List.length_nil, List.length_set]; first | done | omega)) only [Hdr.len, Hdr.fr, Obj.len, chg_len, chg_fr, ObjV.len, Kls.len, Chg.len, amSide, Int.reduceToNat, Nat.reducePow, Nat.reduceMul]; first | done | omega)) only  [↓amPre, amPost, ↓s_lit', Nat.reduceAdd, Nat.reduceSub, List.replicate, retA, resultsA, resultA, toC, toCL, Nat.reduceEqDiff, he, (ze47 S.p), (ze68 S.p), (ze86 S.p), append_at (un74 S.p) (sz47 S.p) (by47 S.p) (ze47 S.p) (by decide) (by decide) rfl, sl_cells (sz47 S.p), append_at (un84 S.p) (sz68 S.p) (by68 S.p) (ze68 S.p) (by decide) (by decide) rfl, sl_cells (sz68 S.p), (bu68 S.p), (bu86 S.p), lit_fill (un84 S.p) (sz68 S.p) (ze68 S.p), (fa47_0 S.p), (fa47_1 S.p), (fa62_0 S.p), (fa62_1 S.p), iaddr_sl (un73 S.p) (sz62 S.p), iaddr_sl (un74 S.p) (sz47 S.p), len_sl (un73 S.p), len_nils (un73 S.p), len_sl (un74 S.p), len_nils (un74 S.p), part_sc (ag26 S.p), part_sc (ag3 S.p), part_all (ag47 S.p) (sz47 S.p), part_at (ag47 S.p) (sz47 S.p), part_sc (ag5 S.p), part_all (ag62 S.p) (sz62 S.p), part_at (ag62 S.p) (sz62 S.p), part_all (ag68 S.p) (sz68 S.p), part_at (ag68 S.p) (sz68 S.p), part_all (ag86 S.p) (sz86 S.p), part_at (ag86 S.p) (sz86 S.p), store_last (sz4 S.p), (sz4 S.p), store_last (sz47 S.p), (sz47 S.p), store_last (sz5 S.p), (sz5 S.p), store_last (sz68 S.p), (sz68 S.p), store_last (sz86 S.p), (sz86 S.p), idx_ok, hcbj, hpt, hcC, f61, Kls.len, bneI_f, Int.toNat_natCast, Nat.zero_add, Nat.add_zero, wrap_i64]
        refine hag ⟨j + 1, q0, hh⟩ ⟨hjo, by simp only; rw [this]; exact H⟩ (by simp only; omega) _ ?_
        simp (maxSteps := 1000000) (disch := first | omega | (simp (disch := first | omega | (simp only [Hdr.len, Hdr.fr, Obj.len, chg_len, chg_fr, ObjV.len, Kls.len, Chg.len, List.length_append, List.length_cons, List.length_nil, List.length_set]; first | done | omega)) only [Hdr.len, Hdr.fr, Obj.len, chg_len, chg_fr, ObjV.len, Kls.len, Chg.len, amSide, Int.reduceToNat, Nat.reducePow, Nat.reduceMul]; first | done | omega)) only [↓amPre, amPost, ↓s_lit', Nat.reduceAdd, Nat.reduceSub, List.replicate, retA, resultsA, resultA, toC, toCL, Nat.reduceEqDiff, Int.natCast_add, Int.cast_ofNat_Int, dec_t, dec_f]
      by_cases g2 : z.k = (k : Int)
      rotate_left
      · have := keep (fun q => g2 q.2.1)
        simp (maxSteps := 1000000) (disch := first | omega | (simp (disch := first | omega | (simp only [Hdr.len, Hdr.fr, Obj.len, chg_len, chg_fr, ObjV.len, Kls.len, Chg.len, List.length_append, List.length_cons, List.length_nil, List.length_set]; first | done | omega)) only [Hdr.len, Hdr.fr, Obj.len, chg_len, chg_fr, ObjV.len, Kls.len, Chg.len, amSide, Int.reduceToNat, Nat.reducePow, Nat.reduceMul]; first | done | omega)) only  [↓amPre, amPost, ↓s_lit', Nat.reduceAdd, Nat.reduceSub, List.replicate, retA, resultsA, resultA, toC, toCL, Nat.reduceEqDiff, he, (ze47 S.p), (ze68 S.p), (ze86 S.p), append_at (un74 S.p) (sz47 S.p) (by47 S.p) (ze47 S.p) (by decide) (by decide) rfl, sl_cells (sz47 S.p), append_at (un84 S.p) (sz68 S.p) (by68 S.p) (ze68 S.p) (by decide) (by decide) rfl, sl_cells (sz68 S.p), (bu68 S.p), (bu86 S.p), lit_fill (un84 S.p) (sz68 S.p) (ze68 S.p), (fa47_0 S.p), (fa47_1 S.p), (fa62_0 S.p), (fa62_1 S.p), iaddr_sl (un73 S.p) (sz62 S.p), iaddr_sl (un74 S.p) (sz47 S.p), len_sl (un73 S.p), len_nils (un73 S.p), len_sl (un74 S.p), len_nils (un74 S.p), part_sc (ag26 S.p), part_sc (ag3 S.p), part_all (ag47 S.p) (sz47 S.p), part_at (ag47 S.p) (sz47 S.p), part_sc (ag5 S.p), part_all (ag62 S.p) (sz62 S.p), part_at (ag62 S.p) (sz62 S.p), part_all (ag68 S.p) (sz68 S.p), part_at (ag68 S.p) (sz68 S.p), part_all (ag86 S.p) (sz86 S.p), part_at (ag86 S.p) (sz86 S.p), store_last (sz4 S.p), (sz4 S.p), store_last (sz47 S.p), (sz47 S.p), store_last (sz5 S.p), (sz5 S.p), store_last (sz68 S.p), (sz68 S.p), store_last (sz86 S.p), (sz86 S.p), idx_ok, hcbj, hpt, hg, ObjV.c1, hcC, f61, Kls.len, bneI_t, beqI_f, Int.toNat_natCast, Nat.zero_add, Nat.add_zero, wrap_i64]
        refine hag ⟨j + 1, q0, hh⟩ ⟨hjo, by simp only; rw [this]; exact H⟩ (by simp only; omega) _ ?_
        simp (maxSteps := 1000000) (disch := first | omega | (simp (disch := first | omega | (simp only [Hdr.len, Hdr.fr, Obj.len, chg_len, chg_fr, ObjV.len, Kls.len, Chg.len, List.length_append, List.length_cons, List.length_nil, List.length_set]; first | done | omega)) only [Hdr.len, Hdr.fr, Obj.len, chg_len, chg_fr, ObjV.len, Kls.len, Chg.len, amSide, Int.reduceToNat, Nat.reducePow, Nat.reduceMul]; first | done | omega)) only [↓amPre, amPost, ↓s_lit', Nat.reduceAdd, Nat.reduceSub, List.replicate, retA, resultsA, resultA, toC, toCL, Nat.reduceEqDiff, Int.natCast_add, Int.cast_ofNat_Int, dec_t, dec_f]
      cases g3 : frO z with
      | false =>
        have := keep (fun q => by rw [g3] at q; exact absurd q.2.2.1 (by simp))
        rw [g3] at f61
        simp (maxSteps := 1000000) (disch := first | omega | (simp (disch := first | omega | (simp only [Hdr.len, Hdr.fr, Obj.len, chg_len, chg_fr, ObjV.len, Kls.len, Chg.len, List.length_append, List.length_cons, List.length_nil, List.length_set]; first | done | omega)) only [Hdr.len, Hdr.fr, Obj.len, chg_len, chg_fr, ObjV.len, Kls.len, Chg.len, amSide, Int.reduceToNat, Nat.reducePow, Nat.reduceMul]; first | done | omega)) only  [↓amPre, amPost, ↓s_lit', Nat.reduceAdd, Nat.reduceSub, List.replicate, retA, resultsA, resultA, toC, toCL, Nat.reduceEqDiff, he, (ze47 S.p), (ze68 S.p), (ze86 S.p), append_at (un74 S.p) (sz47 S.p) (by47 S.p) (ze47 S.p) (by decide) (by decide) rfl, sl_cells (sz47 S.p), append_at (un84 S.p) (sz68 S.p) (by68 S.p) (ze68 S.p) (by decide) (by decide) rfl, sl_cells (sz68 S.p), (bu68 S.p), (bu86 S.p), lit_fill (un84 S.p) (sz68 S.p) (ze68 S.p), (fa47_0 S.p), (fa47_1 S.p), (fa62_0 S.p), (fa62_1 S.p), iaddr_sl (un73 S.p) (sz62 S.p), iaddr_sl (un74 S.p) (sz47 S.p), len_sl (un73 S.p), len_nils (un73 S.p), len_sl (un74 S.p), len_nils (un74 S.p), part_sc (ag26 S.p), part_sc (ag3 S.p), part_all (ag47 S.p) (sz47 S.p), part_at (ag47 S.p) (sz47 S.p), part_sc (ag5 S.p), part_all (ag62 S.p) (sz62 S.p), part_at (ag62 S.p) (sz62 S.p), part_all (ag68 S.p) (sz68 S.p), part_at (ag68 S.p) (sz68 S.p), part_all (ag86 S.p) (sz86 S.p), part_at (ag86 S.p) (sz86 S.p), store_last (sz4 S.p), (sz4 S.p), store_last (sz47 S.p), (sz47 S.p), store_last (sz5 S.p), (sz5 S.p), store_last (sz68 S.p), (sz68 S.p), store_last (sz86 S.p), (sz86 S.p), idx_ok, hcbj, hpt, hg, ObjV.c1, hcC, f61, Kls.len, bneI_t, beqI_t, Bool.false_eq_true, Int.toNat_natCast, Nat.zero_add, Nat.add_zero, wrap_i64]
        refine hag ⟨j + 1, q0, hh⟩ ⟨hjo, by simp only; rw [this]; exact H⟩ (by simp only; omega) _ ?_
        simp (maxSteps := 1000000) (disch := first | omega | (simp (disch := first | omega | (simp only [Hdr.len, Hdr.fr, Obj.len, chg_len, chg_fr, ObjV.len, Kls.len, Chg.len, List.length_append, List.length_cons, List.length_nil, List.length_set]; first | done | omega)) only [Hdr.len, Hdr.fr, Obj.len, chg_len, chg_fr, ObjV.len, Kls.len, Chg.len, amSide, Int.reduceToNat, Nat.reducePow, Nat.reduceMul]; first | done | omega)) only [↓amPre, amPost, ↓s_lit', Nat.reduceAdd, Nat.reduceSub, List.replicate, retA, resultsA, resultA, toC, toCL, Nat.reduceEqDiff, Int.natCast_add, Int.cast_ofNat_Int, dec_t, dec_f]
      | true =>
        rw [g3] at f61
        by_cases g4 : frW z.w C = z.w
        · have := keep (fun q => q.2.2.2 g4)
          have g5 : ((frW z.w C : Nat) : Int) = ((z.w : Nat) : Int) := by rw [g4]
          simp (maxSteps := 1000000) (disch := first | omega | (simp (disch := first | omega | (simp only [Hdr.len, Hdr.fr, Obj.len, chg_len, chg_fr, ObjV.len, Kls.len, Chg.len, List.length_append, List.length_cons, List.length_nil, List.length_set]; first | done | omega)) only [Hdr.len, Hdr.fr, Obj.len, chg_len, chg_fr, ObjV.len, Kls.len, Chg.len, amSide, Int.reduceToNat, Nat.reducePow, Nat.reduceMul]; first | done | omega)) only  [↓amPre, amPost, ↓s_lit', Nat.reduceAdd, Nat.reduceSub, List.replicate, retA, resultsA, resultA, toC, toCL, Nat.reduceEqDiff, he, (ze47 S.p), (ze68 S.p), (ze86 S.p), append_at (un74 S.p) (sz47 S.p) (by47 S.p) (ze47 S.p) (by decide) (by decide) rfl, sl_cells (sz47 S.p), append_at (un84 S.p) (sz68 S.p) (by68 S.p) (ze68 S.p) (by decide) (by decide) rfl, sl_cells (sz68 S.p), (bu68 S.p), (bu86 S.p), lit_fill (un84 S.p) (sz68 S.p) (ze68 S.p), (fa47_0 S.p), (fa47_1 S.p), (fa62_0 S.p), (fa62_1 S.p), iaddr_sl (un73 S.p) (sz62 S.p), iaddr_sl (un74 S.p) (sz47 S.p), len_sl (un73 S.p), len_nils (un73 S.p), len_sl (un74 S.p), len_nils (un74 S.p), part_sc (ag26 S.p), part_sc (ag3 S.p), part_all (ag47 S.p) (sz47 S.p), part_at (ag47 S.p) (sz47 S.p), part_sc (ag5 S.p), part_all (ag62 S.p) (sz62 S.p), part_at (ag62 S.p) (sz62 S.p), part_all (ag68 S.p) (sz68 S.p), part_at (ag68 S.p) (sz68 S.p), part_all (ag86 S.p) (sz86 S.p), part_at (ag86 S.p) (sz86 S.p), store_last (sz4 S.p), (sz4 S.p), store_last (sz47 S.p), (sz47 S.p), store_last (sz5 S.p), (sz5 S.p), store_last (sz68 S.p), (sz68 S.p), store_last (sz86 S.p), (sz86 S.p), idx_ok, hcbj, hpt, hg, hg0, ObjV.c0, ObjV.c1, hcC, f61, Kls.len, bneI_t, bneI_f, beqI_t, Int.toNat_natCast, Nat.zero_add, Nat.add_zero, wrap_i64]
          refine hag ⟨j + 1, q0, hh⟩ ⟨hjo, by simp only; rw [this]; exact H⟩ (by simp only; omega) _ ?_
          simp (maxSteps := 1000000) (disch := first | omega | (simp (disch := first | omega | (simp only [Hdr.len, Hdr.fr, Obj.len, chg_len, chg_fr, ObjV.len, Kls.len, Chg.len, List.length_append, List.length_cons, List.length_nil, List.length_set]; first | done | omega)) only [Hdr.len, Hdr.fr, Obj.len, chg_len, chg_fr, ObjV.len, Kls.len, Chg.len, amSide, Int.reduceToNat, Nat.reducePow, Nat.reduceMul]; first | done | omega)) only [↓amPre, amPost, ↓s_lit', Nat.reduceAdd, Nat.reduceSub, List.replicate, retA, resultsA, resultA, toC, toCL, Nat.reduceEqDiff, Int.natCast_add, Int.cast_ofNat_Int, dec_t, dec_f]
        · have g5 : ¬ ((frW z.w C : Nat) : Int) = ((z.w : Nat) : Int) := by omega
          have hfin := H.push (.rw 68 (Chg.cells ⟨(j : Nat), frW z.w C, -1, 0⟩))
          obtain ⟨q2, h2, happ, hfin2⟩ := hfin.grow ⟨(j : Nat), frW z.w C, -1, 0⟩ lk hlk (by omega)
          have hn : lpF os i k C (j + 1) = lpF os i k C j ++ [⟨(j : Nat), frW z.w C, -1, 0⟩] := by rw [hst, if_pos ⟨by omega, g2, g3, g4⟩]
          rw [← hn] at hfin2
          have hy : [SV.int .i64 ((j : Nat) : Int), .int .u64 ((frW z.w C : Nat) : Int), .int .i64 (-1), .int .u64 0] = Chg.cells ⟨(j : Nat), frW z.w C, -1, 0⟩ := rfl
          have htk : (Chg.cells ⟨(j : Nat), frW z.w C, -1, 0⟩).take 4 = Chg.cells ⟨(j : Nat), frW z.w C, -1, 0⟩ := rfl
          clear hfin hst keep hoks tail hn
          generalize Chg.cells ⟨(j : Nat), frW z.w C, -1, 0⟩ = Y at *
          have hyl : Y.length = 4 := by rw [← hy]; rfl
          simp (maxSteps := 1000000) (disch := first | omega | (simp (disch := first | omega | (simp only [Hdr.len, Hdr.fr, Obj.len, chg_len, chg_fr, ObjV.len, Kls.len, Chg.len, List.length_append, List.length_cons, List.length_nil, List.length_set]; first | done | omega)) only [Hdr.len, Hdr.fr, Obj.len, chg_len, chg_fr, ObjV.len, Kls.len, Chg.len, amSide, Int.reduceToNat, Nat.reducePow, Nat.reduceMul]; first | done | omega)) only  [↓amPre, amPost, ↓s_lit', Nat.reduceAdd, Nat.reduceSub, List.replicate, retA, resultsA, resultA, toC, toCL, Nat.reduceEqDiff, he, (ze47 S.p), (ze68 S.p), (ze86 S.p), append_at (un74 S.p) (sz47 S.p) (by47 S.p) (ze47 S.p) (by decide) (by decide) rfl, sl_cells (sz47 S.p), append_at (un84 S.p) (sz68 S.p) (by68 S.p) (ze68 S.p) (by decide) (by decide) rfl, sl_cells (sz68 S.p), (bu68 S.p), (bu86 S.p), lit_fill (un84 S.p) (sz68 S.p) (ze68 S.p), (fa47_0 S.p), (fa47_1 S.p), (fa62_0 S.p), (fa62_1 S.p), iaddr_sl (un73 S.p) (sz62 S.p), iaddr_sl (un74 S.p) (sz47 S.p), len_sl (un73 S.p), len_nils (un73 S.p), len_sl (un74 S.p), len_nils (un74 S.p), part_sc (ag26 S.p), part_sc (ag3 S.p), part_all (ag47 S.p) (sz47 S.p), part_at (ag47 S.p) (sz47 S.p), part_sc (ag5 S.p), part_all (ag62 S.p) (sz62 S.p), part_at (ag62 S.p) (sz62 S.p), part_all (ag68 S.p) (sz68 S.p), part_at (ag68 S.p) (sz68 S.p), part_all (ag86 S.p) (sz86 S.p), part_at (ag86 S.p) (sz86 S.p), store_last (sz4 S.p), (sz4 S.p), store_last (sz47 S.p), (sz47 S.p), store_last (sz5 S.p), (sz5 S.p), store_last (sz68 S.p), (sz68 S.p), store_last (sz86 S.p), (sz86 S.p), idx_ok, hcbj, hpt, hg, hg0, ObjV.c0, ObjV.c1, hcC, f61, Kls.len, bneI_t, beqI_t, hy, hyl, htk, happ, cells_self, List.flatten_cons, List.flatten_nil, List.append_nil, Nat.zero_mul, Nat.one_mul, Int.toNat_natCast, Nat.zero_add, Nat.add_zero, wrap_i64]
          refine hag ⟨j + 1, q2, h2⟩ ⟨hjo, hfin2⟩ (by simp only; omega) _ ?_
          simp (maxSteps := 1000000) (disch := first | omega | (simp (disch := first | omega | (simp only [Hdr.len, Hdr.fr, Obj.len, chg_len, chg_fr, ObjV.len, Kls.len, Chg.len, List.length_append, List.length_cons, List.length_nil, List.length_set]; first | done | omega)) only [Hdr.len, Hdr.fr, Obj.len, chg_len, chg_fr, ObjV.len, Kls.len, Chg.len, amSide, Int.reduceToNat, Nat.reducePow, Nat.reduceMul]; first | done | omega)) only [↓amPre, amPost, ↓s_lit', Nat.reduceAdd, Nat.reduceSub, List.replicate, retA, resultsA, resultA, toC, toCL, Nat.reduceEqDiff, Int.natCast_add, Int.cast_ofNat_Int, dec_t, dec_f]
    simp only [decide_eq_false_iff_not] at hc1
    obtain rfl : j = os.length := by omega
    have hlen1 := lpF_len os i k C os.length
    clear hag hc1
    simp (maxSteps := 1000000) (disch := first | omega | (simp (disch := first | omega | (simp only [Hdr.len, Hdr.fr, Obj.len, chg_len, chg_fr, ObjV.len, Kls.len, Chg.len, List.length_append, List.length_cons, List.length_nil, List.length_set]; first | done | omega)) only [Hdr.len, Hdr.fr, Obj.len, chg_len, chg_fr, ObjV.len, Kls.len, Chg.len, amSide, Int.reduceToNat, Nat.reducePow, Nat.reduceMul]; first | done | omega)) only  [↓amPre, amPost, ↓s_lit', Nat.reduceAdd, Nat.reduceSub, List.replicate, retA, resultsA, resultA, toC, toCL, Nat.reduceEqDiff, he, (ze47 S.p), (ze68 S.p), (ze86 S.p), append_at (un74 S.p) (sz47 S.p) (by47 S.p) (ze47 S.p) (by decide) (by decide) rfl, sl_cells (sz47 S.p), append_at (un84 S.p) (sz68 S.p) (by68 S.p) (ze68 S.p) (by decide) (by decide) rfl, sl_cells (sz68 S.p), (bu68 S.p), (bu86 S.p), lit_fill (un84 S.p) (sz68 S.p) (ze68 S.p), (fa47_0 S.p), (fa47_1 S.p), (fa62_0 S.p), (fa62_1 S.p), iaddr_sl (un73 S.p) (sz62 S.p), iaddr_sl (un74 S.p) (sz47 S.p), len_sl (un73 S.p), len_nils (un73 S.p), len_sl (un74 S.p), len_nils (un74 S.p), part_sc (ag26 S.p), part_sc (ag3 S.p), part_all (ag47 S.p) (sz47 S.p), part_at (ag47 S.p) (sz47 S.p), part_sc (ag5 S.p), part_all (ag62 S.p) (sz62 S.p), part_at (ag62 S.p) (sz62 S.p), part_all (ag68 S.p) (sz68 S.p), part_at (ag68 S.p) (sz68 S.p), part_all (ag86 S.p) (sz86 S.p), part_at (ag86 S.p) (sz86 S.p), store_last (sz4 S.p), (sz4 S.p), store_last (sz47 S.p), (sz47 S.p), store_last (sz5 S.p), (sz5 S.p), store_last (sz68 S.p), (sz68 S.p), store_last (sz86 S.p), (sz86 S.p), Int.reduceBEq]
    refine ends_loop (X := RvSt) ⟨0, q0, hh⟩ [19, 20, 128, 129, 130, 131, 132, 133, 134, 135, 136, 137, 138, 139, 140, 141, 142, 143, 144, 145, 146, 147, 148, 149, 150, 151, 152, 153, 154, 155, 156, 157, 158, 159, 160, 161, 162, 163, 164, 165] (fun y => y.i ≤ os.length ∧ RrInv h y.h y.qc C (lp2 os i k x 1 (lpF os i k C os.length) y.i)) (fun y => os.length - y.i)
      (fun y e => (e.set 14 (.v (.sc y.qc))).set 18 (.v (.sc (.int .i64 y.i)))) (fun y => y.h)
      (by have := S.k; show _ < K; simp only; omega) ⟨by simp only; omega, by simp only; rw [lp2_zero' _ _ _ _ _ _ (by simp)]; exact H⟩ (by simp (maxSteps := 1000000) (disch := first | omega | (simp (disch := first | omega | (simp only [Hdr.len, Hdr.fr, Obj.len, chg_len, chg_fr, ObjV.len, Kls.len, Chg.len, List.length_append, List.length_cons, List.length_nil, List.length_set]; first | done | omega)) only [Hdr.len, Hdr.fr, Obj.len, chg_len, chg_fr, ObjV.len, Kls.len, Chg.len, amSide, Int.reduceToNat, Nat.reducePow, Nat.reduceMul]; first | done | omega)) only [↓amPre, amPost, ↓s_lit', Nat.reduceAdd, Nat.reduceSub, List.replicate, retA, resultsA, resultA, toC, toCL, Nat.reduceEqDiff, Int.natCast_add, Int.cast_ofNat_Int, dec_t, dec_f]) rfl ?_
    rintro ⟨j, qc, hj⟩ ⟨hjl, H⟩ again hag e he
    simp only at hjl H hag he
    simp only [↓amPre, amPost, ↓s_lit', Nat.reduceAdd, Nat.reduceSub, List.replicate, retA, resultsA, resultA, toC, toCL, Nat.reduceEqDiff] at he
    simp only [↓amPre, amPost, ↓s_lit', Nat.reduceAdd, Nat.reduceSub, List.replicate, retA, resultsA, resultA, toC, toCL, Nat.reduceEqDiff, he]
    simp (maxSteps := 1000000) (disch := first | omega | (simp (disch := first | omega | (simp only [Hdr.len, Hdr.fr, Obj.len, chg_len, chg_fr, ObjV.len, Kls.len, Chg.len, List.length_append, List.length_cons, List.length_nil, List.length_set]; first | done | omega)) only [Hdr.len, Hdr.fr, Obj.len, chg_len, chg_fr, ObjV.len, Kls.len, Chg.len, amSide, Int.reduceToNat, Nat.reducePow, Nat.reduceMul]; first | done | omega)) only  [↓amPre, amPost, ↓s_lit', Nat.reduceAdd, Nat.reduceSub, List.replicate, retA, resultsA, resultA, toC, toCL, Nat.reduceEqDiff, he, (ze47 S.p), (ze68 S.p), (ze86 S.p), append_at (un74 S.p) (sz47 S.p) (by47 S.p) (ze47 S.p) (by decide) (by decide) rfl, sl_cells (sz47 S.p), append_at (un84 S.p) (sz68 S.p) (by68 S.p) (ze68 S.p) (by decide) (by decide) rfl, sl_cells (sz68 S.p), (bu68 S.p), (bu86 S.p), lit_fill (un84 S.p) (sz68 S.p) (ze68 S.p), (fa47_0 S.p), (fa47_1 S.p), (fa62_0 S.p), (fa62_1 S.p), iaddr_sl (un73 S.p) (sz62 S.p), iaddr_sl (un74 S.p) (sz47 S.p), len_sl (un73 S.p), len_nils (un73 S.p), len_sl (un74 S.p), len_nils (un74 S.p), part_sc (ag26 S.p), part_sc (ag3 S.p), part_all (ag47 S.p) (sz47 S.p), part_at (ag47 S.p) (sz47 S.p), part_sc (ag5 S.p), part_all (ag62 S.p) (sz62 S.p), part_at (ag62 S.p) (sz62 S.p), part_all (ag68 S.p) (sz68 S.p), part_at (ag68 S.p) (sz68 S.p), part_all (ag86 S.p) (sz86 S.p), part_at (ag86 S.p) (sz86 S.p), store_last (sz4 S.p), (sz4 S.p), store_last (sz47 S.p), (sz47 S.p), store_last (sz5 S.p), (sz5 S.p), store_last (sz68 S.p), (sz68 S.p), store_last (sz86 S.p), (sz86 S.p), l73]
    have hll := H.len
    have hcbj : cellsAt hj b = some (recs ObjV.cells os) := by rw [H.x.cells hb]; exact hc
    have hbj : b < hj.length := by omega
    refine ends_cond (fun hc1 => ?_) (fun hc1 => ?_)
    · simp only [decide_eq_true_eq] at hc1
      have hjo : j < os.length := by omega
      obtain ⟨z, hz⟩ : ∃ z, os[j]? = some z := ⟨_, List.getElem?_eq_getElem hjo⟩
      have hzo := hoks j z hz
      have hpt := recs_part (ag62 S.p) (sz62 S.p) ObjV.len hz
      have hg := recs_get ObjV.len hz 1 (by omega)
      have H2 := H.push (.rw 68 (oneV j z).cells)
      have hst := lp2_step (W := 1) (chs1 := (lpF os i k C os.length)) a4 a5 hz
      have hlen := lp2_len os i k x 1 (lpF os i k C os.length) j
      have hchl : ((lpF os i k C os.length) : List Chg).length ≤ 600 := by first | (simp; done) | omega
      have f40 : ∀ lk, ev P T K d 40 [.sc (.int .i64 (j : Nat)), .ag z.cells] lk hj = some (.tup [.ag (oneV j z).cells, .sc (.bool (oneOk j z.w))], hj) := fun lk => by
        have := s40 S (show 10 ≤ d by omega) j z.w hzo.1 z.k z.q z.cnt lk hj (hzo.2.ext H.x)
        rw [oneV_cells] at this
        exact this
      have keep : ¬ (oneOk j z.w = true ∧ z.k = (k : Int) ∧ (j = i ∨ (1 : Int) = 2)) → lp2 os i k x 1 (lpF os i k C os.length) (j + 1) = lp2 os i k x 1 (lpF os i k C os.length) j := fun hn => by rw [hst, if_neg hn]
      cases e1 : oneOk j z.w with
      | false =>
        have := keep (fun q => by rw [e1] at q; exact absurd q.1 (by simp))
        rw [e1] at f40
        simp (maxSteps := 1000000) (disch := first | omega | (simp (disch := first | omega | (simp only [Hdr.len, Hdr.fr, Obj.len, chg_len, chg_fr, ObjV.len, Kls.len, Chg.len, List.length_append, List.length_cons, List.length_nil, List.length_set]; first | done | omega)) only [Hdr.len, Hdr.fr, Obj.len, chg_len, chg_fr, ObjV.len, Kls.len, Chg.len, amSide, Int.reduceToNat, Nat.reducePow, Nat.reduceMul]; first | done | omega)) only  [↓amPre, amPost, ↓s_lit', Nat.reduceAdd, Nat.reduceSub, List.replicate, retA, resultsA, resultA, toC, toCL, Nat.reduceEqDiff, he, (ze47 S.p), (ze68 S.p), (ze86 S.p), append_at (un74 S.p) (sz47 S.p) (by47 S.p) (ze47 S.p) (by decide) (by decide) rfl, sl_cells (sz47 S.p), append_at (un84 S.p) (sz68 S.p) (by68 S.p) (ze68 S.p) (by decide) (by decide) rfl, sl_cells (sz68 S.p), (bu68 S.p), (bu86 S.p), lit_fill (un84 S.p) (sz68 S.p) (ze68 S.p), (fa47_0 S.p), (fa47_1 S.p), (fa62_0 S.p), (fa62_1 S.p), iaddr_sl (un73 S.p) (sz62 S.p), iaddr_sl (un74 S.p) (sz47 S.p), len_sl (un73 S.p), len_nils (un73 S.p), len_sl (un74 S.p), len_nils (un74 S.p), part_sc (ag26 S.p), part_sc (ag3 S.p), part_all (ag47 S.p) (sz47 S.p), part_at (ag47 S.p) (sz47 S.p), part_sc (ag5 S.p), part_all (ag62 S.p) (sz62 S.p), part_at (ag62 S.p) (sz62 S.p), part_all (ag68 S.p) (sz68 S.p), part_at (ag68 S.p) (sz68 S.p), part_all (ag86 S.p) (sz86 S.p), part_at (ag86 S.p) (sz86 S.p), store_last (sz4 S.p), (sz4 S.p), store_last (sz47 S.p), (sz47 S.p), store_last (sz5 S.p), (sz5 S.p), store_last (sz68 S.p), (sz68 S.p), store_last (sz86 S.p), (sz86 S.p), idx_ok, hcbj, hpt, f40, cells_self, Int.toNat_natCast, Nat.zero_add, Nat.add_zero, wrap_i64]
        refine hag ⟨j + 1, qc, _⟩ ⟨hjo, by simp only; rw [this]; exact H2⟩ (by simp only; omega) _ ?_
        simp (maxSteps := 1000000) (disch := first | omega | (simp (disch := first | omega | (simp only [Hdr.len, Hdr.fr, Obj.len, chg_len, chg_fr, ObjV.len, Kls.len, Chg.len, List.length_append, List.length_cons, List.length_nil, List.length_set]; first | done | omega)) only [Hdr.len, Hdr.fr, Obj.len, chg_len, chg_fr, ObjV.len, Kls.len, Chg.len, amSide, Int.reduceToNat, Nat.reducePow, Nat.reduceMul]; first | done | omega)) only [↓amPre, amPost, ↓s_lit', Nat.reduceAdd, Nat.reduceSub, List.replicate, retA, resultsA, resultA, toC, toCL, Nat.reduceEqDiff, Int.natCast_add, Int.cast_ofNat_Int, dec_t, dec_f]
      | true =>
        rw [e1] at f40
        by_cases e2 : z.k = (k : Int)
        rotate_left
        · have := keep (fun q => e2 q.2.1)
          simp (maxSteps := 1000000) (disch := first | omega | (simp (disch := first | omega | (simp only [Hdr.len, Hdr.fr, Obj.len, chg_len, chg_fr, ObjV.len, Kls.len, Chg.len, List.length_append, List.length_cons, List.length_nil, List.length_set]; first | done | omega)) only [Hdr.len, Hdr.fr, Obj.len, chg_len, chg_fr, ObjV.len, Kls.len, Chg.len, amSide, Int.reduceToNat, Nat.reducePow, Nat.reduceMul]; first | done | omega)) only  [↓amPre, amPost, ↓s_lit', Nat.reduceAdd, Nat.reduceSub, List.replicate, retA, resultsA, resultA, toC, toCL, Nat.reduceEqDiff, he, (ze47 S.p), (ze68 S.p), (ze86 S.p), append_at (un74 S.p) (sz47 S.p) (by47 S.p) (ze47 S.p) (by decide) (by decide) rfl, sl_cells (sz47 S.p), append_at (un84 S.p) (sz68 S.p) (by68 S.p) (ze68 S.p) (by decide) (by decide) rfl, sl_cells (sz68 S.p), (bu68 S.p), (bu86 S.p), lit_fill (un84 S.p) (sz68 S.p) (ze68 S.p), (fa47_0 S.p), (fa47_1 S.p), (fa62_0 S.p), (fa62_1 S.p), iaddr_sl (un73 S.p) (sz62 S.p), iaddr_sl (un74 S.p) (sz47 S.p), len_sl (un73 S.p), len_nils (un73 S.p), len_sl (un74 S.p), len_nils (un74 S.p), part_sc (ag26 S.p), part_sc (ag3 S.p), part_all (ag47 S.p) (sz47 S.p), part_at (ag47 S.p) (sz47 S.p), part_sc (ag5 S.p), part_all (ag62 S.p) (sz62 S.p), part_at (ag62 S.p) (sz62 S.p), part_all (ag68 S.p) (sz68 S.p), part_at (ag68 S.p) (sz68 S.p), part_all (ag86 S.p) (sz86 S.p), part_at (ag86 S.p) (sz86 S.p), store_last (sz4 S.p), (sz4 S.p), store_last (sz47 S.p), (sz47 S.p), store_last (sz5 S.p), (sz5 S.p), store_last (sz68 S.p), (sz68 S.p), store_last (sz86 S.p), (sz86 S.p), idx_ok, hcbj, hpt, hg, f40, cells_self, cells_other, ObjV.c1, beqI_f, Int.toNat_natCast, Nat.zero_add, Nat.add_zero, wrap_i64]
          refine hag ⟨j + 1, qc, _⟩ ⟨hjo, by simp only; rw [this]; exact H2⟩ (by simp only; omega) _ ?_
          simp (maxSteps := 1000000) (disch := first | omega | (simp (disch := first | omega | (simp only [Hdr.len, Hdr.fr, Obj.len, chg_len, chg_fr, ObjV.len, Kls.len, Chg.len, List.length_append, List.length_cons, List.length_nil, List.length_set]; first | done | omega)) only [Hdr.len, Hdr.fr, Obj.len, chg_len, chg_fr, ObjV.len, Kls.len, Chg.len, amSide, Int.reduceToNat, Nat.reducePow, Nat.reduceMul]; first | done | omega)) only [↓amPre, amPost, ↓s_lit', Nat.reduceAdd, Nat.reduceSub, List.replicate, retA, resultsA, resultA, toC, toCL, Nat.reduceEqDiff, Int.natCast_add, Int.cast_ofNat_Int, dec_t, dec_f]
        by_cases e3 : j = i
        rotate_left
        · have := keep (fun q => by rcases q.2.2 with q | q; (· exact e3 q); (· cases q))
          simp (maxSteps := 1000000) (disch := first | omega | (simp (disch := first | omega | (simp only [Hdr.len, Hdr.fr, Obj.len, chg_len, chg_fr, ObjV.len, Kls.len, Chg.len, List.length_append, List.length_cons, List.length_nil, List.length_set]; first | done | omega)) only [Hdr.len, Hdr.fr, Obj.len, chg_len, chg_fr, ObjV.len, Kls.len, Chg.len, amSide, Int.reduceToNat, Nat.reducePow, Nat.reduceMul]; first | done | omega)) only  [↓amPre, amPost, ↓s_lit', Nat.reduceAdd, Nat.reduceSub, List.replicate, retA, resultsA, resultA, toC, toCL, Nat.reduceEqDiff, he, (ze47 S.p), (ze68 S.p), (ze86 S.p), append_at (un74 S.p) (sz47 S.p) (by47 S.p) (ze47 S.p) (by decide) (by decide) rfl, sl_cells (sz47 S.p), append_at (un84 S.p) (sz68 S.p) (by68 S.p) (ze68 S.p) (by decide) (by decide) rfl, sl_cells (sz68 S.p), (bu68 S.p), (bu86 S.p), lit_fill (un84 S.p) (sz68 S.p) (ze68 S.p), (fa47_0 S.p), (fa47_1 S.p), (fa62_0 S.p), (fa62_1 S.p), iaddr_sl (un73 S.p) (sz62 S.p), iaddr_sl (un74 S.p) (sz47 S.p), len_sl (un73 S.p), len_nils (un73 S.p), len_sl (un74 S.p), len_nils (un74 S.p), part_sc (ag26 S.p), part_sc (ag3 S.p), part_all (ag47 S.p) (sz47 S.p), part_at (ag47 S.p) (sz47 S.p), part_sc (ag5 S.p), part_all (ag62 S.p) (sz62 S.p), part_at (ag62 S.p) (sz62 S.p), part_all (ag68 S.p) (sz68 S.p), part_at (ag68 S.p) (sz68 S.p), part_all (ag86 S.p) (sz86 S.p), part_at (ag86 S.p) (sz86 S.p), store_last (sz4 S.p), (sz4 S.p), store_last (sz47 S.p), (sz47 S.p), store_last (sz5 S.p), (sz5 S.p), store_last (sz68 S.p), (sz68 S.p), store_last (sz86 S.p), (sz86 S.p), idx_ok, hcbj, hpt, hg, f40, cells_self, cells_other, ObjV.c1, beqI_t, beqI_f, Int.reduceBEq, Int.toNat_natCast, Nat.zero_add, Nat.add_zero, wrap_i64]
          refine hag ⟨j + 1, qc, _⟩ ⟨hjo, by simp only; rw [this]; exact H2⟩ (by simp only; omega) _ ?_
          simp (maxSteps := 1000000) (disch := first | omega | (simp (disch := first | omega | (simp only [Hdr.len, Hdr.fr, Obj.len, chg_len, chg_fr, ObjV.len, Kls.len, Chg.len, List.length_append, List.length_cons, List.length_nil, List.length_set]; first | done | omega)) only [Hdr.len, Hdr.fr, Obj.len, chg_len, chg_fr, ObjV.len, Kls.len, Chg.len, amSide, Int.reduceToNat, Nat.reducePow, Nat.reduceMul]; first | done | omega)) only [↓amPre, amPost, ↓s_lit', Nat.reduceAdd, Nat.reduceSub, List.replicate, retA, resultsA, resultA, toC, toCL, Nat.reduceEqDiff, Int.natCast_add, Int.cast_ofNat_Int, dec_t, dec_f]
        · skip
          have hfin := H2.push (.rw 68 (oneV j z).cells)
          obtain ⟨q2, h2, happ, hfin2⟩ := hfin.grow (oneV j z) lk hlk (by omega)
          have hn : lp2 os i k x 1 (lpF os i k C os.length) (j + 1) = lp2 os i k x 1 (lpF os i k C os.length) j ++ [oneV j z] := by rw [hst, if_pos ⟨e1, e2, .inl e3⟩]
          rw [← hn] at hfin2
          have htk : (oneV j z).cells.take 4 = (oneV j z).cells := rfl
          clear hfin hst keep hoks tail
          simp (maxSteps := 1000000) (disch := first | omega | (simp (disch := first | omega | (simp only [Hdr.len, Hdr.fr, Obj.len, chg_len, chg_fr, ObjV.len, Kls.len, Chg.len, List.length_append, List.length_cons, List.length_nil, List.length_set]; first | done | omega)) only [Hdr.len, Hdr.fr, Obj.len, chg_len, chg_fr, ObjV.len, Kls.len, Chg.len, amSide, Int.reduceToNat, Nat.reducePow, Nat.reduceMul]; first | done | omega)) only  [↓amPre, amPost, ↓s_lit', Nat.reduceAdd, Nat.reduceSub, List.replicate, retA, resultsA, resultA, toC, toCL, Nat.reduceEqDiff, he, (ze47 S.p), (ze68 S.p), (ze86 S.p), append_at (un74 S.p) (sz47 S.p) (by47 S.p) (ze47 S.p) (by decide) (by decide) rfl, sl_cells (sz47 S.p), append_at (un84 S.p) (sz68 S.p) (by68 S.p) (ze68 S.p) (by decide) (by decide) rfl, sl_cells (sz68 S.p), (bu68 S.p), (bu86 S.p), lit_fill (un84 S.p) (sz68 S.p) (ze68 S.p), (fa47_0 S.p), (fa47_1 S.p), (fa62_0 S.p), (fa62_1 S.p), iaddr_sl (un73 S.p) (sz62 S.p), iaddr_sl (un74 S.p) (sz47 S.p), len_sl (un73 S.p), len_nils (un73 S.p), len_sl (un74 S.p), len_nils (un74 S.p), part_sc (ag26 S.p), part_sc (ag3 S.p), part_all (ag47 S.p) (sz47 S.p), part_at (ag47 S.p) (sz47 S.p), part_sc (ag5 S.p), part_all (ag62 S.p) (sz62 S.p), part_at (ag62 S.p) (sz62 S.p), part_all (ag68 S.p) (sz68 S.p), part_at (ag68 S.p) (sz68 S.p), part_all (ag86 S.p) (sz86 S.p), part_at (ag86 S.p) (sz86 S.p), store_last (sz4 S.p), (sz4 S.p), store_last (sz47 S.p), (sz47 S.p), store_last (sz5 S.p), (sz5 S.p), store_last (sz68 S.p), (sz68 S.p), store_last (sz86 S.p), (sz86 S.p), idx_ok, hcbj, hpt, hg, f40, cells_self, cells_other, ObjV.c1, Chg.len, beqI_t, beqI_t, htk, happ, Int.reduceBEq, beq_self_eq_true, List.flatten_cons, List.flatten_nil, List.append_nil, Nat.zero_mul, Nat.one_mul, Int.toNat_natCast, Nat.zero_add, Nat.add_zero, wrap_i64]
          refine hag ⟨j + 1, q2, h2⟩ ⟨hjo, hfin2⟩ (by simp only; omega) _ ?_
          simp (maxSteps := 1000000) (disch := first | omega | (simp (disch := first | omega | (simp only [Hdr.len, Hdr.fr, Obj.len, chg_len, chg_fr, ObjV.len, Kls.len, Chg.len, List.length_append, List.length_cons, List.length_nil, List.length_set]; first | done | omega)) only [Hdr.len, Hdr.fr, Obj.len, chg_len, chg_fr, ObjV.len, Kls.len, Chg.len, amSide, Int.reduceToNat, Nat.reducePow, Nat.reduceMul]; first | done | omega)) only [↓amPre, amPost, ↓s_lit', Nat.reduceAdd, Nat.reduceSub, List.replicate, retA, resultsA, resultA, toC, toCL, Nat.reduceEqDiff, Int.natCast_add, Int.cast_ofNat_Int, dec_t, dec_f]
    · simp only [decide_eq_false_iff_not] at hc1
      obtain rfl : j = os.length := by omega
      have hcb' : cellsAt hj b' = some (recs Kls.cells cs) := by rw [H.x.cells hb']; exact hc'
      obtain ⟨t1, t2, t3⟩ := tail 1 hj qc C _ H hW hCe (by unfold chsB lp2; rw [hW, if_pos rfl, if_neg (by simp), if_neg (by omega), hCe])
      have hrl := recs_len Kls.len cs
      have htk : (recs Kls.cells cs).take (cs.length * 3) = recs Kls.cells cs := List.take_of_length_le (by omega)
      have hmod : (recs Kls.cells cs).length % 3 = 0 := by omega
      have hdiv : (recs Kls.cells cs).length / 3 = cs.length := by omega
      have hset := recs_set Kls.len hk C
      have hkl := recs_le Kls.len a6
      generalize recs Kls.cells cs = R at *
      clear hoks tail hag H
      simp (maxSteps := 1000000) (disch := first | omega | (simp (disch := first | omega | (simp only [Hdr.len, Hdr.fr, Obj.len, chg_len, chg_fr, ObjV.len, Kls.len, Chg.len, List.length_append, List.length_cons, List.length_nil, List.length_set]; first | done | omega)) only [Hdr.len, Hdr.fr, Obj.len, chg_len, chg_fr, ObjV.len, Kls.len, Chg.len, amSide, Int.reduceToNat, Nat.reducePow, Nat.reduceMul]; first | done | omega)) only  [↓amPre, amPost, ↓s_lit', Nat.reduceAdd, Nat.reduceSub, List.replicate, retA, resultsA, resultA, toC, toCL, Nat.reduceEqDiff, he, (ze47 S.p), (ze68 S.p), (ze86 S.p), append_at (un74 S.p) (sz47 S.p) (by47 S.p) (ze47 S.p) (by decide) (by decide) rfl, sl_cells (sz47 S.p), append_at (un84 S.p) (sz68 S.p) (by68 S.p) (ze68 S.p) (by decide) (by decide) rfl, sl_cells (sz68 S.p), (bu68 S.p), (bu86 S.p), lit_fill (un84 S.p) (sz68 S.p) (ze68 S.p), (fa47_0 S.p), (fa47_1 S.p), (fa62_0 S.p), (fa62_1 S.p), iaddr_sl (un73 S.p) (sz62 S.p), iaddr_sl (un74 S.p) (sz47 S.p), len_sl (un73 S.p), len_nils (un73 S.p), len_sl (un74 S.p), len_nils (un74 S.p), part_sc (ag26 S.p), part_sc (ag3 S.p), part_all (ag47 S.p) (sz47 S.p), part_at (ag47 S.p) (sz47 S.p), part_sc (ag5 S.p), part_all (ag62 S.p) (sz62 S.p), part_at (ag62 S.p) (sz62 S.p), part_all (ag68 S.p) (sz68 S.p), part_at (ag68 S.p) (sz68 S.p), part_all (ag86 S.p) (sz86 S.p), part_at (ag86 S.p) (sz86 S.p), store_last (sz4 S.p), (sz4 S.p), store_last (sz47 S.p), (sz47 S.p), store_last (sz5 S.p), (sz5 S.p), store_last (sz68 S.p), (sz68 S.p), store_last (sz86 S.p), (sz86 S.p), idx_ok, hcb', t2, htk, appB_nilsG, hmod, hdiv, cells_self, cells_other, List.drop_zero, hset, t1, cells_set, Int.toNat_natCast, Nat.zero_add, Nat.add_zero]
      exact Ends.some t3
  · rw [hW] at hp
    have hI := hinv (never (polC c))
    have hCe : clsB c rb rv = never (polC c) := by unfold clsB; rw [hW]; simp
    have e2 : (polC c).cells.set 0 (.bool false) = (never (polC c)).cells := rfl
    have e3 := Kls.c0 (polC c)
    generalize never (polC c) = C at *
    simp (maxSteps := 1000000) (disch := first | omega | (simp (disch := first | omega | (simp only [Hdr.len, Hdr.fr, Obj.len, chg_len, chg_fr, ObjV.len, Kls.len, Chg.len, List.length_append, List.length_cons, List.length_nil, List.length_set]; first | done | omega)) only [Hdr.len, Hdr.fr, Obj.len, chg_len, chg_fr, ObjV.len, Kls.len, Chg.len, amSide, Int.reduceToNat, Nat.reducePow, Nat.reduceMul]; first | done | omega)) only  [↓amPre, amPost, ↓s_lit', Nat.reduceAdd, Nat.reduceSub, List.replicate, retA, resultsA, resultA, toC, toCL, Nat.reduceEqDiff, (ze47 S.p), (ze68 S.p), (ze86 S.p), append_at (un74 S.p) (sz47 S.p) (by47 S.p) (ze47 S.p) (by decide) (by decide) rfl, sl_cells (sz47 S.p), append_at (un84 S.p) (sz68 S.p) (by68 S.p) (ze68 S.p) (by decide) (by decide) rfl, sl_cells (sz68 S.p), (bu68 S.p), (bu86 S.p), lit_fill (un84 S.p) (sz68 S.p) (ze68 S.p), (fa47_0 S.p), (fa47_1 S.p), (fa62_0 S.p), (fa62_1 S.p), iaddr_sl (un73 S.p) (sz62 S.p), iaddr_sl (un74 S.p) (sz47 S.p), len_sl (un73 S.p), len_nils (un73 S.p), len_sl (un74 S.p), len_nils (un74 S.p), part_sc (ag26 S.p), part_sc (ag3 S.p), part_all (ag47 S.p) (sz47 S.p), part_at (ag47 S.p) (sz47 S.p), part_sc (ag5 S.p), part_all (ag62 S.p) (sz62 S.p), part_at (ag62 S.p) (sz62 S.p), part_all (ag68 S.p) (sz68 S.p), part_at (ag68 S.p) (sz68 S.p), part_all (ag86 S.p) (sz86 S.p), part_at (ag86 S.p) (sz86 S.p), store_last (sz4 S.p), (sz4 S.p), store_last (sz47 S.p), (sz47 S.p), store_last (sz5 S.p), (sz5 S.p), store_last (sz68 S.p), (sz68 S.p), store_last (sz86 S.p), (sz86 S.p), cells_self, cells_other, l1, l2, dec_f, hc, hc', hg1, ObjV.c1, a5, hgc, idx_ok, hp, e2, e3, Int.reduceBEq, beq_self_eq_true, Int.toNat_natCast, Nat.zero_add, Nat.add_zero]
    refine ends_loop (X := RvSt) ⟨0, .nils, h ++ [.rw 86 [.int .i64 0, .nils, .nils, .int .i64 0]] ++ [.rw 47 C.cells]⟩ [19, 20, 128, 129, 130, 131, 132, 133, 134, 135, 136, 137, 138, 139, 140, 141, 142, 143, 144, 145, 146, 147, 148, 149, 150, 151, 152, 153, 154, 155, 156, 157, 158, 159, 160, 161, 162, 163, 164, 165] (fun y => y.i ≤ os.length ∧ RrInv h y.h y.qc C (lp2 os i k x 2 [] y.i)) (fun y => os.length - y.i)
      (fun y e => (e.set 14 (.v (.sc y.qc))).set 18 (.v (.sc (.int .i64 y.i)))) (fun y => y.h)
      (by have := S.k; show _ < K; simp only; omega) ⟨by simp only; omega, by simp only; rw [lp2_zero]; exact hI⟩ (by simp (maxSteps := 1000000) (disch := first | omega | (simp (disch := first | omega | (simp only [Hdr.len, Hdr.fr, Obj.len, chg_len, chg_fr, ObjV.len, Kls.len, Chg.len, List.length_append, List.length_cons, List.length_nil, List.length_set]; first | done | omega)) only [Hdr.len, Hdr.fr, Obj.len, chg_len, chg_fr, ObjV.len, Kls.len, Chg.len, amSide, Int.reduceToNat, Nat.reducePow, Nat.reduceMul]; first | done | omega)) only [↓amPre, amPost, ↓s_lit', Nat.reduceAdd, Nat.reduceSub, List.replicate, retA, resultsA, resultA, toC, toCL, Nat.reduceEqDiff, Int.natCast_add, Int.cast_ofNat_Int, dec_t, dec_f]) rfl ?_
    rintro ⟨j, qc, hj⟩ ⟨hjl, H⟩ again hag e he
    simp only at hjl H hag he
    simp only [↓amPre, amPost, ↓s_lit', Nat.reduceAdd, Nat.reduceSub, List.replicate, retA, resultsA, resultA, toC, toCL, Nat.reduceEqDiff] at he
    simp only [↓amPre, amPost, ↓s_lit', Nat.reduceAdd, Nat.reduceSub, List.replicate, retA, resultsA, resultA, toC, toCL, Nat.reduceEqDiff, he]
    simp (maxSteps := 1000000) (disch := first | omega | (simp (disch := first | omega | (simp only [Hdr.len, Hdr.fr, Obj.len, chg_len, chg_fr, ObjV.len, Kls.len, Chg.len, List.length_append, List.length_cons, List.length_nil, List.length_set]; first | done | omega)) only [Hdr.len, Hdr.fr, Obj.len, chg_len, chg_fr, ObjV.len, Kls.len, Chg.len, amSide, Int.reduceToNat, Nat.reducePow, Nat.reduceMul]; first | done | omega)) only  [↓amPre, amPost, ↓s_lit', Nat.reduceAdd, Nat.reduceSub, List.replicate, retA, resultsA, resultA, toC, toCL, Nat.reduceEqDiff, he, (ze47 S.p), (ze68 S.p), (ze86 S.p), append_at (un74 S.p) (sz47 S.p) (by47 S.p) (ze47 S.p) (by decide) (by decide) rfl, sl_cells (sz47 S.p), append_at (un84 S.p) (sz68 S.p) (by68 S.p) (ze68 S.p) (by decide) (by decide) rfl, sl_cells (sz68 S.p), (bu68 S.p), (bu86 S.p), lit_fill (un84 S.p) (sz68 S.p) (ze68 S.p), (fa47_0 S.p), (fa47_1 S.p), (fa62_0 S.p), (fa62_1 S.p), iaddr_sl (un73 S.p) (sz62 S.p), iaddr_sl (un74 S.p) (sz47 S.p), len_sl (un73 S.p), len_nils (un73 S.p), len_sl (un74 S.p), len_nils (un74 S.p), part_sc (ag26 S.p), part_sc (ag3 S.p), part_all (ag47 S.p) (sz47 S.p), part_at (ag47 S.p) (sz47 S.p), part_sc (ag5 S.p), part_all (ag62 S.p) (sz62 S.p), part_at (ag62 S.p) (sz62 S.p), part_all (ag68 S.p) (sz68 S.p), part_at (ag68 S.p) (sz68 S.p), part_all (ag86 S.p) (sz86 S.p), part_at (ag86 S.p) (sz86 S.p), store_last (sz4 S.p), (sz4 S.p), store_last (sz47 S.p), (sz47 S.p), store_last (sz5 S.p), (sz5 S.p), store_last (sz68 S.p), (sz68 S.p), store_last (sz86 S.p), (sz86 S.p), l73]
    have hll := H.len
    have hcbj : cellsAt hj b = some (recs ObjV.cells os) := by rw [H.x.cells hb]; exact hc
    have hbj : b < hj.length := by omega
    refine ends_cond (fun hc1 => ?_) (fun hc1 => ?_)
    · simp only [decide_eq_true_eq] at hc1
      have hjo : j < os.length := by omega
      obtain ⟨z, hz⟩ : ∃ z, os[j]? = some z := ⟨_, List.getElem?_eq_getElem hjo⟩
      have hzo := hoks j z hz
      have hpt := recs_part (ag62 S.p) (sz62 S.p) ObjV.len hz
      have hg := recs_get ObjV.len hz 1 (by omega)
      have H2 := H.push (.rw 68 (oneV j z).cells)
      have hst := lp2_step (W := 2) (chs1 := []) a4 a5 hz
      have hlen := lp2_len os i k x 2 [] j
      have hchl : ([] : List Chg).length ≤ 600 := by first | (simp; done) | omega
      have f40 : ∀ lk, ev P T K d 40 [.sc (.int .i64 (j : Nat)), .ag z.cells] lk hj = some (.tup [.ag (oneV j z).cells, .sc (.bool (oneOk j z.w))], hj) := fun lk => by
        have := s40 S (show 10 ≤ d by omega) j z.w hzo.1 z.k z.q z.cnt lk hj (hzo.2.ext H.x)
        rw [oneV_cells] at this
        exact this
      have keep : ¬ (oneOk j z.w = true ∧ z.k = (k : Int) ∧ (j = i ∨ (2 : Int) = 2)) → lp2 os i k x 2 [] (j + 1) = lp2 os i k x 2 [] j := fun hn => by rw [hst, if_neg hn]
      cases e1 : oneOk j z.w with
      | false =>
        have := keep (fun q => by rw [e1] at q; exact absurd q.1 (by simp))
        rw [e1] at f40
        simp (maxSteps := 1000000) (disch := first | omega | (simp (disch := first | omega | (simp only [Hdr.len, Hdr.fr, Obj.len, chg_len, chg_fr, ObjV.len, Kls.len, Chg.len, List.length_append, List.length_cons, List.length_nil, List.length_set]; first | done | omega)) only [Hdr.len, Hdr.fr, Obj.len, chg_len, chg_fr, ObjV.len, Kls.len, Chg.len, amSide, Int.reduceToNat, Nat.reducePow, Nat.reduceMul]; first | done | omega)) only  [↓amPre, amPost, ↓s_lit', Nat.reduceAdd, Nat.reduceSub, List.replicate, retA, resultsA, resultA, toC, toCL, Nat.reduceEqDiff, he, (ze47 S.p), (ze68 S.p), (ze86 S.p), append_at (un74 S.p) (sz47 S.p) (by47 S.p) (ze47 S.p) (by decide) (by decide) rfl, sl_cells (sz47 S.p), append_at (un84 S.p) (sz68 S.p) (by68 S.p) (ze68 S.p) (by decide) (by decide) rfl, sl_cells (sz68 S.p), (bu68 S.p), (bu86 S.p), lit_fill (un84 S.p) (sz68 S.p) (ze68 S.p), (fa47_0 S.p), (fa47_1 S.p), (fa62_0 S.p), (fa62_1 S.p), iaddr_sl (un73 S.p) (sz62 S.p), iaddr_sl (un74 S.p) (sz47 S.p), len_sl (un73 S.p), len_nils (un73 S.p), len_sl (un74 S.p), len_nils (un74 S.p), part_sc (ag26 S.p), part_sc (ag3 S.p), part_all (ag47 S.p) (sz47 S.p), part_at (ag47 S.p) (sz47 S.p), part_sc (ag5 S.p), part_all (ag62 S.p) (sz62 S.p), part_at (ag62 S.p) (sz62 S.p), part_all (ag68 S.p) (sz68 S.p), part_at (ag68 S.p) (sz68 S.p), part_all (ag86 S.p) (sz86 S.p), part_at (ag86 S.p) (sz86 S.p), store_last (sz4 S.p), (sz4 S.p), store_last (sz47 S.p), (sz47 S.p), store_last (sz5 S.p), (sz5 S.p), store_last (sz68 S.p), (sz68 S.p), store_last (sz86 S.p), (sz86 S.p), idx_ok, hcbj, hpt, f40, cells_self, Int.toNat_natCast, Nat.zero_add, Nat.add_zero, wrap_i64]
        refine hag ⟨j + 1, qc, _⟩ ⟨hjo, by simp only; rw [this]; exact H2⟩ (by simp only; omega) _ ?_
        simp (maxSteps := 1000000) (disch := first | omega | (simp (disch := first | omega | (simp only [Hdr.len, Hdr.fr, Obj.len, chg_len, chg_fr, ObjV.len, Kls.len, Chg.len, List.length_append, List.length_cons, List.length_nil, List.length_set]; first | done | omega)) only [Hdr.len, Hdr.fr, Obj.len, chg_len, chg_fr, ObjV.len, Kls.len, Chg.len, amSide, Int.reduceToNat, Nat.reducePow, Nat.reduceMul]; first | done | omega)) only [↓amPre, amPost, ↓s_lit', Nat.reduceAdd, Nat.reduceSub, List.replicate, retA, resultsA, resultA, toC, toCL, Nat.reduceEqDiff, Int.natCast_add, Int.cast_ofNat_Int, dec_t, dec_f]
      | true =>
        rw [e1] at f40
        by_cases e2 : z.k = (k : Int)
        rotate_left
        · have := keep (fun q => e2 q.2.1)
          simp (maxSteps := 1000000) (disch := first | omega | (simp (disch := first | omega | (simp only [Hdr.len, Hdr.fr, Obj.len, chg_len, chg_fr, ObjV.len, Kls.len, Chg.len, List.length_append, List.length_cons, List.length_nil, List.length_set]; first | done | omega)) only [Hdr.len, Hdr.fr, Obj.len, chg_len, chg_fr, ObjV.len, Kls.len, Chg.len, amSide, Int.reduceToNat, Nat.reducePow, Nat.reduceMul]; first | done | omega)) only  [↓amPre, amPost, ↓s_lit', Nat.reduceAdd, Nat.reduceSub, List.replicate, retA, resultsA, resultA, toC, toCL, Nat.reduceEqDiff, he, (ze47 S.p), (ze68 S.p), (ze86 S.p), append_at (un74 S.p) (sz47 S.p) (by47 S.p) (ze47 S.p) (by decide) (by decide) rfl, sl_cells (sz47 S.p), append_at (un84 S.p) (sz68 S.p) (by68 S.p) (ze68 S.p) (by decide) (by decide) rfl, sl_cells (sz68 S.p), (bu68 S.p), (bu86 S.p), lit_fill (un84 S.p) (sz68 S.p) (ze68 S.p), (fa47_0 S.p), (fa47_1 S.p), (fa62_0 S.p), (fa62_1 S.p), iaddr_sl (un73 S.p) (sz62 S.p), iaddr_sl (un74 S.p) (sz47 S.p), len_sl (un73 S.p), len_nils (un73 S.p), len_sl (un74 S.p), len_nils (un74 S.p), part_sc (ag26 S.p), part_sc (ag3 S.p), part_all (ag47 S.p) (sz47 S.p), part_at (ag47 S.p) (sz47 S.p), part_sc (ag5 S.p), part_all (ag62 S.p) (sz62 S.p), part_at (ag62 S.p) (sz62 S.p), part_all (ag68 S.p) (sz68 S.p), part_at (ag68 S.p) (sz68 S.p), part_all (ag86 S.p) (sz86 S.p), part_at (ag86 S.p) (sz86 S.p), store_last (sz4 S.p), (sz4 S.p), store_last (sz47 S.p), (sz47 S.p), store_last (sz5 S.p), (sz5 S.p), store_last (sz68 S.p), (sz68 S.p), store_last (sz86 S.p), (sz86 S.p), idx_ok, hcbj, hpt, hg, f40, cells_self, cells_other, ObjV.c1, beqI_f, Int.toNat_natCast, Nat.zero_add, Nat.add_zero, wrap_i64]
          refine hag ⟨j + 1, qc, _⟩ ⟨hjo, by simp only; rw [this]; exact H2⟩ (by simp only; omega) _ ?_
          simp (maxSteps := 1000000) (disch := first | omega | (simp (disch := first | omega | (simp only [Hdr.len, Hdr.fr, Obj.len, chg_len, chg_fr, ObjV.len, Kls.len, Chg.len, List.length_append, List.length_cons, List.length_nil, List.length_set]; first | done | omega)) only [Hdr.len, Hdr.fr, Obj.len, chg_len, chg_fr, ObjV.len, Kls.len, Chg.len, amSide, Int.reduceToNat, Nat.reducePow, Nat.reduceMul]; first | done | omega)) only [↓amPre, amPost, ↓s_lit', Nat.reduceAdd, Nat.reduceSub, List.replicate, retA, resultsA, resultA, toC, toCL, Nat.reduceEqDiff, Int.natCast_add, Int.cast_ofNat_Int, dec_t, dec_f]
        by_cases e3 : j = i
        · skip
          have hfin := H2.push (.rw 68 (oneV j z).cells)
          obtain ⟨q2, h2, happ, hfin2⟩ := hfin.grow (oneV j z) lk hlk (by omega)
          have hn : lp2 os i k x 2 [] (j + 1) = lp2 os i k x 2 [] j ++ [oneV j z] := by rw [hst, if_pos ⟨e1, e2, .inl e3⟩]
          rw [← hn] at hfin2
          have htk : (oneV j z).cells.take 4 = (oneV j z).cells := rfl
          clear hfin hst keep hoks tail
          simp (maxSteps := 1000000) (disch := first | omega | (simp (disch := first | omega | (simp only [Hdr.len, Hdr.fr, Obj.len, chg_len, chg_fr, ObjV.len, Kls.len, Chg.len, List.length_append, List.length_cons, List.length_nil, List.length_set]; first | done | omega)) only [Hdr.len, Hdr.fr, Obj.len, chg_len, chg_fr, ObjV.len, Kls.len, Chg.len, amSide, Int.reduceToNat, Nat.reducePow, Nat.reduceMul]; first | done | omega)) only  [↓amPre, amPost, ↓s_lit', Nat.reduceAdd, Nat.reduceSub, List.replicate, retA, resultsA, resultA, toC, toCL, Nat.reduceEqDiff, he, (ze47 S.p), (ze68 S.p), (ze86 S.p), append_at (un74 S.p) (sz47 S.p) (by47 S.p) (ze47 S.p) (by decide) (by decide) rfl, sl_cells (sz47 S.p), append_at (un84 S.p) (sz68 S.p) (by68 S.p) (ze68 S.p) (by decide) (by decide) rfl, sl_cells (sz68 S.p), (bu68 S.p), (bu86 S.p), lit_fill (un84 S.p) (sz68 S.p) (ze68 S.p), (fa47_0 S.p), (fa47_1 S.p), (fa62_0 S.p), (fa62_1 S.p), iaddr_sl (un73 S.p) (sz62 S.p), iaddr_sl (un74 S.p) (sz47 S.p), len_sl (un73 S.p), len_nils (un73 S.p), len_sl (un74 S.p), len_nils (un74 S.p), part_sc (ag26 S.p), part_sc (ag3 S.p), part_all (ag47 S.p) (sz47 S.p), part_at (ag47 S.p) (sz47 S.p), part_sc (ag5 S.p), part_all (ag62 S.p) (sz62 S.p), part_at (ag62 S.p) (sz62 S.p), part_all (ag68 S.p) (sz68 S.p), part_at (ag68 S.p) (sz68 S.p), part_all (ag86 S.p) (sz86 S.p), part_at (ag86 S.p) (sz86 S.p), store_last (sz4 S.p), (sz4 S.p), store_last (sz47 S.p), (sz47 S.p), store_last (sz5 S.p), (sz5 S.p), store_last (sz68 S.p), (sz68 S.p), store_last (sz86 S.p), (sz86 S.p), idx_ok, hcbj, hpt, hg, f40, cells_self, cells_other, ObjV.c1, Chg.len, beqI_t, beqI_t, htk, happ, Int.reduceBEq, beq_self_eq_true, List.flatten_cons, List.flatten_nil, List.append_nil, Nat.zero_mul, Nat.one_mul, Int.toNat_natCast, Nat.zero_add, Nat.add_zero, wrap_i64]
          refine hag ⟨j + 1, q2, h2⟩ ⟨hjo, hfin2⟩ (by simp only; omega) _ ?_
          simp (maxSteps := 1000000) (disch := first | omega | (simp (disch := first | omega | (simp only [Hdr.len, Hdr.fr, Obj.len, chg_len, chg_fr, ObjV.len, Kls.len, Chg.len, List.length_append, List.length_cons, List.length_nil, List.length_set]; first | done | omega)) only [Hdr.len, Hdr.fr, Obj.len, chg_len, chg_fr, ObjV.len, Kls.len, Chg.len, amSide, Int.reduceToNat, Nat.reducePow, Nat.reduceMul]; first | done | omega)) only [↓amPre, amPost, ↓s_lit', Nat.reduceAdd, Nat.reduceSub, List.replicate, retA, resultsA, resultA, toC, toCL, Nat.reduceEqDiff, Int.natCast_add, Int.cast_ofNat_Int, dec_t, dec_f]
        · skip
          have hfin := H2.push (.rw 68 (oneV j z).cells)
          obtain ⟨q2, h2, happ, hfin2⟩ := hfin.grow (oneV j z) lk hlk (by omega)
          have hn : lp2 os i k x 2 [] (j + 1) = lp2 os i k x 2 [] j ++ [oneV j z] := by rw [hst, if_pos ⟨e1, e2, .inr rfl⟩]
          rw [← hn] at hfin2
          have htk : (oneV j z).cells.take 4 = (oneV j z).cells := rfl
          clear hfin hst keep hoks tail
          simp (maxSteps := 1000000) (disch := first | omega | (simp (disch := first | omega | (simp only [Hdr.len, Hdr.fr, Obj.len, chg_len, chg_fr, ObjV.len, Kls.len, Chg.len, List.length_append, List.length_cons, List.length_nil, List.length_set]; first | done | omega)) only [Hdr.len, Hdr.fr, Obj.len, chg_len, chg_fr, ObjV.len, Kls.len, Chg.len, amSide, Int.reduceToNat, Nat.reducePow, Nat.reduceMul]; first | done | omega)) only  [↓amPre, amPost, ↓s_lit', Nat.reduceAdd, Nat.reduceSub, List.replicate, retA, resultsA, resultA, toC, toCL, Nat.reduceEqDiff, he, (ze47 S.p), (ze68 S.p), (ze86 S.p), append_at (un74 S.p) (sz47 S.p) (by47 S.p) (ze47 S.p) (by decide) (by decide) rfl, sl_cells (sz47 S.p), append_at (un84 S.p) (sz68 S.p) (by68 S.p) (ze68 S.p) (by decide) (by decide) rfl, sl_cells (sz68 S.p), (bu68 S.p), (bu86 S.p), lit_fill (un84 S.p) (sz68 S.p) (ze68 S.p), (fa47_0 S.p), (fa47_1 S.p), (fa62_0 S.p), (fa62_1 S.p), iaddr_sl (un73 S.p) (sz62 S.p), iaddr_sl (un74 S.p) (sz47 S.p), len_sl (un73 S.p), len_nils (un73 S.p), len_sl (un74 S.p), len_nils (un74 S.p), part_sc (ag26 S.p), part_sc (ag3 S.p), part_all (ag47 S.p) (sz47 S.p), part_at (ag47 S.p) (sz47 S.p), part_sc (ag5 S.p), part_all (ag62 S.p) (sz62 S.p), part_at (ag62 S.p) (sz62 S.p), part_all (ag68 S.p) (sz68 S.p), part_at (ag68 S.p) (sz68 S.p), part_all (ag86 S.p) (sz86 S.p), part_at (ag86 S.p) (sz86 S.p), store_last (sz4 S.p), (sz4 S.p), store_last (sz47 S.p), (sz47 S.p), store_last (sz5 S.p), (sz5 S.p), store_last (sz68 S.p), (sz68 S.p), store_last (sz86 S.p), (sz86 S.p), idx_ok, hcbj, hpt, hg, f40, cells_self, cells_other, ObjV.c1, Chg.len, beqI_t, beqI_f, htk, happ, Int.reduceBEq, beq_self_eq_true, List.flatten_cons, List.flatten_nil, List.append_nil, Nat.zero_mul, Nat.one_mul, Int.toNat_natCast, Nat.zero_add, Nat.add_zero, wrap_i64]
          refine hag ⟨j + 1, q2, h2⟩ ⟨hjo, hfin2⟩ (by simp only; omega) _ ?_
          simp (maxSteps := 1000000) (disch := first | omega | (simp (disch := first | omega | (simp only [Hdr.len, Hdr.fr, Obj.len, chg_len, chg_fr, ObjV.len, Kls.len, Chg.len, List.length_append, List.length_cons, List.length_nil, List.length_set]; first | done | omega)) only [Hdr.len, Hdr.fr, Obj.len, chg_len, chg_fr, ObjV.len, Kls.len, Chg.len, amSide, Int.reduceToNat, Nat.reducePow, Nat.reduceMul]; first | done | omega)) only [↓amPre, amPost, ↓s_lit', Nat.reduceAdd, Nat.reduceSub, List.replicate, retA, resultsA, resultA, toC, toCL, Nat.reduceEqDiff, Int.natCast_add, Int.cast_ofNat_Int, dec_t, dec_f]
    · simp only [decide_eq_false_iff_not] at hc1
      obtain rfl : j = os.length := by omega
      have hcb' : cellsAt hj b' = some (recs Kls.cells cs) := by rw [H.x.cells hb']; exact hc'
      obtain ⟨t1, t2, t3⟩ := tail 2 hj qc C _ H hW hCe (by unfold chsB lp2; rw [hW, if_neg (by simp), if_pos rfl, if_pos rfl])
      have hrl := recs_len Kls.len cs
      have htk : (recs Kls.cells cs).take (cs.length * 3) = recs Kls.cells cs := List.take_of_length_le (by omega)
      have hmod : (recs Kls.cells cs).length % 3 = 0 := by omega
      have hdiv : (recs Kls.cells cs).length / 3 = cs.length := by omega
      have hset := recs_set Kls.len hk C
      have hkl := recs_le Kls.len a6
      generalize recs Kls.cells cs = R at *
      clear hoks tail hag H
      simp (maxSteps := 1000000) (disch := first | omega | (simp (disch := first | omega | (simp only [Hdr.len, Hdr.fr, Obj.len, chg_len, chg_fr, ObjV.len, Kls.len, Chg.len, List.length_append, List.length_cons, List.length_nil, List.length_set]; first | done | omega)) only [Hdr.len, Hdr.fr, Obj.len, chg_len, chg_fr, ObjV.len, Kls.len, Chg.len, amSide, Int.reduceToNat, Nat.reducePow, Nat.reduceMul]; first | done | omega)) only  [↓amPre, amPost, ↓s_lit', Nat.reduceAdd, Nat.reduceSub, List.replicate, retA, resultsA, resultA, toC, toCL, Nat.reduceEqDiff, he, (ze47 S.p), (ze68 S.p), (ze86 S.p), append_at (un74 S.p) (sz47 S.p) (by47 S.p) (ze47 S.p) (by decide) (by decide) rfl, sl_cells (sz47 S.p), append_at (un84 S.p) (sz68 S.p) (by68 S.p) (ze68 S.p) (by decide) (by decide) rfl, sl_cells (sz68 S.p), (bu68 S.p), (bu86 S.p), lit_fill (un84 S.p) (sz68 S.p) (ze68 S.p), (fa47_0 S.p), (fa47_1 S.p), (fa62_0 S.p), (fa62_1 S.p), iaddr_sl (un73 S.p) (sz62 S.p), iaddr_sl (un74 S.p) (sz47 S.p), len_sl (un73 S.p), len_nils (un73 S.p), len_sl (un74 S.p), len_nils (un74 S.p), part_sc (ag26 S.p), part_sc (ag3 S.p), part_all (ag47 S.p) (sz47 S.p), part_at (ag47 S.p) (sz47 S.p), part_sc (ag5 S.p), part_all (ag62 S.p) (sz62 S.p), part_at (ag62 S.p) (sz62 S.p), part_all (ag68 S.p) (sz68 S.p), part_at (ag68 S.p) (sz68 S.p), part_all (ag86 S.p) (sz86 S.p), part_at (ag86 S.p) (sz86 S.p), store_last (sz4 S.p), (sz4 S.p), store_last (sz47 S.p), (sz47 S.p), store_last (sz5 S.p), (sz5 S.p), store_last (sz68 S.p), (sz68 S.p), store_last (sz86 S.p), (sz86 S.p), idx_ok, hcb', t2, htk, appB_nilsG, hmod, hdiv, cells_self, cells_other, List.drop_zero, hset, t1, cells_set, Int.toNat_natCast, Nat.zero_add, Nat.add_zero]
      exact Ends.some t3
end Go.AM
