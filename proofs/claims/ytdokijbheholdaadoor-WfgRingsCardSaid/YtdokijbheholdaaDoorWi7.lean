/- Waiting graphs: the probe. Conditions: none. -/
import Derived.Test.YtdokijbheholdaaDoorWis
set_option linter.unusedVariables false
set_option linter.unusedSimpArgs false
set_option maxRecDepth 100000
namespace Go.AM
open Go.Proofs Go.Lib
-- LENS: gC_len, Edg.len, ixC_len, wC_len
theorem splice_def (cs : List SV) (o : Nat) (new : List SV) : splice cs o new = cs.take o ++ new ++ cs.drop (o + new.length) := nrfl rfl
/-- The document's list of edges. -/
def gL (l : List Edg) : Nat → List Edg
  | 0 => []
  | n + 1 => match l[n]? with
    | some e => if (isN e.f && isN e.t) = true ∧ e ∉ gL l n then gL l n ++ [e] else gL l n
    | none => gL l n
theorem gL_succ {l : List Edg} {n : Nat} {e : Edg} (h : l[n]? = some e) : gL l (n + 1) = if (isN e.f && isN e.t) = true ∧ e ∉ gL l n then gL l n ++ [e] else gL l n := by
  show (match l[n]? with | some e => if (isN e.f && isN e.t) = true ∧ e ∉ gL l n then gL l n ++ [e] else gL l n | none => gL l n) = _
  rw [h]
theorem gL_len (l : List Edg) : ∀ n, (gL l n).length ≤ n
  | 0 => Nat.le_refl _
  | n + 1 => by
    unfold gL
    have := gL_len l n
    split
    · split
      · rw [List.length_append, List.length_singleton]; omega
      · omega
    · omega
theorem gr_of (l : List Edg) : ∀ n, n ≤ l.length → GR (gE l n) (gL l n)
  | 0, _ => GR.nil
  | n + 1, h => by
    obtain ⟨e, he⟩ : ∃ e, l[n]? = some e := ⟨_, List.getElem?_eq_getElem (by omega)⟩
    have ih := gr_of l n (by omega)
    rw [gE_succ he, gL_succ he]
    unfold addE
    cases hb : isN e.f && isN e.t with
    | false =>
      rw [if_neg (by simp), if_neg (by simp)]; exact ih
    | true =>
      have hb' := hb
      simp only [Bool.and_eq_true] at hb'
      obtain ⟨a, ha, ha64⟩ := isN_t hb'.1
      obtain ⟨b, hbb, hb64⟩ := isN_t hb'.2
      obtain ⟨f, t⟩ := e
      simp only at ha hbb
      subst ha; subst hbb
      have := ih.add ha64 hb64
      rw [if_pos rfl]
      simp only [Int.toNat_natCast]
      by_cases hm : (⟨(a : Int), (b : Int)⟩ : Edg) ∈ gL l n
      · rw [if_pos hm] at this
        rw [if_neg (by simp [hm])]; exact this
      · rw [if_neg hm] at this
        rw [if_pos ⟨trivial, hm⟩]; exact this
theorem Dst_stay {E : List Nat} {s n m r : Nat} (h : Dst E s m n = r) (hr : r ≠ 65) : ∀ k, Dst E s (m + k) n = r
  | 0 => h
  | k + 1 => by
    have ih := Dst_stay h hr k
    rw [← Nat.add_assoc, Dst_succ, if_neg (by rw [ih]; exact fun z => hr z.2.1)]
    exact ih
theorem Dst_none {E : List Nat} {s n : Nat} (h : blF (E.getD n 0) s = []) : ∀ m, Dst E s m n = 65
  | 0 => rfl
  | m + 1 => by rw [Dst_succ, h, if_neg (by simp)]; exact Dst_none h m
def alE : List Edg := [⟨0, 1⟩, ⟨1, 0⟩]
theorem al_E : gE alE 2 = [2, 1] ++ List.replicate 62 0 := by kernel_rfl
theorem al_get {s : Nat} (h : 2 ≤ s) : (gE alE 2).getD s 0 = 0 := by
  rw [al_E, List.getD_eq_getElem?_getD, List.getElem?_append_right (by simpa using h), List.getElem?_replicate]
  split <;> rfl
theorem al_dst {s : Nat} (h : 1 ≤ s) (m : Nat) : Dst (gE alE 2) s m s = 65 := by
  refine Dst_none ?_ m
  by_cases h1 : s = 1
  · subst h1; kernel_rfl
  · rw [al_get (by omega)]
    unfold blF
    rw [bl_zero]; rfl
theorem al_d0 : Dst (gE alE 2) 0 64 0 = 2 := Dst_stay (m := 2) (by kernel_rfl) (by omega) 62
theorem al_d1 : Dst (gE alE 2) 0 64 1 = 1 := Dst_stay (m := 1) (by kernel_rfl) (by omega) 63
theorem al_bst : ∀ n, bst (gE alE 2) (n + 1) = (2, 0)
  | 0 => by
    rw [bst_succ, al_d0]; rfl
  | n + 1 => by
    rw [bst_succ, al_bst n, al_dst (by omega) 64]
    rfl
theorem al_ring : ringV (gE alE 2) = [0, 1] := by
  unfold ringV
  rw [al_bst 63]
  simp only
  rw [if_neg (by omega)]
  show 0 :: gwalk (gE alE 2) 0 1 0 = _
  have hb : blF ((gE alE 2).getD 0 0) 0 = [1] := by kernel_rfl
  unfold gwalk
  rw [hb]
  have hp : stepP (gE alE 2) 0 (0 + 1) 1 = true := by unfold stepP; rw [al_d1]; rfl
  rw [List.find?_cons_of_pos hp]
  rfl
theorem al_ord : ordV (gE alE 2) (bl (allE (gE alE 2) 64)).length (bl (allE (gE alE 2) 64)) 0 [] = none := by kernel_rfl
theorem al_cnt : cntE (gE alE 2) 64 = 2 := by kernel_rfl
theorem al_L : gL alE 2 = [⟨0, 1⟩, ⟨1, 0⟩] := by decide
theorem al_rch : (rchL (gL alE 2) 0).length = 2 := by
  rw [al_L]
  unfold rchL
  rw [if_pos (by decide)]
  have h1 : Rch [⟨0, 1⟩, ⟨1, 0⟩] 0 1 := .one 1 (by simp)
  have h0 : Rch [⟨0, 1⟩, ⟨1, 0⟩] 0 0 := .more 1 0 h1 (by simp)
  have hk : ∀ k, Rch [⟨0, 1⟩, ⟨1, 0⟩] 0 k → k < 2 := by
    intro k h
    cases h with
    | one k h => simp at h; omega
    | more j k hj h => simp at h; omega
  have : (List.range 64).filter (fun k => @decide (Rch [⟨0, 1⟩, ⟨1, 0⟩] (0 : Int).toNat k) (Classical.propDecidable _)) = (List.range 64).filter fun k => decide (k < 2) := by
    refine List.filter_congr fun k _ => ?_
    by_cases q : k < 2
    · have : Rch [⟨0, 1⟩, ⟨1, 0⟩] (0 : Int).toNat k := by
        rcases (show k = 0 ∨ k = 1 by omega) with rfl | rfl
        · exact h0
        · exact h1
      rw [@decide_eq_true _ (Classical.propDecidable _) this, decide_eq_true q]
    · have : ¬ Rch [⟨0, 1⟩, ⟨1, 0⟩] (0 : Int).toNat k := fun z => q (hk k z)
      rw [@decide_eq_false _ (Classical.propDecidable _) this, decide_eq_false q]
  rw [this]
  rfl
def alC : List SV := [.int .i64 0, .int .i64 1, .int .i64 1, .int .i64 0]
theorem al_recs : recs Edg.cells alE = alC := by kernel_rfl
set_option maxHeartbeats 8000000 in
theorem s7 {P : Program} {T : Tab} {K d : Nat} (S : Sd P T K) (hd : 5 ≤ d) (lk : Nat) (h : List AO) (hT : tabB 0 h = true) : ev P T K d 7 [] lk h = some (.v (.sc (.bool true)), h) := by
  obtain ⟨d, rfl⟩ : ∃ k, d = k + 1 := ⟨d - 1, by omega⟩
  refine ev_pure (at7 S.t) rfl ?_
  unfold i7 Tryd.f7
  have hq0 : Rs Edg.cells 2 (h ++ [.rw 28 alC]) (.sl h.length 0 2 2) alE := .inr ⟨h.length, rfl, by simp, by rw [al_recs]; unfold cellsAt; simp⟩
  have e9 := s9 S (show 3 ≤ d by omega) _ alE (by decide) h.length _ hq0
  rw [show alE.length = 2 from rfl] at e9
  have G := gr_of alE 2 (by decide)
  have Go := G.ok
  have hx2 : Ext1 h (h ++ [.rw 28 alC] ++ [.rw 33 (gC (gE alE 2))]) := ((Ext1.refl h).push _).push _
  have hT2 := tabB_ext hT hx2
  obtain ⟨v1, h1, e1, hx1, q1, rfl, r1⟩ := s13 S (show 4 ≤ d by omega) Go h.length _ (by simp) hT2
  rw [al_ring] at r1
  have hTa := tabB_ext hT2 hx1
  have hla := hx1.len
  obtain ⟨v2, h2, e2, hx2', hv2⟩ := s10 S (show 3 ≤ d by omega) Go h.length h1 (by simp at hla; omega) hTa
  rw [al_ord] at hv2
  obtain rfl : v2 = .tup [.sc .nils, .sc (.bool false)] := hv2
  have e22 := fun lk h => s22 S (show 2 ≤ d by omega) Go lk h
  rw [al_cnt] at e22
  have hT3 := tabB_ext hTa hx2'
  have hlb := hx2'.len
  obtain ⟨v3, h3, e3, hx3, q3, rfl, r3⟩ := s20 S (show 4 ≤ d by omega) G 0 h.length h2 (by simp at hla; omega) hT3
  have hlen3 := r3.len (un35 S.p)
  rw [al_rch] at hlen3
  have r1' := r1.ext hx2'
  have hlen1 := r1.len (un35 S.p)
  obtain ⟨b1, rfl, hb1, hc1⟩ := r1'.at (by decide)
  have g10 : (recs ixC [0, 1])[0]? = some (.int .i64 0) := rfl
  have g11 : (recs ixC [0, 1])[1]? = some (.int .i64 1) := rfl
  have cb1 : cellsAt h1 (h.length + 1) = some (gC (gE alE 2)) := by rw [hx1.cells (by simp)]; unfold cellsAt; simp
  have cb2 : cellsAt h2 (h.length + 1) = some (gC (gE alE 2)) := by rw [hx2'.cells (by simp at hla; omega)]; exact cb1
  have pE := part_self (ag33 S.p) (sz33 S.p) (gC (gE alE 2)) (by rw [gC_len]; exact Go.len)
  have sp := spA (List.replicate 64 (SV.int .u64 0)) (gC (gE alE 2)) (by rw [gC_len, Go.len]; simp)
  have hgl := gC_len (gE alE 2)
  have hgl2 := Go.len
  simp only [show ([0, 1] : List Nat).length = 2 from rfl] at hlen1 hc1
  have sp1 : splice [SV.int .i64 0, .int .i64 0, .int .i64 0, .int .i64 0] 0 [.int .i64 0, .int .i64 1] = [SV.int .i64 0, .int .i64 1, .int .i64 0, .int .i64 0] := rfl
  have sp2 : splice [SV.int .i64 0, .int .i64 1, .int .i64 0, .int .i64 0] 2 [.int .i64 1, .int .i64 0] = [SV.int .i64 0, .int .i64 1, .int .i64 1, .int .i64 0] := rfl
  unfold alC at e9 e1
  simp (maxSteps := 1000000) (disch := first | omega | (simp (disch := first | omega | (simp only [gC_len, Edg.len, ixC_len, wC_len, List.length_append, List.length_cons, List.length_nil, List.length_set]; first | done | omega)) only [gC_len, Edg.len, ixC_len, wC_len, amSide, Int.reduceToNat, Nat.reducePow, Nat.reduceMul]; first | done | omega)) only  [↓amPre, amPost, ↓s_lit', Nat.reduceAdd, Nat.reduceSub, List.replicate, retA, resultsA, resultA, toC, toCL, Nat.reduceEqDiff, (ze33 S.p), (bu28 S.p), lit_fill (un22 S.p) (sz28 S.p) (ze28 S.p), iaddr_sl (un35 S.p) (sz3 S.p), len_sl (un35 S.p), len_nils (un35 S.p), part_sc (ag3 S.p), part_all (ag33 S.p) (sz33 S.p), part_at (ag33 S.p) (sz33 S.p), store_last (sz33 S.p), (sz33 S.p), e9, e1, e2, e22, e3, hlen1, hlen3, cb1, cb2, pE, hc1, g10, g11, idx_ok, beqI_t, beq_self_eq_true, cells_self, cells_other, sp1, sp2, List.flatten_cons, List.flatten_nil, List.append_nil, Nat.one_mul, Nat.zero_mul, Nat.mul_one, Int.toNat_zero, Int.toNat_one, Nat.zero_add]
  exact Ends.some rfl
end Go.AM
