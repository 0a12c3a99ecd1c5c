/- Plans: the law of revocations; the laws' arguments. Conditions: none. -/
import Derived.Test.YtdokijbheholdabPl9
set_option linter.unusedVariables false
set_option linter.unusedSimpArgs false
set_option maxRecDepth 100000
namespace Go.AM
open Go.Proofs
-- LENS: Hdr.len, Hdr.fr, Obj.len, chg_len, chg_fr, ObjV.len, Kls.len, Chg.len
theorem far_le {os : List ObjV} {cs : List Kls} (h : farB os cs = false) : os.length ≤ 600 ∧ cs.length ≤ 600 := by
  unfold farB at h
  simp only [Bool.or_eq_false_iff, decide_eq_false_iff_not] at h
  omega
theorem ext_low {h h' : List AO} (hx : Ext1 h h') {b : Nat} (hb : b ≤ h.length) (ws : List Nat) : LowEq ws b h h' := fun l hl _ => hx.get (by omega)
theorem RvOk.uniq {os : List ObjV} {cs : List Kls} {o : Int} {x x' : ObjV} {c c' : Kls} {i i' k k' : Nat} (h : RvOk os cs o x c i k) (h' : RvOk os cs o x' c' i' k') : x = x' ∧ c = c' ∧ i = i' ∧ k = k' := by
  obtain ⟨_, _, a3, a4, a5, a6⟩ := h
  obtain ⟨_, _, b3, b4, b5, b6⟩ := h'
  have hi : i = i' := by omega
  subst hi
  rw [a4] at b4
  obtain rfl := Option.some.inj b4
  have hk : k = k' := by omega
  subst hk
  rw [a6] at b6
  exact ⟨rfl, Option.some.inj b6, rfl, rfl⟩
theorem rvOk_len {os : List ObjV} {cs : List Kls} {o : Int} {x : ObjV} {c : Kls} {i k : Nat} (rb rv : Int) (h : RvOk os cs o x c i k) : (chsB os o k x c rb rv).length ≤ 600 := by
  have h1 := h.1
  unfold chsB
  split
  · have := addC_len os (lpF os o k (clsB c rb rv) os.length) (oneV o x) (oneOk o x.w)
    have := lpF_len os o k (clsB c rb rv) os.length
    omega
  · split
    · have := lpN_len os k os.length; omega
    · have := addC_len os [] (oneV o x) (oneOk o x.w)
      simp only [List.length_nil] at this
      omega
theorem kls_eq (c : Kls) : eqL [0, 1, 1] c.cells c.cells = some true := by
  simp [eqL, eqS, Kls.cells]
theorem ObjV.ok.ext {h h' : List AO} {x : ObjV} (H : x.ok h) (hx : Ext1 h h') : x.ok h' := ⟨H.1, H.2.ext hx⟩
def KlOk (c : Kls) : Prop := c.ok ∧ -9223372036854775808 ≤ c.cnt
structure LpSt where
  i : Nat
  h : List AO
set_option maxHeartbeats 2000000 in
theorem s13 {P : Program} {T : Tab} {K d : Nat} (S : Sd P T K) (hd : 14 ≤ d) (q r : SV) (os : List ObjV) (cs : List Kls) (n0 n1 n2 : Int) (hcs : ∀ c ∈ cs, KlOk c)
    (lk : Nat) (h : List AO) (hq : Rs ObjV.cells 3 h q os) (hr : Rs Kls.cells 3 h r cs) (hok : ∀ x ∈ os, x.ok h) :
    ev P T K d 13 [.sc q, .sc r, .ag [.int .i64 n0, .int .i64 n1, .int .i64 n2]] lk h = some (.v (.sc (.bool true)), h) := by
  obtain ⟨d, rfl⟩ : ∃ k, d = k + 1 := ⟨d - 1, by omega⟩
  refine ev_pure (at13 S.t) rfl ?_
  unfold i13 Try.f13
  have x01 : Ext1 h (h ++ [.rw 75 [.int .i64 n0, .int .i64 n1, .int .i64 n2]]) := (Ext1.refl h).push _
  have hlen1 : (h ++ [AO.rw 75 [.int .i64 n0, .int .i64 n1, .int .i64 n2]]).length = h.length + 1 := by simp
  have c5 : cellsAt (h ++ [.rw 75 [.int .i64 n0, .int .i64 n1, .int .i64 n2]]) h.length = some [.int .i64 n0, .int .i64 n1, .int .i64 n2] := cells_self _ _ _ rfl
  generalize hh1 : h ++ [AO.rw 75 [.int .i64 n0, .int .i64 n1, .int .i64 n2]] = h1 at *
  have f44 : ∀ lk, ev P T K d 44 [.sc q, .sc r] lk h1 = some (.v (.sc (.bool (farB os cs))), h1) := fun lk => s44 S (by omega) q r os cs lk h1 (hq.ext x01) (hr.ext x01) fun x hx => (hok x hx).ext x01
  have f38 : ∀ lk h, ev P T K d 38 [] lk h = some (.v (.sc (.bool true)), h) := fun lk h => s38 S (by omega) lk h
  cases hfar : farB os cs with
  | true =>
    simp (maxSteps := 1000000) (disch := first | omega | (simp (disch := first | omega | (simp only [Hdr.len, Hdr.fr, Obj.len, chg_len, chg_fr, ObjV.len, Kls.len, Chg.len, List.length_append, List.length_cons, List.length_nil, List.length_set]; first | done | omega)) only [Hdr.len, Hdr.fr, Obj.len, chg_len, chg_fr, ObjV.len, Kls.len, Chg.len, amSide, Int.reduceToNat, Nat.reducePow, Nat.reduceMul]; first | done | omega)) only  [↓amPre, amPost, ↓s_lit', Nat.reduceAdd, Nat.reduceSub, List.replicate, retA, resultsA, resultA, toC, toCL, Nat.reduceEqDiff, (ze47 S.p), (ze68 S.p), (ze86 S.p), eql_ag, neq_ag, (eq47 S.p), (bu47 S.p), (fa50_0 S.p), (fa50_1 S.p), (fa50_2 S.p), (fa86_0 S.p), (fa86_1 S.p), (fa86_2 S.p), (fa86_3 S.p), iaddr_sl (un74 S.p) (sz47 S.p), iaddr_ptr (un75 S.p) (sz3 S.p), iaddr_sl (un77 S.p) (sz50 S.p), iaddr_sl (un78 S.p) (sz64 S.p), iaddr_sl (un84 S.p) (sz68 S.p), len_sl (un74 S.p), len_nils (un74 S.p), len_sl (un77 S.p), len_nils (un77 S.p), len_sl (un78 S.p), len_nils (un78 S.p), len_sl (un84 S.p), len_nils (un84 S.p), part_sc (ag3 S.p), part_sc (ag4 S.p), part_all (ag47 S.p) (sz47 S.p), part_at (ag47 S.p) (sz47 S.p), part_sc (ag5 S.p), part_all (ag64 S.p) (sz64 S.p), part_at (ag64 S.p) (sz64 S.p), part_all (ag68 S.p) (sz68 S.p), part_at (ag68 S.p) (sz68 S.p), part_sc (ag74 S.p), part_sc (ag84 S.p), store_last (sz47 S.p), (sz47 S.p), store_last (sz68 S.p), (sz68 S.p), store_last (sz86 S.p), (sz86 S.p), hh1, f44, hfar, f38]
    exact Ends.some rfl
  | false =>
    obtain ⟨ho6, hc6⟩ := far_le hfar
    obtain ⟨v, h2, e46, x12, q2, rfl, hown2⟩ := s46 S (show 1 ≤ d by omega) q os ho6 h.length h1 (by omega) (hq.ext x01)
    have hq2 := hown2.rs (by omega) ObjV.len
    obtain ⟨v, h3, e47, x23, q3, rfl, hown3⟩ := s47 S (show 1 ≤ d by omega) r cs hc6 h.length h2 (by have := x12.len; omega) (hr.ext (x01.trans x12))
    have hq3 := hown3.rs (by omega) Kls.len
    have x13 := x12.trans x23
    have x03 := x01.trans x13
    obtain ⟨v4, h4, e45, x34, hcase⟩ := s45 S (show 12 ≤ d by omega) q2 q3 os cs n0 n1 n2 ho6 hc6 hcs h.length h3 x03.len (hq2.ext x23) hq3 fun x hx => (hok x hx).ext x03
    have x14 := x13.trans x34
    have x04 := x01.trans x14
    obtain ⟨v5, h5, e48, x45, hcase2⟩ := s48 S (show 12 ≤ d by omega) q r os cs n0 n1 n2 ho6 hc6 hcs h.length h4 x04.len (hq.ext x04) (hr.ext x04) fun x hx => (hok x hx).ext x04
    have lo2 : ∀ r, lowIf [] (h.length + 1) h1 h2 r = r := fun r => lowIf_ok h2 r (ext_low x12 (by omega) [])
    have lo3 : ∀ r, lowIf [] (h.length + 1) h2 h3 r = r := fun r => lowIf_ok h3 r (ext_low x23 (by have := x12.len; omega) [])
    have b1 : h.length < h1.length := by omega
    have c5b : cellsAt h3 h.length = some [.int .i64 n0, .int .i64 n1, .int .i64 n2] := by rw [x13.cells b1]; exact c5
    have c5c : cellsAt h4 h.length = some [.int .i64 n0, .int .i64 n1, .int .i64 n2] := by rw [x14.cells b1]; exact c5
    have x05 := x04.trans x45
    have hl5 := x05.len
    rcases hcase with ⟨hno, rfl⟩ | ⟨x, c, i, k, r1, r2, hrv, rfl, hk1, hk2⟩
    · rcases hcase2 with ⟨_, rfl⟩ | ⟨x, c, i, k, _, _, hrv, _⟩
      rotate_left
      · exact absurd ⟨x, c, i, k, hrv⟩ hno
      have ln1 := fun hh => len_nils (P := P) (h := hh) (un77 S.p)
      have ln2 := fun hh => len_nils (P := P) (h := hh) (un74 S.p)
      have ln3 := fun hh => len_nils (P := P) (h := hh) (un78 S.p)
      have ln4 := fun hh => len_nils (P := P) (h := hh) (un84 S.p)
      simp (maxSteps := 1000000) (disch := first | omega | (simp (disch := first | omega | (simp only [Hdr.len, Hdr.fr, Obj.len, chg_len, chg_fr, ObjV.len, Kls.len, Chg.len, List.length_append, List.length_cons, List.length_nil, List.length_set]; first | done | omega)) only [Hdr.len, Hdr.fr, Obj.len, chg_len, chg_fr, ObjV.len, Kls.len, Chg.len, amSide, Int.reduceToNat, Nat.reducePow, Nat.reduceMul]; first | done | omega)) only  [↓amPre, amPost, ↓s_lit', Nat.reduceAdd, Nat.reduceSub, List.replicate, retA, resultsA, resultA, toC, toCL, Nat.reduceEqDiff, (ze47 S.p), (ze68 S.p), (ze86 S.p), eql_ag, neq_ag, (eq47 S.p), (bu47 S.p), (fa50_0 S.p), (fa50_1 S.p), (fa50_2 S.p), (fa86_0 S.p), (fa86_1 S.p), (fa86_2 S.p), (fa86_3 S.p), iaddr_sl (un74 S.p) (sz47 S.p), iaddr_ptr (un75 S.p) (sz3 S.p), iaddr_sl (un77 S.p) (sz50 S.p), iaddr_sl (un78 S.p) (sz64 S.p), iaddr_sl (un84 S.p) (sz68 S.p), len_sl (un74 S.p), len_nils (un74 S.p), len_sl (un77 S.p), len_nils (un77 S.p), len_sl (un78 S.p), len_nils (un78 S.p), len_sl (un84 S.p), len_nils (un84 S.p), part_sc (ag3 S.p), part_sc (ag4 S.p), part_all (ag47 S.p) (sz47 S.p), part_at (ag47 S.p) (sz47 S.p), part_sc (ag5 S.p), part_all (ag64 S.p) (sz64 S.p), part_at (ag64 S.p) (sz64 S.p), part_all (ag68 S.p) (sz68 S.p), part_at (ag68 S.p) (sz68 S.p), part_sc (ag74 S.p), part_sc (ag84 S.p), store_last (sz47 S.p), (sz47 S.p), store_last (sz68 S.p), (sz68 S.p), store_last (sz86 S.p), (sz86 S.p), hh1, f44, hfar, e46, e47, e45, e48, lo2, lo3, c5b, c5c, cells_self, hlen1, idx_ok, Int.reduceToNat, Nat.zero_add, Nat.mul_one, Nat.one_mul, Nat.zero_mul, bneI_f, ln1, ln2, ln3, ln4]
      refine ends_loop (X := Unit) () [6, 12, 13, 75, 76, 77, 78, 79, 80, 81, 82, 83, 84, 85, 86, 87, 88, 89, 90, 91, 92, 93, 94, 95, 96, 97] (fun _ => True) (fun _ => 0) (fun _ e => e) (fun _ => h5 ++ [.rw 86 [.int .i64 0, .nils, .nils, .int .i64 1]]) (by have := S.k; show 0 < K; omega) trivial rfl rfl ?_
      rintro _ _ again hag e he
      simp only [↓amPre, amPost, ↓s_lit', Nat.reduceAdd, Nat.reduceSub, List.replicate, retA, resultsA, resultA, toC, toCL, Nat.reduceEqDiff] at he
      simp only [↓amPre, amPost, ↓s_lit', Nat.reduceAdd, Nat.reduceSub, List.replicate, retA, resultsA, resultA, toC, toCL, Nat.reduceEqDiff, he]
      simp (maxSteps := 1000000) (disch := first | omega | (simp (disch := first | omega | (simp only [Hdr.len, Hdr.fr, Obj.len, chg_len, chg_fr, ObjV.len, Kls.len, Chg.len, List.length_append, List.length_cons, List.length_nil, List.length_set]; first | done | omega)) only [Hdr.len, Hdr.fr, Obj.len, chg_len, chg_fr, ObjV.len, Kls.len, Chg.len, amSide, Int.reduceToNat, Nat.reducePow, Nat.reduceMul]; first | done | omega)) only  [↓amPre, amPost, ↓s_lit', Nat.reduceAdd, Nat.reduceSub, List.replicate, retA, resultsA, resultA, toC, toCL, Nat.reduceEqDiff, he, (ze47 S.p), (ze68 S.p), (ze86 S.p), eql_ag, neq_ag, (eq47 S.p), (bu47 S.p), (fa50_0 S.p), (fa50_1 S.p), (fa50_2 S.p), (fa86_0 S.p), (fa86_1 S.p), (fa86_2 S.p), (fa86_3 S.p), iaddr_sl (un74 S.p) (sz47 S.p), iaddr_ptr (un75 S.p) (sz3 S.p), iaddr_sl (un77 S.p) (sz50 S.p), iaddr_sl (un78 S.p) (sz64 S.p), iaddr_sl (un84 S.p) (sz68 S.p), len_sl (un74 S.p), len_nils (un74 S.p), len_sl (un77 S.p), len_nils (un77 S.p), len_sl (un78 S.p), len_nils (un78 S.p), len_sl (un84 S.p), len_nils (un84 S.p), part_sc (ag3 S.p), part_sc (ag4 S.p), part_all (ag47 S.p) (sz47 S.p), part_at (ag47 S.p) (sz47 S.p), part_sc (ag5 S.p), part_all (ag64 S.p) (sz64 S.p), part_at (ag64 S.p) (sz64 S.p), part_all (ag68 S.p) (sz68 S.p), part_at (ag68 S.p) (sz68 S.p), part_sc (ag74 S.p), part_sc (ag84 S.p), store_last (sz47 S.p), (sz47 S.p), store_last (sz68 S.p), (sz68 S.p), store_last (sz86 S.p), (sz86 S.p), dec_f, cells_self, ln4]
      refine ends_loop (X := Unit) () [6, 14, 15, 102, 103, 104, 105, 106, 107, 108, 109, 110, 111, 112, 113] (fun _ => True) (fun _ => 0) (fun _ e => e) (fun _ => h5 ++ [.rw 86 [.int .i64 0, .nils, .nils, .int .i64 1]]) (by have := S.k; show 0 < K; omega) trivial (by simp (maxSteps := 1000000) (disch := first | omega | (simp (disch := first | omega | (simp only [Hdr.len, Hdr.fr, Obj.len, chg_len, chg_fr, ObjV.len, Kls.len, Chg.len, List.length_append, List.length_cons, List.length_nil, List.length_set]; first | done | omega)) only [Hdr.len, Hdr.fr, Obj.len, chg_len, chg_fr, ObjV.len, Kls.len, Chg.len, amSide, Int.reduceToNat, Nat.reducePow, Nat.reduceMul]; first | done | omega)) only [↓amPre, amPost, ↓s_lit', Nat.reduceAdd, Nat.reduceSub, List.replicate, retA, resultsA, resultA, toC, toCL, Nat.reduceEqDiff, Int.natCast_add, Int.cast_ofNat_Int, dec_t, dec_f]) rfl ?_
      rintro _ _ again2 hag2 e2 he2
      simp only [↓amPre, amPost, ↓s_lit', Nat.reduceAdd, Nat.reduceSub, List.replicate, retA, resultsA, resultA, toC, toCL, Nat.reduceEqDiff] at he2
      simp only [↓amPre, amPost, ↓s_lit', Nat.reduceAdd, Nat.reduceSub, List.replicate, retA, resultsA, resultA, toC, toCL, Nat.reduceEqDiff, he2]
      simp (maxSteps := 1000000) (disch := first | omega | (simp (disch := first | omega | (simp only [Hdr.len, Hdr.fr, Obj.len, chg_len, chg_fr, ObjV.len, Kls.len, Chg.len, List.length_append, List.length_cons, List.length_nil, List.length_set]; first | done | omega)) only [Hdr.len, Hdr.fr, Obj.len, chg_len, chg_fr, ObjV.len, Kls.len, Chg.len, amSide, Int.reduceToNat, Nat.reducePow, Nat.reduceMul]; first | done | omega)) only  [↓amPre, amPost, ↓s_lit', Nat.reduceAdd, Nat.reduceSub, List.replicate, retA, resultsA, resultA, toC, toCL, Nat.reduceEqDiff, he2, (ze47 S.p), (ze68 S.p), (ze86 S.p), eql_ag, neq_ag, (eq47 S.p), (bu47 S.p), (fa50_0 S.p), (fa50_1 S.p), (fa50_2 S.p), (fa86_0 S.p), (fa86_1 S.p), (fa86_2 S.p), (fa86_3 S.p), iaddr_sl (un74 S.p) (sz47 S.p), iaddr_ptr (un75 S.p) (sz3 S.p), iaddr_sl (un77 S.p) (sz50 S.p), iaddr_sl (un78 S.p) (sz64 S.p), iaddr_sl (un84 S.p) (sz68 S.p), len_sl (un74 S.p), len_nils (un74 S.p), len_sl (un77 S.p), len_nils (un77 S.p), len_sl (un78 S.p), len_nils (un78 S.p), len_sl (un84 S.p), len_nils (un84 S.p), part_sc (ag3 S.p), part_sc (ag4 S.p), part_all (ag47 S.p) (sz47 S.p), part_at (ag47 S.p) (sz47 S.p), part_sc (ag5 S.p), part_all (ag64 S.p) (sz64 S.p), part_at (ag64 S.p) (sz64 S.p), part_all (ag68 S.p) (sz68 S.p), part_at (ag68 S.p) (sz68 S.p), part_sc (ag74 S.p), part_sc (ag84 S.p), store_last (sz47 S.p), (sz47 S.p), store_last (sz68 S.p), (sz68 S.p), store_last (sz86 S.p), (sz86 S.p), dec_f, f38]
      exact Ends.some rfl
    · rcases hcase2 with ⟨hno, _⟩ | ⟨x', c', i', k', r3, r4, hrv2, rfl, hk3, hk4⟩
      · exact absurd ⟨x, c, i, k, hrv⟩ hno
      obtain ⟨rfl, rfl, rfl, rfl⟩ := hrv2.uniq hrv
      have hk1' := hk1.ext x45
      have hk2' := hk2.ext x45
      have hcl6 : (cs.set k' (clsB c' n1 n2)).length ≤ 600 := by rw [List.length_set]; exact hc6
      have hchl := rvOk_len n1 n2 hrv
      generalize cs.set k' (clsB c' n1 n2) = CS at *
      generalize chsB os n0 k' x' c' n1 n2 = CH at *
      generalize polW c' n1 n2 = W at *
      have ln1 := hk1'.len (un77 S.p)
      have ln2 := hk3.len (un74 S.p)
      have ln3 := hk2'.len (un78 S.p)
      have ln4 := hk4.len (un84 S.p)
      clear hk1 hk2 hq hr hok hcs hown2 hown3 hq2 hq3 hrv hrv2
      simp (maxSteps := 1000000) (disch := first | omega | (simp (disch := first | omega | (simp only [Hdr.len, Hdr.fr, Obj.len, chg_len, chg_fr, ObjV.len, Kls.len, Chg.len, List.length_append, List.length_cons, List.length_nil, List.length_set]; first | done | omega)) only [Hdr.len, Hdr.fr, Obj.len, chg_len, chg_fr, ObjV.len, Kls.len, Chg.len, amSide, Int.reduceToNat, Nat.reducePow, Nat.reduceMul]; first | done | omega)) only  [↓amPre, amPost, ↓s_lit', Nat.reduceAdd, Nat.reduceSub, List.replicate, retA, resultsA, resultA, toC, toCL, Nat.reduceEqDiff, (ze47 S.p), (ze68 S.p), (ze86 S.p), eql_ag, neq_ag, (eq47 S.p), (bu47 S.p), (fa50_0 S.p), (fa50_1 S.p), (fa50_2 S.p), (fa86_0 S.p), (fa86_1 S.p), (fa86_2 S.p), (fa86_3 S.p), iaddr_sl (un74 S.p) (sz47 S.p), iaddr_ptr (un75 S.p) (sz3 S.p), iaddr_sl (un77 S.p) (sz50 S.p), iaddr_sl (un78 S.p) (sz64 S.p), iaddr_sl (un84 S.p) (sz68 S.p), len_sl (un74 S.p), len_nils (un74 S.p), len_sl (un77 S.p), len_nils (un77 S.p), len_sl (un78 S.p), len_nils (un78 S.p), len_sl (un84 S.p), len_nils (un84 S.p), part_sc (ag3 S.p), part_sc (ag4 S.p), part_all (ag47 S.p) (sz47 S.p), part_at (ag47 S.p) (sz47 S.p), part_sc (ag5 S.p), part_all (ag64 S.p) (sz64 S.p), part_at (ag64 S.p) (sz64 S.p), part_all (ag68 S.p) (sz68 S.p), part_at (ag68 S.p) (sz68 S.p), part_sc (ag74 S.p), part_sc (ag84 S.p), store_last (sz47 S.p), (sz47 S.p), store_last (sz68 S.p), (sz68 S.p), store_last (sz86 S.p), (sz86 S.p), hh1, f44, hfar, e46, e47, e45, e48, lo2, lo3, c5b, c5c, cells_self, hlen1, idx_ok, Int.reduceToNat, Nat.zero_add, Nat.mul_one, Nat.one_mul, Nat.zero_mul, bneI_f, ln1, ln2, ln3, ln4]
      clear e46 e47 e45 e48
      have x06 : Ext1 h5 (h5 ++ [.rw 86 [.int .i64 W, r3, r4, .int .i64 0]]) := (Ext1.refl h5).push _
      have c86 : cellsAt (h5 ++ [.rw 86 [.int .i64 W, r3, r4, .int .i64 0]]) h5.length = some [.int .i64 W, r3, r4, .int .i64 0] := cells_self _ _ _ rfl
      have hl6 : h5.length < (h5 ++ [AO.rw 86 [.int .i64 W, r3, r4, .int .i64 0]]).length := by simp
      generalize h5 ++ [AO.rw 86 [.int .i64 W, r3, r4, .int .i64 0]] = h6 at *
      refine ends_loop (X := LpSt) ⟨0, h6⟩ [6, 12, 13, 75, 76, 77, 78, 79, 80, 81, 82, 83, 84, 85, 86, 87, 88, 89, 90, 91, 92, 93, 94, 95, 96, 97] (fun y => y.i ≤ CS.length ∧ Ext1 h6 y.h) (fun y => CS.length - y.i) (fun y e => e.set 74 (.v (.sc (.int .i64 y.i)))) (fun y => y.h)
        (by have := S.k; show _ < K; simp only; omega) ⟨by simp only; omega, Ext1.refl _⟩ rfl rfl ?_
      rintro ⟨j, hj⟩ ⟨hjl, hxj⟩ again hag e he
      simp only at hjl hxj hag he
      simp only [↓amPre, amPost, ↓s_lit', Nat.reduceAdd, Nat.reduceSub, List.replicate, retA, resultsA, resultA, toC, toCL, Nat.reduceEqDiff] at he
      simp only [↓amPre, amPost, ↓s_lit', Nat.reduceAdd, Nat.reduceSub, List.replicate, retA, resultsA, resultA, toC, toCL, Nat.reduceEqDiff, he]
      have x5j := x06.trans hxj
      have hlj := x5j.len
      refine ends_cond (fun hc1 => ?_) (fun hc1 => ?_)
      · simp only [decide_eq_true_eq] at hc1
        have hjo : j < CS.length := by omega
        obtain ⟨z, hz⟩ : ∃ z, CS[j]? = some z := ⟨_, List.getElem?_eq_getElem hjo⟩
        obtain ⟨b3, rfl, hb3, hc3⟩ := (hk3.ext x5j).at (by omega)
        obtain ⟨b4, rfl, hb4, hc4⟩ := (hk1'.ext x5j).at (by omega)
        have hpt := recs_part (ag47 S.p) (sz47 S.p) Kls.len hz
        have g0 := recs_get0 Kls.len hz (by omega)
        have g1 := recs_get Kls.len hz 1 (by omega)
        have g2 := recs_get Kls.len hz 2 (by omega)
        have hzc : [SV.bool z.bias, .int .u8 ((z.ep : Nat) : Int), .int .i64 z.cnt] = z.cells := rfl
        have hke := kls_eq z
        simp (maxSteps := 1000000) (disch := first | omega | (simp (disch := first | omega | (simp only [Hdr.len, Hdr.fr, Obj.len, chg_len, chg_fr, ObjV.len, Kls.len, Chg.len, List.length_append, List.length_cons, List.length_nil, List.length_set]; first | done | omega)) only [Hdr.len, Hdr.fr, Obj.len, chg_len, chg_fr, ObjV.len, Kls.len, Chg.len, amSide, Int.reduceToNat, Nat.reducePow, Nat.reduceMul]; first | done | omega)) only  [↓amPre, amPost, ↓s_lit', Nat.reduceAdd, Nat.reduceSub, List.replicate, retA, resultsA, resultA, toC, toCL, Nat.reduceEqDiff, he, (ze47 S.p), (ze68 S.p), (ze86 S.p), eql_ag, neq_ag, (eq47 S.p), (bu47 S.p), (fa50_0 S.p), (fa50_1 S.p), (fa50_2 S.p), (fa86_0 S.p), (fa86_1 S.p), (fa86_2 S.p), (fa86_3 S.p), iaddr_sl (un74 S.p) (sz47 S.p), iaddr_ptr (un75 S.p) (sz3 S.p), iaddr_sl (un77 S.p) (sz50 S.p), iaddr_sl (un78 S.p) (sz64 S.p), iaddr_sl (un84 S.p) (sz68 S.p), len_sl (un74 S.p), len_nils (un74 S.p), len_sl (un77 S.p), len_nils (un77 S.p), len_sl (un78 S.p), len_nils (un78 S.p), len_sl (un84 S.p), len_nils (un84 S.p), part_sc (ag3 S.p), part_sc (ag4 S.p), part_all (ag47 S.p) (sz47 S.p), part_at (ag47 S.p) (sz47 S.p), part_sc (ag5 S.p), part_all (ag64 S.p) (sz64 S.p), part_at (ag64 S.p) (sz64 S.p), part_all (ag68 S.p) (sz68 S.p), part_at (ag68 S.p) (sz68 S.p), part_sc (ag74 S.p), part_sc (ag84 S.p), store_last (sz47 S.p), (sz47 S.p), store_last (sz68 S.p), (sz68 S.p), store_last (sz86 S.p), (sz86 S.p), idx_ok, hc3, hc4, hpt, g0, g1, g2, Kls.c0, Kls.c1, Kls.c2, hzc, hke, cells_self, cells_other, Int.toNat_natCast, Nat.zero_add, Nat.add_zero, wrap_i64, bne_self_eq_false]
        refine hag ⟨j + 1, _⟩ ⟨hjo, hxj.push _⟩ (by simp only; omega) _ ?_
        simp (maxSteps := 1000000) (disch := first | omega | (simp (disch := first | omega | (simp only [Hdr.len, Hdr.fr, Obj.len, chg_len, chg_fr, ObjV.len, Kls.len, Chg.len, List.length_append, List.length_cons, List.length_nil, List.length_set]; first | done | omega)) only [Hdr.len, Hdr.fr, Obj.len, chg_len, chg_fr, ObjV.len, Kls.len, Chg.len, amSide, Int.reduceToNat, Nat.reducePow, Nat.reduceMul]; first | done | omega)) only [↓amPre, amPost, ↓s_lit', Nat.reduceAdd, Nat.reduceSub, List.replicate, retA, resultsA, resultA, toC, toCL, Nat.reduceEqDiff, Int.natCast_add, Int.cast_ofNat_Int, dec_t, dec_f]
      simp only [decide_eq_false_iff_not] at hc1
      clear hag
      have c86j : cellsAt hj h5.length = some [.int .i64 W, r3, r4, .int .i64 0] := by rw [hxj.cells hl6]; exact c86
      simp (maxSteps := 1000000) (disch := first | omega | (simp (disch := first | omega | (simp only [Hdr.len, Hdr.fr, Obj.len, chg_len, chg_fr, ObjV.len, Kls.len, Chg.len, List.length_append, List.length_cons, List.length_nil, List.length_set]; first | done | omega)) only [Hdr.len, Hdr.fr, Obj.len, chg_len, chg_fr, ObjV.len, Kls.len, Chg.len, amSide, Int.reduceToNat, Nat.reducePow, Nat.reduceMul]; first | done | omega)) only  [↓amPre, amPost, ↓s_lit', Nat.reduceAdd, Nat.reduceSub, List.replicate, retA, resultsA, resultA, toC, toCL, Nat.reduceEqDiff, he, (ze47 S.p), (ze68 S.p), (ze86 S.p), eql_ag, neq_ag, (eq47 S.p), (bu47 S.p), (fa50_0 S.p), (fa50_1 S.p), (fa50_2 S.p), (fa86_0 S.p), (fa86_1 S.p), (fa86_2 S.p), (fa86_3 S.p), iaddr_sl (un74 S.p) (sz47 S.p), iaddr_ptr (un75 S.p) (sz3 S.p), iaddr_sl (un77 S.p) (sz50 S.p), iaddr_sl (un78 S.p) (sz64 S.p), iaddr_sl (un84 S.p) (sz68 S.p), len_sl (un74 S.p), len_nils (un74 S.p), len_sl (un77 S.p), len_nils (un77 S.p), len_sl (un78 S.p), len_nils (un78 S.p), len_sl (un84 S.p), len_nils (un84 S.p), part_sc (ag3 S.p), part_sc (ag4 S.p), part_all (ag47 S.p) (sz47 S.p), part_at (ag47 S.p) (sz47 S.p), part_sc (ag5 S.p), part_all (ag64 S.p) (sz64 S.p), part_at (ag64 S.p) (sz64 S.p), part_all (ag68 S.p) (sz68 S.p), part_at (ag68 S.p) (sz68 S.p), part_sc (ag74 S.p), part_sc (ag84 S.p), store_last (sz47 S.p), (sz47 S.p), store_last (sz68 S.p), (sz68 S.p), store_last (sz86 S.p), (sz86 S.p), c86j, ln4]
      refine ends_loop (X := LpSt) ⟨0, hj⟩ [6, 14, 15, 102, 103, 104, 105, 106, 107, 108, 109, 110, 111, 112, 113] (fun y => y.i ≤ CH.length ∧ Ext1 hj y.h) (fun y => CH.length - y.i) (fun y e => e.set 101 (.v (.sc (.int .i64 y.i)))) (fun y => y.h)
        (by have := S.k; show _ < K; simp only; omega) ⟨by simp only; omega, Ext1.refl _⟩ (by simp (maxSteps := 1000000) (disch := first | omega | (simp (disch := first | omega | (simp only [Hdr.len, Hdr.fr, Obj.len, chg_len, chg_fr, ObjV.len, Kls.len, Chg.len, List.length_append, List.length_cons, List.length_nil, List.length_set]; first | done | omega)) only [Hdr.len, Hdr.fr, Obj.len, chg_len, chg_fr, ObjV.len, Kls.len, Chg.len, amSide, Int.reduceToNat, Nat.reducePow, Nat.reduceMul]; first | done | omega)) only [↓amPre, amPost, ↓s_lit', Nat.reduceAdd, Nat.reduceSub, List.replicate, retA, resultsA, resultA, toC, toCL, Nat.reduceEqDiff, Int.natCast_add, Int.cast_ofNat_Int, dec_t, dec_f]) rfl ?_
      rintro ⟨m, hm⟩ ⟨hml, hxm⟩ again2 hag2 e2 he2
      simp only at hml hxm hag2 he2
      simp only [↓amPre, amPost, ↓s_lit', Nat.reduceAdd, Nat.reduceSub, List.replicate, retA, resultsA, resultA, toC, toCL, Nat.reduceEqDiff] at he2
      simp only [↓amPre, amPost, ↓s_lit', Nat.reduceAdd, Nat.reduceSub, List.replicate, retA, resultsA, resultA, toC, toCL, Nat.reduceEqDiff, he2]
      have x5m := x5j.trans hxm
      have hlm := x5m.len
      refine ends_cond (fun hc2 => ?_) (fun hc2 => ?_)
      · simp only [decide_eq_true_eq] at hc2
        have hmo : m < CH.length := by omega
        obtain ⟨z, hz⟩ : ∃ z, CH[m]? = some z := ⟨_, List.getElem?_eq_getElem hmo⟩
        obtain ⟨b3, rfl, hb3, hc3⟩ := (hk4.ext x5m).at (by omega)
        obtain ⟨b4, rfl, hb4, hc4⟩ := (hk2'.ext x5m).at (by omega)
        have hpt := recs_part (ag68 S.p) (sz68 S.p) Chg.len hz
        have hpt2 := recs_part (ag64 S.p) (sz64 S.p) Chg.len hz
        have f41 : ∀ lk h, ev P T K d 41 [.ag z.cells, .ag z.cells] lk h = some (.v (.sc (.bool true)), h) := fun lk h => s41 S (by omega) z.o z.w z.u z.s lk h
        simp (maxSteps := 1000000) (disch := first | omega | (simp (disch := first | omega | (simp only [Hdr.len, Hdr.fr, Obj.len, chg_len, chg_fr, ObjV.len, Kls.len, Chg.len, List.length_append, List.length_cons, List.length_nil, List.length_set]; first | done | omega)) only [Hdr.len, Hdr.fr, Obj.len, chg_len, chg_fr, ObjV.len, Kls.len, Chg.len, amSide, Int.reduceToNat, Nat.reducePow, Nat.reduceMul]; first | done | omega)) only  [↓amPre, amPost, ↓s_lit', Nat.reduceAdd, Nat.reduceSub, List.replicate, retA, resultsA, resultA, toC, toCL, Nat.reduceEqDiff, he2, (ze47 S.p), (ze68 S.p), (ze86 S.p), eql_ag, neq_ag, (eq47 S.p), (bu47 S.p), (fa50_0 S.p), (fa50_1 S.p), (fa50_2 S.p), (fa86_0 S.p), (fa86_1 S.p), (fa86_2 S.p), (fa86_3 S.p), iaddr_sl (un74 S.p) (sz47 S.p), iaddr_ptr (un75 S.p) (sz3 S.p), iaddr_sl (un77 S.p) (sz50 S.p), iaddr_sl (un78 S.p) (sz64 S.p), iaddr_sl (un84 S.p) (sz68 S.p), len_sl (un74 S.p), len_nils (un74 S.p), len_sl (un77 S.p), len_nils (un77 S.p), len_sl (un78 S.p), len_nils (un78 S.p), len_sl (un84 S.p), len_nils (un84 S.p), part_sc (ag3 S.p), part_sc (ag4 S.p), part_all (ag47 S.p) (sz47 S.p), part_at (ag47 S.p) (sz47 S.p), part_sc (ag5 S.p), part_all (ag64 S.p) (sz64 S.p), part_at (ag64 S.p) (sz64 S.p), part_all (ag68 S.p) (sz68 S.p), part_at (ag68 S.p) (sz68 S.p), part_sc (ag74 S.p), part_sc (ag84 S.p), store_last (sz47 S.p), (sz47 S.p), store_last (sz68 S.p), (sz68 S.p), store_last (sz86 S.p), (sz86 S.p), idx_ok, hc3, hc4, hpt, hpt2, f41, cells_self, cells_other, Int.toNat_natCast, Nat.zero_add, Nat.add_zero, wrap_i64]
        refine hag2 ⟨m + 1, _⟩ ⟨hmo, hxm.push _⟩ (by simp only; omega) _ ?_
        simp (maxSteps := 1000000) (disch := first | omega | (simp (disch := first | omega | (simp only [Hdr.len, Hdr.fr, Obj.len, chg_len, chg_fr, ObjV.len, Kls.len, Chg.len, List.length_append, List.length_cons, List.length_nil, List.length_set]; first | done | omega)) only [Hdr.len, Hdr.fr, Obj.len, chg_len, chg_fr, ObjV.len, Kls.len, Chg.len, amSide, Int.reduceToNat, Nat.reducePow, Nat.reduceMul]; first | done | omega)) only [↓amPre, amPost, ↓s_lit', Nat.reduceAdd, Nat.reduceSub, List.replicate, retA, resultsA, resultA, toC, toCL, Nat.reduceEqDiff, Int.natCast_add, Int.cast_ofNat_Int, dec_t, dec_f]
      · simp (maxSteps := 1000000) (disch := first | omega | (simp (disch := first | omega | (simp only [Hdr.len, Hdr.fr, Obj.len, chg_len, chg_fr, ObjV.len, Kls.len, Chg.len, List.length_append, List.length_cons, List.length_nil, List.length_set]; first | done | omega)) only [Hdr.len, Hdr.fr, Obj.len, chg_len, chg_fr, ObjV.len, Kls.len, Chg.len, amSide, Int.reduceToNat, Nat.reducePow, Nat.reduceMul]; first | done | omega)) only  [↓amPre, amPost, ↓s_lit', Nat.reduceAdd, Nat.reduceSub, List.replicate, retA, resultsA, resultA, toC, toCL, Nat.reduceEqDiff, he2, (ze47 S.p), (ze68 S.p), (ze86 S.p), eql_ag, neq_ag, (eq47 S.p), (bu47 S.p), (fa50_0 S.p), (fa50_1 S.p), (fa50_2 S.p), (fa86_0 S.p), (fa86_1 S.p), (fa86_2 S.p), (fa86_3 S.p), iaddr_sl (un74 S.p) (sz47 S.p), iaddr_ptr (un75 S.p) (sz3 S.p), iaddr_sl (un77 S.p) (sz50 S.p), iaddr_sl (un78 S.p) (sz64 S.p), iaddr_sl (un84 S.p) (sz68 S.p), len_sl (un74 S.p), len_nils (un74 S.p), len_sl (un77 S.p), len_nils (un77 S.p), len_sl (un78 S.p), len_nils (un78 S.p), len_sl (un84 S.p), len_nils (un84 S.p), part_sc (ag3 S.p), part_sc (ag4 S.p), part_all (ag47 S.p) (sz47 S.p), part_at (ag47 S.p) (sz47 S.p), part_sc (ag5 S.p), part_all (ag64 S.p) (sz64 S.p), part_at (ag64 S.p) (sz64 S.p), part_all (ag68 S.p) (sz68 S.p), part_at (ag68 S.p) (sz68 S.p), part_sc (ag74 S.p), part_sc (ag84 S.p), store_last (sz47 S.p), (sz47 S.p), store_last (sz68 S.p), (sz68 S.p), store_last (sz86 S.p), (sz86 S.p), f38]
        exact Ends.some rfl
end Go.AM
namespace Go.AM
abbrev shO : Sh := .pair 1 (.int .u64) (.pair 1 (.int .i64) (.pair 1 (.slice 1 (.int .i64)) .nil))
abbrev shK : Sh := .pair 1 .bool (.pair 1 (.int .u8) (.pair 1 (.int .i64) .nil))
abbrev sh3 : Sh := .pair 1 (.int .i64) (.pair 1 (.int .i64) (.pair 1 (.int .i64) .nil))
theorem objs_of {h : List AO} {xs : List SV} (H : Fits (.slice 3 shO) h xs) : ∃ q os, xs = [q] ∧ Rs ObjV.cells 3 h q os ∧ ∀ x ∈ os, x.ok h :=
  rs_of ObjV.len (fun ys hy => by
    obtain ⟨w, k, q, cnt, hw, hS, rfl⟩ := obj_of hy
    exact ⟨⟨w, k, q, cnt⟩, ⟨hw, hS⟩, rfl⟩) H
theorem three {xs : List SV} {a b c : SV} (h1 : xs.take 1 = [a]) (h2 : (xs.drop 1).take 1 = [b]) (h3 : ((xs.drop 1).drop 1).take 1 = [c]) (h4 : ((xs.drop 1).drop 1).drop 1 = []) : xs = [a, b, c] := by
  match xs with
  | [] => simp at h1
  | [x] => simp at h2
  | [x, y] => simp at h3
  | x :: y :: z :: t =>
    simp only [List.take_succ_cons, List.take_zero, List.drop_succ_cons, List.drop_zero, List.cons.injEq, and_true] at h1 h2 h3 h4
    subst h1 h2 h3 h4
    rfl
theorem klss_of {h : List AO} {xs : List SV} (H : Fits (.slice 3 shK) h xs) : ∃ q cs, xs = [q] ∧ Rs Kls.cells 3 h q cs ∧ ∀ c ∈ cs, KlOk c :=
  rs_of Kls.len (fun ys hy => by
    obtain ⟨l1, ⟨a, ha⟩, l2, ⟨b, hb, wb⟩, l3, ⟨c, hc, wc⟩, hz⟩ := hy
    have hys := three ha hb hc hz
    obtain ⟨pb, qb⟩ := wfU8 wb
    obtain ⟨n, rfl⟩ := Int.eq_ofNat_of_zero_le pb
    exact ⟨⟨a, n, c⟩, ⟨by unfold Kls.ok; show n < 256; omega, (wfI64 wc).1⟩, hys⟩) H
theorem arr3_of {h : List AO} {xs : List SV} (H : Fits sh3 h xs) : ∃ a b c, xs = [.int .i64 a, .int .i64 b, .int .i64 c] := by
  obtain ⟨l1, ⟨a, ha, _⟩, l2, ⟨b, hb, _⟩, l3, ⟨c, hc, _⟩, hz⟩ := H
  exact ⟨a, b, c, three ha hb hc hz⟩
end Go.AM
