/- Plans: a revocation by policy, of the program. Conditions: none. -/
import Derived.Test.YtdokijbheholdabPl5
set_option linter.unusedVariables false
set_option linter.unusedSimpArgs false
set_option maxRecDepth 100000
namespace Go.AM
open Go.Proofs
-- LENS: Hdr.len, Hdr.fr, Obj.len, chg_len, chg_fr, ObjV.len, Kls.len, Chg.len
def stepF (os : List ObjV) (o k : Int) (c : Kls) (chs : List Chg) (i : Nat) (x : ObjV) : List Chg :=
  if (i : Int) ≠ o ∧ x.k = k ∧ (rdH x.w).kind = 4 ∧ hasC x.cnt (ownW x.w) = true then addC os chs ⟨i, frW x.w c, -1, 0⟩ (biW x.w) else chs
def stepN (os : List ObjV) (k : Int) (chs : List Chg) (i : Nat) (x : ObjV) : List Chg := if x.k = k then addC os chs (oneV i x) (oneOk i x.w) else chs
def lpF (os : List ObjV) (o k : Int) (c : Kls) : Nat → List Chg
  | 0 => []
  | n + 1 => match os[n]? with | some x => stepF os o k c (lpF os o k c n) n x | none => lpF os o k c n
def lpN (os : List ObjV) (k : Int) : Nat → List Chg
  | 0 => []
  | n + 1 => match os[n]? with | some x => stepN os k (lpN os k n) n x | none => lpN os k n
theorem stepF_len (os : List ObjV) (o k : Int) (c : Kls) (chs : List Chg) (i : Nat) (x : ObjV) : (stepF os o k c chs i x).length ≤ chs.length + 1 := by
  unfold stepF; split
  · exact addC_len _ _ _ _
  · omega
theorem stepN_len (os : List ObjV) (k : Int) (chs : List Chg) (i : Nat) (x : ObjV) : (stepN os k chs i x).length ≤ chs.length + 1 := by
  unfold stepN; split
  · exact addC_len _ _ _ _
  · omega
theorem lpF_len (os : List ObjV) (o k : Int) (c : Kls) : ∀ n, (lpF os o k c n).length ≤ n
  | 0 => Nat.le_refl _
  | n + 1 => by
    have ih := lpF_len os o k c n
    unfold lpF
    split
    · have := stepF_len os o k c (lpF os o k c n) n (by assumption); omega
    · omega
theorem lpN_len (os : List ObjV) (k : Int) : ∀ n, (lpN os k n).length ≤ n
  | 0 => Nat.le_refl _
  | n + 1 => by
    have ih := lpN_len os k n
    unfold lpN
    split
    · have := stepN_len os k (lpN os k n) n (by assumption); omega
    · omega
theorem lpF_step {os : List ObjV} {n : Nat} {x : ObjV} (o k : Int) (c : Kls) (h : os[n]? = some x) : lpF os o k c (n + 1) = stepF os o k c (lpF os o k c n) n x := by
  show (match os[n]? with | some x => _ | none => _) = _
  rw [h]
theorem lpN_step {os : List ObjV} {n : Nat} {x : ObjV} (k : Int) (h : os[n]? = some x) : lpN os k (n + 1) = stepN os k (lpN os k n) n x := by
  show (match os[n]? with | some x => _ | none => _) = _
  rw [h]
/-- The class behind it. -/
def clsB (c : Kls) (rb rv : Int) : Kls := if polW c rb rv = 1 then anew (polC c) else if polW c rb rv = 2 then never (polC c) else polC c
def chsB (os : List ObjV) (o k : Int) (x : ObjV) (c : Kls) (rb rv : Int) : List Chg :=
  if polW c rb rv = 1 then addC os (lpF os o k (clsB c rb rv) os.length) (oneV o x) (oneOk o x.w) else if polW c rb rv = 2 then lpN os k os.length else addC os [] (oneV o x) (oneOk o x.w)
theorem pol_range (c : Kls) (rb rv : Int) : polW c rb rv = 0 ∨ polW c rb rv = 1 ∨ polW c rb rv = 2 := by
  unfold polW
  generalize (polC c).cnt.tmod (if rb < 1 then 1 else rb) = z
  (repeat' split) <;> simp
/-- May it be? -/
def RvOk (os : List ObjV) (cs : List Kls) (o : Int) (x : ObjV) (c : Kls) (i k : Nat) : Prop := os.length ≤ 256 ∧ cs.length ≤ 256 ∧ o = (i : Int) ∧ os[i]? = some x ∧ x.k = (k : Int) ∧ cs[k]? = some c
theorem rv_or (os : List ObjV) (cs : List Kls) (o : Int) : (∃ x c i k, RvOk os cs o x c i k) ∨ (os.length > 256 ∨ cs.length > 256 ∨ o < 0 ∨ o ≥ os.length ∨ ∃ x, os[o.toNat]? = some x ∧ 0 ≤ o ∧ (x.k < 0 ∨ x.k ≥ cs.length)) := by
  by_cases h1 : os.length > 256
  · exact .inr (.inl h1)
  by_cases h2 : cs.length > 256
  · exact .inr (.inr (.inl h2))
  by_cases h3 : o < 0
  · exact .inr (.inr (.inr (.inl h3)))
  by_cases h4 : o ≥ os.length
  · exact .inr (.inr (.inr (.inr (.inl h4))))
  have h5 : o.toNat < os.length := by omega
  have h6 := List.getElem?_eq_getElem h5
  by_cases h7 : os[o.toNat].k < 0 ∨ os[o.toNat].k ≥ cs.length
  · exact .inr (.inr (.inr (.inr (.inr ⟨_, h6, by omega, h7⟩))))
  · have h8 : os[o.toNat].k.toNat < cs.length := by omega
    exact .inl ⟨_, _, o.toNat, os[o.toNat].k.toNat, by omega, by omega, by omega, h6, by omega, List.getElem?_eq_getElem h8⟩
def RvR (os : List ObjV) (cs : List Kls) (o rb rv : Int) (h : List AO) (v : AV) (h' : List AO) : Prop :=
  Ext1 h h' ∧ ((¬ (∃ x c i k, RvOk os cs o x c i k) ∧ v = .tup [.sc (.int .i64 0), .sc .nils, .sc .nils, .sc (.int .i64 1)]) ∨
    ∃ x c i k q1 q2, RvOk os cs o x c i k ∧ v = .tup [.sc (.int .i64 (polW c rb rv)), .sc q1, .sc q2, .sc (.int .i64 0)] ∧ Rs Kls.cells 3 h' q1 (cs.set k (clsB c rb rv)) ∧ Rs Chg.cells 4 h' q2 (chsB os o k x c rb rv))
structure RvSt where
  i : Nat
  qc : SV
  h : List AO
set_option maxHeartbeats 2000000 in
theorem s45 {P : Program} {T : Tab} {K d : Nat} (S : Sd P T K) (hd : 12 ≤ d) (q r : SV) (os : List ObjV) (cs : List Kls) (o rb rv : Int) (ho : os.length ≤ 600) (hcl : cs.length ≤ 600) (hcs : ∀ c ∈ cs, c.ok ∧ -9223372036854775808 ≤ c.cnt)
    (lk : Nat) (h : List AO) (hlk : lk ≤ h.length) (hq : Rs ObjV.cells 3 h q os) (hr : Rs Kls.cells 3 h r cs) (hok : ∀ x ∈ os, x.ok h) :
    Ends (RvR os cs o rb rv h) (ev P T K d 45 [.sc q, .sc r, .sc (.int .i64 o), .sc (.int .i64 rb), .sc (.int .i64 rv)] lk h) := by
  obtain ⟨d, rfl⟩ : ∃ k, d = k + 1 := ⟨d - 1, by omega⟩
  rw [ev_run (at45 S.t)]
  unfold i45 Try.f45
  have l1 := hq.len (un81 S.p)
  have l2 := hr.len (un77 S.p)
  rcases rv_or os cs o with ⟨x, c, i, k, hrv⟩ | hbad
  rotate_left
  · have hno : ¬ ∃ x c i k, RvOk os cs o x c i k := fun ⟨x, c, i, k, a1, a2, a3, a4, a5, a6⟩ => by
      have b1 := (List.getElem?_eq_some_iff.1 a4).1
      have b2 := (List.getElem?_eq_some_iff.1 a6).1
      rcases hbad with hb | hb | hb | hb | ⟨y, y1, y2, y3⟩
      · omega
      · omega
      · omega
      · omega
      · rw [a3, Int.toNat_natCast, a4] at y1
        obtain rfl := Option.some.inj y1
        omega
    have fin : ∀ h', Ext1 h h' → RvR os cs o rb rv h (.tup [.sc (.int .i64 0), .sc .nils, .sc .nils, .sc (.int .i64 1)]) h' := fun h' hx => ⟨hx, .inl ⟨hno, rfl⟩⟩
    have hx1 : Ext1 h (h ++ [.rw 81 [q]]) := (Ext1.refl h).push _
    by_cases b1 : os.length > 256
    · simp (maxSteps := 1000000) (disch := first | omega | (simp (disch := first | omega | (simp only [Hdr.len, Hdr.fr, Obj.len, chg_len, chg_fr, ObjV.len, Kls.len, Chg.len, List.length_append, List.length_cons, List.length_nil, List.length_set]; first | done | omega)) only [Hdr.len, Hdr.fr, Obj.len, chg_len, chg_fr, ObjV.len, Kls.len, Chg.len, amSide, Int.reduceToNat, Nat.reducePow, Nat.reduceMul]; first | done | omega)) only  [↓amPre, amPost, ↓s_lit', Nat.reduceAdd, Nat.reduceSub, List.replicate, retA, resultsA, resultA, toC, toCL, Nat.reduceEqDiff, (ze50 S.p), (ze67 S.p), (ze78 S.p), (bu64 S.p), (fa67_0 S.p), (fa67_1 S.p), iaddr_sl (un77 S.p) (sz50 S.p), iaddr_sl (un81 S.p) (sz67 S.p), len_sl (un77 S.p), len_nils (un77 S.p), len_sl (un81 S.p), len_nils (un81 S.p), part_sc (ag26 S.p), part_sc (ag3 S.p), part_all (ag50 S.p) (sz50 S.p), part_at (ag50 S.p) (sz50 S.p), part_all (ag67 S.p) (sz67 S.p), part_at (ag67 S.p) (sz67 S.p), part_sc (ag78 S.p), part_sc (ag81 S.p), store_last (sz50 S.p), (sz50 S.p), store_last (sz67 S.p), (sz67 S.p), cells_self, l1, l2, dec_t]
      exact Ends.some (fin _ hx1)
    by_cases b2 : cs.length > 256
    · simp (maxSteps := 1000000) (disch := first | omega | (simp (disch := first | omega | (simp only [Hdr.len, Hdr.fr, Obj.len, chg_len, chg_fr, ObjV.len, Kls.len, Chg.len, List.length_append, List.length_cons, List.length_nil, List.length_set]; first | done | omega)) only [Hdr.len, Hdr.fr, Obj.len, chg_len, chg_fr, ObjV.len, Kls.len, Chg.len, amSide, Int.reduceToNat, Nat.reducePow, Nat.reduceMul]; first | done | omega)) only  [↓amPre, amPost, ↓s_lit', Nat.reduceAdd, Nat.reduceSub, List.replicate, retA, resultsA, resultA, toC, toCL, Nat.reduceEqDiff, (ze50 S.p), (ze67 S.p), (ze78 S.p), (bu64 S.p), (fa67_0 S.p), (fa67_1 S.p), iaddr_sl (un77 S.p) (sz50 S.p), iaddr_sl (un81 S.p) (sz67 S.p), len_sl (un77 S.p), len_nils (un77 S.p), len_sl (un81 S.p), len_nils (un81 S.p), part_sc (ag26 S.p), part_sc (ag3 S.p), part_all (ag50 S.p) (sz50 S.p), part_at (ag50 S.p) (sz50 S.p), part_all (ag67 S.p) (sz67 S.p), part_at (ag67 S.p) (sz67 S.p), part_sc (ag78 S.p), part_sc (ag81 S.p), store_last (sz50 S.p), (sz50 S.p), store_last (sz67 S.p), (sz67 S.p), cells_self, l1, l2, dec_t, dec_f]
      exact Ends.some (fin _ hx1)
    by_cases b3 : o < 0
    · simp (maxSteps := 1000000) (disch := first | omega | (simp (disch := first | omega | (simp only [Hdr.len, Hdr.fr, Obj.len, chg_len, chg_fr, ObjV.len, Kls.len, Chg.len, List.length_append, List.length_cons, List.length_nil, List.length_set]; first | done | omega)) only [Hdr.len, Hdr.fr, Obj.len, chg_len, chg_fr, ObjV.len, Kls.len, Chg.len, amSide, Int.reduceToNat, Nat.reducePow, Nat.reduceMul]; first | done | omega)) only  [↓amPre, amPost, ↓s_lit', Nat.reduceAdd, Nat.reduceSub, List.replicate, retA, resultsA, resultA, toC, toCL, Nat.reduceEqDiff, (ze50 S.p), (ze67 S.p), (ze78 S.p), (bu64 S.p), (fa67_0 S.p), (fa67_1 S.p), iaddr_sl (un77 S.p) (sz50 S.p), iaddr_sl (un81 S.p) (sz67 S.p), len_sl (un77 S.p), len_nils (un77 S.p), len_sl (un81 S.p), len_nils (un81 S.p), part_sc (ag26 S.p), part_sc (ag3 S.p), part_all (ag50 S.p) (sz50 S.p), part_at (ag50 S.p) (sz50 S.p), part_all (ag67 S.p) (sz67 S.p), part_at (ag67 S.p) (sz67 S.p), part_sc (ag78 S.p), part_sc (ag81 S.p), store_last (sz50 S.p), (sz50 S.p), store_last (sz67 S.p), (sz67 S.p), cells_self, l1, l2, dec_t, dec_f]
      exact Ends.some (fin _ hx1)
    by_cases b4 : o ≥ os.length
    · simp (maxSteps := 1000000) (disch := first | omega | (simp (disch := first | omega | (simp only [Hdr.len, Hdr.fr, Obj.len, chg_len, chg_fr, ObjV.len, Kls.len, Chg.len, List.length_append, List.length_cons, List.length_nil, List.length_set]; first | done | omega)) only [Hdr.len, Hdr.fr, Obj.len, chg_len, chg_fr, ObjV.len, Kls.len, Chg.len, amSide, Int.reduceToNat, Nat.reducePow, Nat.reduceMul]; first | done | omega)) only  [↓amPre, amPost, ↓s_lit', Nat.reduceAdd, Nat.reduceSub, List.replicate, retA, resultsA, resultA, toC, toCL, Nat.reduceEqDiff, (ze50 S.p), (ze67 S.p), (ze78 S.p), (bu64 S.p), (fa67_0 S.p), (fa67_1 S.p), iaddr_sl (un77 S.p) (sz50 S.p), iaddr_sl (un81 S.p) (sz67 S.p), len_sl (un77 S.p), len_nils (un77 S.p), len_sl (un81 S.p), len_nils (un81 S.p), part_sc (ag26 S.p), part_sc (ag3 S.p), part_all (ag50 S.p) (sz50 S.p), part_at (ag50 S.p) (sz50 S.p), part_all (ag67 S.p) (sz67 S.p), part_at (ag67 S.p) (sz67 S.p), part_sc (ag78 S.p), part_sc (ag81 S.p), store_last (sz50 S.p), (sz50 S.p), store_last (sz67 S.p), (sz67 S.p), cells_self, l1, l2, dec_t, dec_f]
      exact Ends.some (fin _ hx1)
    obtain ⟨y, y1, y2, y3⟩ : ∃ x, os[o.toNat]? = some x ∧ 0 ≤ o ∧ (x.k < 0 ∨ x.k ≥ cs.length) := by
      rcases hbad with hb | hb | hb | hb | hb
      · omega
      · omega
      · omega
      · omega
      · exact hb
    obtain ⟨i, rfl⟩ := Int.eq_ofNat_of_zero_le y2
    rw [Int.toNat_natCast] at y1
    obtain ⟨b, rfl, hb, hc⟩ := hq.at (by omega)
    have hg1 := recs_get ObjV.len y1 1 (by omega)
    by_cases b5 : y.k < 0
    · simp (maxSteps := 1000000) (disch := first | omega | (simp (disch := first | omega | (simp only [Hdr.len, Hdr.fr, Obj.len, chg_len, chg_fr, ObjV.len, Kls.len, Chg.len, List.length_append, List.length_cons, List.length_nil, List.length_set]; first | done | omega)) only [Hdr.len, Hdr.fr, Obj.len, chg_len, chg_fr, ObjV.len, Kls.len, Chg.len, amSide, Int.reduceToNat, Nat.reducePow, Nat.reduceMul]; first | done | omega)) only  [↓amPre, amPost, ↓s_lit', Nat.reduceAdd, Nat.reduceSub, List.replicate, retA, resultsA, resultA, toC, toCL, Nat.reduceEqDiff, (ze50 S.p), (ze67 S.p), (ze78 S.p), (bu64 S.p), (fa67_0 S.p), (fa67_1 S.p), iaddr_sl (un77 S.p) (sz50 S.p), iaddr_sl (un81 S.p) (sz67 S.p), len_sl (un77 S.p), len_nils (un77 S.p), len_sl (un81 S.p), len_nils (un81 S.p), part_sc (ag26 S.p), part_sc (ag3 S.p), part_all (ag50 S.p) (sz50 S.p), part_at (ag50 S.p) (sz50 S.p), part_all (ag67 S.p) (sz67 S.p), part_at (ag67 S.p) (sz67 S.p), part_sc (ag78 S.p), part_sc (ag81 S.p), store_last (sz50 S.p), (sz50 S.p), store_last (sz67 S.p), (sz67 S.p), cells_self, cells_other, l1, l2, dec_t, dec_f, hc, hg1, ObjV.c1, idx_ok, Int.toNat_natCast, Nat.zero_add]
      exact Ends.some (fin _ hx1)
    · simp (maxSteps := 1000000) (disch := first | omega | (simp (disch := first | omega | (simp only [Hdr.len, Hdr.fr, Obj.len, chg_len, chg_fr, ObjV.len, Kls.len, Chg.len, List.length_append, List.length_cons, List.length_nil, List.length_set]; first | done | omega)) only [Hdr.len, Hdr.fr, Obj.len, chg_len, chg_fr, ObjV.len, Kls.len, Chg.len, amSide, Int.reduceToNat, Nat.reducePow, Nat.reduceMul]; first | done | omega)) only  [↓amPre, amPost, ↓s_lit', Nat.reduceAdd, Nat.reduceSub, List.replicate, retA, resultsA, resultA, toC, toCL, Nat.reduceEqDiff, (ze50 S.p), (ze67 S.p), (ze78 S.p), (bu64 S.p), (fa67_0 S.p), (fa67_1 S.p), iaddr_sl (un77 S.p) (sz50 S.p), iaddr_sl (un81 S.p) (sz67 S.p), len_sl (un77 S.p), len_nils (un77 S.p), len_sl (un81 S.p), len_nils (un81 S.p), part_sc (ag26 S.p), part_sc (ag3 S.p), part_all (ag50 S.p) (sz50 S.p), part_at (ag50 S.p) (sz50 S.p), part_all (ag67 S.p) (sz67 S.p), part_at (ag67 S.p) (sz67 S.p), part_sc (ag78 S.p), part_sc (ag81 S.p), store_last (sz50 S.p), (sz50 S.p), store_last (sz67 S.p), (sz67 S.p), cells_self, cells_other, l1, l2, dec_t, dec_f, hc, hg1, ObjV.c1, idx_ok, Int.toNat_natCast, Nat.zero_add]
      exact Ends.some (fin _ hx1)
  obtain ⟨a1, a2, rfl, a4, a5, a6⟩ := hrv
  have hi := (List.getElem?_eq_some_iff.1 a4).1
  have hk := (List.getElem?_eq_some_iff.1 a6).1
  obtain ⟨b, rfl, hb, hc⟩ := hq.at (by omega)
  obtain ⟨b', rfl, hb', hc'⟩ := hr.at (by omega)
  have hg1 := recs_get ObjV.len a4 1 (by omega)
  have hgc := recs_part (ag50 S.p) (sz50 S.p) Kls.len a6
  have hxok := hok x (List.mem_of_getElem? a4)
  obtain ⟨hcok, hcc⟩ := hcs c (List.mem_of_getElem? a6)
  have hcne : cs ≠ [] := fun e => by rw [e] at hk; simp at hk
  -- ahead of the switch
  have x2 : Ext1 h (h ++ [.rw 81 [.sl b 0 os.length 3]] ++ [.rw 78 [.nils]]) := ((Ext1.refl h).push _).push _
  obtain ⟨v59, h59, e59, hcl59⟩ := s59 S (show 1 ≤ d by omega) (.sl b' 0 cs.length 3) cs (by omega) lk (h ++ [.rw 81 [.sl b 0 os.length 3]] ++ [.rw 78 [.nils]]) (by simp; omega) (.inr ⟨b', rfl, by simp; omega, by rw [x2.cells hb']; exact hc'⟩)
  rcases hcl59 with ⟨e, _⟩ | ⟨_, rfl, hh59⟩
  · exact absurd e hcne
  have hp := fun lk h => s37 S (show 1 ≤ d by omega) c hcc rb rv lk h
  have hinv : ∀ C : Kls, RvInv h (h59 ++ [.rw 50 C.cells]) (.sl b 0 os.length 3) .nils cs C [] := fun C => by
    subst hh59
    refine ⟨(((x2.push _).push _).push _), ?_, ?_, ?_, ?_, Own.nil _ _ _ _, by simp⟩
    · simp
    · simp
    · simp
    · simp
  have hl59 : h59.length = h.length + 4 := by rw [hh59]; simp
  simp only [List.length_append, List.length_singleton] at e59
  have hcells59 : cellsAt h59 b' = some (recs Kls.cells cs) := by
    have : Ext1 h h59 := by rw [hh59]; exact (x2.push _).push _
    rw [this.cells hb']; exact hc'
  have hb59 : b' < h59.length := by omega
  clear hh59
  have tail : ∀ (W : Int) (h' : List AO) (qc : SV) (C : Kls) (chs : List Chg), RvInv h h' (.sl b 0 os.length 3) qc cs C chs → polW c rb rv = W → clsB c rb rv = C → chsB os i k x c rb rv = chs →
      storeA P h' lk 50 (.v (.sc (.ptr (h.length + 3) (k * 3)))) (.v (.ag C.cells)) = some (h'.set (h.length + 3) (.rw 50 (recs Kls.cells (cs.set k C)))) ∧ cellsAt (h'.set (h.length + 3) (.rw 50 (recs Kls.cells (cs.set k C)))) (h.length + 1) = some [qc] ∧
      cellsAt h' (h.length + 4) = some C.cells ∧ RvR os cs i rb rv h (.tup [.sc (.int .i64 W), .sc (.sl (h.length + 3) 0 cs.length 3), .sc qc, .sc (.int .i64 0)]) (h'.set (h.length + 3) (.rw 50 (recs Kls.cells (cs.set k C)))) := by
    intro W h' qc C chs H hW hC hch
    have hl := H.len
    refine ⟨?_, ?_, cells_at H.p19, H.x.set (by omega) _, .inr ⟨x, c, i, k, _, _, ⟨a1, a2, rfl, a4, a5, a6⟩, by rw [hW], ?_, ?_⟩⟩
    · rw [store_at H.p17 (by omega) (sz50 S.p) (by rw [cells_ag, Kls.len]) (by have := recs_le Kls.len a6; omega), cells_ag, recs_set Kls.len hk]
    · rw [cells_set_ne _ _ _ (by omega)]; exact cells_at H.p15
    · rw [hC]
      exact .inr ⟨h.length + 3, by rw [List.length_set], by simp; omega, cells_set _ _ _ (by omega)⟩
    · rw [hch]
      exact (H.own.set (by omega) _).rs (by omega) Chg.len
  have s39' : ∀ lk hh (z : ObjV) (j : Nat), Ext1 h hh → os[j]? = some z → ev P T K d 39 [.sc (.int .i64 (j : Nat)), .ag z.cells] lk hh = some (.tup [.ag (oneV j z).cells, .sc (.bool (oneOk j z.w))], hh) := fun lk hh z j hx hz => by
    have hzo := hok z (List.mem_of_getElem? hz)
    have := s39 S (show 10 ≤ d by omega) j z.w hzo.1 z.k z.q z.cnt lk hh (hzo.2.ext hx)
    rw [oneV_cells] at this
    exact this
  have one_in : ∀ (z : ObjV) (j : Nat), os[j]? = some z → oneOk j z.w = true → 0 ≤ (oneV j z).o ∧ (oneV j z).o < os.length := fun z j hz hj => by
    have := (List.getElem?_eq_some_iff.1 hz).1
    unfold oneV
    rw [if_pos hj]
    split <;> simp <;> omega
  rcases pol_range c rb rv with hW | hW | hW
  · -- a single one
    rw [hW] at hp
    have hC : clsB c rb rv = polC c := by unfold clsB; rw [hW]; simp
    obtain ⟨h3, qc3, e58, H3⟩ := s58 S (show 1 ≤ d by omega) h (h59 ++ [.rw 50 (polC c).cells]) b .nils os cs (polC c) [] (oneV i x) (oneOk i x.w) lk hlk hb hc (one_in x i a4) (by simp) (hinv (polC c))
    obtain ⟨t1, t2, t3, t4⟩ := tail 0 h3 qc3 (polC c) _ H3 hW hC (by unfold chsB; rw [hW]; simp)
    have hgx := recs_part (ag67 S.p) (sz67 S.p) ObjV.len a4
    have c5 := cells_at (hinv (polC c)).p5
    have hcb : cellsAt (h59 ++ [.rw 50 (polC c).cells]) b = some (recs ObjV.cells os) := by rw [(hinv (polC c)).x.cells hb]; exact hc
    have f39 := fun lk => s39' lk (h59 ++ [.rw 50 (polC c).cells]) x i (hinv (polC c)).x a4
    clear hok hcs tail s39' one_in hinv H3
    simp (maxSteps := 1000000) (disch := first | omega | (simp (disch := first | omega | (simp only [Hdr.len, Hdr.fr, Obj.len, chg_len, chg_fr, ObjV.len, Kls.len, Chg.len, List.length_append, List.length_cons, List.length_nil, List.length_set]; first | done | omega)) only [Hdr.len, Hdr.fr, Obj.len, chg_len, chg_fr, ObjV.len, Kls.len, Chg.len, amSide, Int.reduceToNat, Nat.reducePow, Nat.reduceMul]; first | done | omega)) only  [↓amPre, amPost, ↓s_lit', Nat.reduceAdd, Nat.reduceSub, List.replicate, retA, resultsA, resultA, toC, toCL, Nat.reduceEqDiff, (ze50 S.p), (ze67 S.p), (ze78 S.p), (bu64 S.p), (fa67_0 S.p), (fa67_1 S.p), iaddr_sl (un77 S.p) (sz50 S.p), iaddr_sl (un81 S.p) (sz67 S.p), len_sl (un77 S.p), len_nils (un77 S.p), len_sl (un81 S.p), len_nils (un81 S.p), part_sc (ag26 S.p), part_sc (ag3 S.p), part_all (ag50 S.p) (sz50 S.p), part_at (ag50 S.p) (sz50 S.p), part_all (ag67 S.p) (sz67 S.p), part_at (ag67 S.p) (sz67 S.p), part_sc (ag78 S.p), part_sc (ag81 S.p), store_last (sz50 S.p), (sz50 S.p), store_last (sz67 S.p), (sz67 S.p), cells_self, cells_other, l1, l2, dec_f, hc, hg1, ObjV.c1, a5, idx_ok, toSL, toS, e59, hcells59, hgc, hp, hl59, c5, hcb, hgx, f39, e58, t1, t2, t3, Int.reduceBEq, Int.toNat_natCast, Nat.zero_add, Nat.add_zero]
    exact Ends.some t4
  · -- a new epoch
    rw [hW] at hp
    have hC : clsB c rb rv = anew (polC c) := by unfold clsB; rw [hW]; simp
    have hp35 := fun lk h => s35 S (show 1 ≤ d by omega) (polC c) lk h
    have hCok : (anew (polC c)).ok := by unfold Kls.ok anew; exact Nat.mod_lt _ (by omega)
    have hI := hinv (anew (polC c))
    generalize hCe : anew (polC c) = C at *
    have c5 := cells_at hI.p5
    have hcb : cellsAt (h59 ++ [.rw 50 C.cells]) b = some (recs ObjV.cells os) := by rw [hI.x.cells hb]; exact hc
    have l81 : ∀ hh, lenA P hh 81 (.v (.sc (.sl b 0 os.length 3))) = some (.v (.sc (.int .i64 (os.length : Int)))) := fun hh => len_sl (un81 S.p) _ _ _ _
    clear hinv
    simp (maxSteps := 1000000) (disch := first | omega | (simp (disch := first | omega | (simp only [Hdr.len, Hdr.fr, Obj.len, chg_len, chg_fr, ObjV.len, Kls.len, Chg.len, List.length_append, List.length_cons, List.length_nil, List.length_set]; first | done | omega)) only [Hdr.len, Hdr.fr, Obj.len, chg_len, chg_fr, ObjV.len, Kls.len, Chg.len, amSide, Int.reduceToNat, Nat.reducePow, Nat.reduceMul]; first | done | omega)) only  [↓amPre, amPost, ↓s_lit', Nat.reduceAdd, Nat.reduceSub, List.replicate, retA, resultsA, resultA, toC, toCL, Nat.reduceEqDiff, (ze50 S.p), (ze67 S.p), (ze78 S.p), (bu64 S.p), (fa67_0 S.p), (fa67_1 S.p), iaddr_sl (un77 S.p) (sz50 S.p), iaddr_sl (un81 S.p) (sz67 S.p), len_sl (un77 S.p), len_nils (un77 S.p), len_sl (un81 S.p), len_nils (un81 S.p), part_sc (ag26 S.p), part_sc (ag3 S.p), part_all (ag50 S.p) (sz50 S.p), part_at (ag50 S.p) (sz50 S.p), part_all (ag67 S.p) (sz67 S.p), part_at (ag67 S.p) (sz67 S.p), part_sc (ag78 S.p), part_sc (ag81 S.p), store_last (sz50 S.p), (sz50 S.p), store_last (sz67 S.p), (sz67 S.p), cells_self, cells_other, l1, l2, dec_f, hc, hg1, ObjV.c1, a5, idx_ok, toSL, toS, e59, hcells59, hgc, hp, hp35, hl59, c5, l81, Int.reduceBEq, beq_self_eq_true, Int.toNat_natCast, Nat.zero_add, Nat.add_zero]
    refine ends_loop (X := RvSt) ⟨0, .nils, h59 ++ [.rw 50 C.cells]⟩ [20, 21, 22, 23, 88, 89, 90, 91, 92, 93, 94, 95, 96, 97, 98, 99, 100, 101, 102, 103, 104, 105, 106, 107, 108, 109, 110, 111, 112, 113, 114, 115, 116, 117, 118, 119, 120, 121, 122, 123, 124, 125] (fun y => y.i ≤ os.length ∧ RvInv h y.h (.sl b 0 os.length 3) y.qc cs C (lpF os i k C y.i)) (fun y => os.length - y.i)
      (fun y e => e.set 87 (.v (.sc (.int .i64 y.i)))) (fun y => y.h)
      (by have := S.k; show _ < K; simp only; omega) ⟨by simp only; omega, hI⟩ (by simp (maxSteps := 1000000) (disch := first | omega | (simp (disch := first | omega | (simp only [Hdr.len, Hdr.fr, Obj.len, chg_len, chg_fr, ObjV.len, Kls.len, Chg.len, List.length_append, List.length_cons, List.length_nil, List.length_set]; first | done | omega)) only [Hdr.len, Hdr.fr, Obj.len, chg_len, chg_fr, ObjV.len, Kls.len, Chg.len, amSide, Int.reduceToNat, Nat.reducePow, Nat.reduceMul]; first | done | omega)) only [↓amPre, amPost, ↓s_lit', Nat.reduceAdd, Nat.reduceSub, List.replicate, retA, resultsA, resultA, toC, toCL, Nat.reduceEqDiff, Int.natCast_add, Int.cast_ofNat_Int, dec_t, dec_f]) rfl ?_
    rintro ⟨j, qc, hh⟩ ⟨hj, H⟩ again hag e he
    simp only at hj H hag he
    simp only [↓amPre, amPost, ↓s_lit', Nat.reduceAdd, Nat.reduceSub, List.replicate, retA, resultsA, resultA, toC, toCL, Nat.reduceEqDiff] at he
    simp only [↓amPre, amPost, ↓s_lit', Nat.reduceAdd, Nat.reduceSub, List.replicate, retA, resultsA, resultA, toC, toCL, Nat.reduceEqDiff, he]
    have hll := H.len
    have hcbj : cellsAt hh b = some (recs ObjV.cells os) := by rw [H.x.cells hb]; exact hc
    have hbj : b < hh.length := by omega
    refine ends_cond (fun hc1 => ?_) (fun hc1 => ?_)
    · simp only [decide_eq_true_eq] at hc1
      have hjo : j < os.length := by omega
      obtain ⟨z, hz⟩ : ∃ z, os[j]? = some z := ⟨_, List.getElem?_eq_getElem hjo⟩
      have hzo := hok z (List.mem_of_getElem? hz)
      have hpt := recs_part (ag67 S.p) (sz67 S.p) ObjV.len hz
      have H2 := H.push (.rw 67 z.cells)
      have f22 : ∀ lk h, ev P T K d 22 [.sc (.int .u64 (z.w : Nat))] lk h = some (.v (.sc (.int .i64 (rdH z.w).kind)), h) := fun lk h => s22 S (by omega) z.w hzo.1 lk h
      have f56 : ∀ lk, ev P T K d 56 [.ag z.cells] lk (hh ++ [.rw 67 z.cells]) = some (.v (.sc (.int .i64 (if hasC z.cnt (ownW z.w) then ownW z.w else -1))), hh ++ [.rw 67 z.cells]) := fun lk => s56 S (by omega) z.w hzo.1 z.k z.q z.cnt lk _ (hzo.2.ext H2.x)
      have f27 : ∀ lk h, ev P T K d 27 [.sc (.int .u64 (z.w : Nat)), .ag C.cells] lk h = some (.tup [.sc (.int .u64 ((frW z.w C : Nat) : Int)), .sc (.bool (biW z.w))], h) := fun lk h => s27 S (by omega) C hCok z.w hzo.1 lk h
      have hst := lpF_step i k C hz
      have hlen := lpF_len os i k C j
      have c19 : cellsAt (hh ++ [.rw 67 z.cells]) (h.length + 4) = some C.cells := cells_at H2.p19
      have keep : ¬ ((j : Int) ≠ (i : Int) ∧ z.k = (k : Int) ∧ (rdH z.w).kind = 4 ∧ hasC z.cnt (ownW z.w) = true) → lpF os i k C (j + 1) = lpF os i k C j := fun hn => by rw [hst]; unfold stepF; rw [if_neg hn]
      by_cases e1 : j = i
      · have := keep (fun q => q.1 (by omega))
        simp (maxSteps := 1000000) (disch := first | omega | (simp (disch := first | omega | (simp only [Hdr.len, Hdr.fr, Obj.len, chg_len, chg_fr, ObjV.len, Kls.len, Chg.len, List.length_append, List.length_cons, List.length_nil, List.length_set]; first | done | omega)) only [Hdr.len, Hdr.fr, Obj.len, chg_len, chg_fr, ObjV.len, Kls.len, Chg.len, amSide, Int.reduceToNat, Nat.reducePow, Nat.reduceMul]; first | done | omega)) only  [↓amPre, amPost, ↓s_lit', Nat.reduceAdd, Nat.reduceSub, List.replicate, retA, resultsA, resultA, toC, toCL, Nat.reduceEqDiff, he, (ze50 S.p), (ze67 S.p), (ze78 S.p), (bu64 S.p), (fa67_0 S.p), (fa67_1 S.p), iaddr_sl (un77 S.p) (sz50 S.p), iaddr_sl (un81 S.p) (sz67 S.p), len_sl (un77 S.p), len_nils (un77 S.p), len_sl (un81 S.p), len_nils (un81 S.p), part_sc (ag26 S.p), part_sc (ag3 S.p), part_all (ag50 S.p) (sz50 S.p), part_at (ag50 S.p) (sz50 S.p), part_all (ag67 S.p) (sz67 S.p), part_at (ag67 S.p) (sz67 S.p), part_sc (ag78 S.p), part_sc (ag81 S.p), store_last (sz50 S.p), (sz50 S.p), store_last (sz67 S.p), (sz67 S.p), idx_ok, hcbj, hpt, cells_self, bneI_f, Int.toNat_natCast, Nat.zero_add, Nat.add_zero, wrap_i64]
        refine hag ⟨j + 1, qc, _⟩ ⟨hjo, by simp only; rw [this]; exact H2⟩ (by simp only; omega) _ ?_
        simp (maxSteps := 1000000) (disch := first | omega | (simp (disch := first | omega | (simp only [Hdr.len, Hdr.fr, Obj.len, chg_len, chg_fr, ObjV.len, Kls.len, Chg.len, List.length_append, List.length_cons, List.length_nil, List.length_set]; first | done | omega)) only [Hdr.len, Hdr.fr, Obj.len, chg_len, chg_fr, ObjV.len, Kls.len, Chg.len, amSide, Int.reduceToNat, Nat.reducePow, Nat.reduceMul]; first | done | omega)) only [↓amPre, amPost, ↓s_lit', Nat.reduceAdd, Nat.reduceSub, List.replicate, retA, resultsA, resultA, toC, toCL, Nat.reduceEqDiff, Int.natCast_add, Int.cast_ofNat_Int, dec_t, dec_f]
      by_cases e2 : z.k = (k : Int)
      rotate_left
      · have := keep (fun q => e2 q.2.1)
        simp (maxSteps := 1000000) (disch := first | omega | (simp (disch := first | omega | (simp only [Hdr.len, Hdr.fr, Obj.len, chg_len, chg_fr, ObjV.len, Kls.len, Chg.len, List.length_append, List.length_cons, List.length_nil, List.length_set]; first | done | omega)) only [Hdr.len, Hdr.fr, Obj.len, chg_len, chg_fr, ObjV.len, Kls.len, Chg.len, amSide, Int.reduceToNat, Nat.reducePow, Nat.reduceMul]; first | done | omega)) only  [↓amPre, amPost, ↓s_lit', Nat.reduceAdd, Nat.reduceSub, List.replicate, retA, resultsA, resultA, toC, toCL, Nat.reduceEqDiff, he, (ze50 S.p), (ze67 S.p), (ze78 S.p), (bu64 S.p), (fa67_0 S.p), (fa67_1 S.p), iaddr_sl (un77 S.p) (sz50 S.p), iaddr_sl (un81 S.p) (sz67 S.p), len_sl (un77 S.p), len_nils (un77 S.p), len_sl (un81 S.p), len_nils (un81 S.p), part_sc (ag26 S.p), part_sc (ag3 S.p), part_all (ag50 S.p) (sz50 S.p), part_at (ag50 S.p) (sz50 S.p), part_all (ag67 S.p) (sz67 S.p), part_at (ag67 S.p) (sz67 S.p), part_sc (ag78 S.p), part_sc (ag81 S.p), store_last (sz50 S.p), (sz50 S.p), store_last (sz67 S.p), (sz67 S.p), idx_ok, hcbj, hpt, cells_self, ObjV.c1, bneI_t, beqI_f, Int.toNat_natCast, Nat.zero_add, Nat.add_zero, wrap_i64]
        refine hag ⟨j + 1, qc, _⟩ ⟨hjo, by simp only; rw [this]; exact H2⟩ (by simp only; omega) _ ?_
        simp (maxSteps := 1000000) (disch := first | omega | (simp (disch := first | omega | (simp only [Hdr.len, Hdr.fr, Obj.len, chg_len, chg_fr, ObjV.len, Kls.len, Chg.len, List.length_append, List.length_cons, List.length_nil, List.length_set]; first | done | omega)) only [Hdr.len, Hdr.fr, Obj.len, chg_len, chg_fr, ObjV.len, Kls.len, Chg.len, amSide, Int.reduceToNat, Nat.reducePow, Nat.reduceMul]; first | done | omega)) only [↓amPre, amPost, ↓s_lit', Nat.reduceAdd, Nat.reduceSub, List.replicate, retA, resultsA, resultA, toC, toCL, Nat.reduceEqDiff, Int.natCast_add, Int.cast_ofNat_Int, dec_t, dec_f]
      by_cases e3 : (rdH z.w).kind = 4
      rotate_left
      · have := keep (fun q => e3 q.2.2.1)
        simp (maxSteps := 1000000) (disch := first | omega | (simp (disch := first | omega | (simp only [Hdr.len, Hdr.fr, Obj.len, chg_len, chg_fr, ObjV.len, Kls.len, Chg.len, List.length_append, List.length_cons, List.length_nil, List.length_set]; first | done | omega)) only [Hdr.len, Hdr.fr, Obj.len, chg_len, chg_fr, ObjV.len, Kls.len, Chg.len, amSide, Int.reduceToNat, Nat.reducePow, Nat.reduceMul]; first | done | omega)) only  [↓amPre, amPost, ↓s_lit', Nat.reduceAdd, Nat.reduceSub, List.replicate, retA, resultsA, resultA, toC, toCL, Nat.reduceEqDiff, he, (ze50 S.p), (ze67 S.p), (ze78 S.p), (bu64 S.p), (fa67_0 S.p), (fa67_1 S.p), iaddr_sl (un77 S.p) (sz50 S.p), iaddr_sl (un81 S.p) (sz67 S.p), len_sl (un77 S.p), len_nils (un77 S.p), len_sl (un81 S.p), len_nils (un81 S.p), part_sc (ag26 S.p), part_sc (ag3 S.p), part_all (ag50 S.p) (sz50 S.p), part_at (ag50 S.p) (sz50 S.p), part_all (ag67 S.p) (sz67 S.p), part_at (ag67 S.p) (sz67 S.p), part_sc (ag78 S.p), part_sc (ag81 S.p), store_last (sz50 S.p), (sz50 S.p), store_last (sz67 S.p), (sz67 S.p), idx_ok, hcbj, hpt, cells_self, ObjV.c0, ObjV.c1, f22, bneI_t, beqI_t, beqI_f, Int.toNat_natCast, Nat.zero_add, Nat.add_zero, wrap_i64]
        refine hag ⟨j + 1, qc, _⟩ ⟨hjo, by simp only; rw [this]; exact H2⟩ (by simp only; omega) _ ?_
        simp (maxSteps := 1000000) (disch := first | omega | (simp (disch := first | omega | (simp only [Hdr.len, Hdr.fr, Obj.len, chg_len, chg_fr, ObjV.len, Kls.len, Chg.len, List.length_append, List.length_cons, List.length_nil, List.length_set]; first | done | omega)) only [Hdr.len, Hdr.fr, Obj.len, chg_len, chg_fr, ObjV.len, Kls.len, Chg.len, amSide, Int.reduceToNat, Nat.reducePow, Nat.reduceMul]; first | done | omega)) only [↓amPre, amPost, ↓s_lit', Nat.reduceAdd, Nat.reduceSub, List.replicate, retA, resultsA, resultA, toC, toCL, Nat.reduceEqDiff, Int.natCast_add, Int.cast_ofNat_Int, dec_t, dec_f]
      cases e4 : hasC z.cnt (ownW z.w) with
      | false =>
        have := keep (fun q => by rw [e4] at q; exact absurd q.2.2.2 (by simp))
        rw [e4] at f56
        simp (maxSteps := 1000000) (disch := first | omega | (simp (disch := first | omega | (simp only [Hdr.len, Hdr.fr, Obj.len, chg_len, chg_fr, ObjV.len, Kls.len, Chg.len, List.length_append, List.length_cons, List.length_nil, List.length_set]; first | done | omega)) only [Hdr.len, Hdr.fr, Obj.len, chg_len, chg_fr, ObjV.len, Kls.len, Chg.len, amSide, Int.reduceToNat, Nat.reducePow, Nat.reduceMul]; first | done | omega)) only  [↓amPre, amPost, ↓s_lit', Nat.reduceAdd, Nat.reduceSub, List.replicate, retA, resultsA, resultA, toC, toCL, Nat.reduceEqDiff, he, (ze50 S.p), (ze67 S.p), (ze78 S.p), (bu64 S.p), (fa67_0 S.p), (fa67_1 S.p), iaddr_sl (un77 S.p) (sz50 S.p), iaddr_sl (un81 S.p) (sz67 S.p), len_sl (un77 S.p), len_nils (un77 S.p), len_sl (un81 S.p), len_nils (un81 S.p), part_sc (ag26 S.p), part_sc (ag3 S.p), part_all (ag50 S.p) (sz50 S.p), part_at (ag50 S.p) (sz50 S.p), part_all (ag67 S.p) (sz67 S.p), part_at (ag67 S.p) (sz67 S.p), part_sc (ag78 S.p), part_sc (ag81 S.p), store_last (sz50 S.p), (sz50 S.p), store_last (sz67 S.p), (sz67 S.p), idx_ok, hcbj, hpt, cells_self, ObjV.c0, ObjV.c1, ObjV.len, f22, f56, bneI_t, bneI_f, beqI_t, Bool.false_eq_true, Int.toNat_natCast, Nat.zero_add, Nat.add_zero, wrap_i64]
        refine hag ⟨j + 1, qc, _⟩ ⟨hjo, by simp only; rw [this]; exact H2⟩ (by simp only; omega) _ ?_
        simp (maxSteps := 1000000) (disch := first | omega | (simp (disch := first | omega | (simp only [Hdr.len, Hdr.fr, Obj.len, chg_len, chg_fr, ObjV.len, Kls.len, Chg.len, List.length_append, List.length_cons, List.length_nil, List.length_set]; first | done | omega)) only [Hdr.len, Hdr.fr, Obj.len, chg_len, chg_fr, ObjV.len, Kls.len, Chg.len, amSide, Int.reduceToNat, Nat.reducePow, Nat.reduceMul]; first | done | omega)) only [↓amPre, amPost, ↓s_lit', Nat.reduceAdd, Nat.reduceSub, List.replicate, retA, resultsA, resultA, toC, toCL, Nat.reduceEqDiff, Int.natCast_add, Int.cast_ofNat_Int, dec_t, dec_f]
      | true =>
        have hpos := has_pos e4
        rw [e4] at f56
        obtain ⟨h3, qc3, e58, H3⟩ := s58 S (show 1 ≤ d by omega) h (hh ++ [.rw 67 z.cells]) b qc os cs C _ ⟨(j : Nat), frW z.w C, -1, 0⟩ (biW z.w) lk hlk hb hc (fun _ => by simp only; omega) (by omega) H2
        have e58' : ev P T K d 58 [.ag [.int .i64 ((j : Nat) : Int), .int .u64 ((frW z.w C : Nat) : Int), .int .i64 (-1), .int .u64 0], .sc (.bool (biW z.w)), .sc (.ptr h.length 0), .sc (.ptr (h.length + 1) 0)] lk (hh ++ [.rw 67 z.cells]) = some (.tup [], h3) := e58
        have hfin : RvInv h h3 (.sl b 0 os.length 3) qc3 cs C (lpF os i k C (j + 1)) := by
          rw [hst]; unfold stepF; rw [if_pos ⟨by omega, e2, e3, e4⟩]; exact H3
        clear H3 e58 hst keep tail one_in s39' hok hcs
        simp (maxSteps := 1000000) (disch := first | omega | (simp (disch := first | omega | (simp only [Hdr.len, Hdr.fr, Obj.len, chg_len, chg_fr, ObjV.len, Kls.len, Chg.len, List.length_append, List.length_cons, List.length_nil, List.length_set]; first | done | omega)) only [Hdr.len, Hdr.fr, Obj.len, chg_len, chg_fr, ObjV.len, Kls.len, Chg.len, amSide, Int.reduceToNat, Nat.reducePow, Nat.reduceMul]; first | done | omega)) only  [↓amPre, amPost, ↓s_lit', Nat.reduceAdd, Nat.reduceSub, List.replicate, retA, resultsA, resultA, toC, toCL, Nat.reduceEqDiff, he, (ze50 S.p), (ze67 S.p), (ze78 S.p), (bu64 S.p), (fa67_0 S.p), (fa67_1 S.p), iaddr_sl (un77 S.p) (sz50 S.p), iaddr_sl (un81 S.p) (sz67 S.p), len_sl (un77 S.p), len_nils (un77 S.p), len_sl (un81 S.p), len_nils (un81 S.p), part_sc (ag26 S.p), part_sc (ag3 S.p), part_all (ag50 S.p) (sz50 S.p), part_at (ag50 S.p) (sz50 S.p), part_all (ag67 S.p) (sz67 S.p), part_at (ag67 S.p) (sz67 S.p), part_sc (ag78 S.p), part_sc (ag81 S.p), store_last (sz50 S.p), (sz50 S.p), store_last (sz67 S.p), (sz67 S.p), idx_ok, hcbj, hpt, cells_self, ObjV.c0, ObjV.c1, ObjV.len, Kls.len, f22, f56, f27, c19, e58', bneI_t, beqI_t, Int.toNat_natCast, Nat.zero_add, Nat.add_zero, wrap_i64]
        refine hag ⟨j + 1, qc3, h3⟩ ⟨hjo, hfin⟩ (by simp only; omega) _ ?_
        simp (maxSteps := 1000000) (disch := first | omega | (simp (disch := first | omega | (simp only [Hdr.len, Hdr.fr, Obj.len, chg_len, chg_fr, ObjV.len, Kls.len, Chg.len, List.length_append, List.length_cons, List.length_nil, List.length_set]; first | done | omega)) only [Hdr.len, Hdr.fr, Obj.len, chg_len, chg_fr, ObjV.len, Kls.len, Chg.len, amSide, Int.reduceToNat, Nat.reducePow, Nat.reduceMul]; first | done | omega)) only [↓amPre, amPost, ↓s_lit', Nat.reduceAdd, Nat.reduceSub, List.replicate, retA, resultsA, resultA, toC, toCL, Nat.reduceEqDiff, Int.natCast_add, Int.cast_ofNat_Int, dec_t, dec_f]
    · simp only [decide_eq_false_iff_not] at hc1
      obtain rfl : j = os.length := by omega
      have hlen := lpF_len os i k C os.length
      obtain ⟨h3, qc3, e58, H3⟩ := s58 S (show 1 ≤ d by omega) h hh b qc os cs C _ (oneV i x) (oneOk i x.w) lk hlk hb hc (one_in x i a4) (by omega) H
      obtain ⟨t1, t2, t3, t4⟩ := tail 1 h3 qc3 C _ H3 hW hC (by unfold chsB; rw [hW, if_pos rfl, hC])
      have hgx := recs_part (ag67 S.p) (sz67 S.p) ObjV.len a4
      have c5j := cells_at H.p5
      have f39 := fun lk => s39' lk hh x i H.x a4
      clear hok hcs tail s39' one_in H3
      simp (maxSteps := 1000000) (disch := first | omega | (simp (disch := first | omega | (simp only [Hdr.len, Hdr.fr, Obj.len, chg_len, chg_fr, ObjV.len, Kls.len, Chg.len, List.length_append, List.length_cons, List.length_nil, List.length_set]; first | done | omega)) only [Hdr.len, Hdr.fr, Obj.len, chg_len, chg_fr, ObjV.len, Kls.len, Chg.len, amSide, Int.reduceToNat, Nat.reducePow, Nat.reduceMul]; first | done | omega)) only  [↓amPre, amPost, ↓s_lit', Nat.reduceAdd, Nat.reduceSub, List.replicate, retA, resultsA, resultA, toC, toCL, Nat.reduceEqDiff, he, (ze50 S.p), (ze67 S.p), (ze78 S.p), (bu64 S.p), (fa67_0 S.p), (fa67_1 S.p), iaddr_sl (un77 S.p) (sz50 S.p), iaddr_sl (un81 S.p) (sz67 S.p), len_sl (un77 S.p), len_nils (un77 S.p), len_sl (un81 S.p), len_nils (un81 S.p), part_sc (ag26 S.p), part_sc (ag3 S.p), part_all (ag50 S.p) (sz50 S.p), part_at (ag50 S.p) (sz50 S.p), part_all (ag67 S.p) (sz67 S.p), part_at (ag67 S.p) (sz67 S.p), part_sc (ag78 S.p), part_sc (ag81 S.p), store_last (sz50 S.p), (sz50 S.p), store_last (sz67 S.p), (sz67 S.p), idx_ok, c5j, hcbj, hgx, f39, e58, t1, t2, t3, Int.toNat_natCast, Nat.zero_add, Nat.add_zero]
      exact Ends.some t4
  · -- no bias any more
    rw [hW] at hp
    have hC : clsB c rb rv = never (polC c) := by unfold clsB; rw [hW]; simp
    have hp36 := fun lk h => s36 S (show 1 ≤ d by omega) (polC c) lk h
    have hI := hinv (never (polC c))
    generalize hCe : never (polC c) = C at *
    have c5 := cells_at hI.p5
    have l81 : ∀ hh, lenA P hh 81 (.v (.sc (.sl b 0 os.length 3))) = some (.v (.sc (.int .i64 (os.length : Int)))) := fun hh => len_sl (un81 S.p) _ _ _ _
    clear hinv
    simp (maxSteps := 1000000) (disch := first | omega | (simp (disch := first | omega | (simp only [Hdr.len, Hdr.fr, Obj.len, chg_len, chg_fr, ObjV.len, Kls.len, Chg.len, List.length_append, List.length_cons, List.length_nil, List.length_set]; first | done | omega)) only [Hdr.len, Hdr.fr, Obj.len, chg_len, chg_fr, ObjV.len, Kls.len, Chg.len, amSide, Int.reduceToNat, Nat.reducePow, Nat.reduceMul]; first | done | omega)) only  [↓amPre, amPost, ↓s_lit', Nat.reduceAdd, Nat.reduceSub, List.replicate, retA, resultsA, resultA, toC, toCL, Nat.reduceEqDiff, (ze50 S.p), (ze67 S.p), (ze78 S.p), (bu64 S.p), (fa67_0 S.p), (fa67_1 S.p), iaddr_sl (un77 S.p) (sz50 S.p), iaddr_sl (un81 S.p) (sz67 S.p), len_sl (un77 S.p), len_nils (un77 S.p), len_sl (un81 S.p), len_nils (un81 S.p), part_sc (ag26 S.p), part_sc (ag3 S.p), part_all (ag50 S.p) (sz50 S.p), part_at (ag50 S.p) (sz50 S.p), part_all (ag67 S.p) (sz67 S.p), part_at (ag67 S.p) (sz67 S.p), part_sc (ag78 S.p), part_sc (ag81 S.p), store_last (sz50 S.p), (sz50 S.p), store_last (sz67 S.p), (sz67 S.p), cells_self, cells_other, l1, l2, dec_f, hc, hg1, ObjV.c1, a5, idx_ok, toSL, toS, e59, hcells59, hgc, hp, hp36, hl59, c5, l81, Int.reduceBEq, beq_self_eq_true, Int.toNat_natCast, Nat.zero_add, Nat.add_zero]
    refine ends_loop (X := RvSt) ⟨0, .nils, h59 ++ [.rw 50 C.cells]⟩ [24, 25, 143, 144, 145, 146, 147, 148, 149, 150, 151, 152, 153, 154, 155, 156, 157, 158] (fun y => y.i ≤ os.length ∧ RvInv h y.h (.sl b 0 os.length 3) y.qc cs C (lpN os k y.i)) (fun y => os.length - y.i)
      (fun y e => e.set 142 (.v (.sc (.int .i64 y.i)))) (fun y => y.h)
      (by have := S.k; show _ < K; simp only; omega) ⟨by simp only; omega, hI⟩ (by simp (maxSteps := 1000000) (disch := first | omega | (simp (disch := first | omega | (simp only [Hdr.len, Hdr.fr, Obj.len, chg_len, chg_fr, ObjV.len, Kls.len, Chg.len, List.length_append, List.length_cons, List.length_nil, List.length_set]; first | done | omega)) only [Hdr.len, Hdr.fr, Obj.len, chg_len, chg_fr, ObjV.len, Kls.len, Chg.len, amSide, Int.reduceToNat, Nat.reducePow, Nat.reduceMul]; first | done | omega)) only [↓amPre, amPost, ↓s_lit', Nat.reduceAdd, Nat.reduceSub, List.replicate, retA, resultsA, resultA, toC, toCL, Nat.reduceEqDiff, Int.natCast_add, Int.cast_ofNat_Int, dec_t, dec_f]) rfl ?_
    rintro ⟨j, qc, hh⟩ ⟨hj, H⟩ again hag e he
    simp only at hj H hag he
    simp only [↓amPre, amPost, ↓s_lit', Nat.reduceAdd, Nat.reduceSub, List.replicate, retA, resultsA, resultA, toC, toCL, Nat.reduceEqDiff] at he
    simp only [↓amPre, amPost, ↓s_lit', Nat.reduceAdd, Nat.reduceSub, List.replicate, retA, resultsA, resultA, toC, toCL, Nat.reduceEqDiff, he]
    have hll := H.len
    have hcbj : cellsAt hh b = some (recs ObjV.cells os) := by rw [H.x.cells hb]; exact hc
    have hbj : b < hh.length := by omega
    refine ends_cond (fun hc1 => ?_) (fun hc1 => ?_)
    · simp only [decide_eq_true_eq] at hc1
      have hjo : j < os.length := by omega
      obtain ⟨z, hz⟩ : ∃ z, os[j]? = some z := ⟨_, List.getElem?_eq_getElem hjo⟩
      have hpt := recs_part (ag67 S.p) (sz67 S.p) ObjV.len hz
      have H2 := H.push (.rw 67 z.cells)
      have hst := lpN_step k hz
      have hlen := lpN_len os k j
      by_cases e2 : z.k = (k : Int)
      · obtain ⟨h3, qc3, e58, H3⟩ := s58 S (show 1 ≤ d by omega) h (hh ++ [.rw 67 z.cells]) b qc os cs C _ (oneV j z) (oneOk j z.w) lk hlk hb hc (one_in z j hz) (by omega) H2
        have f39 := fun lk => s39' lk (hh ++ [.rw 67 z.cells]) z j H2.x hz
        have hfin : RvInv h h3 (.sl b 0 os.length 3) qc3 cs C (lpN os k (j + 1)) := by
          rw [hst]; unfold stepN; rw [if_pos e2]; exact H3
        clear H3 hst tail one_in s39' hok hcs
        simp (maxSteps := 1000000) (disch := first | omega | (simp (disch := first | omega | (simp only [Hdr.len, Hdr.fr, Obj.len, chg_len, chg_fr, ObjV.len, Kls.len, Chg.len, List.length_append, List.length_cons, List.length_nil, List.length_set]; first | done | omega)) only [Hdr.len, Hdr.fr, Obj.len, chg_len, chg_fr, ObjV.len, Kls.len, Chg.len, amSide, Int.reduceToNat, Nat.reducePow, Nat.reduceMul]; first | done | omega)) only  [↓amPre, amPost, ↓s_lit', Nat.reduceAdd, Nat.reduceSub, List.replicate, retA, resultsA, resultA, toC, toCL, Nat.reduceEqDiff, he, (ze50 S.p), (ze67 S.p), (ze78 S.p), (bu64 S.p), (fa67_0 S.p), (fa67_1 S.p), iaddr_sl (un77 S.p) (sz50 S.p), iaddr_sl (un81 S.p) (sz67 S.p), len_sl (un77 S.p), len_nils (un77 S.p), len_sl (un81 S.p), len_nils (un81 S.p), part_sc (ag26 S.p), part_sc (ag3 S.p), part_all (ag50 S.p) (sz50 S.p), part_at (ag50 S.p) (sz50 S.p), part_all (ag67 S.p) (sz67 S.p), part_at (ag67 S.p) (sz67 S.p), part_sc (ag78 S.p), part_sc (ag81 S.p), store_last (sz50 S.p), (sz50 S.p), store_last (sz67 S.p), (sz67 S.p), idx_ok, hcbj, hpt, cells_self, ObjV.c1, ObjV.len, f39, e58, beqI_t, Int.toNat_natCast, Nat.zero_add, Nat.add_zero, wrap_i64]
        refine hag ⟨j + 1, qc3, h3⟩ ⟨hjo, hfin⟩ (by simp only; omega) _ ?_
        simp (maxSteps := 1000000) (disch := first | omega | (simp (disch := first | omega | (simp only [Hdr.len, Hdr.fr, Obj.len, chg_len, chg_fr, ObjV.len, Kls.len, Chg.len, List.length_append, List.length_cons, List.length_nil, List.length_set]; first | done | omega)) only [Hdr.len, Hdr.fr, Obj.len, chg_len, chg_fr, ObjV.len, Kls.len, Chg.len, amSide, Int.reduceToNat, Nat.reducePow, Nat.reduceMul]; first | done | omega)) only [↓amPre, amPost, ↓s_lit', Nat.reduceAdd, Nat.reduceSub, List.replicate, retA, resultsA, resultA, toC, toCL, Nat.reduceEqDiff, Int.natCast_add, Int.cast_ofNat_Int, dec_t, dec_f]
      · have : lpN os k (j + 1) = lpN os k j := by rw [hst]; unfold stepN; rw [if_neg e2]
        simp (maxSteps := 1000000) (disch := first | omega | (simp (disch := first | omega | (simp only [Hdr.len, Hdr.fr, Obj.len, chg_len, chg_fr, ObjV.len, Kls.len, Chg.len, List.length_append, List.length_cons, List.length_nil, List.length_set]; first | done | omega)) only [Hdr.len, Hdr.fr, Obj.len, chg_len, chg_fr, ObjV.len, Kls.len, Chg.len, amSide, Int.reduceToNat, Nat.reducePow, Nat.reduceMul]; first | done | omega)) only  [↓amPre, amPost, ↓s_lit', Nat.reduceAdd, Nat.reduceSub, List.replicate, retA, resultsA, resultA, toC, toCL, Nat.reduceEqDiff, he, (ze50 S.p), (ze67 S.p), (ze78 S.p), (bu64 S.p), (fa67_0 S.p), (fa67_1 S.p), iaddr_sl (un77 S.p) (sz50 S.p), iaddr_sl (un81 S.p) (sz67 S.p), len_sl (un77 S.p), len_nils (un77 S.p), len_sl (un81 S.p), len_nils (un81 S.p), part_sc (ag26 S.p), part_sc (ag3 S.p), part_all (ag50 S.p) (sz50 S.p), part_at (ag50 S.p) (sz50 S.p), part_all (ag67 S.p) (sz67 S.p), part_at (ag67 S.p) (sz67 S.p), part_sc (ag78 S.p), part_sc (ag81 S.p), store_last (sz50 S.p), (sz50 S.p), store_last (sz67 S.p), (sz67 S.p), idx_ok, hcbj, hpt, cells_self, ObjV.c1, beqI_f, Int.toNat_natCast, Nat.zero_add, Nat.add_zero, wrap_i64]
        refine hag ⟨j + 1, qc, _⟩ ⟨hjo, by simp only; rw [this]; exact H2⟩ (by simp only; omega) _ ?_
        simp (maxSteps := 1000000) (disch := first | omega | (simp (disch := first | omega | (simp only [Hdr.len, Hdr.fr, Obj.len, chg_len, chg_fr, ObjV.len, Kls.len, Chg.len, List.length_append, List.length_cons, List.length_nil, List.length_set]; first | done | omega)) only [Hdr.len, Hdr.fr, Obj.len, chg_len, chg_fr, ObjV.len, Kls.len, Chg.len, amSide, Int.reduceToNat, Nat.reducePow, Nat.reduceMul]; first | done | omega)) only [↓amPre, amPost, ↓s_lit', Nat.reduceAdd, Nat.reduceSub, List.replicate, retA, resultsA, resultA, toC, toCL, Nat.reduceEqDiff, Int.natCast_add, Int.cast_ofNat_Int, dec_t, dec_f]
    · simp only [decide_eq_false_iff_not] at hc1
      obtain rfl : j = os.length := by omega
      obtain ⟨t1, t2, t3, t4⟩ := tail 2 hh qc C _ H hW hC (by unfold chsB; rw [hW]; simp)
      clear hok hcs tail s39' one_in
      simp (maxSteps := 1000000) (disch := first | omega | (simp (disch := first | omega | (simp only [Hdr.len, Hdr.fr, Obj.len, chg_len, chg_fr, ObjV.len, Kls.len, Chg.len, List.length_append, List.length_cons, List.length_nil, List.length_set]; first | done | omega)) only [Hdr.len, Hdr.fr, Obj.len, chg_len, chg_fr, ObjV.len, Kls.len, Chg.len, amSide, Int.reduceToNat, Nat.reducePow, Nat.reduceMul]; first | done | omega)) only  [↓amPre, amPost, ↓s_lit', Nat.reduceAdd, Nat.reduceSub, List.replicate, retA, resultsA, resultA, toC, toCL, Nat.reduceEqDiff, he, (ze50 S.p), (ze67 S.p), (ze78 S.p), (bu64 S.p), (fa67_0 S.p), (fa67_1 S.p), iaddr_sl (un77 S.p) (sz50 S.p), iaddr_sl (un81 S.p) (sz67 S.p), len_sl (un77 S.p), len_nils (un77 S.p), len_sl (un81 S.p), len_nils (un81 S.p), part_sc (ag26 S.p), part_sc (ag3 S.p), part_all (ag50 S.p) (sz50 S.p), part_at (ag50 S.p) (sz50 S.p), part_all (ag67 S.p) (sz67 S.p), part_at (ag67 S.p) (sz67 S.p), part_sc (ag78 S.p), part_sc (ag81 S.p), store_last (sz50 S.p), (sz50 S.p), store_last (sz67 S.p), (sz67 S.p), idx_ok, t1, t2, t3, Int.toNat_natCast, Nat.zero_add, Nat.add_zero]
      exact Ends.some t4
end Go.AM
