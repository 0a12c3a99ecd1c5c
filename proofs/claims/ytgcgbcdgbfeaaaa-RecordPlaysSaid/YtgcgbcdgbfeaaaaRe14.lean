/- Records: what both stacks do. Conditions: none. -/
import Derived.Test.YtgcgbcdgbfeaaaaRe13
set_option linter.unusedVariables false
set_option linter.unusedSimpArgs false
set_option maxRecDepth 100000
namespace Go.AM
open Go.Proofs
-- LENS: Rec.len, StV.len
/-- Both stacks. -/
structure Two (lo p r : Nat) (hh : List AO) (qs qr : SV) (n : Int) (l : List Rec) : Prop where
  st : Stk lo p hh qs n l
  rt : RSt lo r hh qr n l
  ne : p ≠ r
  ap : ∀ j o m s, qr = .sl j o m s → NotAt qs j
theorem Two.push {lo p r : Nat} {hh : List AO} {qs qr : SV} {n : Int} {l : List Rec} (H : Two lo p r hh qs qr n l) (o : AO) : Two lo p r (hh ++ [o]) qs qr n l := ⟨H.st.push o, H.rt.push o, H.ne, H.ap⟩
theorem Two.ext {lo p r : Nat} {hh h' : List AO} {qs qr : SV} {n : Int} {l : List Rec} (H : Two lo p r hh qs qr n l) (hx : Ext1 hh h') : Two lo p r h' qs qr n l := ⟨H.st.ext hx, H.rt.ext hx, H.ne, H.ap⟩
theorem RSt.frm {lo p r : Nat} {hh h' : List AO} {qs qs' qr : SV} {n : Int} {l : List Rec} (H : Two lo p r hh qs qr n l) (F : Frm p hh qs h' qs') : RSt lo r h' qr n l := by
  have hr := (List.getElem?_eq_some_iff.1 H.rt.pp).1
  refine ⟨by rw [F.get r hr (Ne.symm H.ne) (H.st.notAt H.rt.lt)]; exact H.rt.pp, ?_, H.rt.lt⟩
  rcases H.rt.q with h | ⟨b, h1, h2, h3, h4, h5⟩
  · exact .inl h
  · exact .inr ⟨b, h1, by have := F.len; omega, h3, by rw [F.get b h2 (by have := H.st.lt; omega) (H.ap b _ _ _ h3)]; exact h4, h5⟩
theorem ap_frm {lo p r : Nat} {hh h' : List AO} {qs qs' qr : SV} {n : Int} {l : List Rec} (H : Two lo p r hh qs qr n l) (F : Frm p hh qs h' qs') : ∀ j o m s, qr = .sl j o m s → NotAt qs' j := fun j o m s e => by
  rcases H.rt.q with ⟨h1, _⟩ | ⟨b, h1, h2, h3, h4, _⟩
  · rw [h1] at e; cases e
  · have e2 := h3.symm.trans e
    simp only [SV.sl.injEq] at e2
    obtain ⟨rfl, _⟩ := e2
    exact F.at_ b h2 (by have := H.st.lt; omega) (H.ap b _ _ _ h3)
/-- What an operation of the document's stack leaves alone. -/
structure RFr (r : Nat) (hh : List AO) (h' : List AO) (qr' : SV) : Prop where
  get : ∀ j, j < hh.length → j ≠ r → h'[j]? = hh[j]?
  new : ∀ j o m s, qr' = .sl j o m s → hh.length ≤ j
  len : hh.length ≤ h'.length
theorem Two.ref {lo p r : Nat} {hh h' : List AO} {qs qr qr' : SV} {n : Int} {l l' : List Rec} (H : Stk lo p hh qs n l) (ne : p ≠ r) (hrl : r < lo) (F : RFr r hh h' qr') (R : RSt lo r h' qr' n l) : Two lo p r h' qs qr' n l := by
  have hp := (List.getElem?_eq_some_iff.1 H.pp).1
  refine ⟨⟨by rw [F.get p hp ne]; exact H.pp, ?_, H.lt⟩, R, ne, fun j o m s e => ?_⟩
  · rcases H.q with h | ⟨b, g, h1, h2, h3, h4⟩
    · exact .inl h
    · have hb := (List.getElem?_eq_some_iff.1 h2).1
      exact .inr ⟨b, g, h1, by rw [F.get b hb (by omega)]; exact h2, h3, h4⟩
  · have hj := F.new j o m s e
    intro o' n' s' e'
    rcases H.q with ⟨h1, _⟩ | ⟨b, g, h1, h2, h3, h4⟩
    · rw [h1] at e'; cases e'
    · have hb := (List.getElem?_eq_some_iff.1 h2).1
      have e2 := h1.symm.trans e'
      simp only [SV.sl.injEq] at e2
      omega
theorem Own.mono {e s lo lo' : Nat} {h : List AO} {q : SV} {cs : List SV} (H : Own e s lo h q cs) (hl : lo' ≤ lo) : Own e s lo' h q cs := by
  rcases H with H | ⟨l, h1, h2⟩
  · exact .inl H
  · exact .inr ⟨l, by omega, h2⟩
theorem copy_own {e b lk : Nat} {h : List AO} (cs : List SV) (hm : cs.length % 2 = 0) (hlk : lk ≤ h.length) (hb : cs.length * b ≤ 140737488355328) :
    ∃ q2 h2, (∀ k, appB e 2 b lk h (.v (.sc .nils)) (some cs) k = k (.v (.sc q2)) h2) ∧ Own e 2 h.length h2 q2 cs ∧ Ext1 h h2 ∧ (∀ j o m s, q2 = .sl j o m s → h.length ≤ j) := by
  cases cs with
  | nil => exact ⟨.nils, h, fun k => appB_nilnil .., Own.nil _ _ _ _, Ext1.refl h, fun j o m s e => by cases e⟩
  | cons c cs =>
    obtain ⟨q2, h2, happ, hown, hl2, _, hx2, hq2, _⟩ := grow_own (b := b) (lk := lk) (Own.nil e 2 h.length h) (c :: cs) (by omega) (by simp) hm (by omega) (Nat.le_refl _) (by simpa using hb)
    exact ⟨q2, h2, happ, (by simpa using hown : Own e 2 h.length h2 q2 (c :: cs)), hx2 h (Ext1.refl h) (Nat.le_refl _), fun j o m s e => by rw [hq2] at e; simp only [SV.sl.injEq] at e; omega⟩
theorem spl2 (a b : SV) : splice [.int .i64 0, .int .u64 0] 0 [a, b] = [a, b] := nrfl rfl
theorem own_cells {P : Program} {e lo : Nat} (hs : szT P e = some 2) {h : List AO} {q : SV} {cs : List SV} (H : Own e 2 lo h q cs) {h' : List AO} (hx : Ext1 h h') : sliceCells P h' e (.v (.sc q)) = some cs := by
  rcases H with ⟨rfl, rfl⟩ | ⟨b, h1, h2, rfl, h4, h5⟩
  · exact sl_nils _
  · rw [sl_cells hs, cells_at (ext1_get hx h4)]
    have : cs.length / 2 * 2 = cs.length := by omega
    rw [this, cellsB_some _ _ _ (by omega), List.drop_zero, List.take_length]
set_option maxHeartbeats 2000000 in
/-- Push of the document's stack. -/
theorem s39 {P : Program} {T : Tab} {K d : Nat} (S : Sd P T K) (hd : 1 ≤ d) {lo r : Nat} {hh : List AO} {qr : SV} {n : Int} {l : List Rec} (H : RSt lo r hh qr n l) (hl : l.length ≤ 600) (o s : Int) (lk : Nat) (hlk : lk ≤ r) (hlo : lo ≤ hh.length) (h1 : 0 ≤ o) (h2 : o < 65536) (h3 : (l.length : Int) < n) :
    Ends (fun v h' => v = .tup [.sc (.int .i64 (l.length : Int)), .sc (.int .i64 0)] ∧ ∃ qr', RSt lo r h' qr' n (l ++ [⟨o, s⟩]) ∧ RFr r hh h' qr') (ev P T K d 39 [.sc (.ptr r 0), .sc (.int .i64 o), .sc (.int .u64 s)] lk hh) := by
  obtain ⟨d, rfl⟩ : ∃ k, d = k + 1 := ⟨d - 1, by omega⟩
  rw [ev_run (at39 S.t)]
  unfold i39 Try.f39
  have hc := H.cell
  have hlr := H.lt
  have hll := H.len S
  have hrl := (List.getElem?_eq_some_iff.1 H.pp).1
  have hw : IntKind.i64.wrap ((l.length : Int) + 1 - 1) = (l.length : Int) := by rw [wrap_i64 (by omega) (by omega)]; omega
  have hlen2 : (l ++ [(⟨o, s⟩ : Rec)]).length = l.length + 1 := by simp
  have hsl := own_cells (sz77 S.p) H.q (Ext1.refl hh)
  have hrc := recs_len Rec.len l
  obtain ⟨q2, hh2, happ, hown, hx2, hn2⟩ := copy_own (e := 77) (b := 16) (lk := lk) (h := hh) (recs Rec.cells l) (by omega) (by omega) (by omega)
  have hl2 := hx2.len
  obtain ⟨q3, hh3, happ3, hown3, hl3, _, hx3, hq3, _⟩ := grow_own (b := 16) (lk := lk) (hown.push (.rw 77 [.int .i64 o, .int .u64 s])) [.int .i64 o, .int .u64 s] (by omega) (by simp) (by simp) (by omega) (by simp; omega) (by rw [hrc]; simp; omega)
  have x3 := hx3 hh (hx2.push _) (Nat.le_refl _)
  have hx3l := x3.len
  have hcs : ([.int .i64 o, .int .u64 s] : List SV) = Rec.cells ⟨o, s⟩ := rfl
  rw [hcs, recs_snoc] at hown3
  have hp3 : hh3[r]? = some (.rw 74 [.int .i64 n, qr]) := by rw [x3.get hrl]; exact H.pp
  have hst : storeA P hh3 lk 72 (.v (.sc (.ptr r 1))) (.v (.sc q3)) = some (hh3.set r (.rw 74 [.int .i64 n, q3])) := by
    rw [store_at hp3 (by omega) (sz72 S.p) rfl (by simp)]; rfl
  have hc3 : cellsAt (hh3.set r (.rw 74 [.int .i64 n, q3])) r = some [.int .i64 n, q3] := cells_set _ _ _ (by omega)
  have hR : RSt lo r (hh3.set r (.rw 74 [.int .i64 n, q3])) q3 n (l ++ [⟨o, s⟩]) := ⟨List.getElem?_set_self (by omega), (hown3.set hrl _).mono hlo, hlr⟩
  have hll3 := hR.len S
  rw [hlen2] at hll3
  have hw2 : ((l.length + 1 : Nat) : Int) = (l.length : Int) + 1 := by omega
  rw [hw2] at hll3
  simp (maxSteps := 1000000) (disch := first | omega | (simp (disch := first | omega | (simp only [Rec.len, StV.len, List.length_append, List.length_cons, List.length_nil, List.length_set]; first | done | omega)) only [Rec.len, StV.len, amSide, Int.reduceToNat, Nat.reducePow, Nat.reduceMul]; first | done | omega)) only  [↓amPre, amPost, ↓s_lit', Nat.reduceAdd, Nat.reduceSub, List.replicate, retA, resultsA, resultA, toC, toCL, Nat.reduceEqDiff, append_at (un72 S.p) (sz77 S.p) (by77 S.p) (ze77 S.p) (by decide) (by decide) rfl, sl_cells (sz77 S.p), (bu77 S.p), lit_fill (un72 S.p) (sz77 S.p) (ze77 S.p), (fa74_0 S.p), (fa74_1 S.p), len_sl (un72 S.p), len_nils (un72 S.p), part_sc (ag3 S.p), part_sc (ag72 S.p), store_last (sz72 S.p), (sz72 S.p), hc, hll, hsl, happ, happ3, hst, hc3, hll3, hw, dec_f, cells_self, cells_other, spl2, List.flatten_cons, List.flatten_nil, List.append_nil, Nat.zero_mul, Nat.one_mul, Nat.zero_add]
  refine Ends.some ⟨rfl, q3, hR, fun j h1 h2 => by rw [List.getElem?_set_ne (Ne.symm h2)]; exact x3.get h1, fun j o m s e => ?_, by simpa using hx3l⟩
  rw [hq3] at e
  simp only [SV.sl.injEq, List.length_append, List.length_singleton] at e
  omega
end Go.AM
