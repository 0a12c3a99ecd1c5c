/- Records: Pop and Save of both stacks. Conditions: none. -/
import Derived.Test.YtgcgbcdgbfeaaaaRe14
set_option linter.unusedVariables false
set_option linter.unusedSimpArgs false
set_option maxRecDepth 100000
namespace Go.AM
open Go.Proofs
-- LENS: Rec.len, StV.len
theorem app_own2 {e b lk lo : Nat} {h : List AO} {q : SV} {cs : List SV} (H : Own e 2 lo h q cs) (hq : ∀ j o m s, q = .sl j o m s → lo ≤ j) (new : List SV) (hm : new.length % 2 = 0) (hlk : lk ≤ lo) (hlo : lo ≤ h.length) (hb : (cs.length + new.length) * b ≤ 140737488355328) :
    ∃ q2 h2, (∀ k, appB e 2 b lk h (.v (.sc q)) (some new) k = k (.v (.sc q2)) h2) ∧ Own e 2 lo h2 q2 (cs ++ new) ∧ (∀ a, Ext1 a h → a.length ≤ lo → Ext1 a h2) ∧ (∀ j o m s, q2 = .sl j o m s → lo ≤ j) ∧ h.length ≤ h2.length := by
  cases new with
  | nil =>
    refine ⟨q, h, fun k => ?_, by rw [List.append_nil]; exact H, fun a ha _ => ha, hq, Nat.le_refl _⟩
    rcases H with ⟨rfl, _⟩ | ⟨l, _, _, rfl, _⟩
    · exact appB_nilnil ..
    · exact appB_nil ..
  | cons c new =>
    obtain ⟨q2, h2, happ, hown, hl2, _, hx2, hq2, _⟩ := grow_own (b := b) (lk := lk) H (c :: new) (by omega) (by simp) hm hlk hlo hb
    exact ⟨q2, h2, happ, hown, hx2, fun j o m s e => by rw [hq2] at e; simp only [SV.sl.injEq] at e; omega, by omega⟩
theorem ext_low2 {a h h' : List AO} (hx : Ext1 a h) (hx' : Ext1 a h') {b : Nat} (hb : b ≤ a.length) (ws : List Nat) : LowEq ws b h h' := fun l hl _ => by rw [hx'.get (by omega), hx.get (by omega)]
set_option maxHeartbeats 4000000 in
/-- Pop of the document's stack, where there is none. -/
theorem s36f {P : Program} {T : Tab} {K d : Nat} (S : Sd P T K) (hd : 2 ≤ d) {lo r : Nat} {hh : List AO} {qr : SV} {n : Int} {l : List Rec} (H : RSt lo r hh qr n l) (hl : l.length ≤ 600) (o : Int) (lk : Nat) (hlk : lk ≤ r) (hlo : lo ≤ hh.length) (ho : Last o l none) :
    Ends (fun v h' => v = .tup [.ag [.int .i64 0, .int .u64 0], .sc (.int .i64 6)] ∧ Ext1 hh h') (ev P T K d 36 [.sc (.ptr r 0), .sc (.int .i64 o)] lk hh) := by
  obtain ⟨d, rfl⟩ : ∃ k, d = k + 1 := ⟨d - 1, by omega⟩
  rw [ev_run (at36 S.t)]
  unfold i36 Try.f36
  have hlr := H.lt
  have x1 : Ext1 hh (hh ++ [.rw 77 [.int .i64 0, .int .u64 0]]) := (Ext1.refl hh).push _
  obtain ⟨v, h2, e72, x2, q', rfl, hix⟩ := s72 S (show 1 ≤ d by omega) (H.ext x1) hl o lk (by simp; omega)
  rw [ixO_none ho] at hix
  have hlen := own_len (un47 S.p) hix
  have hz : (((([] : List Int).map (SV.int .i64)).length : Nat) : Int) = 0 := rfl
  rw [hz] at hlen
  have c4 : h2[hh.length]? = some (.rw 77 [.int .i64 0, .int .u64 0]) := ext1_get x2 (by simp)
  have hst : storeA P h2 lk 77 (.v (.sc (.ptr hh.length 0))) (.v (.ag [.int .i64 0, .int .u64 0])) = some (h2.set hh.length (.rw 77 [.int .i64 0, .int .u64 0])) := by
    rw [store_at c4 (by omega) (sz77 S.p) rfl (by simp)]; rfl
  have hc4 : cellsAt (h2.set hh.length (.rw 77 [.int .i64 0, .int .u64 0])) hh.length = some [.int .i64 0, .int .u64 0] := cells_set _ _ _ (by have := x2.len; simp at this; omega)
  simp (maxSteps := 1000000) (disch := first | omega | (simp (disch := first | omega | (simp only [Rec.len, StV.len, List.length_append, List.length_cons, List.length_nil, List.length_set]; first | done | omega)) only [Rec.len, StV.len, amSide, Int.reduceToNat, Nat.reducePow, Nat.reduceMul]; first | done | omega)) only  [↓amPre, amPost, ↓s_lit', Nat.reduceAdd, Nat.reduceSub, List.replicate, retA, resultsA, resultA, toC, toCL, Nat.reduceEqDiff, (ze77 S.p), append_at (un72 S.p) (sz77 S.p) (by77 S.p) (ze77 S.p) (by decide) (by decide) rfl, sl_cells (sz77 S.p), (bu77 S.p), (fa74_1 S.p), iaddr_sl (un47 S.p) (sz3 S.p), iaddr_sl (un72 S.p) (sz77 S.p), len_sl (un47 S.p), len_nils (un47 S.p), part_sc (ag3 S.p), part_sc (ag72 S.p), part_all (ag77 S.p) (sz77 S.p), part_at (ag77 S.p) (sz77 S.p), slice_lo (un72 S.p) (sz77 S.p), slice_hi (un72 S.p) (sz77 S.p), slice_lohi (un72 S.p) (sz77 S.p), slice_nil (un72 S.p) (sz77 S.p), slice_none (un72 S.p), sliceE_lohi (un72 S.p) (sz77 S.p) (by decide), sliceE_hi (un72 S.p) (sz77 S.p) (by decide), slice_mx (un72 S.p), sliceE_mx (un72 S.p) (sz77 S.p) (by decide), store_last (sz72 S.p), (sz72 S.p), store_last (sz77 S.p), (sz77 S.p), e72, hlen, hst, hc4, beq_self_eq_true]
  exact Ends.some ⟨rfl, (x1.trans x2).set (Nat.le_refl _) _⟩
set_option maxHeartbeats 4000000 in
/-- Pop of the document's stack, where there is one. -/
theorem s36 {P : Program} {T : Tab} {K d : Nat} (S : Sd P T K) (hd : 2 ≤ d) {lo r : Nat} {hh : List AO} {qr : SV} {n : Int} {l : List Rec} (H : RSt lo r hh qr n l) (hl : l.length ≤ 600) (o : Int) (lk : Nat) (hlk : lk ≤ r) (hlo : lo ≤ hh.length) (k : Nat) (x : Rec) (hx : l[k]? = some x) (ho : Last o l (some k)) :
    Ends (fun v h' => v = .tup [.ag x.cells, .sc (.int .i64 0)] ∧ ∃ qr', RSt lo r h' qr' n (l.take k ++ l.drop (k + 1)) ∧ RFr r hh h' qr') (ev P T K d 36 [.sc (.ptr r 0), .sc (.int .i64 o)] lk hh) := by
  obtain ⟨d, rfl⟩ : ∃ k, d = k + 1 := ⟨d - 1, by omega⟩
  rw [ev_run (at36 S.t)]
  unfold i36 Try.f36
  have hlr := H.lt
  have hrl := (List.getElem?_eq_some_iff.1 H.pp).1
  have x1 : Ext1 hh (hh ++ [.rw 77 [.int .i64 0, .int .u64 0]]) := (Ext1.refl hh).push _
  obtain ⟨v, h2, e72, x2, q', rfl, hix⟩ := s72 S (show 1 ≤ d by omega) (H.ext x1) hl o lk (by simp; omega)
  obtain ⟨hp, hlast⟩ := ixO_last ho
  have x12 := x1.trans x2
  have hlen := own_len (un47 S.p) hix
  rw [List.length_map] at hlen
  have hkl := (List.getElem?_eq_some_iff.1 hx).1
  have hil := ixO_len o l l.length (Nat.le_refl _)
  have hcl := cntO_le o ((objI l).take l.length)
  have htl := List.length_take_le l.length (objI l)
  obtain ⟨bi, rfl, hbi, hci⟩ : ∃ b, q' = .sl b 0 (ixO o l l.length).length 1 ∧ b < h2.length ∧ cellsAt h2 b = some ((ixO o l l.length).map (SV.int .i64)) := by
    rcases hix with ⟨_, e⟩ | ⟨b, h1, h2, h3, h4, _⟩
    · have : ((ixO o l l.length).map (SV.int .i64)).length = 0 := by rw [e]; rfl
      rw [List.length_map] at this
      omega
    · exact ⟨b, by simpa using h3, h2, cells_at h4⟩
  have hci2 : ((ixO o l l.length).map (SV.int .i64))[(ixO o l l.length).length - 1]? = some (.int .i64 (k : Nat)) := by rw [List.getElem?_map, hlast]; rfl
  generalize hN : (ixO o l l.length).length = N at *
  obtain ⟨N, rfl⟩ : ∃ m, N = m + 1 := ⟨N - 1, by omega⟩
  have hNn : ((N + 1 : Nat) : Int) - 1 = (N : Int) := by omega
  have hNs : N + 1 - 1 = N := by omega
  rw [hNs] at hci2
  have hN0 : ¬ ((N + 1 : Nat) : Int) = 0 := by omega
  have H2 := H.ext x12
  obtain ⟨b, hqr, hb, hlb, hbl⟩ := H2.at hkl
  have hcr : cellsAt h2 r = some [.int .i64 n, qr] := H2.cell
  have hcb := cells_at hb
  have hpt := recs_part (ag77 S.p) (sz77 S.p) Rec.len hx
  have hl2 := x12.len
  have hl1 := x2.len
  simp only [List.length_append, List.length_singleton] at hl1
  subst hqr
  have hk1 : ((k : Int) + 1).toNat = k + 1 := by omega
  have hrc := recs_len Rec.len l
  have hrt := recs_len Rec.len (l.take k)
  have hrd := recs_len Rec.len (l.drop (k + 1))
  rw [List.length_take_of_le (by omega)] at hrt
  rw [List.length_drop] at hrd
  have hs1 : ∀ h', Ext1 h2 h' → sliceCells P h' 77 (.v (.sc (.sl b 0 k 2))) = some (recs Rec.cells (l.take k)) := fun h' hx' => by
    rw [sl_cells (sz77 S.p), cells_at (ext1_get hx' hb), cellsB_some _ _ _ (by omega), List.drop_zero, recs_take Rec.len]
  have hs2 : ∀ h', Ext1 h2 h' → sliceCells P h' 77 (.v (.sc (.sl b ((k + 1) * 2) (l.length - (k + 1)) 2))) = some (recs Rec.cells (l.drop (k + 1))) := fun h' hx' => by
    rw [sl_cells (sz77 S.p), cells_at (ext1_get hx' hb), cellsB_some _ _ _ (by omega), recs_drop Rec.len, ← hrd, List.take_length]
  have x3 : Ext1 h2 (h2 ++ [.rw 77 x.cells]) := (Ext1.refl h2).push _
  have hl3 : (h2 ++ [AO.rw 77 x.cells]).length = h2.length + 1 := by simp
  have c8 : cellsAt (h2 ++ [.rw 77 x.cells]) h2.length = some x.cells := cells_self _ _ _ rfl
  have htk : List.take (k * 2) (recs Rec.cells l) = recs Rec.cells (l.take k) := recs_take Rec.len l k
  have hdk : List.take ((l.length - (k + 1)) * 2) (List.drop ((k + 1) * 2) (recs Rec.cells l)) = recs Rec.cells (l.drop (k + 1)) := by rw [recs_drop Rec.len, ← hrd, List.take_length]
  obtain ⟨q2, hA, happ1, hownA, xA, hqA⟩ := copy_own (e := 77) (b := 16) (lk := lk) (h := h2 ++ [.rw 77 x.cells]) (recs Rec.cells (l.take k)) (by omega) (by omega) (by omega)
  have x2A := x3.trans xA
  have hlA := xA.len
  have hcrA : cellsAt hA r = some [.int .i64 n, .sl b 0 l.length 2] := by rw [x2A.cells (by omega)]; exact hcr
  have hcbA : cellsAt hA b = some (recs Rec.cells l) := cells_at (ext1_get x2A hb)
  have lo1 : ∀ r, lowIf [] (h2.length + 1) (h2 ++ [.rw 77 x.cells]) hA r = r := fun r => lowIf_ok hA r (ext_low2 (Ext1.refl _) xA (by omega) [])
  obtain ⟨q3, hB, happ2, hownB, hxB, hqB, hlB⟩ := app_own2 (b := 16) (lk := lk) hownA hqA (recs Rec.cells (l.drop (k + 1))) (by omega) (by omega) hlA (by omega)
  have x3B := hxB _ xA (Nat.le_refl _)
  have x2B := x3.trans x3B
  have lo2 : ∀ r, lowIf [] (h2.length + 1) hA hB r = r := fun r => lowIf_ok hB r (ext_low2 xA x3B (by omega) [])
  have x0B := x12.trans x2B
  rw [← recs_app] at hownB
  have hpB : hB[r]? = some (.rw 74 [.int .i64 n, .sl b 0 l.length 2]) := by rw [x0B.get hrl]; exact H.pp
  have hst : storeA P hB lk 72 (.v (.sc (.ptr r 1))) (.v (.sc q3)) = some (hB.set r (.rw 74 [.int .i64 n, q3])) := by
    rw [store_at hpB (by omega) (sz72 S.p) rfl (by simp)]; rfl
  have hc8 : cellsAt (hB.set r (.rw 74 [.int .i64 n, q3])) h2.length = some x.cells := by
    have e1 := x3B.cells (l := h2.length) (by omega)
    unfold cellsAt at e1 c8 ⊢
    rw [List.getElem?_set_ne (by omega), e1]; exact c8
  have c4 : (hB.set r (.rw 74 [.int .i64 n, q3]))[hh.length]? = some (.rw 77 [.int .i64 0, .int .u64 0]) := by
    rw [List.getElem?_set_ne (by omega), x2B.get (by omega)]
    exact ext1_get x2 (by simp)
  have hsp : splice [.int .i64 0, .int .u64 0] 0 x.cells = x.cells := nrfl rfl
  have hst4 : storeA P (hB.set r (.rw 74 [.int .i64 n, q3])) lk 77 (.v (.sc (.ptr hh.length 0))) (.v (.ag x.cells)) = some ((hB.set r (.rw 74 [.int .i64 n, q3])).set hh.length (.rw 77 x.cells)) := by
    rw [store_at c4 (by omega) (sz77 S.p) (by rw [cells_ag, Rec.len]) (by simp), cells_ag, hsp]
  have hlB2 : hh.length < hB.length := by omega
  have hc4 : cellsAt ((hB.set r (.rw 74 [.int .i64 n, q3])).set hh.length (.rw 77 x.cells)) hh.length = some x.cells := cells_set _ _ _ (by simpa using hlB2)
  simp (maxSteps := 1000000) (disch := first | omega | (simp (disch := first | omega | (simp only [Rec.len, StV.len, List.length_append, List.length_cons, List.length_nil, List.length_set]; first | done | omega)) only [Rec.len, StV.len, amSide, Int.reduceToNat, Nat.reducePow, Nat.reduceMul]; first | done | omega)) only  [↓amPre, amPost, ↓s_lit', Nat.reduceAdd, Nat.reduceSub, List.replicate, retA, resultsA, resultA, toC, toCL, Nat.reduceEqDiff, (ze77 S.p), append_at (un72 S.p) (sz77 S.p) (by77 S.p) (ze77 S.p) (by decide) (by decide) rfl, sl_cells (sz77 S.p), (bu77 S.p), (fa74_1 S.p), iaddr_sl (un47 S.p) (sz3 S.p), iaddr_sl (un72 S.p) (sz77 S.p), len_sl (un47 S.p), len_nils (un47 S.p), part_sc (ag3 S.p), part_sc (ag72 S.p), part_all (ag77 S.p) (sz77 S.p), part_at (ag77 S.p) (sz77 S.p), slice_lo (un72 S.p) (sz77 S.p), slice_hi (un72 S.p) (sz77 S.p), slice_lohi (un72 S.p) (sz77 S.p), slice_nil (un72 S.p) (sz77 S.p), slice_none (un72 S.p), sliceE_lohi (un72 S.p) (sz77 S.p) (by decide), sliceE_hi (un72 S.p) (sz77 S.p) (by decide), slice_mx (un72 S.p), sliceE_mx (un72 S.p) (sz77 S.p) (by decide), store_last (sz72 S.p), (sz72 S.p), store_last (sz77 S.p), (sz77 S.p), e72, hlen, hN, idx_ok, hci, hci2, hcr, hcb, hpt, hNn, cells_self, cells_other, hk1, htk, happ1, hcrA, hcbA, hdk, happ2, lo1, lo2, hrc, hst, hc8, hst4, hc4, beqI_f, wrap_i64, Int.toNat_natCast, Nat.zero_add, Nat.mul_one]
  refine Ends.some ⟨rfl, q3, ⟨?_, ?_, hlr⟩, fun j h1 h2 => ?_, fun j o m s e => ?_, ?_⟩
  · rw [List.getElem?_set_ne (by omega), List.getElem?_set_self (by omega)]
  · exact ((hownB.set (by omega) _).set (by omega) _).mono (by omega)
  · rw [List.getElem?_set_ne (by omega), List.getElem?_set_ne (Ne.symm h2)]; exact x0B.get h1
  · have := hqB j o m s e; omega
  · simp; omega
end Go.AM
