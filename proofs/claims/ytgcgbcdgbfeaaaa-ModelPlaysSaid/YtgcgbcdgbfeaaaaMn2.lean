/- Monitors' model: events; two lists in one; owners' law. Conditions: none. -/
import Derived.Test.YtgcgbcdgbfeaaaaMo9
import Derived.Test.YtgcgbcdgbfeaaaaMn1
set_option linter.unusedVariables false
set_option linter.unusedSimpArgs false
set_option maxRecDepth 100000
namespace Go.AM
open Go.Proofs
-- LENS: EvV.len, MonV.len
theorem ext_of_get {a b : List AO} (hl : a.length ≤ b.length) (hg : ∀ l, l < a.length → b[l]? = a[l]?) : Ext1 a b := by
  refine ⟨b.drop a.length, ?_⟩
  have : b.take a.length = a := by
    apply List.ext_getElem?
    intro i
    rw [List.getElem?_take]
    split
    · rename_i h; exact hg i h
    · rename_i h; rw [List.getElem?_eq_none (by omega)]
  have h2 := List.take_append_drop a.length b
  rw [this] at h2
  exact h2.symm
theorem Fr.ext1 {bm bf bw bl : Nat} {a h h' : List AO} (F : Fr bm bf bw bl h h') (hx : Ext1 a h) (h1 : a.length ≤ bm) (h2 : a.length ≤ bf) (h3 : a.length ≤ bw) (h4 : a.length ≤ bl) : Ext1 a h' := by
  have := hx.len
  refine ext_of_get (Nat.le_trans this F.1) fun l hl => ?_
  rw [F.2 l (by omega) (by omega) (by omega) (by omega) (by omega), hx.get hl]
theorem own_cells1 {P : Program} {e lo : Nat} (hs : szT P e = some 1) {h : List AO} {q : SV} {cs : List SV} (H : Own e 1 lo h q cs) {h' : List AO} (hx : Ext1 h h') : sliceCells P h' e (.v (.sc q)) = some cs := by
  rcases H with ⟨rfl, rfl⟩ | ⟨b, h1, h2, rfl, h4, h5⟩
  · exact sl_nils _
  · rw [sl_cells hs, cells_at (ext1_get hx h4), Nat.div_one, Nat.mul_one, cellsB_some _ _ _ (by omega), List.drop_zero, List.take_length]
theorem app_own1 {e b lk lo : Nat} {h : List AO} {q : SV} {cs : List SV} (H : Own e 1 lo h q cs) (new : List SV) (hlk : lk ≤ lo) (hlo : lo ≤ h.length) (hb : (cs.length + new.length) * b ≤ 140737488355328) :
    ∃ q2 h2, (∀ k, appB e 1 b lk h (.v (.sc q)) (some new) k = k (.v (.sc q2)) h2) ∧ Own e 1 lo h2 q2 (cs ++ new) ∧ (∀ a, Ext1 a h → a.length ≤ lo → Ext1 a h2) := by
  cases new with
  | nil =>
    refine ⟨q, h, fun k => ?_, by rw [List.append_nil]; exact H, fun a ha _ => ha⟩
    rcases H with ⟨rfl, _⟩ | ⟨l, _, _, rfl, _⟩
    · exact appB_nilnil ..
    · exact appB_nil ..
  | cons c new =>
    obtain ⟨q2, h2, happ, hown, hl2, _, hx2, hq2, _⟩ := grow_own (b := b) (lk := lk) H (c :: new) (by omega) (by simp) (Nat.mod_one _) hlk hlo hb
    exact ⟨q2, h2, happ, hown, hx2⟩
/-- Events, up to two hundred. -/
def Ev2 (h : List AO) (q : SV) (l : List EvV) (n : Nat) : Prop := (q = .nils ∧ n = 0) ∨ ∃ b, q = .sl b 0 n 5 ∧ b < h.length ∧ cellsAt h b = some (recs EvV.cells l) ∧ n ≤ l.length
theorem Ev2.len {P : Program} {t el : TypeId} (hu : P.underlying t = some (.slice el)) {h : List AO} {q : SV} {l : List EvV} {n : Nat} (H : Ev2 h q l n) (hh : List AO) : lenA P hh t (.v (.sc q)) = some (.v (.sc (.int .i64 (n : Int)))) := by
  rcases H with ⟨rfl, rfl⟩ | ⟨b, rfl, _⟩
  · exact len_nils hu
  · exact len_sl hu _ _ _ _
section
variable {P : Program} {T : Tab} {K d : Nat} (S : Sd P T K)
include S
theorem partR (e : EvV) : partA P 98 e.cells 0 = some (.ag e.cells) := by
  have := recs_part (ag98 S.p) (sz98 S.p) EvV.len (l := [e]) (i := 0) rfl
  rw [show recs EvV.cells [e] = e.cells by simp [recs]] at this; exact this
theorem s42 (hd : 1 ≤ d) (q : SV) (l : List EvV) (lk : Nat) (h : List AO) (hq : Rs EvV.cells 5 h q l) : ∃ q', ev P T K d 42 [.sc q] lk h = some (.v (.sc q'), h) ∧ ∀ h', Rs EvV.cells 5 h' q l → Ev2 h' q' l (min l.length 200) := by
  obtain ⟨d, rfl⟩ : ∃ k, d = k + 1 := ⟨d - 1, by omega⟩
  rw [ev_run (at42 S.t)]
  unfold i42 Try.f42
  have hlen := hq.len (un91 S.p)
  have hmin : (if (200 : Int) < (l.length : Int) then (200 : Int) else (l.length : Int)) = ((min l.length 200 : Nat) : Int) := by split <;> omega
  rcases hq with ⟨rfl, rfl⟩ | ⟨b, rfl, hb, hc⟩
  · refine ⟨.nils, ?_, fun h' _ => .inl ⟨rfl, rfl⟩⟩
    have hz : ((([] : List EvV).length : Nat) : Int) = 0 := rfl
    rw [hz] at hlen
    have h0 : (if (200 : Int) < 0 then (200 : Int) else 0) = 0 := rfl
    simp (maxSteps := 1000000) (disch := first | omega | (simp (disch := first | omega | (simp only [EvV.len, MonV.len, List.length_append, List.length_cons, List.length_nil, List.length_set]; first | done | omega)) only [EvV.len, MonV.len, amSide, Int.reduceToNat, Nat.reducePow, Nat.reduceMul]; first | done | omega)) only  [↓amPre, amPost, ↓s_lit', Nat.reduceAdd, Nat.reduceSub, List.replicate, retA, resultsA, resultA, toC, toCL, Nat.reduceEqDiff, len_sl (un91 S.p), len_nils (un91 S.p), slice_lo (un91 S.p) (sz98 S.p), slice_hi (un91 S.p) (sz98 S.p), slice_lohi (un91 S.p) (sz98 S.p), slice_nil (un91 S.p) (sz98 S.p), slice_none (un91 S.p), sliceE_lohi (un91 S.p) (sz98 S.p) (by decide), sliceE_hi (un91 S.p) (sz98 S.p) (by decide), slice_mx (un91 S.p), sliceE_mx (un91 S.p) (sz98 S.p) (by decide), hlen, h0]
  · refine ⟨.sl b 0 (min l.length 200) 5, ?_, fun h' H => ?_⟩
    rotate_left
    · rcases H with ⟨e, _⟩ | ⟨b', e, h1, h2⟩
      · cases e
      · simp only [SV.sl.injEq] at e
        obtain ⟨rfl, _⟩ := e
        exact .inr ⟨b, rfl, h1, h2, by omega⟩
    have hm0 : (0 : Int) ≤ ((min l.length 200 : Nat) : Int) := by omega
    have hm1 : ((min l.length 200 : Nat) : Int) ≤ (l.length : Int) := by omega
    have hsl := slice_hi (un91 S.p) (sz98 S.p) b 0 l.length .i64 ((min l.length 200 : Nat) : Int) hm0 hm1
    simp (maxSteps := 1000000) (disch := first | omega | (simp (disch := first | omega | (simp only [EvV.len, MonV.len, List.length_append, List.length_cons, List.length_nil, List.length_set]; first | done | omega)) only [EvV.len, MonV.len, amSide, Int.reduceToNat, Nat.reducePow, Nat.reduceMul]; first | done | omega)) only  [↓amPre, amPost, ↓s_lit', Nat.reduceAdd, Nat.reduceSub, List.replicate, retA, resultsA, resultA, toC, toCL, Nat.reduceEqDiff, len_sl (un91 S.p), len_nils (un91 S.p), slice_lo (un91 S.p) (sz98 S.p), slice_hi (un91 S.p) (sz98 S.p), slice_lohi (un91 S.p) (sz98 S.p), slice_nil (un91 S.p) (sz98 S.p), slice_none (un91 S.p), sliceE_lohi (un91 S.p) (sz98 S.p) (by decide), sliceE_hi (un91 S.p) (sz98 S.p) (by decide), slice_mx (un91 S.p), sliceE_mx (un91 S.p) (sz98 S.p) (by decide), hlen, hmin, hsl, Int.toNat_natCast]
end
/-- A hash, by an object's number. -/
def hshV (V : MdV) (k : Nat) : Int := (atV V k).hsh
structure OwSt where
  i : Nat
  V : MdV
  h : List AO
structure OxSt where
  o : Nat
  h : List AO
structure OySt where
  j : Nat
theorem MdOk.wlen {V : MdV} (H : MdOk V) (o : Int) : (thrV V.waits o).length ≤ 64 := by
  have h1 := nodup_sub_length (ndP_nodup H.wd) fun x hx => by
    obtain ⟨y, hy, rfl⟩ := List.mem_map.1 hx
    exact H.w8 y hy
  rw [List.length_map] at h1
  unfold thrV
  rw [List.length_map]
  exact Nat.le_trans (List.length_filter_le _ _) h1
theorem MdOk.llen {V : MdV} (H : MdOk V) (o : Int) : (thrV V.left o).length ≤ 64 := by
  have h1 := nodup_sub_length (ndP_nodup H.ld) fun x hx => by
    obtain ⟨y, hy, rfl⟩ := List.mem_map.1 hx
    exact H.l8 y hy
  rw [List.length_map] at h1
  unfold thrV
  rw [List.length_map]
  exact Nat.le_trans (List.length_filter_le _ _) h1
theorem mem_sortL {l : List Int} {t : Int} : t ∈ sortL l ↔ t ∈ l := List.mem_mergeSort
theorem atV_get {V : MdV} {i : Nat} {o : MonV} (h : V.mons[i]? = some o) : atV V (i : Int) = o := by
  have := (List.getElem?_eq_some_iff.1 h).1
  unfold atV
  rw [if_pos ⟨by omega, by omega⟩, Int.toNat_natCast, List.getD_eq_getElem?_getD, h]; rfl
/-- What stands in the law's list of hashes. -/
def hsL (V W : MdV) (o : Nat) : List SV := (List.range 3).map fun k => .int .i64 (if k < o then hshV W k else hshV V k)
theorem hsL_len (V W : MdV) (o : Nat) : (hsL V W o).length = 3 := by simp [hsL]
theorem hsL_get (V W : MdV) (o : Nat) (ho : o < 3) : (hsL V W o)[o]? = some (.int .i64 (hshV V o)) := by
  unfold hsL
  rw [List.getElem?_map, List.getElem?_range ho]
  simp
theorem hsL_set (V W : MdV) (o : Nat) (ho : o < 3) : (hsL V W o).set o (.int .i64 (hshV W o)) = hsL V W (o + 1) := by
  apply List.ext_getElem?
  intro k
  by_cases hk : k < 3
  · by_cases e : o = k
    · subst e
      rw [List.getElem?_set_self (by rw [hsL_len]; exact ho)]
      unfold hsL
      rw [List.getElem?_map, List.getElem?_range ho]
      simp
    · rw [List.getElem?_set_ne e]
      unfold hsL
      rw [List.getElem?_map, List.getElem?_map, List.getElem?_range hk]
      simp only [Option.map_some]
      by_cases q : k < o
      · rw [if_pos q, if_pos (by omega)]
      · rw [if_neg q, if_neg (by omega)]
  · rw [List.getElem?_eq_none (by rw [List.length_set, hsL_len]; omega), List.getElem?_eq_none (by rw [hsL_len]; omega)]
theorem hsL_0 (V W U : MdV) : hsL V W 0 = hsL U V 3 := by
  unfold hsL
  refine List.map_congr_left fun k hk => ?_
  rw [List.mem_range] at hk
  rw [if_neg (by omega), if_pos hk]
section
variable {P : Program} {T : Tab} {K d : Nat} (S : Sd P T K)
include S
theorem s50 (hd : 1 ≤ d) (lk : Nat) (h : List AO) : ev P T K d 50 [] lk h = some (.v (.sc (.bool true)), h) := by
  obtain ⟨d, rfl⟩ : ∃ k, d = k + 1 := ⟨d - 1, by omega⟩
  rw [ev_kn (at50 S.t)]; rfl
set_option maxHeartbeats 16000000 in
theorem s10 (hd : 8 ≤ d) (q : SV) (l : List EvV) (lk : Nat) (h : List AO) (hq : Rs EvV.cells 5 h q l) :
    ev P T K d 10 [.sc q] lk h = some (.v (.sc (.bool true)), h) := by
  obtain ⟨d, rfl⟩ : ∃ k, d = k + 1 := ⟨d - 1, by omega⟩
  refine ev_pure (at10 S.t) rfl ?_
  unfold i10 Try.f10
  have f50 := fun lk h => s50 S (show 1 ≤ d by omega) lk h
  obtain ⟨v, h1, e41, X1, p, bm, bf, bw, bl, rfl, M0, b0, b1, b2, b3, b4⟩ := s41 S (show 2 ≤ d by omega) (n := 4) (m := 3) (c := 3) (by omega) (by omega) (by omega) h.length h (Nat.le_refl _)
  have hn1 : binOpA P .eql 92 (.v (.sc (.ptr p 0))) (.v (.sc .nilp)) = some (.v (.sc (.bool false))) := by simp [binOpA, eqA, un92 S.p]
  have hx1 := X1.len
  obtain ⟨q', e42, hE⟩ := s42 S (show 1 ≤ d by omega) q l h.length (h1 ++ [.rw 95 [.int .i64 0, .int .i64 0, .int .i64 0]]) (hq.ext (X1.push _))
  have hlen := (hE h hq).len (un91 S.p)
  have c4 : ((4 : Nat) : Int) = 4 := rfl
  have c3 : ((3 : Nat) : Int) = 3 := rfl
  rw [c4, c3] at e41
  simp (maxSteps := 1000000) (disch := first | omega | (simp (disch := first | omega | (simp only [EvV.len, MonV.len, List.length_append, List.length_cons, List.length_nil, List.length_set]; first | done | omega)) only [EvV.len, MonV.len, amSide, Int.reduceToNat, Nat.reducePow, Nat.reduceMul]; first | done | omega)) only  [↓amPre, amPost, ↓s_lit', Nat.reduceAdd, Nat.reduceSub, List.replicate, retA, resultsA, resultA, toC, toCL, Nat.reduceEqDiff, (ze95 S.p), (ze98 S.p), append_at (un47 S.p) (sz3 S.p) (by3 S.p) (ze3 S.p) (by decide) (by decide) rfl, copy_at (un47 S.p) (sz3 S.p) (by3 S.p) (ze3 S.p) (by decide) (by decide) rfl, sl_cells (sz3 S.p), eql_bool (un4 S.p), neq_bool (un4 S.p), iaddr_sl (un47 S.p) (sz3 S.p), iaddr_sl (un91 S.p) (sz98 S.p), iaddr_ptr (un95 S.p) (sz3 S.p), len_sl (un47 S.p), len_nils (un47 S.p), len_sl (un91 S.p), len_nils (un91 S.p), part_sc (ag3 S.p), part_all (ag98 S.p) (sz98 S.p), part_at (ag98 S.p) (sz98 S.p), store_last (sz3 S.p), (sz3 S.p), store_last (sz98 S.p), (sz98 S.p), e41, hn1, e42, hlen, bneI_f, bne_self_eq_false]
  obtain ⟨m1, m2, m3, m4, m5⟩ := M0.lts
  have hn200 : min l.length 200 ≤ 200 := by omega
  generalize hN : min l.length 200 = N at *
  refine ends_loop (X := OwSt) ⟨0, newV 4 3 3, _⟩ [2, 7, 8, 9, 10, 12, 27, 28, 29, 30, 31, 32, 33, 34, 35, 36, 37, 38, 39, 40, 41, 42, 43, 44, 45, 46, 47, 48, 49, 50, 51, 52, 53, 54, 55, 56, 57, 58, 59, 60, 61, 62, 63, 64, 65, 66, 67, 68, 69, 70, 71, 72, 73, 74, 75, 76, 77, 78, 79, 80, 81, 82, 83, 84, 85, 86, 87, 88, 89, 90, 91, 92, 93, 94, 95, 96, 97, 98, 99, 100, 101, 102, 103, 104, 105, 106, 107, 108, 109] (fun x => x.i ≤ N ∧ Ext1 h x.h ∧ h1.length < x.h.length ∧ MdAt x.h p bm bf bw bl x.V ∧ MdI 4 3 3 x.V ∧ x.h[h1.length]? = some (.rw 95 (hsL x.V x.V 0))) (fun x => N - x.i)
    (fun x e => e.set 26 (.v (.sc (.int .i64 x.i)))) (fun x => x.h)
    (by have := S.k; show _ < K; simp only; omega) ⟨by simp only; omega, X1.push _, by simp, M0.ext ((Ext1.refl _).push _), newV_I (by omega) (by omega) (by omega), by simp only; rw [obj_self _ _ rfl]; rfl⟩ rfl rfl ?_
  rintro ⟨i, V, hj⟩ ⟨hi, hx, hlt, M, I, hH⟩ again hag e he
  simp only at hi hx hlt M I hH hag he
  simp only [↓amPre, amPost, ↓s_lit', Nat.reduceAdd, Nat.reduceSub, List.replicate, retA, resultsA, resultA, toC, toCL, Nat.reduceEqDiff] at he
  simp only [↓amPre, amPost, ↓s_lit', Nat.reduceAdd, Nat.reduceSub, List.replicate, retA, resultsA, resultA, toC, toCL, Nat.reduceEqDiff, he]
  refine ends_cond (fun hc1 => ?_) (fun hc1 => ?_)
  rotate_left
  · simp (maxSteps := 1000000) (disch := first | omega | (simp (disch := first | omega | (simp only [EvV.len, MonV.len, List.length_append, List.length_cons, List.length_nil, List.length_set]; first | done | omega)) only [EvV.len, MonV.len, amSide, Int.reduceToNat, Nat.reducePow, Nat.reduceMul]; first | done | omega)) only  [↓amPre, amPost, ↓s_lit', Nat.reduceAdd, Nat.reduceSub, List.replicate, retA, resultsA, resultA, toC, toCL, Nat.reduceEqDiff, he, (ze95 S.p), (ze98 S.p), append_at (un47 S.p) (sz3 S.p) (by3 S.p) (ze3 S.p) (by decide) (by decide) rfl, copy_at (un47 S.p) (sz3 S.p) (by3 S.p) (ze3 S.p) (by decide) (by decide) rfl, sl_cells (sz3 S.p), eql_bool (un4 S.p), neq_bool (un4 S.p), iaddr_sl (un47 S.p) (sz3 S.p), iaddr_sl (un91 S.p) (sz98 S.p), iaddr_ptr (un95 S.p) (sz3 S.p), len_sl (un47 S.p), len_nils (un47 S.p), len_sl (un91 S.p), len_nils (un91 S.p), part_sc (ag3 S.p), part_all (ag98 S.p) (sz98 S.p), part_at (ag98 S.p) (sz98 S.p), store_last (sz3 S.p), (sz3 S.p), store_last (sz98 S.p), (sz98 S.p), f50]
    exact Ends.some rfl
  simp only [decide_eq_true_eq] at hc1
  have hiN : i < N := by omega
  rcases hE hj (hq.ext hx) with ⟨rfl, hz⟩ | ⟨b, rfl, hbl, hcb, hNl⟩
  · omega
  obtain ⟨y, hy⟩ : ∃ y, l[i]? = some y := ⟨_, List.getElem?_eq_getElem (by omega)⟩
  have hpt := recs_part (ag98 S.p) (sz98 S.p) EvV.len hy
  have hpy := partR S y
  have hyl := EvV.len y
  have f44 := fun lk h => s44 S (show 1 ≤ d by omega) y lk h
  obtain ⟨v, h2, e43, rfl, M2, F2⟩ := s43 S (show 5 ≤ d by omega) (M.ext ((Ext1.refl hj).push (.rw 98 y.cells))) I.ok y h.length ⟨b1, b2, b3, b4⟩
  have I2 := I.next (by omega) y
  have hst := hash_stays I y
  have hH2 : h2[h1.length]? = some (.rw 95 (hsL V (nextM V y) 0)) := by
    rw [F2.2 _ (by simp; omega) (by omega) (by omega) (by omega) (by omega), List.getElem?_append_left hlt, hH]
    rfl
  have hx2 : Ext1 h h2 := F2.ext1 (hx.push _) b1 b2 b3 b4
  have hlt2 : h1.length < h2.length := by have := F2.1; simp at this; omega
  clear F2
  simp (maxSteps := 1000000) (disch := first | omega | (simp (disch := first | omega | (simp only [EvV.len, MonV.len, List.length_append, List.length_cons, List.length_nil, List.length_set]; first | done | omega)) only [EvV.len, MonV.len, amSide, Int.reduceToNat, Nat.reducePow, Nat.reduceMul]; first | done | omega)) only  [↓amPre, amPost, ↓s_lit', Nat.reduceAdd, Nat.reduceSub, List.replicate, retA, resultsA, resultA, toC, toCL, Nat.reduceEqDiff, he, (ze95 S.p), (ze98 S.p), append_at (un47 S.p) (sz3 S.p) (by3 S.p) (ze3 S.p) (by decide) (by decide) rfl, copy_at (un47 S.p) (sz3 S.p) (by3 S.p) (ze3 S.p) (by decide) (by decide) rfl, sl_cells (sz3 S.p), eql_bool (un4 S.p), neq_bool (un4 S.p), iaddr_sl (un47 S.p) (sz3 S.p), iaddr_sl (un91 S.p) (sz98 S.p), iaddr_ptr (un95 S.p) (sz3 S.p), len_sl (un47 S.p), len_nils (un47 S.p), len_sl (un91 S.p), len_nils (un91 S.p), part_sc (ag3 S.p), part_all (ag98 S.p) (sz98 S.p), part_at (ag98 S.p) (sz98 S.p), store_last (sz3 S.p), (sz3 S.p), store_last (sz98 S.p), (sz98 S.p), idx_ok, hcb, hpt, hpy, f44, e43, cells_self, cells_other, Int.toNat_natCast, Nat.zero_add, Nat.add_zero]
  generalize hW : nextM V y = W at *
  refine ends_loop (X := OxSt) ⟨0, h2⟩ [2, 8, 9, 10, 12, 35, 36, 37, 38, 39, 40, 41, 42, 43, 44, 45, 46, 47, 48, 49, 50, 51, 52, 53, 54, 55, 56, 57, 58, 59, 60, 61, 62, 63, 64, 65, 66, 67, 68, 69, 70, 71, 72, 73, 74, 75, 76, 77, 78, 79, 80, 81, 82, 83, 84, 85, 86, 87, 88, 89, 90, 91, 92, 93, 94, 95, 96, 97, 98, 99, 100, 101, 102, 103, 104, 105, 106, 107, 108] (fun x => x.o ≤ 3 ∧ Ext1 h x.h ∧ h1.length < x.h.length ∧ MdAt x.h p bm bf bw bl W ∧ x.h[h1.length]? = some (.rw 95 (hsL V W x.o))) (fun x => 3 - x.o)
    (fun x e => e.set 34 (.v (.sc (.int .i64 x.o)))) (fun x => x.h)
    (by have := S.k; show _ < K; simp only; omega) ⟨by simp only; omega, hx2, hlt2, M2, hH2⟩ rfl rfl ?_
  rintro ⟨o, hk⟩ ⟨ho3, hxk, hltk, Mk, hHk⟩ again2 hag2 e2 he2
  simp only at ho3 hxk hltk Mk hHk hag2 he2
  simp only [↓amPre, amPost, ↓s_lit', Nat.reduceAdd, Nat.reduceSub, List.replicate, retA, resultsA, resultA, toC, toCL, Nat.reduceEqDiff] at he2
  simp only [↓amPre, amPost, ↓s_lit', Nat.reduceAdd, Nat.reduceSub, List.replicate, retA, resultsA, resultA, toC, toCL, Nat.reduceEqDiff, he2]
  refine ends_cond (fun hc2 => ?_) (fun hc2 => ?_)
  rotate_left
  · simp only [decide_eq_false_iff_not] at hc2
    obtain rfl : o = 3 := by omega
    clear hag2 hst
    simp (maxSteps := 1000000) (disch := first | omega | (simp (disch := first | omega | (simp only [EvV.len, MonV.len, List.length_append, List.length_cons, List.length_nil, List.length_set]; first | done | omega)) only [EvV.len, MonV.len, amSide, Int.reduceToNat, Nat.reducePow, Nat.reduceMul]; first | done | omega)) only  [↓amPre, amPost, ↓s_lit', Nat.reduceAdd, Nat.reduceSub, List.replicate, retA, resultsA, resultA, toC, toCL, Nat.reduceEqDiff, he2, (ze95 S.p), (ze98 S.p), append_at (un47 S.p) (sz3 S.p) (by3 S.p) (ze3 S.p) (by decide) (by decide) rfl, copy_at (un47 S.p) (sz3 S.p) (by3 S.p) (ze3 S.p) (by decide) (by decide) rfl, sl_cells (sz3 S.p), eql_bool (un4 S.p), neq_bool (un4 S.p), iaddr_sl (un47 S.p) (sz3 S.p), iaddr_sl (un91 S.p) (sz98 S.p), iaddr_ptr (un95 S.p) (sz3 S.p), len_sl (un47 S.p), len_nils (un47 S.p), len_sl (un91 S.p), len_nils (un91 S.p), part_sc (ag3 S.p), part_all (ag98 S.p) (sz98 S.p), part_at (ag98 S.p) (sz98 S.p), store_last (sz3 S.p), (sz3 S.p), store_last (sz98 S.p), (sz98 S.p), wrap_i64]
    refine hag ⟨i + 1, W, hk⟩ ⟨by simp only; omega, hxk, hltk, Mk, I2, by rw [hHk, hsL_0 W W V]⟩ (by simp only; omega) _ ?_
    simp (maxSteps := 1000000) (disch := first | omega | (simp (disch := first | omega | (simp only [EvV.len, MonV.len, List.length_append, List.length_cons, List.length_nil, List.length_set]; first | done | omega)) only [EvV.len, MonV.len, amSide, Int.reduceToNat, Nat.reducePow, Nat.reduceMul]; first | done | omega)) only [↓amPre, amPost, ↓s_lit', Nat.reduceAdd, Nat.reduceSub, List.replicate, retA, resultsA, resultA, toC, toCL, Nat.reduceEqDiff, Int.natCast_add, Int.cast_ofNat_Int, dec_t, dec_f]
  simp only [decide_eq_true_eq] at hc2
  have ho : o < 3 := by omega
  clear hag
  have hmn := I2.mn
  have hmn2 := I2.fn
  obtain ⟨w, hw⟩ : ∃ w, W.mons[o]? = some w := ⟨_, List.getElem?_eq_getElem (by omega)⟩
  obtain ⟨w0, hw0⟩ : ∃ w, V.mons[o]? = some w := ⟨_, List.getElem?_eq_getElem (by have := I.mn; omega)⟩
  have hat := atV_get hw
  have hat0 := atV_get hw0
  have f45 := fun lk => s45 S (show 3 ≤ d by omega) Mk (by omega) (o : Int) lk
  have f46 := fun lk => s46 S (show 3 ≤ d by omega) Mk (by omega) (o : Int) lk
  have f47 := fun lk => s47 S (show 3 ≤ d by omega) Mk (by omega) (o : Int) lk
  rw [hat] at f45 f46 f47
  have hh0 : hshV V o = w0.hsh := by unfold hshV; rw [hat0]
  have hhW : hshV W o = w.hsh := by unfold hshV; rw [hat]
  have hcH : cellsAt hk h1.length = some (hsL V W o) := cells_at hHk
  have hg0 := hsL_get V W o ho
  rw [hh0] at hg0
  have hsame : w0.hsh ≠ 0 → w.hsh = w0.hsh := fun q => by
    obtain ⟨o', r1, r2⟩ := hst o w0 hw0 q
    rw [hw] at r1
    obtain rfl := Option.some.inj r1
    exact r2
  have hown := I2.own o w hw
  obtain ⟨n1, n2, n3, n4, n5⟩ : h1.length ≠ p ∧ h1.length ≠ bm ∧ h1.length ≠ bf ∧ h1.length ≠ bw ∧ h1.length ≠ bl := ⟨by omega, by omega, by omega, by omega, by omega⟩
  have hstore : storeA P hk h.length 3 (.v (.sc (.ptr h1.length o))) (.v (.sc (.int .i64 w.hsh))) = some (hk.set h1.length (.rw 95 (hsL V W (o + 1)))) := by
    rw [store_at hHk hx1 (sz3 S.p) (c := .sc (.int .i64 w.hsh)) rfl (by rw [hsL_len]; omega)]
    have : splice (hsL V W o) o (CV.sc (SV.int .i64 w.hsh)).cells = (hsL V W o).set o (.int .i64 w.hsh) := splice_one _ _ _ (by rw [hsL_len]; omega)
    rw [this, ← hhW, hsL_set V W o ho]
  have M3 := Mk.frame (.rw 95 (hsL V W (o + 1))) n1 n2 n3 n4 n5
  have hx3 : Ext1 h (hk.set h1.length (.rw 95 (hsL V W (o + 1)))) := hxk.set hx1 _
  have hl3 : (hk.set h1.length (.rw 95 (hsL V W (o + 1)))).length = hk.length := by simp
  have hH3 : (hk.set h1.length (.rw 95 (hsL V W (o + 1))))[h1.length]? = some (.rw 95 (hsL V W (o + 1))) := List.getElem?_set_self hltk
  obtain ⟨v4, h4, e48, X4, q4, rfl, O4⟩ := s48 S (show 2 ≤ d by omega) M3 I2.ok (o : Int) h.length
  obtain ⟨v5, h5, e49, X5, q5, rfl, O5⟩ := s49 S (show 2 ≤ d by omega) (M3.ext X4) I2.ok (o : Int) h.length
  have hl4 := X4.len
  have hl5 := X5.len
  have hlx := hxk.len
  have hwl := I2.ok.wlen (o : Int)
  have hll := I2.ok.llen (o : Int)
  obtain ⟨q6, h6, happ, O6, hx6⟩ := app_own1 (b := 8) (lk := h.length) (O4.ext X5) ((sortL (thrV W.left o)).map (SV.int .i64)) (by omega) (by omega) (by rw [List.length_map, List.length_map, sortL_len, sortL_len]; omega)
  have hsc := own_cells1 (sz3 S.p) O5 (Ext1.refl h5)
  have X6 : Ext1 (hk.set h1.length (.rw 95 (hsL V W (o + 1)))) h6 := hx6 _ (X4.trans X5) (Nat.le_refl _)
  rw [← List.map_append] at O6
  have hlen6 := own_lenM (un47 S.p) O6
  rw [List.length_map] at hlen6
  have M6 := M3.ext X6
  have hH6 := (X6.get (by omega)).trans hH3
  have hx7 : Ext1 h h6 := hx3.trans X6
  have hlt6 : h1.length < h6.length := by have := X6.len; omega
  have hZ : ∀ t ∈ sortL (thrV W.waits o) ++ sortL (thrV W.left o), t ≠ w.own ∧ 0 ≤ t ∧ t ≤ 3 := fun t ht => by
    rcases List.mem_append.1 ht with ht | ht
    · obtain ⟨v, hv⟩ := mem_thrV.1 (mem_sortL.1 ht)
      have h1 := I2.wo o w t hw (by rw [getP_of_mem I2.ok.wd hv]; simp)
      have h2 := I2.ok.wk _ hv
      exact ⟨fun q => h1.1 q.symm, by simp only at h2; omega, by simp only at h2; omega⟩
    · obtain ⟨v, hv⟩ := mem_thrV.1 (mem_sortL.1 ht)
      have h1 := I2.lo o w t hw (by rw [getP_of_mem I2.ok.ld hv]; simp)
      have h2 := I2.ok.lk _ hv
      exact ⟨fun q => h1 q.symm, by simp only at h2; omega, by simp only at h2; omega⟩
  have hZl : (sortL (thrV W.waits o) ++ sortL (thrV W.left o)).length ≤ 128 := by rw [List.length_append, sortL_len, sortL_len]; omega
  generalize hZd : sortL (thrV W.waits o) ++ sortL (thrV W.left o) = Z at *
  clear hst M2 hH2 hx2 hlt2 e43 hcb hpt hpy hyl f44 hE hbl hNl hy O5 O4 hx6 hh0 hhW hat hat0
  clear X4 X5 hl4 hl5 hwl hll hH3 hl3 M3 hx3 X6 hlx
  have g1 : (decide (w.own ≥ 0) != decide (w.cnt > 0)) = false := by
    rcases hown with ⟨r1, r2⟩ | ⟨r1, r2, r3, r4⟩
    · rw [r1, r2]; rfl
    · rw [decide_eq_true (show w.own ≥ 0 by omega), decide_eq_true (show w.cnt > 0 by omega)]; rfl
  have g2 : decide (w.own < -1) = false := decide_eq_false (by omega)
  have g3 : decide (w.own > 3) = false := decide_eq_false (by omega)
  have g4 : decide (w.cnt < 0) = false := decide_eq_false (by omega)
  have g5 : decide (w.cnt > 3) = false := decide_eq_false (by omega)
  have g6 : w0.hsh ≠ 0 → (w.hsh != w0.hsh) = false := fun q => bneI_f (hsame q)
  clear hown hsame
  by_cases hz : w0.hsh = 0
  · have hzb : (w0.hsh != 0) = false := bneI_f hz
    clear g6
    simp (maxSteps := 1000000) (disch := first | omega | (simp (disch := first | omega | (simp only [EvV.len, MonV.len, List.length_append, List.length_cons, List.length_nil, List.length_set]; first | done | omega)) only [EvV.len, MonV.len, amSide, Int.reduceToNat, Nat.reducePow, Nat.reduceMul]; first | done | omega)) only  [↓amPre, amPost, ↓s_lit', Nat.reduceAdd, Nat.reduceSub, List.replicate, retA, resultsA, resultA, toC, toCL, Nat.reduceEqDiff, he2, (ze95 S.p), (ze98 S.p), append_at (un47 S.p) (sz3 S.p) (by3 S.p) (ze3 S.p) (by decide) (by decide) rfl, copy_at (un47 S.p) (sz3 S.p) (by3 S.p) (ze3 S.p) (by decide) (by decide) rfl, sl_cells (sz3 S.p), eql_bool (un4 S.p), neq_bool (un4 S.p), iaddr_sl (un47 S.p) (sz3 S.p), iaddr_sl (un91 S.p) (sz98 S.p), iaddr_ptr (un95 S.p) (sz3 S.p), len_sl (un47 S.p), len_nils (un47 S.p), len_sl (un91 S.p), len_nils (un91 S.p), part_sc (ag3 S.p), part_all (ag98 S.p) (sz98 S.p), part_at (ag98 S.p) (sz98 S.p), store_last (sz3 S.p), (sz3 S.p), store_last (sz98 S.p), (sz98 S.p), f45, f46, f47, hcH, hg0, hstore, e48, e49, happ, hsc, hlen6, g1, g2, g3, g4, g5, hzb, idx_ok, Nat.mul_one, Int.toNat_natCast, Nat.zero_add, Nat.add_zero]
    refine ends_loop (X := OySt) ⟨0⟩ [2, 12, 93, 94, 95, 96, 97, 98, 99, 100, 101, 102, 103, 104, 105, 106, 107] (fun x => x.j ≤ Z.length) (fun x => Z.length - x.j)
      (fun x e => e.set 92 (.v (.sc (.int .i64 x.j)))) (fun x => h6)
      (by have := S.k; show _ < K; simp only; omega) (by simp only; omega) rfl rfl ?_
    rintro ⟨j⟩ hjz again3 hag3 e3 he3
    simp only at hjz hag3 he3
    simp only [↓amPre, amPost, ↓s_lit', Nat.reduceAdd, Nat.reduceSub, List.replicate, retA, resultsA, resultA, toC, toCL, Nat.reduceEqDiff] at he3
    simp only [↓amPre, amPost, ↓s_lit', Nat.reduceAdd, Nat.reduceSub, List.replicate, retA, resultsA, resultA, toC, toCL, Nat.reduceEqDiff, he3]
    refine ends_cond (fun hc3 => ?_) (fun hc3 => ?_)
    · simp only [decide_eq_true_eq] at hc3
      have hj3 : j < Z.length := by omega
      obtain ⟨t, ht⟩ : ∃ t, Z[j]? = some t := ⟨_, List.getElem?_eq_getElem hj3⟩
      obtain ⟨z1, z2, z3⟩ := hZ t (List.mem_of_getElem? ht)
      have y1 : (t == w.own) = false := beqI_f z1
      have y2 : decide (t < 0) = false := decide_eq_false (by omega)
      have y3 : decide (t > 3) = false := decide_eq_false (by omega)
      have hmt : (Z.map (SV.int .i64))[j]? = some (.int .i64 t) := by rw [List.getElem?_map, ht]; rfl
      rcases O6 with ⟨_, hnil⟩ | ⟨bz, _, _, hq6, hb6, _⟩
      · have := congrArg List.length hnil
        rw [List.length_map] at this
        simp at this
        rw [this] at hj3
        simp at hj3
      · rw [List.length_map, Nat.div_one] at hq6
        subst hq6
        have hc6 := cells_at hb6
        clear hag2 hcH hg0 hstore happ hsc
        simp (maxSteps := 1000000) (disch := first | omega | (simp (disch := first | omega | (simp only [EvV.len, MonV.len, List.length_append, List.length_cons, List.length_nil, List.length_set]; first | done | omega)) only [EvV.len, MonV.len, amSide, Int.reduceToNat, Nat.reducePow, Nat.reduceMul]; first | done | omega)) only  [↓amPre, amPost, ↓s_lit', Nat.reduceAdd, Nat.reduceSub, List.replicate, retA, resultsA, resultA, toC, toCL, Nat.reduceEqDiff, he3, (ze95 S.p), (ze98 S.p), append_at (un47 S.p) (sz3 S.p) (by3 S.p) (ze3 S.p) (by decide) (by decide) rfl, copy_at (un47 S.p) (sz3 S.p) (by3 S.p) (ze3 S.p) (by decide) (by decide) rfl, sl_cells (sz3 S.p), eql_bool (un4 S.p), neq_bool (un4 S.p), iaddr_sl (un47 S.p) (sz3 S.p), iaddr_sl (un91 S.p) (sz98 S.p), iaddr_ptr (un95 S.p) (sz3 S.p), len_sl (un47 S.p), len_nils (un47 S.p), len_sl (un91 S.p), len_nils (un91 S.p), part_sc (ag3 S.p), part_all (ag98 S.p) (sz98 S.p), part_at (ag98 S.p) (sz98 S.p), store_last (sz3 S.p), (sz3 S.p), store_last (sz98 S.p), (sz98 S.p), idx_ok, hc6, hmt, y1, y2, y3, Nat.mul_one, Int.toNat_natCast, Nat.zero_add, wrap_i64]
        refine hag3 ⟨j + 1⟩ (by simp only; omega) (by simp only; omega) _ ?_
        simp (maxSteps := 1000000) (disch := first | omega | (simp (disch := first | omega | (simp only [EvV.len, MonV.len, List.length_append, List.length_cons, List.length_nil, List.length_set]; first | done | omega)) only [EvV.len, MonV.len, amSide, Int.reduceToNat, Nat.reducePow, Nat.reduceMul]; first | done | omega)) only [↓amPre, amPost, ↓s_lit', Nat.reduceAdd, Nat.reduceSub, List.replicate, retA, resultsA, resultA, toC, toCL, Nat.reduceEqDiff, Int.natCast_add, Int.cast_ofNat_Int, dec_t, dec_f]
    · clear hag3 hcH hg0 hstore happ hsc
      simp (maxSteps := 1000000) (disch := first | omega | (simp (disch := first | omega | (simp only [EvV.len, MonV.len, List.length_append, List.length_cons, List.length_nil, List.length_set]; first | done | omega)) only [EvV.len, MonV.len, amSide, Int.reduceToNat, Nat.reducePow, Nat.reduceMul]; first | done | omega)) only  [↓amPre, amPost, ↓s_lit', Nat.reduceAdd, Nat.reduceSub, List.replicate, retA, resultsA, resultA, toC, toCL, Nat.reduceEqDiff, he3, (ze95 S.p), (ze98 S.p), append_at (un47 S.p) (sz3 S.p) (by3 S.p) (ze3 S.p) (by decide) (by decide) rfl, copy_at (un47 S.p) (sz3 S.p) (by3 S.p) (ze3 S.p) (by decide) (by decide) rfl, sl_cells (sz3 S.p), eql_bool (un4 S.p), neq_bool (un4 S.p), iaddr_sl (un47 S.p) (sz3 S.p), iaddr_sl (un91 S.p) (sz98 S.p), iaddr_ptr (un95 S.p) (sz3 S.p), len_sl (un47 S.p), len_nils (un47 S.p), len_sl (un91 S.p), len_nils (un91 S.p), part_sc (ag3 S.p), part_all (ag98 S.p) (sz98 S.p), part_at (ag98 S.p) (sz98 S.p), store_last (sz3 S.p), (sz3 S.p), store_last (sz98 S.p), (sz98 S.p), wrap_i64]
      refine hag2 ⟨o + 1, h6⟩ ⟨by simp only; omega, hx7, hlt6, M6, hH6⟩ (by simp only; omega) _ ?_
      simp (maxSteps := 1000000) (disch := first | omega | (simp (disch := first | omega | (simp only [EvV.len, MonV.len, List.length_append, List.length_cons, List.length_nil, List.length_set]; first | done | omega)) only [EvV.len, MonV.len, amSide, Int.reduceToNat, Nat.reducePow, Nat.reduceMul]; first | done | omega)) only [↓amPre, amPost, ↓s_lit', Nat.reduceAdd, Nat.reduceSub, List.replicate, retA, resultsA, resultA, toC, toCL, Nat.reduceEqDiff, Int.natCast_add, Int.cast_ofNat_Int, dec_t, dec_f]
  · have hzb : (w0.hsh != 0) = true := bneI_t hz
    have hzc := g6 hz
    clear g6
    simp (maxSteps := 1000000) (disch := first | omega | (simp (disch := first | omega | (simp only [EvV.len, MonV.len, List.length_append, List.length_cons, List.length_nil, List.length_set]; first | done | omega)) only [EvV.len, MonV.len, amSide, Int.reduceToNat, Nat.reducePow, Nat.reduceMul]; first | done | omega)) only  [↓amPre, amPost, ↓s_lit', Nat.reduceAdd, Nat.reduceSub, List.replicate, retA, resultsA, resultA, toC, toCL, Nat.reduceEqDiff, he2, (ze95 S.p), (ze98 S.p), append_at (un47 S.p) (sz3 S.p) (by3 S.p) (ze3 S.p) (by decide) (by decide) rfl, copy_at (un47 S.p) (sz3 S.p) (by3 S.p) (ze3 S.p) (by decide) (by decide) rfl, sl_cells (sz3 S.p), eql_bool (un4 S.p), neq_bool (un4 S.p), iaddr_sl (un47 S.p) (sz3 S.p), iaddr_sl (un91 S.p) (sz98 S.p), iaddr_ptr (un95 S.p) (sz3 S.p), len_sl (un47 S.p), len_nils (un47 S.p), len_sl (un91 S.p), len_nils (un91 S.p), part_sc (ag3 S.p), part_all (ag98 S.p) (sz98 S.p), part_at (ag98 S.p) (sz98 S.p), store_last (sz3 S.p), (sz3 S.p), store_last (sz98 S.p), (sz98 S.p), f45, f46, f47, hcH, hg0, hstore, e48, e49, happ, hsc, hlen6, g1, g2, g3, g4, g5, hzb, hzc, idx_ok, Nat.mul_one, Int.toNat_natCast, Nat.zero_add, Nat.add_zero]
    refine ends_loop (X := OySt) ⟨0⟩ [2, 12, 93, 94, 95, 96, 97, 98, 99, 100, 101, 102, 103, 104, 105, 106, 107] (fun x => x.j ≤ Z.length) (fun x => Z.length - x.j)
      (fun x e => e.set 92 (.v (.sc (.int .i64 x.j)))) (fun x => h6)
      (by have := S.k; show _ < K; simp only; omega) (by simp only; omega) rfl rfl ?_
    rintro ⟨j⟩ hjz again3 hag3 e3 he3
    simp only at hjz hag3 he3
    simp only [↓amPre, amPost, ↓s_lit', Nat.reduceAdd, Nat.reduceSub, List.replicate, retA, resultsA, resultA, toC, toCL, Nat.reduceEqDiff] at he3
    simp only [↓amPre, amPost, ↓s_lit', Nat.reduceAdd, Nat.reduceSub, List.replicate, retA, resultsA, resultA, toC, toCL, Nat.reduceEqDiff, he3]
    refine ends_cond (fun hc3 => ?_) (fun hc3 => ?_)
    · simp only [decide_eq_true_eq] at hc3
      have hj3 : j < Z.length := by omega
      obtain ⟨t, ht⟩ : ∃ t, Z[j]? = some t := ⟨_, List.getElem?_eq_getElem hj3⟩
      obtain ⟨z1, z2, z3⟩ := hZ t (List.mem_of_getElem? ht)
      have y1 : (t == w.own) = false := beqI_f z1
      have y2 : decide (t < 0) = false := decide_eq_false (by omega)
      have y3 : decide (t > 3) = false := decide_eq_false (by omega)
      have hmt : (Z.map (SV.int .i64))[j]? = some (.int .i64 t) := by rw [List.getElem?_map, ht]; rfl
      rcases O6 with ⟨_, hnil⟩ | ⟨bz, _, _, hq6, hb6, _⟩
      · have := congrArg List.length hnil
        rw [List.length_map] at this
        simp at this
        rw [this] at hj3
        simp at hj3
      · rw [List.length_map, Nat.div_one] at hq6
        subst hq6
        have hc6 := cells_at hb6
        clear hag2 hcH hg0 hstore happ hsc
        simp (maxSteps := 1000000) (disch := first | omega | (simp (disch := first | omega | (simp only [EvV.len, MonV.len, List.length_append, List.length_cons, List.length_nil, List.length_set]; first | done | omega)) only [EvV.len, MonV.len, amSide, Int.reduceToNat, Nat.reducePow, Nat.reduceMul]; first | done | omega)) only  [↓amPre, amPost, ↓s_lit', Nat.reduceAdd, Nat.reduceSub, List.replicate, retA, resultsA, resultA, toC, toCL, Nat.reduceEqDiff, he3, (ze95 S.p), (ze98 S.p), append_at (un47 S.p) (sz3 S.p) (by3 S.p) (ze3 S.p) (by decide) (by decide) rfl, copy_at (un47 S.p) (sz3 S.p) (by3 S.p) (ze3 S.p) (by decide) (by decide) rfl, sl_cells (sz3 S.p), eql_bool (un4 S.p), neq_bool (un4 S.p), iaddr_sl (un47 S.p) (sz3 S.p), iaddr_sl (un91 S.p) (sz98 S.p), iaddr_ptr (un95 S.p) (sz3 S.p), len_sl (un47 S.p), len_nils (un47 S.p), len_sl (un91 S.p), len_nils (un91 S.p), part_sc (ag3 S.p), part_all (ag98 S.p) (sz98 S.p), part_at (ag98 S.p) (sz98 S.p), store_last (sz3 S.p), (sz3 S.p), store_last (sz98 S.p), (sz98 S.p), idx_ok, hc6, hmt, y1, y2, y3, Nat.mul_one, Int.toNat_natCast, Nat.zero_add, wrap_i64]
        refine hag3 ⟨j + 1⟩ (by simp only; omega) (by simp only; omega) _ ?_
        simp (maxSteps := 1000000) (disch := first | omega | (simp (disch := first | omega | (simp only [EvV.len, MonV.len, List.length_append, List.length_cons, List.length_nil, List.length_set]; first | done | omega)) only [EvV.len, MonV.len, amSide, Int.reduceToNat, Nat.reducePow, Nat.reduceMul]; first | done | omega)) only [↓amPre, amPost, ↓s_lit', Nat.reduceAdd, Nat.reduceSub, List.replicate, retA, resultsA, resultA, toC, toCL, Nat.reduceEqDiff, Int.natCast_add, Int.cast_ofNat_Int, dec_t, dec_f]
    · clear hag3 hcH hg0 hstore happ hsc
      simp (maxSteps := 1000000) (disch := first | omega | (simp (disch := first | omega | (simp only [EvV.len, MonV.len, List.length_append, List.length_cons, List.length_nil, List.length_set]; first | done | omega)) only [EvV.len, MonV.len, amSide, Int.reduceToNat, Nat.reducePow, Nat.reduceMul]; first | done | omega)) only  [↓amPre, amPost, ↓s_lit', Nat.reduceAdd, Nat.reduceSub, List.replicate, retA, resultsA, resultA, toC, toCL, Nat.reduceEqDiff, he3, (ze95 S.p), (ze98 S.p), append_at (un47 S.p) (sz3 S.p) (by3 S.p) (ze3 S.p) (by decide) (by decide) rfl, copy_at (un47 S.p) (sz3 S.p) (by3 S.p) (ze3 S.p) (by decide) (by decide) rfl, sl_cells (sz3 S.p), eql_bool (un4 S.p), neq_bool (un4 S.p), iaddr_sl (un47 S.p) (sz3 S.p), iaddr_sl (un91 S.p) (sz98 S.p), iaddr_ptr (un95 S.p) (sz3 S.p), len_sl (un47 S.p), len_nils (un47 S.p), len_sl (un91 S.p), len_nils (un91 S.p), part_sc (ag3 S.p), part_all (ag98 S.p) (sz98 S.p), part_at (ag98 S.p) (sz98 S.p), store_last (sz3 S.p), (sz3 S.p), store_last (sz98 S.p), (sz98 S.p), wrap_i64]
      refine hag2 ⟨o + 1, h6⟩ ⟨by simp only; omega, hx7, hlt6, M6, hH6⟩ (by simp only; omega) _ ?_
      simp (maxSteps := 1000000) (disch := first | omega | (simp (disch := first | omega | (simp only [EvV.len, MonV.len, List.length_append, List.length_cons, List.length_nil, List.length_set]; first | done | omega)) only [EvV.len, MonV.len, amSide, Int.reduceToNat, Nat.reducePow, Nat.reduceMul]; first | done | omega)) only [↓amPre, amPost, ↓s_lit', Nat.reduceAdd, Nat.reduceSub, List.replicate, retA, resultsA, resultA, toC, toCL, Nat.reduceEqDiff, Int.natCast_add, Int.cast_ofNat_Int, dec_t, dec_f]
end
end Go.AM
