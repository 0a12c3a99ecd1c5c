/- Logs: how many entries the document finds right. Conditions: none. -/
import Derived.Test.YtjhhjmngjmflaaaGhv
import Derived.Test.YtjhhjmngjmflaaaMqt
set_option linter.unusedVariables false
set_option linter.unusedSimpArgs false
set_option maxRecDepth 100000
-- NOTY: ze47, bu47
namespace Go.AM
open Go.Proofs
-- LENS: EvV.len, MonV.len, ThV.len, EnV.len, refC_len
def atQ (x : AtV × SV) : List SV := atC x.1 x.2
theorem spl2 (a b c d e x y z : SV) (l : List SV) : splice (a :: b :: c :: d :: e :: l) 2 [x, y, z] = a :: b :: x :: y :: z :: l := nrfl rfl
theorem atQ_len (x : AtV × SV) : (atQ x).length = 6 := nrfl rfl
structure RrSt where
  i : Nat
  G : LgV
  L : List (AtV × SV)
  h : List AO
theorem Rs.other {α : Type} {f : α → List SV} {s : Nat} {h h' : List AO} {q : SV} {l : List α} (H : Rs f s h q l) (ho : ∀ b o n s', q = .sl b o n s' → b < h.length → h'[b]? = h[b]?) : Rs f s h' q l := by
  rcases H with ⟨h1, h2⟩ | ⟨b, h1, h2, h3⟩
  · exact .inl ⟨h1, h2⟩
  · have hb := ho _ _ _ _ h1 h2
    refine .inr ⟨b, h1, ?_, ?_⟩
    · have : h[b]? = some h[b] := List.getElem?_eq_getElem h2
      rw [this] at hb
      exact (List.getElem?_eq_some_iff.1 hb).1
    · unfold cellsAt at h3 ⊢; rw [hb]; exact h3
/-- The document's threads, and where their commits lie. -/
def ThI (n lo i : Nat) (G : LgV) (L : List (AtV × SV)) (h : List AO) : Prop := ∀ t, t < n → ∃ a q g, L[t]? = some (a, q) ∧ G.ths[t]? = some g ∧ AtM g a ∧ Rs EvV.cells 5 h q a.L ∧ a.L.length ≤ i ∧ (∀ b o m s, q = .sl b o m s → lo ≤ b) ∧ (a.L = [] → q = .nils)
theorem ThI.other {n lo i j : Nat} {G : LgV} {L : List (AtV × SV)} {h h' : List AO} (H : ThI n lo i G L h) (hij : i ≤ j) (ho : ∀ b, lo ≤ b → b < h.length → h'[b]? = h[b]?) : ThI n lo j G L h' := fun t ht => by
  obtain ⟨a, q, g, h1, h2, h3, h4, h5, h6, h7⟩ := H t ht
  exact ⟨a, q, g, h1, h2, h3, h4.other fun b o m s e hb => ho b (h6 b o m s e) hb, by omega, h6, h7⟩
/-- One thread is another one. -/
theorem ThI.set {n lo i : Nat} {G : LgV} {L : List (AtV × SV)} {h : List AO} (H : ThI n lo i G L h) {V : MdV} {es : List EnV} {th : Nat} (hL : th < L.length) (hg : th < G.ths.length) {a : AtV} {q : SV} {g : ThV} (h3 : AtM g a) (h4 : Rs EvV.cells 5 h q a.L) (h5 : a.L.length ≤ i) (h6 : ∀ b o m s, q = .sl b o m s → lo ≤ b) (h7 : a.L = [] → q = .nils) :
    ThI n lo i ⟨G.objs, V, G.ths.set th g, es⟩ (L.set th (a, q)) h := fun t ht => by
  by_cases e : th = t
  · subst e
    exact ⟨a, q, g, List.getElem?_set_self hL, List.getElem?_set_self hg, h3, h4, h5, h6, h7⟩
  · obtain ⟨a', q', g', k1, k2, k3⟩ := H t ht
    exact ⟨a', q', g', by rw [List.getElem?_set_ne e]; exact k1, by simp only; rw [List.getElem?_set_ne e]; exact k2, k3⟩
def zAt : AtV := ⟨0, false, 0, 0, 0, []⟩
theorem zAt_M : AtM noTh zAt := ⟨rfl, rfl, rfl, rfl, rfl, rfl, (fun e h => by cases h), fun h => absurd rfl h⟩
section
variable {P : Program} {T : Tab} {K d : Nat} (S : Sd P T K)
include S
theorem partAs (L : List (AtV × SV)) (hL : L.length = 8) : partA P 51 (recs atQ L) 0 = some (.ag (recs atQ L)) := part_all (ag51 S.p) (sz51 S.p) _ (by rw [recs_len atQ_len, hL])
theorem partA6 (a : AtV) (q : SV) : partA P 50 (atC a q) 0 = some (.ag (atC a q)) := part_all (ag50 S.p) (sz50 S.p) _ rfl
/-- What a call of the document's Right comes to. -/
def Ri (h : List AO) (k : Nat) : AV → List AO → Prop := fun v h' => ∃ ms qs, v = .tup [.sc (.int .i64 (k : Int)), .ag ms, .ag qs] ∧ ms.length = 227 ∧ qs.length = 48 ∧ Ext1 h h'
set_option maxHeartbeats 4000000 in
theorem s12f (hd : 4 ≤ d) (n m c : Int) (hb : ¬ ((1 ≤ n ∧ n ≤ 8) ∧ (1 ≤ m ∧ m ≤ 8) ∧ 1 ≤ c ∧ c ≤ 60)) (q : SV) (lk : Nat) (h : List AO) (hlk : lk ≤ h.length) :
    Ends (Ri h 0) (ev P T K d 12 [.sc (.int .i64 n), .sc (.int .i64 m), .sc (.int .i64 c), .sc q] lk h) := by
  obtain ⟨d, rfl⟩ : ∃ k, d = k + 1 := ⟨d - 1, by omega⟩
  rw [ev_run (at12 S.t)]
  unfold i12 Try.f12
  have f31 := fun lk h => s31f S (show 1 ≤ d by omega) n m c hb lk h
  have hz := ze47r S
  have hpV := partV S nilM
  have hpA := partAs S (List.replicate 8 (zAt, .nils)) rfl
  rw [show recs atQ (List.replicate 8 (zAt, SV.nils)) = [.int .i64 0, .bool false, .int .i64 0, .int .i64 0, .int .i64 0, .nils, .int .i64 0, .bool false, .int .i64 0, .int .i64 0, .int .i64 0, .nils, .int .i64 0, .bool false, .int .i64 0, .int .i64 0, .int .i64 0, .nils, .int .i64 0, .bool false, .int .i64 0, .int .i64 0, .int .i64 0, .nils, .int .i64 0, .bool false, .int .i64 0, .int .i64 0, .int .i64 0, .nils, .int .i64 0, .bool false, .int .i64 0, .int .i64 0, .int .i64 0, .nils, .int .i64 0, .bool false, .int .i64 0, .int .i64 0, .int .i64 0, .nils, .int .i64 0, .bool false, .int .i64 0, .int .i64 0, .int .i64 0, .nils] from rfl] at hpA
  simp (maxSteps := 1000000) (disch := first | omega | (simp (disch := first | omega | (simp only [EvV.len, MonV.len, ThV.len, EnV.len, refC_len, List.length_append, List.length_cons, List.length_nil, List.length_set]; first | done | omega)) only [EvV.len, MonV.len, ThV.len, EnV.len, refC_len, amSide, Int.reduceToNat, Nat.reducePow, Nat.reduceMul]; first | done | omega)) only  [↓amPre, amPost, ↓s_lit', Nat.reduceAdd, Nat.reduceSub, List.replicate, retA, resultsA, resultA, toC, toCL, Nat.reduceEqDiff, (ze31 S.p), (ze50 S.p), (ze51 S.p), append_at (un48 S.p) (sz29 S.p) (by29 S.p) (ze29 S.p) (by decide) (by decide) rfl, copy_at (un48 S.p) (sz29 S.p) (by29 S.p) (ze29 S.p) (by decide) (by decide) rfl, sl_cells (sz29 S.p), (bu50 S.p), lit_fill (un48 S.p) (sz29 S.p) (ze29 S.p), (fa31_0 S.p), (fa31_1 S.p), (fa31_2 S.p), (fa31_3 S.p), (fa31_4 S.p), (fa31_5 S.p), (fa31_6 S.p), (fa50_0 S.p), (fa50_1 S.p), (fa50_3 S.p), iaddr_sl (un23 S.p) (sz31 S.p), iaddr_ptr (un51 S.p) (sz50 S.p), len_sl (un23 S.p), len_nils (un23 S.p), part_all (ag27 S.p) (sz27 S.p), part_at (ag27 S.p) (sz27 S.p), part_all (ag29 S.p) (sz29 S.p), part_at (ag29 S.p) (sz29 S.p), part_sc (ag3 S.p), part_all (ag31 S.p) (sz31 S.p), part_at (ag31 S.p) (sz31 S.p), part_sc (ag4 S.p), part_all (ag47 S.p) (sz47 S.p), part_at (ag47 S.p) (sz47 S.p), part_sc (ag48 S.p), part_all (ag50 S.p) (sz50 S.p), part_at (ag50 S.p) (sz50 S.p), part_all (ag51 S.p) (sz51 S.p), part_at (ag51 S.p) (sz51 S.p), store_last (sz31 S.p), (sz31 S.p), store_last (sz47 S.p), (sz47 S.p), store_last (sz48 S.p), (sz48 S.p), store_last (sz50 S.p), (sz50 S.p), store_last (sz51 S.p), (sz51 S.p), f31, hz, hpV, hpA, splC, set_self, set_other, beqI_t, beqI_f, bneI_t, bneI_f, bne_self_eq_false, beq_self_eq_true, dec_t, dec_f, cells_self, cells_other, cells_set, cells_set_ne, idx_ok, Int.toNat_natCast, Nat.zero_add, Nat.add_zero, wrap_i64]
  exact Ends.some ⟨_, _, rfl, refC_len _, rfl, ((((Ext1.refl h).push _).push _).push _).push _⟩
set_option maxHeartbeats 16000000 in
theorem s12 (hd : 6 ≤ d) {n m : Nat} {c : Int} (h1 : 1 ≤ n ∧ n ≤ 8) (h2 : 1 ≤ m ∧ m ≤ 8) (h3 : 1 ≤ c ∧ c ≤ 60) {q : SV} {l : List EnV} {k : Nat} (hk : k ≤ 1000 ∧ k ≤ l.length) (lk : Nat) (h : List AO) (hlk : lk ≤ h.length) (hq : Rs2 EnV.cells 13 h q l k) :
    Ends (Ri h (manyL (newL n m c) (l.take k))) (ev P T K d 12 [.sc (.int .i64 n), .sc (.int .i64 m), .sc (.int .i64 c), .sc q] lk h) := by
  obtain ⟨d, rfl⟩ : ∃ k, d = k + 1 := ⟨d - 1, by omega⟩
  rw [ev_run (at12 S.t)]
  unfold i12 Try.f12
  have hlen := fun hh => hq.len (un23 S.p) hh
  have f31 := fun lk h => s31 S (show 1 ≤ d by omega) h1 h2 h3 lk h
  have hz := ze47r S
  have hpV := fun V => partV S V
  simp (maxSteps := 1000000) (disch := first | omega | (simp (disch := first | omega | (simp only [EvV.len, MonV.len, ThV.len, EnV.len, refC_len, List.length_append, List.length_cons, List.length_nil, List.length_set]; first | done | omega)) only [EvV.len, MonV.len, ThV.len, EnV.len, refC_len, amSide, Int.reduceToNat, Nat.reducePow, Nat.reduceMul]; first | done | omega)) only  [↓amPre, amPost, ↓s_lit', Nat.reduceAdd, Nat.reduceSub, List.replicate, retA, resultsA, resultA, toC, toCL, Nat.reduceEqDiff, (ze31 S.p), (ze50 S.p), (ze51 S.p), append_at (un48 S.p) (sz29 S.p) (by29 S.p) (ze29 S.p) (by decide) (by decide) rfl, copy_at (un48 S.p) (sz29 S.p) (by29 S.p) (ze29 S.p) (by decide) (by decide) rfl, sl_cells (sz29 S.p), (bu50 S.p), lit_fill (un48 S.p) (sz29 S.p) (ze29 S.p), (fa31_0 S.p), (fa31_1 S.p), (fa31_2 S.p), (fa31_3 S.p), (fa31_4 S.p), (fa31_5 S.p), (fa31_6 S.p), (fa50_0 S.p), (fa50_1 S.p), (fa50_3 S.p), iaddr_sl (un23 S.p) (sz31 S.p), iaddr_ptr (un51 S.p) (sz50 S.p), len_sl (un23 S.p), len_nils (un23 S.p), part_all (ag27 S.p) (sz27 S.p), part_at (ag27 S.p) (sz27 S.p), part_all (ag29 S.p) (sz29 S.p), part_at (ag29 S.p) (sz29 S.p), part_sc (ag3 S.p), part_all (ag31 S.p) (sz31 S.p), part_at (ag31 S.p) (sz31 S.p), part_sc (ag4 S.p), part_all (ag47 S.p) (sz47 S.p), part_at (ag47 S.p) (sz47 S.p), part_sc (ag48 S.p), part_all (ag50 S.p) (sz50 S.p), part_at (ag50 S.p) (sz50 S.p), part_all (ag51 S.p) (sz51 S.p), part_at (ag51 S.p) (sz51 S.p), store_last (sz31 S.p), (sz31 S.p), store_last (sz47 S.p), (sz47 S.p), store_last (sz48 S.p), (sz48 S.p), store_last (sz50 S.p), (sz50 S.p), store_last (sz51 S.p), (sz51 S.p), f31, hlen, hz, hpV, splC, set_self, set_other, beqI_t, beqI_f, bneI_t, bneI_f, bne_self_eq_false, beq_self_eq_true, dec_t, dec_f, cells_self, cells_other, cells_set, cells_set_ne, idx_ok, Int.toNat_natCast, Nat.zero_add, Nat.add_zero, wrap_i64]
  have hZ : [SV.int .i64 0, .bool false, .int .i64 0, .int .i64 0, .int .i64 0, .nils, .int .i64 0, .bool false, .int .i64 0, .int .i64 0, .int .i64 0, .nils, .int .i64 0, .bool false, .int .i64 0, .int .i64 0, .int .i64 0, .nils, .int .i64 0, .bool false, .int .i64 0, .int .i64 0, .int .i64 0, .nils, .int .i64 0, .bool false, .int .i64 0, .int .i64 0, .int .i64 0, .nils, .int .i64 0, .bool false, .int .i64 0, .int .i64 0, .int .i64 0, .nils, .int .i64 0, .bool false, .int .i64 0, .int .i64 0, .int .i64 0, .nils, .int .i64 0, .bool false, .int .i64 0, .int .i64 0, .int .i64 0, .nils] = recs atQ (List.replicate 8 (zAt, .nils)) := rfl
  rw [hZ]
  have hZl : (recs atQ (List.replicate 8 (zAt, SV.nils))).length = 48 := rfl
  generalize hZg : recs atQ (List.replicate 8 (zAt, SV.nils)) = Z at *
  generalize hH0 : h ++ [AO.rw 47 (refC nilM)] ++ [AO.rw 51 Z] ++ [AO.rw 47 (refC (newV n m c))] ++ [AO.rw 51 Z] = H0
  refine ends_loop (X := RrSt) ⟨0, newL n m c, List.replicate 8 (zAt, .nils), H0⟩ [8, 15, 16, 17, 18, 19, 20, 21, 33, 34, 35, 36, 37, 38, 39, 40, 41, 42, 43, 44, 45, 46, 47, 48, 49, 50, 51, 52, 53, 54, 55, 56, 57, 58, 59, 60, 61, 62, 63, 64, 65, 66, 67, 68, 69, 70, 71, 72, 73, 74, 75, 76, 77, 78, 79, 80, 81, 82, 83, 84, 85, 86, 87, 88, 89, 90, 91, 92, 93, 94, 95, 96, 97, 98, 99, 100, 101, 102, 103, 104, 105, 106, 107, 108, 109, 110, 111, 112, 113, 114, 115, 116, 117, 118, 119, 120, 121, 122, 123, 124, 125, 126, 127, 128, 129, 130, 131, 132, 133, 134, 135, 136, 137, 138, 139, 140, 141, 142, 143, 144, 145, 146, 147, 148, 149, 150, 151, 152, 153, 154, 155, 156, 157, 158, 159, 160, 161] (fun x => x.i ≤ k ∧ Ext1 h x.h ∧ (x.h[h.length]? = some (.rw 47 (refC nilM)) ∧ x.h[h.length + 1]? = some (.rw 51 Z) ∧ x.h[h.length + 1 + 1]? = some (.rw 47 (refC x.G.V)) ∧ x.h[h.length + 1 + 1 + 1]? = some (.rw 51 (recs atQ x.L))) ∧
      (LgI n m c x.G ∧ MdW x.G.V ∧ MdH x.G.V) ∧ x.G.ents.length ≤ x.i ∧ addAll (newL n m c) (l.take x.i) = some x.G ∧ x.L.length = 8 ∧ ThI n (h.length + 4) x.i x.G x.L x.h) (fun x => k - x.i)
    (fun x e => e.set 14 (.v (.sc (.int .i64 x.i)))) (fun x => x.h)
    (by have := S.k; show _ < K; simp only; omega) ⟨by simp only; omega, by rw [← hH0]; exact ((((Ext1.refl h).push _).push _).push _).push _, ⟨by rw [← hH0]; simp [List.getElem?_append], by rw [← hH0]; simp [List.getElem?_append], by rw [← hH0, obj_other _ _ (by simp), obj_self _ _ (by simp)]; rfl, by simp only; rw [hZg, ← hH0, obj_self _ _ (by simp)]⟩, ⟨newL_I h1.2 h2.2 h3, (fun x hx => by cases hx), newV_H n m c⟩, Nat.le_refl _, rfl, rfl, fun t ht => ⟨zAt, .nils, noTh, by simp only; rw [List.getElem?_replicate, if_pos (by omega)], by show (List.replicate n noTh)[t]? = _; rw [List.getElem?_replicate, if_pos ht], zAt_M, .inl ⟨rfl, rfl⟩, Nat.le_refl _, (fun b o m s e => by cases e), fun _ => rfl⟩⟩ rfl rfl ?_
  clear hH0 hZ
  rintro ⟨i, G, L, hj⟩ ⟨hi, hx, ⟨g0, g1, g2, g3⟩, ⟨I, Wy, Hh⟩, hel, hal, hL8, hTh⟩ again hag e he
  simp only at hi hx g0 g1 g2 g3 I Wy Hh hel hal hL8 hTh hag he
  simp only [↓amPre, amPost, ↓s_lit', Nat.reduceAdd, Nat.reduceSub, List.replicate, retA, resultsA, resultA, toC, toCL, Nat.reduceEqDiff] at he
  simp only [↓amPre, amPost, ↓s_lit', Nat.reduceAdd, Nat.reduceSub, List.replicate, retA, resultsA, resultA, toC, toCL, Nat.reduceEqDiff, he, hlen]
  have htl : (l.take k).length = k := by rw [List.length_take]; omega
  have hLl : (recs atQ L).length = 48 := by rw [recs_len atQ_len, hL8]
  have hpA := partAs S L hL8
  have c0 := cells_at g0
  have c1 := cells_at g1
  have c2 := cells_at g2
  have c3 := cells_at g3
  have l3 := (List.getElem?_eq_some_iff.1 g3).1
  have st9 : storeA P hj lk 47 (.v (.sc (.ptr h.length 0))) (.v (.ag (refC G.V))) = some (hj.set h.length (.rw 47 (refC G.V))) := by
    rw [store_at (n := 227) (c := .ag (refC G.V)) g0 hlk (sz47 S.p) (refC_len _) (by rw [refC_len]; omega)]
    show some (hj.set h.length (AO.rw 47 (splice (refC nilM) 0 (refC G.V)))) = _
    rw [splC]
  have st10 : storeA P (hj.set h.length (.rw 47 (refC G.V))) lk 51 (.v (.sc (.ptr (h.length + 1) 0))) (.v (.ag (recs atQ L))) = some ((hj.set h.length (.rw 47 (refC G.V))).set (h.length + 1) (.rw 51 (recs atQ L))) := by
    rw [store_at (n := 48) (c := .ag (recs atQ L)) (show (hj.set h.length (.rw 47 (refC G.V)))[h.length + 1]? = some (.rw 51 Z) by rw [List.getElem?_set_ne (by omega)]; exact g1) (by omega) (sz51 S.p) hLl (by omega)]
    show some ((hj.set h.length (.rw 47 (refC G.V))).set (h.length + 1) (AO.rw 51 (splice Z 0 (recs atQ L)))) = _
    rw [splice_all _ _ (by omega)]
  refine ends_cond (fun hc1 => ?_) (fun hc1 => ?_)
  rotate_left
  · simp only [decide_eq_false_iff_not] at hc1
    obtain rfl : i = k := by omega
    have hm := many_all (l.take i) (newL n m c) G hal
    rw [hm, htl]
    simp (maxSteps := 1000000) (disch := first | omega | (simp (disch := first | omega | (simp only [EvV.len, MonV.len, ThV.len, EnV.len, refC_len, List.length_append, List.length_cons, List.length_nil, List.length_set]; first | done | omega)) only [EvV.len, MonV.len, ThV.len, EnV.len, refC_len, amSide, Int.reduceToNat, Nat.reducePow, Nat.reduceMul]; first | done | omega)) only  [↓amPre, amPost, ↓s_lit', Nat.reduceAdd, Nat.reduceSub, List.replicate, retA, resultsA, resultA, toC, toCL, Nat.reduceEqDiff, he, (ze31 S.p), (ze50 S.p), (ze51 S.p), append_at (un48 S.p) (sz29 S.p) (by29 S.p) (ze29 S.p) (by decide) (by decide) rfl, copy_at (un48 S.p) (sz29 S.p) (by29 S.p) (ze29 S.p) (by decide) (by decide) rfl, sl_cells (sz29 S.p), (bu50 S.p), lit_fill (un48 S.p) (sz29 S.p) (ze29 S.p), (fa31_0 S.p), (fa31_1 S.p), (fa31_2 S.p), (fa31_3 S.p), (fa31_4 S.p), (fa31_5 S.p), (fa31_6 S.p), (fa50_0 S.p), (fa50_1 S.p), (fa50_3 S.p), iaddr_sl (un23 S.p) (sz31 S.p), iaddr_ptr (un51 S.p) (sz50 S.p), len_sl (un23 S.p), len_nils (un23 S.p), part_all (ag27 S.p) (sz27 S.p), part_at (ag27 S.p) (sz27 S.p), part_all (ag29 S.p) (sz29 S.p), part_at (ag29 S.p) (sz29 S.p), part_sc (ag3 S.p), part_all (ag31 S.p) (sz31 S.p), part_at (ag31 S.p) (sz31 S.p), part_sc (ag4 S.p), part_all (ag47 S.p) (sz47 S.p), part_at (ag47 S.p) (sz47 S.p), part_sc (ag48 S.p), part_all (ag50 S.p) (sz50 S.p), part_at (ag50 S.p) (sz50 S.p), part_all (ag51 S.p) (sz51 S.p), part_at (ag51 S.p) (sz51 S.p), store_last (sz31 S.p), (sz31 S.p), store_last (sz47 S.p), (sz47 S.p), store_last (sz48 S.p), (sz48 S.p), store_last (sz50 S.p), (sz50 S.p), store_last (sz51 S.p), (sz51 S.p), hlen, hz, hpV, hpA, c0, c1, c2, c3, st9, st10, splC, set_self, set_other, beqI_t, beqI_f, bneI_t, bneI_f, bne_self_eq_false, beq_self_eq_true, dec_t, dec_f, cells_self, cells_other, cells_set, cells_set_ne, idx_ok, Int.toNat_natCast, Nat.zero_add, Nat.add_zero, wrap_i64]
    refine Ends.some ⟨_, _, rfl, refC_len _, hLl, ?_⟩
    repeat (first | exact hx | apply Ext1.push | (refine Ext1.set ?_ (by omega) _))
  · simp only [decide_eq_true_eq] at hc1
    have hik : i < k := by omega
    have hxl := hx.len
    rcases hq.ext hx with ⟨rfl, hz⟩ | ⟨b, rfl, hbl, hcb, hkl⟩
    · omega
    obtain ⟨y, hy⟩ : ∃ y, l[i]? = some y := ⟨_, List.getElem?_eq_getElem (by omega)⟩
    have hpt := recs_part (ag31 S.p) (sz31 S.p) EnV.len hy
    have hpy := partRn S y
    have hyl := EnV.len y
    have x0 := y.c0
    have x1 := y.c1
    have x2 := y.c2
    have x11 := y.c11
    have x12 := y.c12
    have xop := y.op
    have xvs := y.vs
    have f32 := fun lk h => s32 S (show 1 ≤ d by omega) y lk h
    have hyk : (l.take k)[i]? = some y := by rw [List.getElem?_take_of_lt hik]; exact hy
    have htt : (l.take k).take i = l.take i := by rw [List.take_take, Nat.min_eq_left hi]
    have hstop : addL G y = none → manyL (newL n m c) (l.take k) = i := fun hA => many_stop (l.take k) (newL n m c) G i y (by rw [htt]; exact hal) hyk hA
    have hgo : ∀ G', addL G y = some G' → addAll (newL n m c) (l.take (i + 1)) = some G' := fun G' hA => by
      rw [List.take_succ_eq_append_getElem (by omega), addAll_snoc, hal]
      rw [show l[i] = y from by have := List.getElem?_eq_getElem (show i < l.length by omega); rw [this] at hy; exact Option.some.inj hy]
      exact hA
    by_cases cb : bareE y
    · rw [decide_eq_true cb] at f32
      by_cases cr : 0 ≤ y.th ∧ y.th < (n : Int)
      · obtain ⟨th, hth⟩ := Int.eq_ofNat_of_zero_le cr.1
        rw [hth] at x1 cr
        obtain ⟨a, qa, g, ga, gg, gM, gR, gL, gb, gz⟩ := hTh th (by omega)
        have hpa := recs_part (ag50 S.p) (sz50 S.p) atQ_len ga
        rw [show atQ (a, qa) = atC a qa from rfl] at hpa
        have hdr : List.take 6 (List.drop (th * 6) (recs atQ L)) = atC a qa := recs_at atQ_len ga
        unfold atC at hpa hdr
        have htn := I.tn
        have hob := I.ob
        have hadd : addL G y = (addT G g y).map fun p => { G with V := p.1, ths := G.ths.set th p.2, ents := G.ents ++ [y] } := by
          unfold addL
          rw [if_pos ⟨cb, by omega, by omega⟩, hth, Int.toNat_natCast, List.getD_eq_getElem?_getD, gg]; rfl
        have hb := I.cl th g gg
        have hbk := I.ok th g gg
        have hop := gM.op
        have hclq := gM.cl
        have hth8 : th < 8 := by omega
        have hthL : th < L.length := by omega
        have hthG : th < G.ths.length := by omega
        have stq : ∀ (a' : AtV) (q' : SV), storeA P hj lk 50 (.v (.sc (.ptr (h.length + 1 + 1 + 1) (th * 6)))) (.v (.ag (atC a' q'))) = some (hj.set (h.length + 1 + 1 + 1) (.rw 51 (recs atQ (L.set th (a', q'))))) := fun a' q' => by
          rw [store_at g3 (by omega) (sz50 S.p) (c := .ag (atC a' q')) rfl (by omega)]
          rw [show splice (recs atQ L) (th * 6) (CV.ag (atC a' q')).cells = recs atQ (L.set th (a', q')) from recs_set atQ_len hthL (a', q')]
        have gets : ∀ (o : AO) (H : List AO), (∀ j, j < hj.length → H[j]? = (hj.set (h.length + 1 + 1 + 1) o)[j]?) → H[h.length]? = some (.rw 47 (refC nilM)) ∧ H[h.length + 1]? = some (.rw 51 Z) ∧ H[h.length + 1 + 1]? = some (.rw 47 (refC G.V)) ∧ H[h.length + 1 + 1 + 1]? = some o ∧ ∀ b, h.length + 4 ≤ b → b < hj.length → H[b]? = hj[b]? := fun o H hH => by
          refine ⟨?_, ?_, ?_, ?_, fun b hb1 hb2 => ?_⟩
          · rw [hH _ (by omega), List.getElem?_set_ne (by omega)]; exact g0
          · rw [hH _ (by omega), List.getElem?_set_ne (by omega)]; exact g1
          · rw [hH _ (by omega), List.getElem?_set_ne (by omega)]; exact g2
          · rw [hH _ l3, List.getElem?_set_self l3]
          · rw [hH _ hb2, List.getElem?_set_ne (by omega)]
        have c1c2c3 : y.kd = 1 ∨ y.kd = 2 ∨ y.kd = 3 := by
          unfold bareE at cb
          by_cases k1 : y.kd = 1
          · exact .inl k1
          · by_cases k2 : y.kd = 2
            · exact .inr (.inl k2)
            · rw [if_neg k1, if_neg k2] at cb
              by_cases k3 : y.kd = 3
              · exact .inr (.inr k3)
              · rw [if_neg k3] at cb; exact cb.elim
        clear cb
        rcases c1c2c3 with k1 | k2 | k3
        · -- a Call
          have f33 := fun lk h => s33 S (show 1 ≤ d by omega) y.ok y.oo y.oa (n : Int) (m : Int) lk h
          have hT : addT G g y = if g.op = true ∨ y.nm ≠ g.cl ∨ ¬ mayO m n y.ok y.oo y.oa then none else some (G.V, ⟨y.ok, y.oo, y.oa, g.cl + 1, true, 0, noEv⟩) := by unfold addT; rw [if_pos k1, hob, htn]
          cases ho : g.op with
          | true =>
            rw [ho] at hop
            rw [← hop] at hpa hdr
            have hN : addL G y = none := by rw [hadd, hT, if_pos (.inl ho)]; rfl
            rw [hstop hN]
            simp (maxSteps := 1000000) (disch := first | omega | (simp (disch := first | omega | (simp only [EvV.len, MonV.len, ThV.len, EnV.len, refC_len, List.length_append, List.length_cons, List.length_nil, List.length_set]; first | done | omega)) only [EvV.len, MonV.len, ThV.len, EnV.len, refC_len, amSide, Int.reduceToNat, Nat.reducePow, Nat.reduceMul]; first | done | omega)) only  [↓amPre, amPost, ↓s_lit', Nat.reduceAdd, Nat.reduceSub, List.replicate, retA, resultsA, resultA, toC, toCL, Nat.reduceEqDiff, he, (ze31 S.p), (ze50 S.p), (ze51 S.p), append_at (un48 S.p) (sz29 S.p) (by29 S.p) (ze29 S.p) (by decide) (by decide) rfl, copy_at (un48 S.p) (sz29 S.p) (by29 S.p) (ze29 S.p) (by decide) (by decide) rfl, sl_cells (sz29 S.p), (bu50 S.p), lit_fill (un48 S.p) (sz29 S.p) (ze29 S.p), (fa31_0 S.p), (fa31_1 S.p), (fa31_2 S.p), (fa31_3 S.p), (fa31_4 S.p), (fa31_5 S.p), (fa31_6 S.p), (fa50_0 S.p), (fa50_1 S.p), (fa50_3 S.p), iaddr_sl (un23 S.p) (sz31 S.p), iaddr_ptr (un51 S.p) (sz50 S.p), len_sl (un23 S.p), len_nils (un23 S.p), part_all (ag27 S.p) (sz27 S.p), part_at (ag27 S.p) (sz27 S.p), part_all (ag29 S.p) (sz29 S.p), part_at (ag29 S.p) (sz29 S.p), part_sc (ag3 S.p), part_all (ag31 S.p) (sz31 S.p), part_at (ag31 S.p) (sz31 S.p), part_sc (ag4 S.p), part_all (ag47 S.p) (sz47 S.p), part_at (ag47 S.p) (sz47 S.p), part_sc (ag48 S.p), part_all (ag50 S.p) (sz50 S.p), part_at (ag50 S.p) (sz50 S.p), part_all (ag51 S.p) (sz51 S.p), part_at (ag51 S.p) (sz51 S.p), store_last (sz31 S.p), (sz31 S.p), store_last (sz47 S.p), (sz47 S.p), store_last (sz48 S.p), (sz48 S.p), store_last (sz50 S.p), (sz50 S.p), store_last (sz51 S.p), (sz51 S.p), hcb, hpt, hpy, x0, x1, x2, xop, f32, hpa, hdr, hz, hpV, hpA, c0, c1, c2, c3, st9, st10, splC, set_self, set_other, beqI_t, beqI_f, bneI_t, bneI_f, bne_self_eq_false, beq_self_eq_true, dec_t, dec_f, cells_self, cells_other, cells_set, cells_set_ne, idx_ok, Int.toNat_natCast, Nat.zero_add, Nat.add_zero, wrap_i64]
            refine Ends.some ⟨_, _, rfl, refC_len _, hLl, ?_⟩
            repeat (first | exact hx | apply Ext1.push | (refine Ext1.set ?_ (by omega) _))
          | false =>
            rw [ho] at hop
            rw [← hop] at hpa hdr
            by_cases cn : y.nm = g.cl
            · rw [hclq] at cn
              by_cases cm : mayO m n y.ok y.oo y.oa
              · rw [decide_eq_true cm] at f33
                have hS : addL G y = some { G with ths := G.ths.set th ⟨y.ok, y.oo, y.oa, g.cl + 1, true, 0, noEv⟩, ents := G.ents ++ [y] } := by
                  rw [hadd, hT, if_neg (fun q => q.elim (fun q => by rw [ho] at q; cases q) (fun q => q.elim (fun q => q (by rw [hclq]; exact cn)) (fun q => q cm)))]; rfl
                have st := stq ⟨a.cl + 1, true, y.ok, y.oo, y.oa, []⟩ .nils
                have hp6 := partA6 S ⟨a.cl + 1, true, y.ok, y.oo, y.oa, []⟩ .nils
                unfold atC at st hp6
                simp (maxSteps := 1000000) (disch := first | omega | (simp (disch := first | omega | (simp only [EvV.len, MonV.len, ThV.len, EnV.len, refC_len, List.length_append, List.length_cons, List.length_nil, List.length_set]; first | done | omega)) only [EvV.len, MonV.len, ThV.len, EnV.len, refC_len, amSide, Int.reduceToNat, Nat.reducePow, Nat.reduceMul]; first | done | omega)) only  [↓amPre, amPost, ↓s_lit', Nat.reduceAdd, Nat.reduceSub, List.replicate, retA, resultsA, resultA, toC, toCL, Nat.reduceEqDiff, f33, st, hp6, spl2, splice_one, he, (ze31 S.p), (ze50 S.p), (ze51 S.p), append_at (un48 S.p) (sz29 S.p) (by29 S.p) (ze29 S.p) (by decide) (by decide) rfl, copy_at (un48 S.p) (sz29 S.p) (by29 S.p) (ze29 S.p) (by decide) (by decide) rfl, sl_cells (sz29 S.p), (bu50 S.p), lit_fill (un48 S.p) (sz29 S.p) (ze29 S.p), (fa31_0 S.p), (fa31_1 S.p), (fa31_2 S.p), (fa31_3 S.p), (fa31_4 S.p), (fa31_5 S.p), (fa31_6 S.p), (fa50_0 S.p), (fa50_1 S.p), (fa50_3 S.p), iaddr_sl (un23 S.p) (sz31 S.p), iaddr_ptr (un51 S.p) (sz50 S.p), len_sl (un23 S.p), len_nils (un23 S.p), part_all (ag27 S.p) (sz27 S.p), part_at (ag27 S.p) (sz27 S.p), part_all (ag29 S.p) (sz29 S.p), part_at (ag29 S.p) (sz29 S.p), part_sc (ag3 S.p), part_all (ag31 S.p) (sz31 S.p), part_at (ag31 S.p) (sz31 S.p), part_sc (ag4 S.p), part_all (ag47 S.p) (sz47 S.p), part_at (ag47 S.p) (sz47 S.p), part_sc (ag48 S.p), part_all (ag50 S.p) (sz50 S.p), part_at (ag50 S.p) (sz50 S.p), part_all (ag51 S.p) (sz51 S.p), part_at (ag51 S.p) (sz51 S.p), store_last (sz31 S.p), (sz31 S.p), store_last (sz47 S.p), (sz47 S.p), store_last (sz48 S.p), (sz48 S.p), store_last (sz50 S.p), (sz50 S.p), store_last (sz51 S.p), (sz51 S.p), hcb, hpt, hpy, x0, x1, x2, xop, f32, hpa, hdr, hz, hpV, hpA, c0, c1, c2, c3, st9, st10, splC, set_self, set_other, beqI_t, beqI_f, bneI_t, bneI_f, bne_self_eq_false, beq_self_eq_true, dec_t, dec_f, cells_self, cells_other, cells_set, cells_set_ne, idx_ok, Int.toNat_natCast, Nat.zero_add, Nat.add_zero, wrap_i64]
                have hG := gets (.rw 51 (recs atQ (L.set th (⟨a.cl + 1, true, y.ok, y.oo, y.oa, []⟩, .nils))))
                  (hj.set (h.length + 1 + 1 + 1) (.rw 51 (recs atQ (L.set th (⟨a.cl + 1, true, y.ok, y.oo, y.oa, []⟩, .nils)))) ++ [.rw 31 y.cells] ++ [.rw 50 [.int .i64 (a.cl + 1), .bool true, .int .i64 y.ok, .int .i64 y.oo, .int .i64 y.oa, .nils]])
                  (fun j hj' => by rw [List.getElem?_append_left (by simp; omega), List.getElem?_append_left (by simp; omega)])
                refine hag ⟨i + 1, _, L.set th (⟨a.cl + 1, true, y.ok, y.oo, y.oa, []⟩, .nils), hj.set (h.length + 1 + 1 + 1) (.rw 51 (recs atQ (L.set th (⟨a.cl + 1, true, y.ok, y.oo, y.oa, []⟩, .nils)))) ++ [.rw 31 y.cells] ++ [.rw 50 [.int .i64 (a.cl + 1), .bool true, .int .i64 y.ok, .int .i64 y.oo, .int .i64 y.oa, .nils]]⟩
                  ⟨by simp only; omega, ((hx.set (by omega) _).push _).push _, ⟨hG.1, hG.2.1, hG.2.2.1, hG.2.2.2.1⟩, ⟨I.add h3 hS, Wy, Hh⟩, by simp; omega, hgo _ hS, by simp [hL8],
                    (hTh.other (Nat.le_succ i) hG.2.2.2.2).set hthL hthG (gM.call y.ok y.oo y.oa) (.inl ⟨rfl, rfl⟩) (Nat.zero_le _) (fun b o m s e => by cases e) (fun _ => rfl)⟩ (by simp only; omega) _ ?_
                simp (maxSteps := 1000000) (disch := first | omega | (simp (disch := first | omega | (simp only [EvV.len, MonV.len, ThV.len, EnV.len, refC_len, List.length_append, List.length_cons, List.length_nil, List.length_set]; first | done | omega)) only [EvV.len, MonV.len, ThV.len, EnV.len, refC_len, amSide, Int.reduceToNat, Nat.reducePow, Nat.reduceMul]; first | done | omega)) only [↓amPre, amPost, ↓s_lit', Nat.reduceAdd, Nat.reduceSub, List.replicate, retA, resultsA, resultA, toC, toCL, Nat.reduceEqDiff, Int.natCast_add, Int.cast_ofNat_Int, dec_t, dec_f]
              · rw [decide_eq_false cm] at f33
                have hN : addL G y = none := by rw [hadd, hT, if_pos (.inr (.inr cm))]; rfl
                rw [hstop hN]
                simp (maxSteps := 1000000) (disch := first | omega | (simp (disch := first | omega | (simp only [EvV.len, MonV.len, ThV.len, EnV.len, refC_len, List.length_append, List.length_cons, List.length_nil, List.length_set]; first | done | omega)) only [EvV.len, MonV.len, ThV.len, EnV.len, refC_len, amSide, Int.reduceToNat, Nat.reducePow, Nat.reduceMul]; first | done | omega)) only  [↓amPre, amPost, ↓s_lit', Nat.reduceAdd, Nat.reduceSub, List.replicate, retA, resultsA, resultA, toC, toCL, Nat.reduceEqDiff, f33, he, (ze31 S.p), (ze50 S.p), (ze51 S.p), append_at (un48 S.p) (sz29 S.p) (by29 S.p) (ze29 S.p) (by decide) (by decide) rfl, copy_at (un48 S.p) (sz29 S.p) (by29 S.p) (ze29 S.p) (by decide) (by decide) rfl, sl_cells (sz29 S.p), (bu50 S.p), lit_fill (un48 S.p) (sz29 S.p) (ze29 S.p), (fa31_0 S.p), (fa31_1 S.p), (fa31_2 S.p), (fa31_3 S.p), (fa31_4 S.p), (fa31_5 S.p), (fa31_6 S.p), (fa50_0 S.p), (fa50_1 S.p), (fa50_3 S.p), iaddr_sl (un23 S.p) (sz31 S.p), iaddr_ptr (un51 S.p) (sz50 S.p), len_sl (un23 S.p), len_nils (un23 S.p), part_all (ag27 S.p) (sz27 S.p), part_at (ag27 S.p) (sz27 S.p), part_all (ag29 S.p) (sz29 S.p), part_at (ag29 S.p) (sz29 S.p), part_sc (ag3 S.p), part_all (ag31 S.p) (sz31 S.p), part_at (ag31 S.p) (sz31 S.p), part_sc (ag4 S.p), part_all (ag47 S.p) (sz47 S.p), part_at (ag47 S.p) (sz47 S.p), part_sc (ag48 S.p), part_all (ag50 S.p) (sz50 S.p), part_at (ag50 S.p) (sz50 S.p), part_all (ag51 S.p) (sz51 S.p), part_at (ag51 S.p) (sz51 S.p), store_last (sz31 S.p), (sz31 S.p), store_last (sz47 S.p), (sz47 S.p), store_last (sz48 S.p), (sz48 S.p), store_last (sz50 S.p), (sz50 S.p), store_last (sz51 S.p), (sz51 S.p), hcb, hpt, hpy, x0, x1, x2, xop, f32, hpa, hdr, hz, hpV, hpA, c0, c1, c2, c3, st9, st10, splC, set_self, set_other, beqI_t, beqI_f, bneI_t, bneI_f, bne_self_eq_false, beq_self_eq_true, dec_t, dec_f, cells_self, cells_other, cells_set, cells_set_ne, idx_ok, Int.toNat_natCast, Nat.zero_add, Nat.add_zero, wrap_i64]
                refine Ends.some ⟨_, _, rfl, refC_len _, hLl, ?_⟩
                repeat (first | exact hx | apply Ext1.push | (refine Ext1.set ?_ (by omega) _))
            · rw [hclq] at cn
              have hN : addL G y = none := by rw [hadd, hT, if_pos (.inr (.inl (fun q => cn (by rw [← hclq]; exact q))))]; rfl
              rw [hstop hN]
              simp (maxSteps := 1000000) (disch := first | omega | (simp (disch := first | omega | (simp only [EvV.len, MonV.len, ThV.len, EnV.len, refC_len, List.length_append, List.length_cons, List.length_nil, List.length_set]; first | done | omega)) only [EvV.len, MonV.len, ThV.len, EnV.len, refC_len, amSide, Int.reduceToNat, Nat.reducePow, Nat.reduceMul]; first | done | omega)) only  [↓amPre, amPost, ↓s_lit', Nat.reduceAdd, Nat.reduceSub, List.replicate, retA, resultsA, resultA, toC, toCL, Nat.reduceEqDiff, he, (ze31 S.p), (ze50 S.p), (ze51 S.p), append_at (un48 S.p) (sz29 S.p) (by29 S.p) (ze29 S.p) (by decide) (by decide) rfl, copy_at (un48 S.p) (sz29 S.p) (by29 S.p) (ze29 S.p) (by decide) (by decide) rfl, sl_cells (sz29 S.p), (bu50 S.p), lit_fill (un48 S.p) (sz29 S.p) (ze29 S.p), (fa31_0 S.p), (fa31_1 S.p), (fa31_2 S.p), (fa31_3 S.p), (fa31_4 S.p), (fa31_5 S.p), (fa31_6 S.p), (fa50_0 S.p), (fa50_1 S.p), (fa50_3 S.p), iaddr_sl (un23 S.p) (sz31 S.p), iaddr_ptr (un51 S.p) (sz50 S.p), len_sl (un23 S.p), len_nils (un23 S.p), part_all (ag27 S.p) (sz27 S.p), part_at (ag27 S.p) (sz27 S.p), part_all (ag29 S.p) (sz29 S.p), part_at (ag29 S.p) (sz29 S.p), part_sc (ag3 S.p), part_all (ag31 S.p) (sz31 S.p), part_at (ag31 S.p) (sz31 S.p), part_sc (ag4 S.p), part_all (ag47 S.p) (sz47 S.p), part_at (ag47 S.p) (sz47 S.p), part_sc (ag48 S.p), part_all (ag50 S.p) (sz50 S.p), part_at (ag50 S.p) (sz50 S.p), part_all (ag51 S.p) (sz51 S.p), part_at (ag51 S.p) (sz51 S.p), store_last (sz31 S.p), (sz31 S.p), store_last (sz47 S.p), (sz47 S.p), store_last (sz48 S.p), (sz48 S.p), store_last (sz50 S.p), (sz50 S.p), store_last (sz51 S.p), (sz51 S.p), hcb, hpt, hpy, x0, x1, x2, xop, f32, hpa, hdr, hz, hpV, hpA, c0, c1, c2, c3, st9, st10, splC, set_self, set_other, beqI_t, beqI_f, bneI_t, bneI_f, bne_self_eq_false, beq_self_eq_true, dec_t, dec_f, cells_self, cells_other, cells_set, cells_set_ne, idx_ok, Int.toNat_natCast, Nat.zero_add, Nat.add_zero, wrap_i64]
              refine Ends.some ⟨_, _, rfl, refC_len _, hLl, ?_⟩
              repeat (first | exact hx | apply Ext1.push | (refine Ext1.set ?_ (by omega) _))
        · -- a Commit
          have hT : addT G g y = if takesT g y.ev then (AppV G.V y.ev).map fun W => (W, { g with mn := g.mn + 1, ls := y.ev }) else none := by unfold addT; rw [if_neg (by omega), if_pos k2]
          have f34 := fun lk h => s34 S (show 4 ≤ d by omega) I.I Wy Hh h3 y.ev lk h
          have hpe : partA P 29 y.ev.cells 0 = some (.ag y.ev.cells) := part_all (ag29 S.p) (sz29 S.p) _ y.ev.len
          have gR3 := ((gR.ext ((Ext1.refl hj).push (.rw 31 y.cells))).ext ((Ext1.refl _).push (.rw 50 [.int .i64 a.cl, .bool a.op, .int .i64 a.ok, .int .i64 a.oo, .int .i64 a.oa, qa]))).ext ((Ext1.refl _).push (.rw 47 (refC (nextM G.V y.ev))))
          have f35 := fun lk => s35 S (show 2 ≤ d by omega) gM hbk (by omega) y.ev lk _ gR3
          have hp6 := partA6 S a qa
          unfold atC at f35 hp6
          by_cases ck : takesT g y.ev
          · rw [decide_eq_true ck] at f35
            cases hA : AppV G.V y.ev with
            | none =>
              have hcd : codeM G.V y.ev = 15 := by unfold codeM; rw [hA]; rfl
              have hN : addL G y = none := by rw [hadd, hT, if_pos ck, hA]; rfl
              rw [hstop hN]
              simp only [hcd] at f34
              simp (maxSteps := 1000000) (disch := first | omega | (simp (disch := first | omega | (simp only [EvV.len, MonV.len, ThV.len, EnV.len, refC_len, List.length_append, List.length_cons, List.length_nil, List.length_set]; first | done | omega)) only [EvV.len, MonV.len, ThV.len, EnV.len, refC_len, amSide, Int.reduceToNat, Nat.reducePow, Nat.reduceMul]; first | done | omega)) only  [↓amPre, amPost, ↓s_lit', Nat.reduceAdd, Nat.reduceSub, List.replicate, retA, resultsA, resultA, toC, toCL, Nat.reduceEqDiff, f34, f35, hp6, xvs, hpe, he, (ze31 S.p), (ze50 S.p), (ze51 S.p), append_at (un48 S.p) (sz29 S.p) (by29 S.p) (ze29 S.p) (by decide) (by decide) rfl, copy_at (un48 S.p) (sz29 S.p) (by29 S.p) (ze29 S.p) (by decide) (by decide) rfl, sl_cells (sz29 S.p), (bu50 S.p), lit_fill (un48 S.p) (sz29 S.p) (ze29 S.p), (fa31_0 S.p), (fa31_1 S.p), (fa31_2 S.p), (fa31_3 S.p), (fa31_4 S.p), (fa31_5 S.p), (fa31_6 S.p), (fa50_0 S.p), (fa50_1 S.p), (fa50_3 S.p), iaddr_sl (un23 S.p) (sz31 S.p), iaddr_ptr (un51 S.p) (sz50 S.p), len_sl (un23 S.p), len_nils (un23 S.p), part_all (ag27 S.p) (sz27 S.p), part_at (ag27 S.p) (sz27 S.p), part_all (ag29 S.p) (sz29 S.p), part_at (ag29 S.p) (sz29 S.p), part_sc (ag3 S.p), part_all (ag31 S.p) (sz31 S.p), part_at (ag31 S.p) (sz31 S.p), part_sc (ag4 S.p), part_all (ag47 S.p) (sz47 S.p), part_at (ag47 S.p) (sz47 S.p), part_sc (ag48 S.p), part_all (ag50 S.p) (sz50 S.p), part_at (ag50 S.p) (sz50 S.p), part_all (ag51 S.p) (sz51 S.p), part_at (ag51 S.p) (sz51 S.p), store_last (sz31 S.p), (sz31 S.p), store_last (sz47 S.p), (sz47 S.p), store_last (sz48 S.p), (sz48 S.p), store_last (sz50 S.p), (sz50 S.p), store_last (sz51 S.p), (sz51 S.p), hcb, hpt, hpy, x0, x1, x2, xop, f32, hpa, hdr, hz, hpV, hpA, c0, c1, c2, c3, st9, st10, splC, set_self, set_other, beqI_t, beqI_f, bneI_t, bneI_f, bne_self_eq_false, beq_self_eq_true, dec_t, dec_f, cells_self, cells_other, cells_set, cells_set_ne, idx_ok, Int.toNat_natCast, Nat.zero_add, Nat.add_zero, wrap_i64]
              refine Ends.some ⟨_, _, rfl, refC_len _, hLl, ?_⟩
              repeat (first | exact hx | apply Ext1.push | (refine Ext1.set ?_ (by omega) _))
            | some W =>
              have hcd : codeM G.V y.ev = 0 := by unfold codeM; rw [hA]; rfl
              have hnx : nextM G.V y.ev = W := by unfold nextM; rw [hA]; rfl
              have hS : addL G y = some { G with V := W, ths := G.ths.set th { g with mn := g.mn + 1, ls := y.ev }, ents := G.ents ++ [y] } := by rw [hadd, hT, if_pos ck, hA]; rfl
              simp only [hcd, hnx] at f34
              rw [hnx] at f35
              have ho : g.op = true := by
                unfold takesT at ck
                split at ck
                · exact ck.elim
                · rename_i hn; cases q : g.op
                  · exact absurd (.inl q) hn
                  · rfl
              have hao : a.op = true := hop.symm.trans ho
              rw [hao] at hpa hdr hp6 f35
              have st11 : storeA P hj lk 47 (.v (.sc (.ptr (h.length + 1 + 1) 0))) (.v (.ag (refC W))) = some (hj.set (h.length + 1 + 1) (.rw 47 (refC W))) := by
                rw [store_at (n := 227) (c := .ag (refC W)) g2 (by omega) (sz47 S.p) (refC_len _) (by rw [refC_len]; omega)]
                show some (hj.set (h.length + 1 + 1) (AO.rw 47 (splice (refC G.V) 0 (refC W)))) = _
                rw [splC]
              obtain ⟨Hb, hHb⟩ : ∃ Hb, Hb = hj.set (h.length + 1 + 1) (.rw 47 (refC W)) ++ [.rw 31 y.cells] ++ [.rw 50 [.int .i64 a.cl, .bool true, .int .i64 a.ok, .int .i64 a.oo, .int .i64 a.oa, qa]] ++ [.rw 47 (refC W)] := ⟨_, rfl⟩
              have hHbl : Hb.length = hj.length + 3 := by rw [hHb]; simp
              have hxHb : Ext1 h Hb := by rw [hHb]; exact (((hx.set (by omega) _).push _).push _).push _
              have hb15 : Hb[hj.length]? = some (.rw 31 y.cells) := by rw [hHb, obj_other _ _ (by simp), obj_other _ _ (by simp), obj_self _ _ (by simp)]
              have hb16 : Hb[hj.length + 1]? = some (.rw 50 [.int .i64 a.cl, .bool true, .int .i64 a.ok, .int .i64 a.oo, .int .i64 a.oa, qa]) := by rw [hHb, obj_other _ _ (by simp), obj_self _ _ (by simp)]
              have hbj : ∀ j, j < hj.length → Hb[j]? = (hj.set (h.length + 1 + 1) (.rw 47 (refC W)))[j]? := fun j hj' => by rw [hHb, obj_other _ _ (by simp; omega), obj_other _ _ (by simp; omega), obj_other _ _ (by simp; omega)]
              have hb13 : Hb[h.length + 1 + 1 + 1]? = some (.rw 51 (recs atQ L)) := by rw [hbj _ l3, List.getElem?_set_ne (by omega)]; exact g3
              have hvl : y.ev.cells.length = 5 := y.ev.len
              have htk5 : List.take 5 y.ev.cells = y.ev.cells := List.take_of_length_le (by omega)
              by_cases hL : a.L = []
              · have hqa := gz hL
                have O : Own 29 5 (hj.length + 3) (Hb ++ [.dead] ++ [.rw 29 y.ev.cells]) .nils [] := Own.nil _ _ _ _
                obtain ⟨q2, h5, happ, hown, hl5, hlow, hx5, hq2, _⟩ := grow_own (b := 40) (lk := lk) O y.ev.cells (by omega) (by rw [EvV.len]; omega) (by rw [EvV.len]) (by omega) (by simp; omega) (by rw [EvV.len, List.length_nil]; omega)
                have hX5 : Ext1 Hb h5 := hx5 Hb (((Ext1.refl Hb).push _).push _) (by omega)
                have R5 : Rs EvV.cells 5 h5 q2 (a.L ++ [y.ev]) := by
                  have := Own.rs (l := a.L ++ [y.ev]) (by omega) EvV.len (by rw [recs_app]; simpa [recs, hL] using hown)
                  exact this
                have hl5' : hj.length + 5 ≤ h5.length := by rw [hl5]; simp [hHbl]
                have k16 : h5[hj.length + 1]? = some (.rw 50 [.int .i64 a.cl, .bool true, .int .i64 a.ok, .int .i64 a.oo, .int .i64 a.oa, qa]) := ext1_get hX5 hb16
                have st48 : storeA P h5 lk 48 (.v (.sc (.ptr (hj.length + 1) 5))) (.v (.sc q2)) = some (h5.set (hj.length + 1) (.rw 50 [.int .i64 a.cl, .bool true, .int .i64 a.ok, .int .i64 a.oo, .int .i64 a.oa, q2])) := by
                  rw [store_at k16 (by omega) (sz48 S.p) (c := .sc q2) rfl (by simp)]; rfl
                have k15 : cellsAt (h5.set (hj.length + 1) (.rw 50 [.int .i64 a.cl, .bool true, .int .i64 a.ok, .int .i64 a.oo, .int .i64 a.oa, q2])) hj.length = some y.cells := by
                  rw [cells_set_ne _ _ _ (by omega)]; exact cells_at (ext1_get hX5 hb15)
                have k16b : cellsAt (h5.set (hj.length + 1) (.rw 50 [.int .i64 a.cl, .bool true, .int .i64 a.ok, .int .i64 a.oo, .int .i64 a.oa, q2])) (hj.length + 1) = some [.int .i64 a.cl, .bool true, .int .i64 a.ok, .int .i64 a.oo, .int .i64 a.oa, q2] := cells_set _ _ _ (by omega)
                have k13 : (h5.set (hj.length + 1) (.rw 50 [.int .i64 a.cl, .bool true, .int .i64 a.ok, .int .i64 a.oo, .int .i64 a.oa, q2]))[h.length + 1 + 1 + 1]? = some (.rw 51 (recs atQ L)) := by
                  rw [List.getElem?_set_ne (by omega)]; exact ext1_get hX5 hb13
                have st50 : storeA P (h5.set (hj.length + 1) (.rw 50 [.int .i64 a.cl, .bool true, .int .i64 a.ok, .int .i64 a.oo, .int .i64 a.oa, q2])) lk 50 (.v (.sc (.ptr (h.length + 1 + 1 + 1) (th * 6)))) (.v (.ag [.int .i64 a.cl, .bool true, .int .i64 a.ok, .int .i64 a.oo, .int .i64 a.oa, q2])) = some ((h5.set (hj.length + 1) (.rw 50 [.int .i64 a.cl, .bool true, .int .i64 a.ok, .int .i64 a.oo, .int .i64 a.oa, q2])).set (h.length + 1 + 1 + 1) (.rw 51 (recs atQ (L.set th ({ a with op := true, L := a.L ++ [y.ev] }, q2))))) := by
                  rw [store_at k13 (by omega) (sz50 S.p) (c := .ag [.int .i64 a.cl, .bool true, .int .i64 a.ok, .int .i64 a.oo, .int .i64 a.oa, q2]) rfl (by omega)]
                  rw [show splice (recs atQ L) (th * 6) (CV.ag [.int .i64 a.cl, .bool true, .int .i64 a.ok, .int .i64 a.oo, .int .i64 a.oa, q2]).cells = recs atQ (L.set th ({ a with op := true, L := a.L ++ [y.ev] }, q2)) from recs_set atQ_len hthL ({ a with op := true, L := a.L ++ [y.ev] }, q2)]
                have hp8 := partA6 S { a with op := true, L := a.L ++ [y.ev] } q2
                unfold atC at hp8
                have hG : ∀ j, j < hj.length → ((h5.set (hj.length + 1) (.rw 50 [.int .i64 a.cl, .bool true, .int .i64 a.ok, .int .i64 a.oo, .int .i64 a.oa, q2])).set (h.length + 1 + 1 + 1) (.rw 51 (recs atQ (L.set th ({ a with op := true, L := a.L ++ [y.ev] }, q2)))))[j]? = ((hj.set (h.length + 1 + 1) (.rw 47 (refC W))).set (h.length + 1 + 1 + 1) (.rw 51 (recs atQ (L.set th ({ a with op := true, L := a.L ++ [y.ev] }, q2)))))[j]? := fun j hj' => by
                  by_cases e : j = h.length + 1 + 1 + 1
                  · subst e
                    rw [List.getElem?_set_self (by rw [List.length_set]; omega), List.getElem?_set_self (by rw [List.length_set]; omega)]
                  · rw [List.getElem?_set_ne (Ne.symm e), List.getElem?_set_ne (Ne.symm e), List.getElem?_set_ne (by omega), hX5.get (by omega)]
                    exact hbj j hj'
                rw [hHb] at happ
                simp only [hqa] at hpa hdr hp6 f35 happ
                simp (maxSteps := 1000000) (disch := first | omega | (simp (disch := first | omega | (simp only [EvV.len, MonV.len, ThV.len, EnV.len, refC_len, List.length_append, List.length_cons, List.length_nil, List.length_set]; first | done | omega)) only [EvV.len, MonV.len, ThV.len, EnV.len, refC_len, amSide, Int.reduceToNat, Nat.reducePow, Nat.reduceMul]; first | done | omega)) only  [↓amPre, amPost, ↓s_lit', Nat.reduceAdd, Nat.reduceSub, List.replicate, retA, resultsA, resultA, toC, toCL, Nat.reduceEqDiff, f34, f35, hp6, hp8, xvs, hpe, hvl, st11, happ, st48, k15, k16b, st50, obj_self, obj_other, htk5, List.length_set, List.flatten_cons, List.flatten_nil, List.append_nil, Nat.zero_mul, Nat.one_mul, he, (ze31 S.p), (ze50 S.p), (ze51 S.p), append_at (un48 S.p) (sz29 S.p) (by29 S.p) (ze29 S.p) (by decide) (by decide) rfl, copy_at (un48 S.p) (sz29 S.p) (by29 S.p) (ze29 S.p) (by decide) (by decide) rfl, sl_cells (sz29 S.p), (bu50 S.p), lit_fill (un48 S.p) (sz29 S.p) (ze29 S.p), (fa31_0 S.p), (fa31_1 S.p), (fa31_2 S.p), (fa31_3 S.p), (fa31_4 S.p), (fa31_5 S.p), (fa31_6 S.p), (fa50_0 S.p), (fa50_1 S.p), (fa50_3 S.p), iaddr_sl (un23 S.p) (sz31 S.p), iaddr_ptr (un51 S.p) (sz50 S.p), len_sl (un23 S.p), len_nils (un23 S.p), part_all (ag27 S.p) (sz27 S.p), part_at (ag27 S.p) (sz27 S.p), part_all (ag29 S.p) (sz29 S.p), part_at (ag29 S.p) (sz29 S.p), part_sc (ag3 S.p), part_all (ag31 S.p) (sz31 S.p), part_at (ag31 S.p) (sz31 S.p), part_sc (ag4 S.p), part_all (ag47 S.p) (sz47 S.p), part_at (ag47 S.p) (sz47 S.p), part_sc (ag48 S.p), part_all (ag50 S.p) (sz50 S.p), part_at (ag50 S.p) (sz50 S.p), part_all (ag51 S.p) (sz51 S.p), part_at (ag51 S.p) (sz51 S.p), store_last (sz31 S.p), (sz31 S.p), store_last (sz47 S.p), (sz47 S.p), store_last (sz48 S.p), (sz48 S.p), store_last (sz50 S.p), (sz50 S.p), store_last (sz51 S.p), (sz51 S.p), hcb, hpt, hpy, x0, x1, x2, xop, f32, hpa, hdr, hz, hpV, hpA, c0, c1, c2, c3, st9, st10, splC, set_self, set_other, beqI_t, beqI_f, bneI_t, bneI_f, bne_self_eq_false, beq_self_eq_true, dec_t, dec_f, cells_self, cells_other, cells_set, cells_set_ne, idx_ok, Int.toNat_natCast, Nat.zero_add, Nat.add_zero, wrap_i64]
                refine hag ⟨i + 1, _, L.set th ({ a with op := true, L := a.L ++ [y.ev] }, q2), (h5.set (hj.length + 1) (.rw 50 [.int .i64 a.cl, .bool true, .int .i64 a.ok, .int .i64 a.oo, .int .i64 a.oa, q2])).set (h.length + 1 + 1 + 1) (.rw 51 (recs atQ (L.set th ({ a with op := true, L := a.L ++ [y.ev] }, q2))))⟩
                  ⟨by simp only; omega, ?_, ⟨?_, ?_, ?_, ?_⟩, ⟨I.add h3 hS, by have := Wy.next y.ev; rw [hnx] at this; exact this, by have := Hh.next y.ev; rw [hnx] at this; exact this⟩, by simp; omega, hgo _ hS, by simp [hL8], ?_⟩ (by simp only; omega) _ ?_
                · exact ((hxHb.trans hX5).set (by omega) _).set (by omega) _
                · simp only; rw [hG _ (by omega), List.getElem?_set_ne (by omega), List.getElem?_set_ne (by omega)]; exact g0
                · simp only; rw [hG _ (by omega), List.getElem?_set_ne (by omega), List.getElem?_set_ne (by omega)]; exact g1
                · simp only; rw [hG _ (by omega), List.getElem?_set_ne (by omega), List.getElem?_set_self (by omega)]
                · simp only; rw [hG _ l3, List.getElem?_set_self (by rw [List.length_set]; exact l3)]
                · refine (hTh.other (Nat.le_succ i) fun b hb1 hb2 => ?_).set hthL hthG ?_ (R5.other fun b o n s' e hb => ?_) ?_ ?_ ?_
                  · rw [hG _ hb2, List.getElem?_set_ne (by omega), List.getElem?_set_ne (by omega)]
                  · exact { gM.more ck with op := by show g.op = true; exact ho }
                  · have hb9 : hj.length + 2 ≤ b := by rw [hq2] at e; simp only [SV.sl.injEq] at e; rw [← e.1]; simp [hHbl]
                    rw [List.getElem?_set_ne (by omega), List.getElem?_set_ne (by omega)]
                  · simp only [List.length_append, List.length_cons, List.length_nil]; omega
                  · intro b o m s e
                    rw [hq2] at e; simp only [SV.sl.injEq] at e
                    rw [← e.1]; simp [hHbl]; omega
                  · intro e; simp at e
                · simp (maxSteps := 1000000) (disch := first | omega | (simp (disch := first | omega | (simp only [EvV.len, MonV.len, ThV.len, EnV.len, refC_len, List.length_append, List.length_cons, List.length_nil, List.length_set]; first | done | omega)) only [EvV.len, MonV.len, ThV.len, EnV.len, refC_len, amSide, Int.reduceToNat, Nat.reducePow, Nat.reduceMul]; first | done | omega)) only [↓amPre, amPost, ↓s_lit', Nat.reduceAdd, Nat.reduceSub, List.replicate, retA, resultsA, resultA, toC, toCL, Nat.reduceEqDiff, Int.natCast_add, Int.cast_ofNat_Int, dec_t, dec_f]
              · have hpos : 0 < a.L.length := by cases hL' : a.L with | nil => exact absurd hL' hL | cons _ _ => simp
                have hrl : (recs EvV.cells a.L).length = a.L.length * 5 := recs_len EvV.len a.L
                have hrd : (recs EvV.cells a.L).length / 5 = a.L.length := by omega
                obtain ⟨b', hqa, hb'1, hb'2⟩ := gR.at hpos
                have hb'3 := gb b' _ _ _ hqa
                have hsc : cellsB (some (recs EvV.cells a.L)) 0 (a.L.length * 5) = some (recs EvV.cells a.L) := by rw [cellsB_some _ _ _ (by omega), List.drop_zero, ← hrl, List.take_length]
                have O : Own 29 5 (hj.length + 3) (Hb ++ [.rw 29 (recs EvV.cells a.L)] ++ [.rw 29 y.ev.cells]) (.sl (hj.length + 3) 0 ((recs EvV.cells a.L).length / 5) 5) (recs EvV.cells a.L) := .inr ⟨hj.length + 3, Nat.le_refl _, by simp [hHbl], rfl, by rw [obj_other _ _ (by simp [hHbl]), obj_self _ _ hHbl.symm], by omega⟩
                obtain ⟨q2, h5, happ, hown, hl5, hlow, hx5, hq2, _⟩ := grow_own (b := 40) (lk := lk) O y.ev.cells (by omega) (by rw [EvV.len]; omega) (by rw [EvV.len]) (by omega) (by simp; omega) (by rw [EvV.len, hrl]; omega)
                have hX5 : Ext1 Hb h5 := hx5 Hb (((Ext1.refl Hb).push _).push _) (by omega)
                have R5 : Rs EvV.cells 5 h5 q2 (a.L ++ [y.ev]) := by
                  have := Own.rs (l := a.L ++ [y.ev]) (by omega) EvV.len (by rw [recs_app]; simpa [recs] using hown)
                  exact this
                have hl5' : hj.length + 5 ≤ h5.length := by rw [hl5]; simp [hHbl]
                have k16 : h5[hj.length + 1]? = some (.rw 50 [.int .i64 a.cl, .bool true, .int .i64 a.ok, .int .i64 a.oo, .int .i64 a.oa, qa]) := ext1_get hX5 hb16
                have st48 : storeA P h5 lk 48 (.v (.sc (.ptr (hj.length + 1) 5))) (.v (.sc q2)) = some (h5.set (hj.length + 1) (.rw 50 [.int .i64 a.cl, .bool true, .int .i64 a.ok, .int .i64 a.oo, .int .i64 a.oa, q2])) := by
                  rw [store_at k16 (by omega) (sz48 S.p) (c := .sc q2) rfl (by simp)]; rfl
                have k15 : cellsAt (h5.set (hj.length + 1) (.rw 50 [.int .i64 a.cl, .bool true, .int .i64 a.ok, .int .i64 a.oo, .int .i64 a.oa, q2])) hj.length = some y.cells := by
                  rw [cells_set_ne _ _ _ (by omega)]; exact cells_at (ext1_get hX5 hb15)
                have k16b : cellsAt (h5.set (hj.length + 1) (.rw 50 [.int .i64 a.cl, .bool true, .int .i64 a.ok, .int .i64 a.oo, .int .i64 a.oa, q2])) (hj.length + 1) = some [.int .i64 a.cl, .bool true, .int .i64 a.ok, .int .i64 a.oo, .int .i64 a.oa, q2] := cells_set _ _ _ (by omega)
                have k13 : (h5.set (hj.length + 1) (.rw 50 [.int .i64 a.cl, .bool true, .int .i64 a.ok, .int .i64 a.oo, .int .i64 a.oa, q2]))[h.length + 1 + 1 + 1]? = some (.rw 51 (recs atQ L)) := by
                  rw [List.getElem?_set_ne (by omega)]; exact ext1_get hX5 hb13
                have st50 : storeA P (h5.set (hj.length + 1) (.rw 50 [.int .i64 a.cl, .bool true, .int .i64 a.ok, .int .i64 a.oo, .int .i64 a.oa, q2])) lk 50 (.v (.sc (.ptr (h.length + 1 + 1 + 1) (th * 6)))) (.v (.ag [.int .i64 a.cl, .bool true, .int .i64 a.ok, .int .i64 a.oo, .int .i64 a.oa, q2])) = some ((h5.set (hj.length + 1) (.rw 50 [.int .i64 a.cl, .bool true, .int .i64 a.ok, .int .i64 a.oo, .int .i64 a.oa, q2])).set (h.length + 1 + 1 + 1) (.rw 51 (recs atQ (L.set th ({ a with op := true, L := a.L ++ [y.ev] }, q2))))) := by
                  rw [store_at k13 (by omega) (sz50 S.p) (c := .ag [.int .i64 a.cl, .bool true, .int .i64 a.ok, .int .i64 a.oo, .int .i64 a.oa, q2]) rfl (by omega)]
                  rw [show splice (recs atQ L) (th * 6) (CV.ag [.int .i64 a.cl, .bool true, .int .i64 a.ok, .int .i64 a.oo, .int .i64 a.oa, q2]).cells = recs atQ (L.set th ({ a with op := true, L := a.L ++ [y.ev] }, q2)) from recs_set atQ_len hthL ({ a with op := true, L := a.L ++ [y.ev] }, q2)]
                have hp8 := partA6 S { a with op := true, L := a.L ++ [y.ev] } q2
                unfold atC at hp8
                have hG : ∀ j, j < hj.length → ((h5.set (hj.length + 1) (.rw 50 [.int .i64 a.cl, .bool true, .int .i64 a.ok, .int .i64 a.oo, .int .i64 a.oa, q2])).set (h.length + 1 + 1 + 1) (.rw 51 (recs atQ (L.set th ({ a with op := true, L := a.L ++ [y.ev] }, q2)))))[j]? = ((hj.set (h.length + 1 + 1) (.rw 47 (refC W))).set (h.length + 1 + 1 + 1) (.rw 51 (recs atQ (L.set th ({ a with op := true, L := a.L ++ [y.ev] }, q2)))))[j]? := fun j hj' => by
                  by_cases e : j = h.length + 1 + 1 + 1
                  · subst e
                    rw [List.getElem?_set_self (by rw [List.length_set]; omega), List.getElem?_set_self (by rw [List.length_set]; omega)]
                  · rw [List.getElem?_set_ne (Ne.symm e), List.getElem?_set_ne (Ne.symm e), List.getElem?_set_ne (by omega), hX5.get (by omega)]
                    exact hbj j hj'
                rw [hHb] at happ
                simp only [hqa] at hpa hdr hp6 f35 happ
                simp (maxSteps := 1000000) (disch := first | omega | (simp (disch := first | omega | (simp only [EvV.len, MonV.len, ThV.len, EnV.len, refC_len, List.length_append, List.length_cons, List.length_nil, List.length_set]; first | done | omega)) only [EvV.len, MonV.len, ThV.len, EnV.len, refC_len, amSide, Int.reduceToNat, Nat.reducePow, Nat.reduceMul]; first | done | omega)) only  [↓amPre, amPost, ↓s_lit', Nat.reduceAdd, Nat.reduceSub, List.replicate, retA, resultsA, resultA, toC, toCL, Nat.reduceEqDiff, f34, f35, hp6, hp8, xvs, hpe, hvl, hb'2, hsc, st11, happ, st48, k15, k16b, st50, obj_self, obj_other, htk5, List.length_set, List.flatten_cons, List.flatten_nil, List.append_nil, Nat.zero_mul, Nat.one_mul, he, (ze31 S.p), (ze50 S.p), (ze51 S.p), append_at (un48 S.p) (sz29 S.p) (by29 S.p) (ze29 S.p) (by decide) (by decide) rfl, copy_at (un48 S.p) (sz29 S.p) (by29 S.p) (ze29 S.p) (by decide) (by decide) rfl, sl_cells (sz29 S.p), (bu50 S.p), lit_fill (un48 S.p) (sz29 S.p) (ze29 S.p), (fa31_0 S.p), (fa31_1 S.p), (fa31_2 S.p), (fa31_3 S.p), (fa31_4 S.p), (fa31_5 S.p), (fa31_6 S.p), (fa50_0 S.p), (fa50_1 S.p), (fa50_3 S.p), iaddr_sl (un23 S.p) (sz31 S.p), iaddr_ptr (un51 S.p) (sz50 S.p), len_sl (un23 S.p), len_nils (un23 S.p), part_all (ag27 S.p) (sz27 S.p), part_at (ag27 S.p) (sz27 S.p), part_all (ag29 S.p) (sz29 S.p), part_at (ag29 S.p) (sz29 S.p), part_sc (ag3 S.p), part_all (ag31 S.p) (sz31 S.p), part_at (ag31 S.p) (sz31 S.p), part_sc (ag4 S.p), part_all (ag47 S.p) (sz47 S.p), part_at (ag47 S.p) (sz47 S.p), part_sc (ag48 S.p), part_all (ag50 S.p) (sz50 S.p), part_at (ag50 S.p) (sz50 S.p), part_all (ag51 S.p) (sz51 S.p), part_at (ag51 S.p) (sz51 S.p), store_last (sz31 S.p), (sz31 S.p), store_last (sz47 S.p), (sz47 S.p), store_last (sz48 S.p), (sz48 S.p), store_last (sz50 S.p), (sz50 S.p), store_last (sz51 S.p), (sz51 S.p), hcb, hpt, hpy, x0, x1, x2, xop, f32, hpa, hdr, hz, hpV, hpA, c0, c1, c2, c3, st9, st10, splC, set_self, set_other, beqI_t, beqI_f, bneI_t, bneI_f, bne_self_eq_false, beq_self_eq_true, dec_t, dec_f, cells_self, cells_other, cells_set, cells_set_ne, idx_ok, Int.toNat_natCast, Nat.zero_add, Nat.add_zero, wrap_i64]
                refine hag ⟨i + 1, _, L.set th ({ a with op := true, L := a.L ++ [y.ev] }, q2), (h5.set (hj.length + 1) (.rw 50 [.int .i64 a.cl, .bool true, .int .i64 a.ok, .int .i64 a.oo, .int .i64 a.oa, q2])).set (h.length + 1 + 1 + 1) (.rw 51 (recs atQ (L.set th ({ a with op := true, L := a.L ++ [y.ev] }, q2))))⟩
                  ⟨by simp only; omega, ?_, ⟨?_, ?_, ?_, ?_⟩, ⟨I.add h3 hS, by have := Wy.next y.ev; rw [hnx] at this; exact this, by have := Hh.next y.ev; rw [hnx] at this; exact this⟩, by simp; omega, hgo _ hS, by simp [hL8], ?_⟩ (by simp only; omega) _ ?_
                · exact ((hxHb.trans hX5).set (by omega) _).set (by omega) _
                · simp only; rw [hG _ (by omega), List.getElem?_set_ne (by omega), List.getElem?_set_ne (by omega)]; exact g0
                · simp only; rw [hG _ (by omega), List.getElem?_set_ne (by omega), List.getElem?_set_ne (by omega)]; exact g1
                · simp only; rw [hG _ (by omega), List.getElem?_set_ne (by omega), List.getElem?_set_self (by omega)]
                · simp only; rw [hG _ l3, List.getElem?_set_self (by rw [List.length_set]; exact l3)]
                · refine (hTh.other (Nat.le_succ i) fun b hb1 hb2 => ?_).set hthL hthG ?_ (R5.other fun b o n s' e hb => ?_) ?_ ?_ ?_
                  · rw [hG _ hb2, List.getElem?_set_ne (by omega), List.getElem?_set_ne (by omega)]
                  · exact { gM.more ck with op := by show g.op = true; exact ho }
                  · have hb9 : hj.length + 2 ≤ b := by rw [hq2] at e; simp only [SV.sl.injEq] at e; rw [← e.1]; simp [hHbl]
                    rw [List.getElem?_set_ne (by omega), List.getElem?_set_ne (by omega)]
                  · simp only [List.length_append, List.length_cons, List.length_nil]; omega
                  · intro b o m s e
                    rw [hq2] at e; simp only [SV.sl.injEq] at e
                    rw [← e.1]; simp [hHbl]; omega
                  · intro e; simp at e
                · simp (maxSteps := 1000000) (disch := first | omega | (simp (disch := first | omega | (simp only [EvV.len, MonV.len, ThV.len, EnV.len, refC_len, List.length_append, List.length_cons, List.length_nil, List.length_set]; first | done | omega)) only [EvV.len, MonV.len, ThV.len, EnV.len, refC_len, amSide, Int.reduceToNat, Nat.reducePow, Nat.reduceMul]; first | done | omega)) only [↓amPre, amPost, ↓s_lit', Nat.reduceAdd, Nat.reduceSub, List.replicate, retA, resultsA, resultA, toC, toCL, Nat.reduceEqDiff, Int.natCast_add, Int.cast_ofNat_Int, dec_t, dec_f]
          · rw [decide_eq_false ck] at f35
            have hN : addL G y = none := by rw [hadd, hT, if_neg ck]; rfl
            rw [hstop hN]
            simp (maxSteps := 1000000) (disch := first | omega | (simp (disch := first | omega | (simp only [EvV.len, MonV.len, ThV.len, EnV.len, refC_len, List.length_append, List.length_cons, List.length_nil, List.length_set]; first | done | omega)) only [EvV.len, MonV.len, ThV.len, EnV.len, refC_len, amSide, Int.reduceToNat, Nat.reducePow, Nat.reduceMul]; first | done | omega)) only  [↓amPre, amPost, ↓s_lit', Nat.reduceAdd, Nat.reduceSub, List.replicate, retA, resultsA, resultA, toC, toCL, Nat.reduceEqDiff, f34, f35, hp6, xvs, hpe, he, (ze31 S.p), (ze50 S.p), (ze51 S.p), append_at (un48 S.p) (sz29 S.p) (by29 S.p) (ze29 S.p) (by decide) (by decide) rfl, copy_at (un48 S.p) (sz29 S.p) (by29 S.p) (ze29 S.p) (by decide) (by decide) rfl, sl_cells (sz29 S.p), (bu50 S.p), lit_fill (un48 S.p) (sz29 S.p) (ze29 S.p), (fa31_0 S.p), (fa31_1 S.p), (fa31_2 S.p), (fa31_3 S.p), (fa31_4 S.p), (fa31_5 S.p), (fa31_6 S.p), (fa50_0 S.p), (fa50_1 S.p), (fa50_3 S.p), iaddr_sl (un23 S.p) (sz31 S.p), iaddr_ptr (un51 S.p) (sz50 S.p), len_sl (un23 S.p), len_nils (un23 S.p), part_all (ag27 S.p) (sz27 S.p), part_at (ag27 S.p) (sz27 S.p), part_all (ag29 S.p) (sz29 S.p), part_at (ag29 S.p) (sz29 S.p), part_sc (ag3 S.p), part_all (ag31 S.p) (sz31 S.p), part_at (ag31 S.p) (sz31 S.p), part_sc (ag4 S.p), part_all (ag47 S.p) (sz47 S.p), part_at (ag47 S.p) (sz47 S.p), part_sc (ag48 S.p), part_all (ag50 S.p) (sz50 S.p), part_at (ag50 S.p) (sz50 S.p), part_all (ag51 S.p) (sz51 S.p), part_at (ag51 S.p) (sz51 S.p), store_last (sz31 S.p), (sz31 S.p), store_last (sz47 S.p), (sz47 S.p), store_last (sz48 S.p), (sz48 S.p), store_last (sz50 S.p), (sz50 S.p), store_last (sz51 S.p), (sz51 S.p), hcb, hpt, hpy, x0, x1, x2, xop, f32, hpa, hdr, hz, hpV, hpA, c0, c1, c2, c3, st9, st10, splC, set_self, set_other, beqI_t, beqI_f, bneI_t, bneI_f, bne_self_eq_false, beq_self_eq_true, dec_t, dec_f, cells_self, cells_other, cells_set, cells_set_ne, idx_ok, Int.toNat_natCast, Nat.zero_add, Nat.add_zero, wrap_i64]
            refine Ends.some ⟨_, _, rfl, refC_len _, hLl, ?_⟩
            repeat (first | exact hx | apply Ext1.push | (refine Ext1.set ?_ (by omega) _))
        · -- a Return
          have hT : addT G g y = if doneT g ∧ y.nm = g.cl - 1 ∧ y.vl = numT g ∧ y.er = g.ls.e then some (G.V, { noTh with cl := g.cl }) else none := by unfold addT; rw [if_neg (by omega), if_neg (by omega)]
          have gR2 := (gR.ext ((Ext1.refl hj).push (.rw 31 y.cells))).ext ((Ext1.refl _).push (.rw 50 [.int .i64 a.cl, .bool a.op, .int .i64 a.ok, .int .i64 a.oo, .int .i64 a.oa, qa]))
          have hp6 := partA6 S a qa
          by_cases cd : g.op = false ∨ g.mn = 0
          · have f36 := fun lk => s36n S (show 2 ≤ d by omega) gM cd lk _ gR2
            have hN : addL G y = none := by
              rw [hadd, hT, if_neg]; · rfl
              intro q
              rcases cd with cd | cd
              · rw [q.1.1] at cd; cases cd
              · exact q.1.2.1 cd
            rw [hstop hN]
            unfold atC at f36 hp6
            simp (maxSteps := 1000000) (disch := first | omega | (simp (disch := first | omega | (simp only [EvV.len, MonV.len, ThV.len, EnV.len, refC_len, List.length_append, List.length_cons, List.length_nil, List.length_set]; first | done | omega)) only [EvV.len, MonV.len, ThV.len, EnV.len, refC_len, amSide, Int.reduceToNat, Nat.reducePow, Nat.reduceMul]; first | done | omega)) only  [↓amPre, amPost, ↓s_lit', Nat.reduceAdd, Nat.reduceSub, List.replicate, retA, resultsA, resultA, toC, toCL, Nat.reduceEqDiff, f36, hp6, x11, x12, he, (ze31 S.p), (ze50 S.p), (ze51 S.p), append_at (un48 S.p) (sz29 S.p) (by29 S.p) (ze29 S.p) (by decide) (by decide) rfl, copy_at (un48 S.p) (sz29 S.p) (by29 S.p) (ze29 S.p) (by decide) (by decide) rfl, sl_cells (sz29 S.p), (bu50 S.p), lit_fill (un48 S.p) (sz29 S.p) (ze29 S.p), (fa31_0 S.p), (fa31_1 S.p), (fa31_2 S.p), (fa31_3 S.p), (fa31_4 S.p), (fa31_5 S.p), (fa31_6 S.p), (fa50_0 S.p), (fa50_1 S.p), (fa50_3 S.p), iaddr_sl (un23 S.p) (sz31 S.p), iaddr_ptr (un51 S.p) (sz50 S.p), len_sl (un23 S.p), len_nils (un23 S.p), part_all (ag27 S.p) (sz27 S.p), part_at (ag27 S.p) (sz27 S.p), part_all (ag29 S.p) (sz29 S.p), part_at (ag29 S.p) (sz29 S.p), part_sc (ag3 S.p), part_all (ag31 S.p) (sz31 S.p), part_at (ag31 S.p) (sz31 S.p), part_sc (ag4 S.p), part_all (ag47 S.p) (sz47 S.p), part_at (ag47 S.p) (sz47 S.p), part_sc (ag48 S.p), part_all (ag50 S.p) (sz50 S.p), part_at (ag50 S.p) (sz50 S.p), part_all (ag51 S.p) (sz51 S.p), part_at (ag51 S.p) (sz51 S.p), store_last (sz31 S.p), (sz31 S.p), store_last (sz47 S.p), (sz47 S.p), store_last (sz48 S.p), (sz48 S.p), store_last (sz50 S.p), (sz50 S.p), store_last (sz51 S.p), (sz51 S.p), hcb, hpt, hpy, x0, x1, x2, xop, f32, hpa, hdr, hz, hpV, hpA, c0, c1, c2, c3, st9, st10, splC, set_self, set_other, beqI_t, beqI_f, bneI_t, bneI_f, bne_self_eq_false, beq_self_eq_true, dec_t, dec_f, cells_self, cells_other, cells_set, cells_set_ne, idx_ok, Int.toNat_natCast, Nat.zero_add, Nat.add_zero, wrap_i64]
            refine Ends.some ⟨_, _, rfl, refC_len _, hLl, ?_⟩
            repeat (first | exact hx | apply Ext1.push | (refine Ext1.set ?_ (by omega) _))
          · have ho : g.op = true := by cases q : g.op; exact absurd (.inl q) cd; rfl
            have f36 := fun lk => s36 S (show 2 ≤ d by omega) gM ho (fun q => cd (.inr q)) (by omega) lk _ gR2
            have hbb : -9223372036854775808 ≤ a.cl - 1 ∧ a.cl - 1 ≤ 9223372036854775807 := by omega
            unfold atC at f36 hp6
            by_cases q1 : doneT g
            · rw [decide_eq_true q1] at f36
              by_cases q2 : y.nm = g.cl - 1
              · by_cases q3 : y.vl = numT g
                · by_cases q4 : y.er = g.ls.e
                  · have hS : addL G y = some { G with ths := G.ths.set th { noTh with cl := g.cl }, ents := G.ents ++ [y] } := by rw [hadd, hT, if_pos ⟨q1, q2, q3, q4⟩]; rfl
                    rw [hclq] at q2
                    have st := stq ⟨a.cl, false, 0, 0, 0, []⟩ .nils
                    have hp7 := partA6 S ⟨a.cl, false, 0, 0, 0, []⟩ .nils
                    unfold atC at st hp7
                    simp (maxSteps := 1000000) (disch := first | omega | (simp (disch := first | omega | (simp only [EvV.len, MonV.len, ThV.len, EnV.len, refC_len, List.length_append, List.length_cons, List.length_nil, List.length_set]; first | done | omega)) only [EvV.len, MonV.len, ThV.len, EnV.len, refC_len, amSide, Int.reduceToNat, Nat.reducePow, Nat.reduceMul]; first | done | omega)) only  [↓amPre, amPost, ↓s_lit', Nat.reduceAdd, Nat.reduceSub, List.replicate, retA, resultsA, resultA, toC, toCL, Nat.reduceEqDiff, f36, hp6, hp7, st, x11, x12, splice_one, he, (ze31 S.p), (ze50 S.p), (ze51 S.p), append_at (un48 S.p) (sz29 S.p) (by29 S.p) (ze29 S.p) (by decide) (by decide) rfl, copy_at (un48 S.p) (sz29 S.p) (by29 S.p) (ze29 S.p) (by decide) (by decide) rfl, sl_cells (sz29 S.p), (bu50 S.p), lit_fill (un48 S.p) (sz29 S.p) (ze29 S.p), (fa31_0 S.p), (fa31_1 S.p), (fa31_2 S.p), (fa31_3 S.p), (fa31_4 S.p), (fa31_5 S.p), (fa31_6 S.p), (fa50_0 S.p), (fa50_1 S.p), (fa50_3 S.p), iaddr_sl (un23 S.p) (sz31 S.p), iaddr_ptr (un51 S.p) (sz50 S.p), len_sl (un23 S.p), len_nils (un23 S.p), part_all (ag27 S.p) (sz27 S.p), part_at (ag27 S.p) (sz27 S.p), part_all (ag29 S.p) (sz29 S.p), part_at (ag29 S.p) (sz29 S.p), part_sc (ag3 S.p), part_all (ag31 S.p) (sz31 S.p), part_at (ag31 S.p) (sz31 S.p), part_sc (ag4 S.p), part_all (ag47 S.p) (sz47 S.p), part_at (ag47 S.p) (sz47 S.p), part_sc (ag48 S.p), part_all (ag50 S.p) (sz50 S.p), part_at (ag50 S.p) (sz50 S.p), part_all (ag51 S.p) (sz51 S.p), part_at (ag51 S.p) (sz51 S.p), store_last (sz31 S.p), (sz31 S.p), store_last (sz47 S.p), (sz47 S.p), store_last (sz48 S.p), (sz48 S.p), store_last (sz50 S.p), (sz50 S.p), store_last (sz51 S.p), (sz51 S.p), hcb, hpt, hpy, x0, x1, x2, xop, f32, hpa, hdr, hz, hpV, hpA, c0, c1, c2, c3, st9, st10, splC, set_self, set_other, beqI_t, beqI_f, bneI_t, bneI_f, bne_self_eq_false, beq_self_eq_true, dec_t, dec_f, cells_self, cells_other, cells_set, cells_set_ne, idx_ok, Int.toNat_natCast, Nat.zero_add, Nat.add_zero, wrap_i64]
                    have hG := gets (.rw 51 (recs atQ (L.set th (⟨a.cl, false, 0, 0, 0, []⟩, .nils))))
                      (hj.set (h.length + 1 + 1 + 1) (.rw 51 (recs atQ (L.set th (⟨a.cl, false, 0, 0, 0, []⟩, .nils)))) ++ [.rw 31 y.cells] ++ [.rw 50 [.int .i64 a.cl, .bool false, .int .i64 0, .int .i64 0, .int .i64 0, .nils]])
                      (fun j hj' => by rw [List.getElem?_append_left (by simp; omega), List.getElem?_append_left (by simp; omega)])
                    refine hag ⟨i + 1, _, L.set th (⟨a.cl, false, 0, 0, 0, []⟩, .nils), hj.set (h.length + 1 + 1 + 1) (.rw 51 (recs atQ (L.set th (⟨a.cl, false, 0, 0, 0, []⟩, .nils)))) ++ [.rw 31 y.cells] ++ [.rw 50 [.int .i64 a.cl, .bool false, .int .i64 0, .int .i64 0, .int .i64 0, .nils]]⟩
                      ⟨by simp only; omega, ((hx.set (by omega) _).push _).push _, ⟨hG.1, hG.2.1, hG.2.2.1, hG.2.2.2.1⟩, ⟨I.add h3 hS, Wy, Hh⟩, by simp; omega, hgo _ hS, by simp [hL8],
                        (hTh.other (Nat.le_succ i) hG.2.2.2.2).set hthL hthG gM.back (.inl ⟨rfl, rfl⟩) (Nat.zero_le _) (fun b o m s e => by cases e) (fun _ => rfl)⟩ (by simp only; omega) _ ?_
                    simp (maxSteps := 1000000) (disch := first | omega | (simp (disch := first | omega | (simp only [EvV.len, MonV.len, ThV.len, EnV.len, refC_len, List.length_append, List.length_cons, List.length_nil, List.length_set]; first | done | omega)) only [EvV.len, MonV.len, ThV.len, EnV.len, refC_len, amSide, Int.reduceToNat, Nat.reducePow, Nat.reduceMul]; first | done | omega)) only [↓amPre, amPost, ↓s_lit', Nat.reduceAdd, Nat.reduceSub, List.replicate, retA, resultsA, resultA, toC, toCL, Nat.reduceEqDiff, Int.natCast_add, Int.cast_ofNat_Int, dec_t, dec_f]
                  · have hN : addL G y = none := by rw [hadd, hT, if_neg (fun q => q4 q.2.2.2)]; rfl
                    rw [hstop hN]
                    rw [hclq] at q2
                    simp (maxSteps := 1000000) (disch := first | omega | (simp (disch := first | omega | (simp only [EvV.len, MonV.len, ThV.len, EnV.len, refC_len, List.length_append, List.length_cons, List.length_nil, List.length_set]; first | done | omega)) only [EvV.len, MonV.len, ThV.len, EnV.len, refC_len, amSide, Int.reduceToNat, Nat.reducePow, Nat.reduceMul]; first | done | omega)) only  [↓amPre, amPost, ↓s_lit', Nat.reduceAdd, Nat.reduceSub, List.replicate, retA, resultsA, resultA, toC, toCL, Nat.reduceEqDiff, f36, hp6, x11, x12, he, (ze31 S.p), (ze50 S.p), (ze51 S.p), append_at (un48 S.p) (sz29 S.p) (by29 S.p) (ze29 S.p) (by decide) (by decide) rfl, copy_at (un48 S.p) (sz29 S.p) (by29 S.p) (ze29 S.p) (by decide) (by decide) rfl, sl_cells (sz29 S.p), (bu50 S.p), lit_fill (un48 S.p) (sz29 S.p) (ze29 S.p), (fa31_0 S.p), (fa31_1 S.p), (fa31_2 S.p), (fa31_3 S.p), (fa31_4 S.p), (fa31_5 S.p), (fa31_6 S.p), (fa50_0 S.p), (fa50_1 S.p), (fa50_3 S.p), iaddr_sl (un23 S.p) (sz31 S.p), iaddr_ptr (un51 S.p) (sz50 S.p), len_sl (un23 S.p), len_nils (un23 S.p), part_all (ag27 S.p) (sz27 S.p), part_at (ag27 S.p) (sz27 S.p), part_all (ag29 S.p) (sz29 S.p), part_at (ag29 S.p) (sz29 S.p), part_sc (ag3 S.p), part_all (ag31 S.p) (sz31 S.p), part_at (ag31 S.p) (sz31 S.p), part_sc (ag4 S.p), part_all (ag47 S.p) (sz47 S.p), part_at (ag47 S.p) (sz47 S.p), part_sc (ag48 S.p), part_all (ag50 S.p) (sz50 S.p), part_at (ag50 S.p) (sz50 S.p), part_all (ag51 S.p) (sz51 S.p), part_at (ag51 S.p) (sz51 S.p), store_last (sz31 S.p), (sz31 S.p), store_last (sz47 S.p), (sz47 S.p), store_last (sz48 S.p), (sz48 S.p), store_last (sz50 S.p), (sz50 S.p), store_last (sz51 S.p), (sz51 S.p), hcb, hpt, hpy, x0, x1, x2, xop, f32, hpa, hdr, hz, hpV, hpA, c0, c1, c2, c3, st9, st10, splC, set_self, set_other, beqI_t, beqI_f, bneI_t, bneI_f, bne_self_eq_false, beq_self_eq_true, dec_t, dec_f, cells_self, cells_other, cells_set, cells_set_ne, idx_ok, Int.toNat_natCast, Nat.zero_add, Nat.add_zero, wrap_i64]
                    refine Ends.some ⟨_, _, rfl, refC_len _, hLl, ?_⟩
                    repeat (first | exact hx | apply Ext1.push | (refine Ext1.set ?_ (by omega) _))
                · have hN : addL G y = none := by rw [hadd, hT, if_neg (fun q => q3 q.2.2.1)]; rfl
                  rw [hstop hN]
                  rw [hclq] at q2
                  simp (maxSteps := 1000000) (disch := first | omega | (simp (disch := first | omega | (simp only [EvV.len, MonV.len, ThV.len, EnV.len, refC_len, List.length_append, List.length_cons, List.length_nil, List.length_set]; first | done | omega)) only [EvV.len, MonV.len, ThV.len, EnV.len, refC_len, amSide, Int.reduceToNat, Nat.reducePow, Nat.reduceMul]; first | done | omega)) only  [↓amPre, amPost, ↓s_lit', Nat.reduceAdd, Nat.reduceSub, List.replicate, retA, resultsA, resultA, toC, toCL, Nat.reduceEqDiff, f36, hp6, x11, x12, he, (ze31 S.p), (ze50 S.p), (ze51 S.p), append_at (un48 S.p) (sz29 S.p) (by29 S.p) (ze29 S.p) (by decide) (by decide) rfl, copy_at (un48 S.p) (sz29 S.p) (by29 S.p) (ze29 S.p) (by decide) (by decide) rfl, sl_cells (sz29 S.p), (bu50 S.p), lit_fill (un48 S.p) (sz29 S.p) (ze29 S.p), (fa31_0 S.p), (fa31_1 S.p), (fa31_2 S.p), (fa31_3 S.p), (fa31_4 S.p), (fa31_5 S.p), (fa31_6 S.p), (fa50_0 S.p), (fa50_1 S.p), (fa50_3 S.p), iaddr_sl (un23 S.p) (sz31 S.p), iaddr_ptr (un51 S.p) (sz50 S.p), len_sl (un23 S.p), len_nils (un23 S.p), part_all (ag27 S.p) (sz27 S.p), part_at (ag27 S.p) (sz27 S.p), part_all (ag29 S.p) (sz29 S.p), part_at (ag29 S.p) (sz29 S.p), part_sc (ag3 S.p), part_all (ag31 S.p) (sz31 S.p), part_at (ag31 S.p) (sz31 S.p), part_sc (ag4 S.p), part_all (ag47 S.p) (sz47 S.p), part_at (ag47 S.p) (sz47 S.p), part_sc (ag48 S.p), part_all (ag50 S.p) (sz50 S.p), part_at (ag50 S.p) (sz50 S.p), part_all (ag51 S.p) (sz51 S.p), part_at (ag51 S.p) (sz51 S.p), store_last (sz31 S.p), (sz31 S.p), store_last (sz47 S.p), (sz47 S.p), store_last (sz48 S.p), (sz48 S.p), store_last (sz50 S.p), (sz50 S.p), store_last (sz51 S.p), (sz51 S.p), hcb, hpt, hpy, x0, x1, x2, xop, f32, hpa, hdr, hz, hpV, hpA, c0, c1, c2, c3, st9, st10, splC, set_self, set_other, beqI_t, beqI_f, bneI_t, bneI_f, bne_self_eq_false, beq_self_eq_true, dec_t, dec_f, cells_self, cells_other, cells_set, cells_set_ne, idx_ok, Int.toNat_natCast, Nat.zero_add, Nat.add_zero, wrap_i64]
                  refine Ends.some ⟨_, _, rfl, refC_len _, hLl, ?_⟩
                  repeat (first | exact hx | apply Ext1.push | (refine Ext1.set ?_ (by omega) _))
              · have hN : addL G y = none := by rw [hadd, hT, if_neg (fun q => q2 q.2.1)]; rfl
                rw [hstop hN]
                rw [hclq] at q2
                simp (maxSteps := 1000000) (disch := first | omega | (simp (disch := first | omega | (simp only [EvV.len, MonV.len, ThV.len, EnV.len, refC_len, List.length_append, List.length_cons, List.length_nil, List.length_set]; first | done | omega)) only [EvV.len, MonV.len, ThV.len, EnV.len, refC_len, amSide, Int.reduceToNat, Nat.reducePow, Nat.reduceMul]; first | done | omega)) only  [↓amPre, amPost, ↓s_lit', Nat.reduceAdd, Nat.reduceSub, List.replicate, retA, resultsA, resultA, toC, toCL, Nat.reduceEqDiff, f36, hp6, x11, x12, he, (ze31 S.p), (ze50 S.p), (ze51 S.p), append_at (un48 S.p) (sz29 S.p) (by29 S.p) (ze29 S.p) (by decide) (by decide) rfl, copy_at (un48 S.p) (sz29 S.p) (by29 S.p) (ze29 S.p) (by decide) (by decide) rfl, sl_cells (sz29 S.p), (bu50 S.p), lit_fill (un48 S.p) (sz29 S.p) (ze29 S.p), (fa31_0 S.p), (fa31_1 S.p), (fa31_2 S.p), (fa31_3 S.p), (fa31_4 S.p), (fa31_5 S.p), (fa31_6 S.p), (fa50_0 S.p), (fa50_1 S.p), (fa50_3 S.p), iaddr_sl (un23 S.p) (sz31 S.p), iaddr_ptr (un51 S.p) (sz50 S.p), len_sl (un23 S.p), len_nils (un23 S.p), part_all (ag27 S.p) (sz27 S.p), part_at (ag27 S.p) (sz27 S.p), part_all (ag29 S.p) (sz29 S.p), part_at (ag29 S.p) (sz29 S.p), part_sc (ag3 S.p), part_all (ag31 S.p) (sz31 S.p), part_at (ag31 S.p) (sz31 S.p), part_sc (ag4 S.p), part_all (ag47 S.p) (sz47 S.p), part_at (ag47 S.p) (sz47 S.p), part_sc (ag48 S.p), part_all (ag50 S.p) (sz50 S.p), part_at (ag50 S.p) (sz50 S.p), part_all (ag51 S.p) (sz51 S.p), part_at (ag51 S.p) (sz51 S.p), store_last (sz31 S.p), (sz31 S.p), store_last (sz47 S.p), (sz47 S.p), store_last (sz48 S.p), (sz48 S.p), store_last (sz50 S.p), (sz50 S.p), store_last (sz51 S.p), (sz51 S.p), hcb, hpt, hpy, x0, x1, x2, xop, f32, hpa, hdr, hz, hpV, hpA, c0, c1, c2, c3, st9, st10, splC, set_self, set_other, beqI_t, beqI_f, bneI_t, bneI_f, bne_self_eq_false, beq_self_eq_true, dec_t, dec_f, cells_self, cells_other, cells_set, cells_set_ne, idx_ok, Int.toNat_natCast, Nat.zero_add, Nat.add_zero, wrap_i64]
                refine Ends.some ⟨_, _, rfl, refC_len _, hLl, ?_⟩
                repeat (first | exact hx | apply Ext1.push | (refine Ext1.set ?_ (by omega) _))
            · rw [decide_eq_false q1] at f36
              have hN : addL G y = none := by rw [hadd, hT, if_neg (fun q => q1 q.1)]; rfl
              rw [hstop hN]
              simp (maxSteps := 1000000) (disch := first | omega | (simp (disch := first | omega | (simp only [EvV.len, MonV.len, ThV.len, EnV.len, refC_len, List.length_append, List.length_cons, List.length_nil, List.length_set]; first | done | omega)) only [EvV.len, MonV.len, ThV.len, EnV.len, refC_len, amSide, Int.reduceToNat, Nat.reducePow, Nat.reduceMul]; first | done | omega)) only  [↓amPre, amPost, ↓s_lit', Nat.reduceAdd, Nat.reduceSub, List.replicate, retA, resultsA, resultA, toC, toCL, Nat.reduceEqDiff, f36, hp6, x11, x12, he, (ze31 S.p), (ze50 S.p), (ze51 S.p), append_at (un48 S.p) (sz29 S.p) (by29 S.p) (ze29 S.p) (by decide) (by decide) rfl, copy_at (un48 S.p) (sz29 S.p) (by29 S.p) (ze29 S.p) (by decide) (by decide) rfl, sl_cells (sz29 S.p), (bu50 S.p), lit_fill (un48 S.p) (sz29 S.p) (ze29 S.p), (fa31_0 S.p), (fa31_1 S.p), (fa31_2 S.p), (fa31_3 S.p), (fa31_4 S.p), (fa31_5 S.p), (fa31_6 S.p), (fa50_0 S.p), (fa50_1 S.p), (fa50_3 S.p), iaddr_sl (un23 S.p) (sz31 S.p), iaddr_ptr (un51 S.p) (sz50 S.p), len_sl (un23 S.p), len_nils (un23 S.p), part_all (ag27 S.p) (sz27 S.p), part_at (ag27 S.p) (sz27 S.p), part_all (ag29 S.p) (sz29 S.p), part_at (ag29 S.p) (sz29 S.p), part_sc (ag3 S.p), part_all (ag31 S.p) (sz31 S.p), part_at (ag31 S.p) (sz31 S.p), part_sc (ag4 S.p), part_all (ag47 S.p) (sz47 S.p), part_at (ag47 S.p) (sz47 S.p), part_sc (ag48 S.p), part_all (ag50 S.p) (sz50 S.p), part_at (ag50 S.p) (sz50 S.p), part_all (ag51 S.p) (sz51 S.p), part_at (ag51 S.p) (sz51 S.p), store_last (sz31 S.p), (sz31 S.p), store_last (sz47 S.p), (sz47 S.p), store_last (sz48 S.p), (sz48 S.p), store_last (sz50 S.p), (sz50 S.p), store_last (sz51 S.p), (sz51 S.p), hcb, hpt, hpy, x0, x1, x2, xop, f32, hpa, hdr, hz, hpV, hpA, c0, c1, c2, c3, st9, st10, splC, set_self, set_other, beqI_t, beqI_f, bneI_t, bneI_f, bne_self_eq_false, beq_self_eq_true, dec_t, dec_f, cells_self, cells_other, cells_set, cells_set_ne, idx_ok, Int.toNat_natCast, Nat.zero_add, Nat.add_zero, wrap_i64]
              refine Ends.some ⟨_, _, rfl, refC_len _, hLl, ?_⟩
              repeat (first | exact hx | apply Ext1.push | (refine Ext1.set ?_ (by omega) _))
      · have hN : addL G y = none := by unfold addL; rw [if_neg (fun q => cr (by have := I.tn; omega))]
        rw [hstop hN]
        by_cases c9 : y.th < 0
        · simp (maxSteps := 1000000) (disch := first | omega | (simp (disch := first | omega | (simp only [EvV.len, MonV.len, ThV.len, EnV.len, refC_len, List.length_append, List.length_cons, List.length_nil, List.length_set]; first | done | omega)) only [EvV.len, MonV.len, ThV.len, EnV.len, refC_len, amSide, Int.reduceToNat, Nat.reducePow, Nat.reduceMul]; first | done | omega)) only  [↓amPre, amPost, ↓s_lit', Nat.reduceAdd, Nat.reduceSub, List.replicate, retA, resultsA, resultA, toC, toCL, Nat.reduceEqDiff, he, (ze31 S.p), (ze50 S.p), (ze51 S.p), append_at (un48 S.p) (sz29 S.p) (by29 S.p) (ze29 S.p) (by decide) (by decide) rfl, copy_at (un48 S.p) (sz29 S.p) (by29 S.p) (ze29 S.p) (by decide) (by decide) rfl, sl_cells (sz29 S.p), (bu50 S.p), lit_fill (un48 S.p) (sz29 S.p) (ze29 S.p), (fa31_0 S.p), (fa31_1 S.p), (fa31_2 S.p), (fa31_3 S.p), (fa31_4 S.p), (fa31_5 S.p), (fa31_6 S.p), (fa50_0 S.p), (fa50_1 S.p), (fa50_3 S.p), iaddr_sl (un23 S.p) (sz31 S.p), iaddr_ptr (un51 S.p) (sz50 S.p), len_sl (un23 S.p), len_nils (un23 S.p), part_all (ag27 S.p) (sz27 S.p), part_at (ag27 S.p) (sz27 S.p), part_all (ag29 S.p) (sz29 S.p), part_at (ag29 S.p) (sz29 S.p), part_sc (ag3 S.p), part_all (ag31 S.p) (sz31 S.p), part_at (ag31 S.p) (sz31 S.p), part_sc (ag4 S.p), part_all (ag47 S.p) (sz47 S.p), part_at (ag47 S.p) (sz47 S.p), part_sc (ag48 S.p), part_all (ag50 S.p) (sz50 S.p), part_at (ag50 S.p) (sz50 S.p), part_all (ag51 S.p) (sz51 S.p), part_at (ag51 S.p) (sz51 S.p), store_last (sz31 S.p), (sz31 S.p), store_last (sz47 S.p), (sz47 S.p), store_last (sz48 S.p), (sz48 S.p), store_last (sz50 S.p), (sz50 S.p), store_last (sz51 S.p), (sz51 S.p), hcb, hpt, hpy, x1, f32, hz, hpV, hpA, c0, c1, c2, c3, st9, st10, splC, set_self, set_other, beqI_t, beqI_f, bneI_t, bneI_f, bne_self_eq_false, beq_self_eq_true, dec_t, dec_f, cells_self, cells_other, cells_set, cells_set_ne, idx_ok, Int.toNat_natCast, Nat.zero_add, Nat.add_zero, wrap_i64]
          refine Ends.some ⟨_, _, rfl, refC_len _, hLl, ?_⟩
          repeat (first | exact hx | apply Ext1.push | (refine Ext1.set ?_ (by omega) _))
        · simp (maxSteps := 1000000) (disch := first | omega | (simp (disch := first | omega | (simp only [EvV.len, MonV.len, ThV.len, EnV.len, refC_len, List.length_append, List.length_cons, List.length_nil, List.length_set]; first | done | omega)) only [EvV.len, MonV.len, ThV.len, EnV.len, refC_len, amSide, Int.reduceToNat, Nat.reducePow, Nat.reduceMul]; first | done | omega)) only  [↓amPre, amPost, ↓s_lit', Nat.reduceAdd, Nat.reduceSub, List.replicate, retA, resultsA, resultA, toC, toCL, Nat.reduceEqDiff, he, (ze31 S.p), (ze50 S.p), (ze51 S.p), append_at (un48 S.p) (sz29 S.p) (by29 S.p) (ze29 S.p) (by decide) (by decide) rfl, copy_at (un48 S.p) (sz29 S.p) (by29 S.p) (ze29 S.p) (by decide) (by decide) rfl, sl_cells (sz29 S.p), (bu50 S.p), lit_fill (un48 S.p) (sz29 S.p) (ze29 S.p), (fa31_0 S.p), (fa31_1 S.p), (fa31_2 S.p), (fa31_3 S.p), (fa31_4 S.p), (fa31_5 S.p), (fa31_6 S.p), (fa50_0 S.p), (fa50_1 S.p), (fa50_3 S.p), iaddr_sl (un23 S.p) (sz31 S.p), iaddr_ptr (un51 S.p) (sz50 S.p), len_sl (un23 S.p), len_nils (un23 S.p), part_all (ag27 S.p) (sz27 S.p), part_at (ag27 S.p) (sz27 S.p), part_all (ag29 S.p) (sz29 S.p), part_at (ag29 S.p) (sz29 S.p), part_sc (ag3 S.p), part_all (ag31 S.p) (sz31 S.p), part_at (ag31 S.p) (sz31 S.p), part_sc (ag4 S.p), part_all (ag47 S.p) (sz47 S.p), part_at (ag47 S.p) (sz47 S.p), part_sc (ag48 S.p), part_all (ag50 S.p) (sz50 S.p), part_at (ag50 S.p) (sz50 S.p), part_all (ag51 S.p) (sz51 S.p), part_at (ag51 S.p) (sz51 S.p), store_last (sz31 S.p), (sz31 S.p), store_last (sz47 S.p), (sz47 S.p), store_last (sz48 S.p), (sz48 S.p), store_last (sz50 S.p), (sz50 S.p), store_last (sz51 S.p), (sz51 S.p), hcb, hpt, hpy, x1, f32, hz, hpV, hpA, c0, c1, c2, c3, st9, st10, splC, set_self, set_other, beqI_t, beqI_f, bneI_t, bneI_f, bne_self_eq_false, beq_self_eq_true, dec_t, dec_f, cells_self, cells_other, cells_set, cells_set_ne, idx_ok, Int.toNat_natCast, Nat.zero_add, Nat.add_zero, wrap_i64]
          refine Ends.some ⟨_, _, rfl, refC_len _, hLl, ?_⟩
          repeat (first | exact hx | apply Ext1.push | (refine Ext1.set ?_ (by omega) _))
    · rw [decide_eq_false cb] at f32
      have hN : addL G y = none := by unfold addL; rw [if_neg (fun q => cb q.1)]
      rw [hstop hN]
      simp (maxSteps := 1000000) (disch := first | omega | (simp (disch := first | omega | (simp only [EvV.len, MonV.len, ThV.len, EnV.len, refC_len, List.length_append, List.length_cons, List.length_nil, List.length_set]; first | done | omega)) only [EvV.len, MonV.len, ThV.len, EnV.len, refC_len, amSide, Int.reduceToNat, Nat.reducePow, Nat.reduceMul]; first | done | omega)) only  [↓amPre, amPost, ↓s_lit', Nat.reduceAdd, Nat.reduceSub, List.replicate, retA, resultsA, resultA, toC, toCL, Nat.reduceEqDiff, he, (ze31 S.p), (ze50 S.p), (ze51 S.p), append_at (un48 S.p) (sz29 S.p) (by29 S.p) (ze29 S.p) (by decide) (by decide) rfl, copy_at (un48 S.p) (sz29 S.p) (by29 S.p) (ze29 S.p) (by decide) (by decide) rfl, sl_cells (sz29 S.p), (bu50 S.p), lit_fill (un48 S.p) (sz29 S.p) (ze29 S.p), (fa31_0 S.p), (fa31_1 S.p), (fa31_2 S.p), (fa31_3 S.p), (fa31_4 S.p), (fa31_5 S.p), (fa31_6 S.p), (fa50_0 S.p), (fa50_1 S.p), (fa50_3 S.p), iaddr_sl (un23 S.p) (sz31 S.p), iaddr_ptr (un51 S.p) (sz50 S.p), len_sl (un23 S.p), len_nils (un23 S.p), part_all (ag27 S.p) (sz27 S.p), part_at (ag27 S.p) (sz27 S.p), part_all (ag29 S.p) (sz29 S.p), part_at (ag29 S.p) (sz29 S.p), part_sc (ag3 S.p), part_all (ag31 S.p) (sz31 S.p), part_at (ag31 S.p) (sz31 S.p), part_sc (ag4 S.p), part_all (ag47 S.p) (sz47 S.p), part_at (ag47 S.p) (sz47 S.p), part_sc (ag48 S.p), part_all (ag50 S.p) (sz50 S.p), part_at (ag50 S.p) (sz50 S.p), part_all (ag51 S.p) (sz51 S.p), part_at (ag51 S.p) (sz51 S.p), store_last (sz31 S.p), (sz31 S.p), store_last (sz47 S.p), (sz47 S.p), store_last (sz48 S.p), (sz48 S.p), store_last (sz50 S.p), (sz50 S.p), store_last (sz51 S.p), (sz51 S.p), hcb, hpt, hpy, x1, f32, hz, hpV, hpA, c0, c1, c2, c3, st9, st10, splC, set_self, set_other, beqI_t, beqI_f, bneI_t, bneI_f, bne_self_eq_false, beq_self_eq_true, dec_t, dec_f, cells_self, cells_other, cells_set, cells_set_ne, idx_ok, Int.toNat_natCast, Nat.zero_add, Nat.add_zero, wrap_i64]
      refine Ends.some ⟨_, _, rfl, refC_len _, hLl, ?_⟩
      repeat (first | exact hx | apply Ext1.push | (refine Ext1.set ?_ (by omega) _))
end
end Go.AM
