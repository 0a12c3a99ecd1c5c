/- Races: all that race, by the code. Conditions: none. -/
import Derived.Test.YtgcgbcdgbfeaaaaRa4
import Derived.Test.YtgcgbcdgbfeaaaaDictS
set_option linter.unusedVariables false
set_option linter.unusedSimpArgs false
set_option maxRecDepth 100000
namespace Go.AM
open Go.Proofs
-- LENS: freeL_ck, ck_len, AcV.len, AcV.hk, PrV.len, ixC_len
theorem take_snocG {α : Type} (l : List α) (i : Nat) (x : α) (h : l[i]? = some x) : l.take (i + 1) = l.take i ++ [x] := by
  rw [List.take_add_one, h]; rfl
/-- Indices of a cell's accesses, ahead of so many. -/
def ixN (l : List AcV) (c : Int) (n : Nat) : List Nat := (List.range n).filter fun i : Nat => match l[i]? with | some x => decide (x.c = c) | none => false
def ixC (i : Nat) : List SV := [.int .i64 (i : Nat)]
theorem ixC_len (i : Nat) : (ixC i).length = 1 := nrfl rfl
theorem ixN_succ {l : List AcV} {n : Nat} {x : AcV} (h : l[n]? = some x) (c : Int) : ixN l c (n + 1) = if c = x.c then ixN l c n ++ [n] else ixN l c n := by
  unfold ixN
  rw [List.range_succ, List.filter_append]
  by_cases e : c = x.c
  · rw [if_pos e]; simp [h, e]
  · rw [if_neg e]; simp [h, Ne.symm e]
theorem ixN_le (l : List AcV) (c : Int) (n : Nat) : (ixN l c n).length ≤ n := by
  unfold ixN
  exact Nat.le_trans (List.length_filter_le _ _) (by simp)
theorem ixN_mem {l : List AcV} {c : Int} {n i : Nat} (h : i ∈ ixN l c n) : i < n ∧ ∃ x, l[i]? = some x ∧ x.c = c := by
  unfold ixN at h
  rw [List.mem_filter] at h
  obtain ⟨h1, h2⟩ := h
  refine ⟨by simpa using h1, ?_⟩
  cases q : l[i]? with
  | none => rw [q] at h2; simp at h2
  | some x => rw [q] at h2; exact ⟨x, rfl, by simpa using h2⟩
/-- Those of one, of some indices. -/
def rowL (l : List AcV) (k : Nat) (y : AcV) (L : List Nat) : List PrV := (L.filter fun i : Nat => match l[i]? with | some x => raceV x y | none => false).map fun i : Nat => (⟨(i : Int), (k : Int)⟩ : PrV)
theorem rowL_snoc {l : List AcV} {k j : Nat} {y x : AcV} (L : List Nat) (h : l[j]? = some x) : rowL l k y (L ++ [j]) = if raceV x y = true then rowL l k y L ++ [⟨(j : Int), (k : Int)⟩] else rowL l k y L := by
  unfold rowL
  rw [List.filter_append, List.map_append]
  by_cases e : raceV x y = true
  · rw [if_pos e]; simp [h, e]
  · rw [if_neg e]; simp [h, e]
theorem rowL_le (l : List AcV) (k : Nat) (y : AcV) (L : List Nat) : (rowL l k y L).length ≤ L.length := by
  unfold rowL
  rw [List.length_map]
  exact List.length_filter_le _ _
theorem raceV_c {x y : AcV} (h : raceV x y = true) : x.c = y.c := by
  unfold raceV at h
  simp only [Bool.and_eq_true, decide_eq_true_eq] at h
  exact h.1.1.1.2
theorem rowL_row {l : List AcV} {k : Nat} {y : AcV} (n : Nat) : rowL l k y (ixN l y.c n) = rowP l k y n := by
  unfold rowL rowP ixN
  rw [List.filter_filter]
  congr 1
  apply List.filter_congr
  intro i _
  cases l[i]? with
  | none => rfl
  | some x =>
    simp only
    by_cases e : raceV x y = true
    · simp [e, raceV_c e]
    · simp [e]
theorem Own.kept {e s lo : Nat} {h h2 : List AO} {a q q2 : SV} {cs : List SV} (H : Own e s lo h a cs) (hA : Apart a q) (hg : ∀ j o n s, Apart (.sl j o n s) q → j < h.length → h2[j]? = h[j]? ∧ Apart (.sl j o n s) q2) (hl : h.length ≤ h2.length) : Own e s lo h2 a cs ∧ Apart a q2 := by
  rcases H with ⟨rfl, h2⟩ | ⟨l, h1, h2, rfl, h4, h5⟩
  · exact ⟨.inl ⟨rfl, h2⟩, fun l o n s o' n' s' e1 e2 => by cases e1⟩
  · have := hg l 0 (cs.length / s) s hA h2
    exact ⟨.inr ⟨l, h1, by omega, rfl, by rw [this.1]; exact h4, h5⟩, this.2⟩
theorem Own.mono {e s lo lo' : Nat} {h : List AO} {q : SV} {cs : List SV} (H : Own e s lo h q cs) (hl : lo' ≤ lo) : Own e s lo' h q cs := by
  rcases H with H | ⟨l, h1, h2⟩
  · exact .inl H
  · exact .inr ⟨l, by omega, h2⟩
theorem Apart.symm {a b : SV} (H : Apart a b) : Apart b a := fun l o n s o' n' s' e1 e2 => H l o' n' s' o n s e2 e1
theorem Own.apart {e s lo : Nat} {h : List AO} {q : SV} {cs : List SV} (H : Own e s lo h q cs) {j : Nat} (hj : h.length ≤ j) (o n t : Nat) : Apart (.sl j o n t) q := by
  rcases H with ⟨rfl, _⟩ | ⟨l, h1, h2, rfl, _⟩
  · exact Apart.nil _
  · intro l1 o1 n1 s1 o' n' s' e1 e2
    cases e1; cases e2; omega
theorem Own.low {e s lo : Nat} {h : List AO} {q : SV} {cs : List SV} (H : Own e s lo h q cs) {j : Nat} (hj : j < lo) (o n t : Nat) : Apart (.sl j o n t) q := by
  rcases H with ⟨rfl, _⟩ | ⟨l, h1, h2, rfl, _⟩
  · exact Apart.nil _
  · intro l1 o1 n1 s1 o' n' s' e1 e2
    cases e1; cases e2; omega
/-- The lists of all cells. -/
structure Ixs (l : List AcV) (lo : Nat) (h : List AO) (M : List (Int × SV)) (n : Int → Nat) : Prop where
  nd : NdS M
  own : ∀ c, Own 3 1 lo h (getS c M) (recs ixC (ixN l c (n c)))
  two : ∀ c c', c ≠ c' → Apart (getS c M) (getS c' M)
theorem Ixs.push {l : List AcV} {lo : Nat} {h : List AO} {M : List (Int × SV)} {n : Int → Nat} (H : Ixs l lo h M n) (o : AO) : Ixs l lo (h ++ [o]) M n := ⟨H.nd, fun c => (H.own c).push o, H.two⟩
theorem Ixs.set {l : List AcV} {lo : Nat} {h : List AO} {M : List (Int × SV)} {n : Int → Nat} (H : Ixs l lo h M n) {j : Nat} (hj : j < lo) (o : AO) : Ixs l lo (h.set j o) M n := ⟨H.nd, fun c => (H.own c).set hj o, H.two⟩
structure AlA where
  i : Nat
  q : SV
  h : List AO
set_option maxHeartbeats 8000000 in
theorem s16 {P : Program} {T : Tab} {K d : Nat} (S : Sd P T K) (hd : 5 ≤ d) (q : SV) (l : List AcV) (hl : l.length ≤ 300) (lk : Nat) (h : List AO) (hlk : lk ≤ h.length) (hq : Rs AcV.cells 12 h q l) :
    Ends (fun v h' => Ext1 h h' ∧ ∃ q', v = .v (.sc q') ∧ Own 32 2 h.length h' q' (recs PrV.cells (allP l l.length))) (ev P T K d 16 [.sc q] lk h) := by
  obtain ⟨d, rfl⟩ : ∃ k, d = k + 1 := ⟨d - 1, by omega⟩
  rw [ev_run (at16 S.t)]
  unfold i16 Try.f16
  have hlen := hq.len (un27 S.p)
  simp (maxSteps := 1000000) (disch := first | omega | (simp (disch := first | omega | (simp only [freeL_ck, ck_len, AcV.len, AcV.hk, PrV.len, ixC_len, List.length_append, List.length_cons, List.length_nil, List.length_set]; first | done | omega)) only [freeL_ck, ck_len, AcV.len, AcV.hk, PrV.len, ixC_len, amSide, Int.reduceToNat, Nat.reducePow, Nat.reduceMul]; first | done | omega)) only  [↓amPre, amPost, ↓s_lit', Nat.reduceAdd, Nat.reduceSub, List.replicate, retA, resultsA, resultA, toC, toCL, Nat.reduceEqDiff, (ze41 S.p), append_at (un25 S.p) (sz32 S.p) (by32 S.p) (ze32 S.p) (by decide) (by decide) rfl, sl_cells (sz32 S.p), append_at (un47 S.p) (sz3 S.p) (by3 S.p) (ze3 S.p) (by decide) (by decide) rfl, sl_cells (sz3 S.p), (bu32 S.p), lit_fill (un25 S.p) (sz32 S.p) (ze32 S.p), lit_fill (un47 S.p) (sz3 S.p) (ze3 S.p), (fa41_1 S.p), iaddr_sl (un27 S.p) (sz41 S.p), iaddr_sl (un47 S.p) (sz3 S.p), len_sl (un27 S.p), len_nils (un27 S.p), len_sl (un47 S.p), len_nils (un47 S.p), part_sc (ag3 S.p), part_all (ag41 S.p) (sz41 S.p), part_at (ag41 S.p) (sz41 S.p), store_last (sz41 S.p), (sz41 S.p), hlen]
  refine ends_loop (X := AlA) ⟨0, .nils, h ++ [.map []]⟩ [5, 6, 8, 13, 14, 15, 16, 17, 18, 19, 20, 21, 22, 23, 24, 25, 26, 27, 28, 29, 30, 31, 32, 33, 34, 35, 36, 37, 38, 39, 40, 41, 42, 43, 44, 45, 46, 47, 48, 49]
    (fun x => x.i ≤ l.length ∧ Ext1 h x.h ∧ h.length < x.h.length ∧ Own 32 2 (h.length + 1) x.h x.q (recs PrV.cells (allP l x.i)) ∧ ∃ M, x.h[h.length]? = some (.map (entsS M)) ∧ Ixs l (h.length + 1) x.h M (fun _ => x.i) ∧ ∀ c, Apart (getS c M) x.q) (fun x => l.length - x.i)
    (fun x e => (e.set 3 (.v (.sc x.q))).set 12 (.v (.sc (.int .i64 x.i)))) (fun x => x.h)
    (by have := S.k; show _ < K; simp only; omega) ⟨by simp only; omega, (Ext1.refl h).push _, by simp, Own.nil _ _ _ _, [], by simp [entsS], ⟨trivial, fun c => .inl ⟨rfl, rfl⟩, fun c c' _ => Apart.nil _⟩, fun c => Apart.nil _⟩ rfl rfl ?_
  rintro ⟨i, qo, hj⟩ ⟨hi, hx, hlt, ho, M, hM, hix, hap⟩ again hag e he
  simp only at hi hx hlt ho hM hix hap hag he
  simp only [↓amPre, amPost, ↓s_lit', Nat.reduceAdd, Nat.reduceSub, List.replicate, retA, resultsA, resultA, toC, toCL, Nat.reduceEqDiff] at he
  simp only [↓amPre, amPost, ↓s_lit', Nat.reduceAdd, Nat.reduceSub, List.replicate, retA, resultsA, resultA, toC, toCL, Nat.reduceEqDiff, he]
  refine ends_cond (fun hc1 => ?_) (fun hc1 => ?_)
  · simp only [decide_eq_true_eq] at hc1
    have hio : i < l.length := by omega
    obtain ⟨b, rfl, hb, hc⟩ := hq.at (by omega)
    have hcj : cellsAt hj b = some (recs AcV.cells l) := by rw [hx.cells hb]; exact hc
    obtain ⟨y, hy⟩ : ∃ y, l[i]? = some y := ⟨_, List.getElem?_eq_getElem hio⟩
    have hpt := recs_part (ag41 S.p) (sz41 S.p) AcV.len hy
    have hle := hx.len
    have hM1 : (hj ++ [AO.rw 41 y.cells])[h.length]? = some (.map (entsS M)) := by rw [List.getElem?_append_left hlt]; exact hM
    have hx1 : Ext1 h (hj ++ [AO.rw 41 y.cells]) := hx.push _
    have ho1 : Own 32 2 (h.length + 1) (hj ++ [AO.rw 41 y.cells]) qo (recs PrV.cells (allP l i)) := ho.push _
    have hix1 := hix.push (AO.rw 41 y.cells)
    have g0 : cellsAt (hj ++ [AO.rw 41 y.cells]) hj.length = some y.cells := cells_self _ _ _ rfl
    have hA0 : Apart (.sl hj.length 0 0 0) qo := ho.apart (Nat.le_refl _) 0 0 0
    have hln : (hj ++ [AO.rw 41 y.cells]).length = hj.length + 1 := by simp
    have gc1 := AcV.c1 y
    have hmu : lookupA P (hj ++ [AO.rw 41 y.cells]) 132 (.v (.sc (.mp h.length))) (.v (.sc (.int .i64 y.c))) false = _ := lookup_entsS (un132 S.p) (un3 S.p) (zc47 S.p) hM1 y.c
    have hown := hix1.own y.c
    have hgt : ∀ c, c ≠ y.c → Apart (getS c M) (getS y.c M) := fun c hc => hix.two c y.c hc
    have hqA : Apart (.sl hj.length 0 0 0) (getS y.c M) := (hix.own y.c).apart (Nat.le_refl _) 0 0 0
    generalize hgL : getS y.c M = qL at hmu hown hgt hqA
    have hqL := hown.rs (by omega) ixC_len
    have hlenL := hqL.len (un47 S.p)
    have hLle := ixN_le l y.c i
    have hrow := rowL_row (l := l) (k := i) (y := y) i
    have hmem : ∀ {j : Nat}, j ∈ ixN l y.c i → _ := fun hj => ixN_mem hj
    have hixs := fun c => ixN_succ hy c
    have hall := allP_succ hy
    have hal := allP_len l i
    have hii : i * i ≤ 300 * 300 := Nat.mul_le_mul (by omega) (by omega)
    have hst : rowL l i y [] = [] := rfl
    generalize hLL : ixN l y.c i = L at *
    simp (maxSteps := 1000000) (disch := first | omega | (simp (disch := first | omega | (simp only [freeL_ck, ck_len, AcV.len, AcV.hk, PrV.len, ixC_len, List.length_append, List.length_cons, List.length_nil, List.length_set]; first | done | omega)) only [freeL_ck, ck_len, AcV.len, AcV.hk, PrV.len, ixC_len, amSide, Int.reduceToNat, Nat.reducePow, Nat.reduceMul]; first | done | omega)) only  [↓amPre, amPost, ↓s_lit', Nat.reduceAdd, Nat.reduceSub, List.replicate, retA, resultsA, resultA, toC, toCL, Nat.reduceEqDiff, he, (ze41 S.p), append_at (un25 S.p) (sz32 S.p) (by32 S.p) (ze32 S.p) (by decide) (by decide) rfl, sl_cells (sz32 S.p), append_at (un47 S.p) (sz3 S.p) (by3 S.p) (ze3 S.p) (by decide) (by decide) rfl, sl_cells (sz3 S.p), (bu32 S.p), lit_fill (un25 S.p) (sz32 S.p) (ze32 S.p), lit_fill (un47 S.p) (sz3 S.p) (ze3 S.p), (fa41_1 S.p), iaddr_sl (un27 S.p) (sz41 S.p), iaddr_sl (un47 S.p) (sz3 S.p), len_sl (un27 S.p), len_nils (un27 S.p), len_sl (un47 S.p), len_nils (un47 S.p), part_sc (ag3 S.p), part_all (ag41 S.p) (sz41 S.p), part_at (ag41 S.p) (sz41 S.p), store_last (sz41 S.p), (sz41 S.p), idx_ok, hcj, hpt, g0, gc1, hmu, hlenL, cells_self, cells_other, Int.toNat_natCast, Nat.zero_add, wrap_i64]
    refine ends_loop (X := AlA) ⟨0, qo, hj ++ [AO.rw 41 y.cells]⟩ [8, 23, 24, 25, 26, 27, 28, 29, 30, 31, 32, 33, 34, 35, 36, 37, 38]
      (fun x => x.i ≤ L.length ∧ Ext1 h x.h ∧ hj.length < x.h.length ∧ Own 32 2 (h.length + 1) x.h x.q (recs PrV.cells (allP l i ++ rowL l i y (L.take x.i))) ∧ x.h[h.length]? = some (.map (entsS M)) ∧ Ixs l (h.length + 1) x.h M (fun _ => i) ∧ (∀ c, Apart (getS c M) x.q) ∧ cellsAt x.h hj.length = some y.cells ∧ Apart (.sl hj.length 0 0 0) x.q) (fun x => L.length - x.i)
      (fun x e => (e.set 3 (.v (.sc x.q))).set 22 (.v (.sc (.int .i64 x.i)))) (fun x => x.h)
      (by have := S.k; show _ < K; simp only; omega) ⟨by simp only; omega, hx1, by simp, by simp only [List.take_zero, hst, List.append_nil]; exact ho1, hM1, hix1, hap, g0, hA0⟩ rfl rfl ?_
    clear ho ho1 hix hix1 hap g0 hA0 hM hM1 hmu hx hown hqL hcj
    rintro ⟨j, qi, h2⟩ ⟨hji, hx, hlt2, ho, hM, hix, hap, g0, hA0⟩ again2 hag2 e2 he2
    simp only at hji hx hlt2 ho hM hix hap g0 hA0 hag2 he2
    simp only [↓amPre, amPost, ↓s_lit', Nat.reduceAdd, Nat.reduceSub, List.replicate, retA, resultsA, resultA, toC, toCL, Nat.reduceEqDiff] at he2
    simp only [↓amPre, amPost, ↓s_lit', Nat.reduceAdd, Nat.reduceSub, List.replicate, retA, resultsA, resultA, toC, toCL, Nat.reduceEqDiff, he2]
    have hle2 := hx.len
    have hown := hix.own y.c
    rw [hgL, hLL] at hown
    have hc : cellsAt h2 b = some (recs AcV.cells l) := by rw [hx.cells hb]; exact hc
    refine ends_cond (fun hc2 => ?_) (fun hc2 => ?_)
    · simp only [decide_eq_true_eq] at hc2
      obtain ⟨m, hm⟩ : ∃ m, L[j]? = some m := ⟨_, List.getElem?_eq_getElem (by omega)⟩
      obtain ⟨hmi, x, hxm, hxc⟩ := hmem (List.mem_of_getElem? hm)
      obtain ⟨bL, rfl, hbL, hcL⟩ := (hown.rs (by omega) ixC_len).at (by omega)
      have gm := recs_get0 ixC_len hm (by omega)
      rw [Nat.mul_one, show (ixC m)[0]? = some (.int .i64 (m : Nat)) from rfl] at gm
      have hpx := recs_part (ag41 S.p) (sz41 S.p) AcV.len hxm
      have hpy : partA P 41 y.cells 0 = some (.ag y.cells) := by
        have := recs_part (ag41 S.p) (sz41 S.p) AcV.len (l := [y]) (i := 0) rfl
        rw [show recs AcV.cells [y] = y.cells by simp [recs]] at this; exact this
      have f21 := fun lk => s21 S (show 4 ≤ d by omega) x y lk h2
      have hro := rowL_snoc (k := i) (y := y) (L.take j) hxm
      rw [← take_snocG L j m hm] at hro
      have hrl := rowL_le l i y (L.take j)
      have htl := List.length_take_le j L
      cases hR : raceV x y with
      | true =>
        rw [hR] at f21
        rw [if_pos hR] at hro
        have hO := ho.push (.rw 32 [.int .i64 (m : Nat), .int .i64 (i : Nat)])
        obtain ⟨q2, h3, happ, hown3, hl3, hlo3, hx3, _, hkp⟩ := grow_own (b := 16) (lk := lk) hO [.int .i64 (m : Nat), .int .i64 (i : Nat)] (by omega) (by simp) (by simp) (by omega) (by simp; omega) (by rw [recs_len PrV.len]; simp; omega)
        have hx4 := hx3 h (hx.push (.rw 32 [.int .i64 (m : Nat), .int .i64 (i : Nat)])) (by omega)
        have hcs : ([.int .i64 (m : Nat), .int .i64 (i : Nat)] : List SV) = PrV.cells ⟨(m : Int), (i : Int)⟩ := rfl
        rw [hcs, recs_snoc, List.append_assoc, ← hro] at hown3
        have hM3 : h3[h.length]? = some (.map (entsS M)) := by rw [hlo3 _ (by omega), List.getElem?_append_left (by omega)]; exact hM
        have hk : ∀ c, _ := fun c => ((hix.own c).push (.rw 32 [.int .i64 (m : Nat), .int .i64 (i : Nat)])).kept (hap c) hkp (by simp at hl3; simp; omega)
        have hg := hkp hj.length 0 0 0 hA0 (by simp; omega)
        have g3 : cellsAt h3 hj.length = some y.cells := by
          unfold cellsAt at g0 ⊢
          rw [hg.1, List.getElem?_append_left (by omega)]; exact g0
        simp (maxSteps := 1000000) (disch := first | omega | (simp (disch := first | omega | (simp only [freeL_ck, ck_len, AcV.len, AcV.hk, PrV.len, ixC_len, List.length_append, List.length_cons, List.length_nil, List.length_set]; first | done | omega)) only [freeL_ck, ck_len, AcV.len, AcV.hk, PrV.len, ixC_len, amSide, Int.reduceToNat, Nat.reducePow, Nat.reduceMul]; first | done | omega)) only  [↓amPre, amPost, ↓s_lit', Nat.reduceAdd, Nat.reduceSub, List.replicate, retA, resultsA, resultA, toC, toCL, Nat.reduceEqDiff, he2, (ze41 S.p), append_at (un25 S.p) (sz32 S.p) (by32 S.p) (ze32 S.p) (by decide) (by decide) rfl, sl_cells (sz32 S.p), append_at (un47 S.p) (sz3 S.p) (by3 S.p) (ze3 S.p) (by decide) (by decide) rfl, sl_cells (sz3 S.p), (bu32 S.p), lit_fill (un25 S.p) (sz32 S.p) (ze32 S.p), lit_fill (un47 S.p) (sz3 S.p) (ze3 S.p), (fa41_1 S.p), iaddr_sl (un27 S.p) (sz41 S.p), iaddr_sl (un47 S.p) (sz3 S.p), len_sl (un27 S.p), len_nils (un27 S.p), len_sl (un47 S.p), len_nils (un47 S.p), part_sc (ag3 S.p), part_all (ag41 S.p) (sz41 S.p), part_at (ag41 S.p) (sz41 S.p), store_last (sz41 S.p), (sz41 S.p), idx_ok, hc, hcL, gm, hpx, hpy, g0, f21, happ, cells_self, cells_other, spl2, List.flatten_cons, List.flatten_nil, List.append_nil, Nat.mul_one, Nat.one_mul, Nat.zero_mul, Int.toNat_natCast, Nat.zero_add, wrap_i64]
        refine hag2 ⟨j + 1, q2, h3⟩ ⟨by simp only; omega, hx4, by simp at hl3; simp only; omega, hown3, hM3, ⟨hix.nd, fun c => (hk c).1, hix.two⟩, fun c => (hk c).2, g3, hg.2⟩ (by simp only; omega) _ ?_
        simp (maxSteps := 1000000) (disch := first | omega | (simp (disch := first | omega | (simp only [freeL_ck, ck_len, AcV.len, AcV.hk, PrV.len, ixC_len, List.length_append, List.length_cons, List.length_nil, List.length_set]; first | done | omega)) only [freeL_ck, ck_len, AcV.len, AcV.hk, PrV.len, ixC_len, amSide, Int.reduceToNat, Nat.reducePow, Nat.reduceMul]; first | done | omega)) only [↓amPre, amPost, ↓s_lit', Nat.reduceAdd, Nat.reduceSub, List.replicate, retA, resultsA, resultA, toC, toCL, Nat.reduceEqDiff, Int.natCast_add, Int.cast_ofNat_Int, dec_t, dec_f]
      | false =>
        rw [hR] at f21
        rw [if_neg (by rw [hR]; simp)] at hro
        simp (maxSteps := 1000000) (disch := first | omega | (simp (disch := first | omega | (simp only [freeL_ck, ck_len, AcV.len, AcV.hk, PrV.len, ixC_len, List.length_append, List.length_cons, List.length_nil, List.length_set]; first | done | omega)) only [freeL_ck, ck_len, AcV.len, AcV.hk, PrV.len, ixC_len, amSide, Int.reduceToNat, Nat.reducePow, Nat.reduceMul]; first | done | omega)) only  [↓amPre, amPost, ↓s_lit', Nat.reduceAdd, Nat.reduceSub, List.replicate, retA, resultsA, resultA, toC, toCL, Nat.reduceEqDiff, he2, (ze41 S.p), append_at (un25 S.p) (sz32 S.p) (by32 S.p) (ze32 S.p) (by decide) (by decide) rfl, sl_cells (sz32 S.p), append_at (un47 S.p) (sz3 S.p) (by3 S.p) (ze3 S.p) (by decide) (by decide) rfl, sl_cells (sz3 S.p), (bu32 S.p), lit_fill (un25 S.p) (sz32 S.p) (ze32 S.p), lit_fill (un47 S.p) (sz3 S.p) (ze3 S.p), (fa41_1 S.p), iaddr_sl (un27 S.p) (sz41 S.p), iaddr_sl (un47 S.p) (sz3 S.p), len_sl (un27 S.p), len_nils (un27 S.p), len_sl (un47 S.p), len_nils (un47 S.p), part_sc (ag3 S.p), part_all (ag41 S.p) (sz41 S.p), part_at (ag41 S.p) (sz41 S.p), store_last (sz41 S.p), (sz41 S.p), idx_ok, hc, hcL, gm, hpx, hpy, g0, f21, Nat.mul_one, Int.toNat_natCast, Nat.zero_add, wrap_i64]
        refine hag2 ⟨j + 1, qi, _⟩ ⟨by simp only; omega, hx, hlt2, by simp only [hro]; exact ho, hM, hix, hap, g0, hA0⟩ (by simp only; omega) _ ?_
        simp (maxSteps := 1000000) (disch := first | omega | (simp (disch := first | omega | (simp only [freeL_ck, ck_len, AcV.len, AcV.hk, PrV.len, ixC_len, List.length_append, List.length_cons, List.length_nil, List.length_set]; first | done | omega)) only [freeL_ck, ck_len, AcV.len, AcV.hk, PrV.len, ixC_len, amSide, Int.reduceToNat, Nat.reducePow, Nat.reduceMul]; first | done | omega)) only [↓amPre, amPost, ↓s_lit', Nat.reduceAdd, Nat.reduceSub, List.replicate, retA, resultsA, resultA, toC, toCL, Nat.reduceEqDiff, Int.natCast_add, Int.cast_ofNat_Int, dec_t, dec_f]
    · simp only [decide_eq_false_iff_not] at hc2
      obtain rfl : j = L.length := by omega
      clear hag2
      rw [List.take_length, hrow, ← hall] at ho
      have hMd : (h2 ++ [AO.dead])[h.length]? = some (.map (entsS M)) := by rw [List.getElem?_append_left (by omega)]; exact hM
      have hmu : lookupA P (h2 ++ [AO.dead]) 132 (.v (.sc (.mp h.length))) (.v (.sc (.int .i64 y.c))) false = _ := lookup_entsS (un132 S.p) (un3 S.p) (zc47 S.p) hMd y.c
      rw [hgL] at hmu
      have g0d : cellsAt (h2 ++ [AO.dead]) hj.length = some y.cells := by
        unfold cellsAt at g0 ⊢
        rw [List.getElem?_append_left (by omega)]; exact g0
      have hms : (h2 ++ [AO.dead]).set h2.length AO.dead = h2 ++ [AO.dead] := by simp
      have hfl : (h2 ++ [AO.dead]).set h2.length (AO.rw 3 [.int .i64 (i : Nat)]) = h2 ++ [.rw 3 [.int .i64 (i : Nat)]] := by simp
      have hgd : (h2 ++ [AO.dead])[h2.length]? = some AO.dead := by simp
      obtain ⟨q2, h3, happ, hown3, hl3, hlo3, hx3, hq2, hkp⟩ := grow_own (b := 8) (lk := lk) (hown.push (.rw 3 [.int .i64 (i : Nat)])) [.int .i64 (i : Nat)] (by omega) (by simp) (by simp) (by omega) (by simp; omega) (by rw [recs_len ixC_len]; simp; omega)
      have hM3 : h3[h.length]? = some (.map (entsS M)) := by rw [hlo3 _ (by omega), List.getElem?_append_left (by omega)]; exact hM
      have hup := upd_entsS (P := P) (un132 S.p) (un3 S.p) hM3 hlk y.c q2
      have hbc := hkp hj.length 0 0 0 hqA (by simp; omega)
      have hlow : ∀ r, lowIf [2 * hj.length + 1] h2.length (h2 ++ [AO.rw 3 [.int .i64 (i : Nat)]]) h3 r = r := fun r => lowIf_ok h3 r fun l hl hn => by
        rw [notin_keep1] at hn; subst hn; exact hbc.1
      have hx4 := hx3 h (hx.push (.rw 3 [.int .i64 (i : Nat)])) (by omega)
      have hl4 : h3.length = h2.length + 2 := by simpa using hl3
      have hqi : Own 32 2 (h.length + 1) h3 qi (recs PrV.cells (allP l (i + 1))) ∧ Apart qi q2 := (ho.push (.rw 3 [.int .i64 (i : Nat)])).kept (by rw [← hgL]; exact (hap y.c).symm) hkp (by simp; omega)
      have hk : ∀ c, c ≠ y.c → Own 3 1 (h.length + 1) h3 (getS c M) (recs ixC (ixN l c i)) ∧ Apart (getS c M) q2 := fun c hc => ((hix.own c).push (.rw 3 [.int .i64 (i : Nat)])).kept (hgt c hc) hkp (by simp; omega)
      have hcs : ([.int .i64 (i : Nat)] : List SV) = ixC i := rfl
      rw [hcs, recs_snoc] at hown3
      have hixn : Ixs l (h.length + 1) (h3.set h.length (.map (entsS (updS y.c q2 M)))) (updS y.c q2 M) (fun _ => i + 1) := by
        refine ⟨hix.nd.upd y.c q2, fun c => ?_, fun c c' hcc => ?_⟩
        · refine Own.set ?_ (by omega) _
          rw [getS_upd, hixs c]
          by_cases e : c = y.c
          · subst e; rw [if_pos rfl, if_pos rfl, hLL]; exact hown3
          · rw [if_neg e, if_neg e]; exact (hk c e).1
        · rw [getS_upd, getS_upd]
          by_cases e : c = y.c
          · rw [if_pos e, if_neg (fun q => hcc (e.trans q.symm))]; exact (hk c' (fun q => hcc (e.trans q.symm))).2.symm
          · rw [if_neg e]
            by_cases e' : c' = y.c
            · rw [if_pos e']; exact (hk c e).2
            · rw [if_neg e']; exact hix.two c c' hcc
      simp (maxSteps := 1000000) (disch := first | omega | (simp (disch := first | omega | (simp only [freeL_ck, ck_len, AcV.len, AcV.hk, PrV.len, ixC_len, List.length_append, List.length_cons, List.length_nil, List.length_set]; first | done | omega)) only [freeL_ck, ck_len, AcV.len, AcV.hk, PrV.len, ixC_len, amSide, Int.reduceToNat, Nat.reducePow, Nat.reduceMul]; first | done | omega)) only  [↓amPre, amPost, ↓s_lit', Nat.reduceAdd, Nat.reduceSub, List.replicate, retA, resultsA, resultA, toC, toCL, Nat.reduceEqDiff, he2, (ze41 S.p), append_at (un25 S.p) (sz32 S.p) (by32 S.p) (ze32 S.p) (by decide) (by decide) rfl, sl_cells (sz32 S.p), append_at (un47 S.p) (sz3 S.p) (by3 S.p) (ze3 S.p) (by decide) (by decide) rfl, sl_cells (sz3 S.p), (bu32 S.p), lit_fill (un25 S.p) (sz32 S.p) (ze32 S.p), lit_fill (un47 S.p) (sz3 S.p) (ze3 S.p), (fa41_1 S.p), iaddr_sl (un27 S.p) (sz41 S.p), iaddr_sl (un47 S.p) (sz3 S.p), len_sl (un27 S.p), len_nils (un27 S.p), len_sl (un47 S.p), len_nils (un47 S.p), part_sc (ag3 S.p), part_all (ag41 S.p) (sz41 S.p), part_at (ag41 S.p) (sz41 S.p), store_last (sz41 S.p), (sz41 S.p), hlow, hgd, hup, g0d, gc1, hmu, happ, hms, hfl, Nat.add_zero, cells_self, cells_other, splice_def, List.flatten_cons, List.flatten_nil, List.append_nil, Nat.one_mul, Nat.zero_mul, Nat.mul_one, Nat.zero_add, wrap_i64]
      refine hag ⟨i + 1, qi, _⟩ ⟨hio, hx4.set (by omega) _, by simp; omega, hqi.1.set (by omega) _, _, List.getElem?_set_self (by omega), hixn, fun c => ?_⟩ (by simp only; omega) _ ?_
      · rw [getS_upd]
        by_cases e : c = y.c
        · rw [if_pos e]; exact hqi.2.symm
        · rw [if_neg e]; exact hap c
      · simp (maxSteps := 1000000) (disch := first | omega | (simp (disch := first | omega | (simp only [freeL_ck, ck_len, AcV.len, AcV.hk, PrV.len, ixC_len, List.length_append, List.length_cons, List.length_nil, List.length_set]; first | done | omega)) only [freeL_ck, ck_len, AcV.len, AcV.hk, PrV.len, ixC_len, amSide, Int.reduceToNat, Nat.reducePow, Nat.reduceMul]; first | done | omega)) only [↓amPre, amPost, ↓s_lit', Nat.reduceAdd, Nat.reduceSub, List.replicate, retA, resultsA, resultA, toC, toCL, Nat.reduceEqDiff, Int.natCast_add, Int.cast_ofNat_Int, dec_t, dec_f]
  · simp only [decide_eq_false_iff_not] at hc1
    obtain rfl : i = l.length := by omega
    simp (maxSteps := 1000000) (disch := first | omega | (simp (disch := first | omega | (simp only [freeL_ck, ck_len, AcV.len, AcV.hk, PrV.len, ixC_len, List.length_append, List.length_cons, List.length_nil, List.length_set]; first | done | omega)) only [freeL_ck, ck_len, AcV.len, AcV.hk, PrV.len, ixC_len, amSide, Int.reduceToNat, Nat.reducePow, Nat.reduceMul]; first | done | omega)) only  [↓amPre, amPost, ↓s_lit', Nat.reduceAdd, Nat.reduceSub, List.replicate, retA, resultsA, resultA, toC, toCL, Nat.reduceEqDiff, he, (ze41 S.p), append_at (un25 S.p) (sz32 S.p) (by32 S.p) (ze32 S.p) (by decide) (by decide) rfl, sl_cells (sz32 S.p), append_at (un47 S.p) (sz3 S.p) (by3 S.p) (ze3 S.p) (by decide) (by decide) rfl, sl_cells (sz3 S.p), (bu32 S.p), lit_fill (un25 S.p) (sz32 S.p) (ze32 S.p), lit_fill (un47 S.p) (sz3 S.p) (ze3 S.p), (fa41_1 S.p), iaddr_sl (un27 S.p) (sz41 S.p), iaddr_sl (un47 S.p) (sz3 S.p), len_sl (un27 S.p), len_nils (un27 S.p), len_sl (un47 S.p), len_nils (un47 S.p), part_sc (ag3 S.p), part_all (ag41 S.p) (sz41 S.p), part_at (ag41 S.p) (sz41 S.p), store_last (sz41 S.p), (sz41 S.p)]
    exact Ends.some ⟨hx, qo, rfl, ho.mono (by omega)⟩
end Go.AM
