/- Monitors' model: both models told the same. Conditions: none. -/
import Derived.Test.YtgcgbcdgbfeaaaaMq6
set_option linter.unusedVariables false
set_option linter.unusedSimpArgs false
set_option maxRecDepth 100000
-- NOTY: ze112, bu112
namespace Go.AM
open Go.Proofs
-- LENS: EvV.len, MonV.len, refC_len
/-- The threads below some, that stand at an object, rising. -/
def upL {α : Type} (l : List (Pk × α)) (o k : Nat) : List Int := ((List.range k).filter fun t => (getP ((o : Int), ((t : Nat) : Int)) l).isSome).map fun t : Nat => (t : Int)
theorem upL_succ {α : Type} (l : List (Pk × α)) (o k : Nat) : upL l o (k + 1) = if (getP ((o : Int), (k : Int)) l).isSome = true then upL l o k ++ [(k : Int)] else upL l o k := by
  unfold upL
  rw [List.range_succ, List.filter_append, List.map_append]
  by_cases h : (getP ((o : Int), (k : Int)) l).isSome = true
  · rw [if_pos h]; simp [h]
  · rw [if_neg h]; simp [h]
theorem upL_len {α : Type} (l : List (Pk × α)) (o k : Nat) : (upL l o k).length ≤ k := by
  unfold upL
  rw [List.length_map]
  have := List.length_filter_le (fun t => (getP ((o : Int), ((t : Nat) : Int)) l).isSome) (List.range k)
  rw [List.length_range] at this
  exact this
theorem thr_nodup {α : Type} {l : List (Pk × α)} (h : NdP l) (o : Int) : (thrV l o).Nodup := by
  have h1 := ndP_nodup h
  unfold thrV
  rw [List.Nodup, List.pairwise_map] at h1 ⊢
  refine (h1.filter _).imp_of_mem fun {a b} ha hb hab e => hab ?_
  have q1 : a.1.1 = o := by simpa using (List.mem_filter.1 ha).2
  have q2 : b.1.1 = o := by simpa using (List.mem_filter.1 hb).2
  exact Prod.ext (q1.trans q2.symm) e
theorem sort_thr {α : Type} {l : List (Pk × α)} (h : NdP l) (o N : Nat) (hk : ∀ x ∈ l, 0 ≤ x.1.2 ∧ x.1.2 < (N : Int)) : sortL (thrV l o) = upL l o N := by
  have hs : (upL l o N).Pairwise (fun a b => a < b) := by
    unfold upL
    rw [List.pairwise_map]
    exact (List.pairwise_lt_range.filter _).imp fun h => by omega
  have hp : (thrV l o).Perm (upL l o N) := by
    refine (List.perm_ext_iff_of_nodup (thr_nodup h o) (hs.imp fun h => by omega)).2 fun t => ?_
    rw [mem_thrV]
    unfold upL
    rw [List.mem_map]
    constructor
    · rintro ⟨v, hv⟩
      have hr := hk _ hv
      simp only at hr
      obtain ⟨k, rfl⟩ := Int.eq_ofNat_of_zero_le hr.1
      exact ⟨k, List.mem_filter.2 ⟨List.mem_range.2 (by omega), by rw [getP_of_mem h hv]; rfl⟩, rfl⟩
    · rintro ⟨k, hm, rfl⟩
      have := (List.mem_filter.1 hm).2
      obtain ⟨v, hv⟩ := Option.isSome_iff_exists.1 this
      exact ⟨v, getP_mem hv⟩
  have h1 : sortL (thrV l o) = sortL (upL l o N) := Go.mergeSort_of_perm_i hp
  rw [h1]
  exact List.mergeSort_of_pairwise (hs.imp fun h => decide_eq_true (by omega))
theorem own_keep {e s lo : Nat} {h h2 : List AO} {q q9 q2 : SV} {cs : List SV} (H : Own e s lo h q cs) (hA : Apart q q9) (hk : ∀ j o n s, Apart (.sl j o n s) q9 → j < h.length → h2[j]? = h[j]? ∧ Apart (.sl j o n s) q2) (hl : h.length ≤ h2.length) : Own e s lo h2 q cs ∧ Apart q q2 := by
  rcases H with ⟨rfl, h1⟩ | ⟨l, h1, h3, rfl, h4, h5⟩
  · exact ⟨.inl ⟨rfl, h1⟩, fun l o n s o' n' s' e => by cases e⟩
  · obtain ⟨g1, g2⟩ := hk _ _ _ _ hA h3
    exact ⟨.inr ⟨l, h1, by omega, rfl, g1.trans h4, h5⟩, g2⟩
theorem Apart.symm {a b : SV} (h : Apart a b) : Apart b a := fun l o n s o' n' s' h1 h2 => h l o' n' s' o n s h2 h1
theorem flag_flg (V : MdV) (t : Nat) : flagV V (t : Int) = flgR V t := by
  unfold flagV flgR
  by_cases h : t < V.flags.length
  · rw [if_pos ⟨by omega, by omega⟩, Int.toNat_natCast, List.getD_eq_getElem?_getD]
    cases V.flags[t]? <;> rfl
  · rw [if_neg (fun q => h (by omega)), List.getElem?_eq_none (by omega)]
structure LsSt where
  i : Nat
structure SmSt where
  o : Int
  h : List AO
structure SnSt where
  t : Nat
  q9 : SV
  q10 : SV
  h : List AO
section
variable {P : Program} {T : Tab} {K d : Nat} (S : Sd P T K)
include S
set_option maxHeartbeats 1000000 in
theorem s87 (hd : 1 ≤ d) {q1 q2 : SV} {lo1 lo2 : Nat} {L : List Int} {h : List AO} (H1 : Own 3 1 lo1 h q1 (L.map (SV.int .i64))) (H2 : Own 3 1 lo2 h q2 (L.map (SV.int .i64))) (hL : L.length ≤ 1000) (lk : Nat) :
    ev P T K d 87 [.sc q1, .sc q2] lk h = some (.v (.sc (.bool true)), h) := by
  obtain ⟨d, rfl⟩ : ∃ k, d = k + 1 := ⟨d - 1, by omega⟩
  refine ev_pure (at87 S.t) rfl ?_
  unfold i87 Try.f87
  have l1 := own_lenM (un47 S.p) H1
  have l2 := own_lenM (un47 S.p) H2
  rw [List.length_map] at l1 l2
  simp (maxSteps := 1000000) (disch := first | omega | (simp (disch := first | omega | (simp only [EvV.len, MonV.len, refC_len, List.length_append, List.length_cons, List.length_nil, List.length_set]; first | done | omega)) only [EvV.len, MonV.len, refC_len, amSide, Int.reduceToNat, Nat.reducePow, Nat.reduceMul]; first | done | omega)) only  [↓amPre, amPost, ↓s_lit', Nat.reduceAdd, Nat.reduceSub, List.replicate, retA, resultsA, resultA, toC, toCL, Nat.reduceEqDiff, iaddr_sl (un47 S.p) (sz3 S.p), len_sl (un47 S.p), len_nils (un47 S.p), part_sc (ag3 S.p), l1, l2, bne_self_eq_false]
  refine ends_loop (X := LsSt) ⟨0⟩ [4, 5, 14, 15, 16, 17, 18, 19, 20, 21, 22, 23, 24, 25] (fun x => x.i ≤ L.length) (fun x => L.length - x.i)
    (fun x e => e.set 13 (.v (.sc (.int .i64 x.i)))) (fun x => h)
    (by have := S.k; show _ < K; simp only; omega) (by simp only; omega) rfl rfl ?_
  rintro ⟨i⟩ hi again hag e he
  simp only at hi hag he
  simp only [↓amPre, amPost, ↓s_lit', Nat.reduceAdd, Nat.reduceSub, List.replicate, retA, resultsA, resultA, toC, toCL, Nat.reduceEqDiff] at he
  simp only [↓amPre, amPost, ↓s_lit', Nat.reduceAdd, Nat.reduceSub, List.replicate, retA, resultsA, resultA, toC, toCL, Nat.reduceEqDiff, he]
  refine ends_cond (fun hc1 => ?_) (fun hc1 => ?_)
  · simp only [decide_eq_true_eq] at hc1
    have hil : i < L.length := by omega
    obtain ⟨x, hx⟩ : ∃ x, L[i]? = some x := ⟨_, List.getElem?_eq_getElem hil⟩
    have hm : (L.map (SV.int .i64))[i]? = some (.int .i64 x) := by rw [List.getElem?_map, hx]; rfl
    have hne : L.map (SV.int .i64) ≠ [] := fun q => by have := congrArg List.length q; rw [List.length_map] at this; simp at this; rw [this] at hil; simp at hil
    rcases H1 with ⟨_, hq⟩ | ⟨b1, _, _, rfl, g1, _⟩
    · exact absurd hq hne
    rcases H2 with ⟨_, hq⟩ | ⟨b2, _, _, rfl, g2, _⟩
    · exact absurd hq hne
    rw [List.length_map, Nat.div_one] at l1 l2 he ⊢
    have c1 := cells_at g1
    have c2 := cells_at g2
    simp (maxSteps := 1000000) (disch := first | omega | (simp (disch := first | omega | (simp only [EvV.len, MonV.len, refC_len, List.length_append, List.length_cons, List.length_nil, List.length_set]; first | done | omega)) only [EvV.len, MonV.len, refC_len, amSide, Int.reduceToNat, Nat.reducePow, Nat.reduceMul]; first | done | omega)) only  [↓amPre, amPost, ↓s_lit', Nat.reduceAdd, Nat.reduceSub, List.replicate, retA, resultsA, resultA, toC, toCL, Nat.reduceEqDiff, he, iaddr_sl (un47 S.p) (sz3 S.p), len_sl (un47 S.p), len_nils (un47 S.p), part_sc (ag3 S.p), idx_ok, c1, c2, hm, bne_self_eq_false, Int.toNat_natCast, Nat.mul_one, Nat.zero_add, wrap_i64]
    refine hag ⟨i + 1⟩ (by simp only; omega) (by simp only; omega) _ ?_
    rw [List.length_map, Nat.div_one]
    simp (maxSteps := 1000000) (disch := first | omega | (simp (disch := first | omega | (simp only [EvV.len, MonV.len, refC_len, List.length_append, List.length_cons, List.length_nil, List.length_set]; first | done | omega)) only [EvV.len, MonV.len, refC_len, amSide, Int.reduceToNat, Nat.reducePow, Nat.reduceMul]; first | done | omega)) only [↓amPre, amPost, ↓s_lit', Nat.reduceAdd, Nat.reduceSub, List.replicate, retA, resultsA, resultA, toC, toCL, Nat.reduceEqDiff, Int.natCast_add, Int.cast_ofNat_Int, dec_t, dec_f]
  · simp (maxSteps := 1000000) (disch := first | omega | (simp (disch := first | omega | (simp only [EvV.len, MonV.len, refC_len, List.length_append, List.length_cons, List.length_nil, List.length_set]; first | done | omega)) only [EvV.len, MonV.len, refC_len, amSide, Int.reduceToNat, Nat.reducePow, Nat.reduceMul]; first | done | omega)) only  [↓amPre, amPost, ↓s_lit', Nat.reduceAdd, Nat.reduceSub, List.replicate, retA, resultsA, resultA, toC, toCL, Nat.reduceEqDiff, he, iaddr_sl (un47 S.p) (sz3 S.p), len_sl (un47 S.p), len_nils (un47 S.p), part_sc (ag3 S.p)]
    exact Ends.some rfl
end
end Go.AM
