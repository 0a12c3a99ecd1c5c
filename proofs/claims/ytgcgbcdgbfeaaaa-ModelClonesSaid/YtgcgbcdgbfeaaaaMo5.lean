/- Monitors' model: what is written: End, Hash; who waits. Conditions: none. -/
import Derived.Test.YtgcgbcdgbfeaaaaMo4
set_option linter.unusedVariables false
set_option linter.unusedSimpArgs false
set_option maxRecDepth 100000
namespace Go.AM
open Go.Proofs
-- LENS: EvV.len, MonV.len
/-- What holds of a model's numbers. -/
structure MdOk (V : MdV) : Prop where
  n : V.flags.length ≤ 8
  m : V.mons.length ≤ 8
  cnt : ∀ (i : Nat) o, V.mons[i]? = some o → 0 ≤ o.cnt ∧ o.cnt ≤ 60
  wk : ∀ x ∈ V.waits, (0 ≤ x.1.1 ∧ x.1.1 < V.mons.length) ∧ 0 ≤ x.1.2 ∧ x.1.2 < V.flags.length
  lk : ∀ x ∈ V.left, (0 ≤ x.1.1 ∧ x.1.1 < V.mons.length) ∧ 0 ≤ x.1.2 ∧ x.1.2 < V.flags.length
  wd : NdP V.waits
  ld : NdP V.left
theorem ndP_nodup {α : Type} : ∀ {M : List (Pk × α)}, NdP M → (M.map (·.1)).Nodup
  | [], _ => List.nodup_nil
  | (a, v) :: M, h => by
    rw [List.map_cons, List.nodup_cons]
    refine ⟨fun q => ?_, ndP_nodup h.2⟩
    obtain ⟨x, hx, e⟩ := List.mem_map.1 q
    exact h.1 x hx e
theorem keysOf_entsP {α : Type} (enc : α → CV) : ∀ {M : List (Pk × α)}, (∀ x ∈ M, (0 ≤ x.1.1 ∧ x.1.1 < 100) ∧ 0 ≤ x.1.2 ∧ x.1.2 < 100) → keysOf (entsP enc M) = some (M.map (·.1))
  | [], _ => rfl
  | ((a, b), v) :: M, h => by
    have hm := h _ List.mem_cons_self
    have ih := keysOf_entsP enc (M := M) fun x hx => h x (List.mem_cons_of_mem _ hx)
    have hw : (Lit.int .i64 a).wf = true ∧ (Lit.int .i64 b).wf = true := by
      simp only at hm
      constructor <;> (simp [Lit.wf, IntKind.min, IntKind.max, IntKind.signed, IntKind.bits]; omega)
    show (if (Lit.int .i64 a).wf = true ∧ (Lit.int .i64 b).wf = true then (keysOf (entsP enc M)).map ((a, b) :: ·) else none) = _
    rw [if_pos hw, ih]; rfl
theorem pick_thr {α : Type} (o : Int) (M : List (Pk × α)) : Go.Proofs.pickT o (M.map (·.1)) = thrV M o := by
  unfold Go.Proofs.pickT thrV
  rw [List.filter_map, List.map_map]; rfl
theorem nodup_sub_length {l : List Pk} (hd : l.Nodup) (hm : ∀ x ∈ l, (0 ≤ x.1 ∧ x.1 < 8) ∧ 0 ≤ x.2 ∧ x.2 < 8) : l.length ≤ 64 := by
  have hinj : (l.map fun x : Pk => (x.1 * 8 + x.2).toNat).Nodup := by
    rw [List.Nodup, List.pairwise_map]
    refine hd.imp_of_mem fun {a b} ha hb hab e => hab ?_
    have h1 := hm a ha
    have h2 := hm b hb
    obtain ⟨a1, a2⟩ := a
    obtain ⟨b1, b2⟩ := b
    simp only at h1 h2 e
    have : a1 = b1 ∧ a2 = b2 := by omega
    rw [this.1, this.2]
  have hsub : (l.map fun x : Pk => (x.1 * 8 + x.2).toNat) ⊆ List.range 64 := fun y hy => by
    obtain ⟨x, hx, rfl⟩ := List.mem_map.1 hy
    have h1 := hm x hx
    rw [List.mem_range]; omega
  have := hinj.length_le_of_subset hsub
  rw [List.length_map, List.length_range] at this
  exact this
/-- Threads, told by the contract. -/
theorem thrF_at {α : Type} {enc : α → CV} {h : List AO} {l : Nat} {M : List (Pk × α)} (hl : h[l]? = some (.map (entsP enc M))) (hm : ∀ x ∈ M, (0 ≤ x.1.1 ∧ x.1.1 < 8) ∧ 0 ≤ x.1.2 ∧ x.1.2 < 8) (hd : NdP M) (o : Int) (lk : Nat) :
    thrF [.sc (.mp l), .sc (.int .i64 o)] lk h = if thrV M o = [] then some (.v (.sc .nils), h) else some (.v (.sc (.sl h.length 0 (thrV M o).length 1)), h ++ [.rw 3 ((sortL (thrV M o)).map (SV.int .i64))]) := by
  have hk := keysOf_entsP enc (M := M) fun x hx => by have := hm x hx; omega
  have hnd := ndP_nodup hd
  have hlen : (M.map (·.1)).length ≤ 1000 := by
    have := nodup_sub_length hnd fun x hx => by
      obtain ⟨y, hy, rfl⟩ := List.mem_map.1 hx
      exact hm y hy
    omega
  unfold thrF
  simp only [hl, hk]
  rw [if_pos ⟨hlen, hnd⟩, pick_thr]
theorem MdOk.w8 {V : MdV} (H : MdOk V) : ∀ x ∈ V.waits, (0 ≤ x.1.1 ∧ x.1.1 < 8) ∧ 0 ≤ x.1.2 ∧ x.1.2 < 8 := fun x hx => by
  have := H.wk x hx; have := H.n; have := H.m; omega
theorem MdOk.l8 {V : MdV} (H : MdOk V) : ∀ x ∈ V.left, (0 ≤ x.1.1 ∧ x.1.1 < 8) ∧ 0 ≤ x.1.2 ∧ x.1.2 < 8 := fun x hx => by
  have := H.lk x hx; have := H.n; have := H.m; omega
theorem own_lenM {P : Program} {t el : TypeId} (hu : P.underlying t = some (.slice el)) {e lo : Nat} {h : List AO} {q : SV} {cs : List SV} (H : Own e 1 lo h q cs) (hh : List AO) : lenA P hh t (.v (.sc q)) = some (.v (.sc (.int .i64 (cs.length : Int)))) := by
  rcases H with ⟨rfl, rfl⟩ | ⟨b, _, _, rfl, _⟩
  · exact len_nils hu
  · rw [Nat.div_one]; exact len_sl hu _ _ _ _
theorem sortL_len (l : List Int) : (sortL l).length = l.length := List.length_mergeSort _
theorem own_new (h : List AO) (l : List Int) (hl : l ≠ []) : Own 3 1 h.length (h ++ [.rw 3 (l.map (SV.int .i64))]) (.sl h.length 0 l.length 1) (l.map (SV.int .i64)) :=
  .inr ⟨h.length, Nat.le_refl _, by simp, by simp, by simp, by simp [Nat.mod_one]⟩
section
variable {P : Program} {T : Tab} {K d : Nat} (S : Sd P T K)
include S
set_option maxHeartbeats 1000000 in
theorem s48 (hd : 2 ≤ d) {p bm bf bw bl : Nat} {V : MdV} {h : List AO} (M : MdAt h p bm bf bw bl V) (H : MdOk V) (o : Int) (lk : Nat) :
    Ends (fun v h' => Ext1 h h' ∧ ∃ q, v = .v (.sc q) ∧ Own 3 1 h.length h' q ((sortL (thrV V.waits o)).map (SV.int .i64))) (ev P T K d 48 [.sc (.ptr p 0), .sc (.int .i64 o)] lk h) := by
  obtain ⟨d, rfl⟩ : ∃ k, d = k + 1 := ⟨d - 1, by omega⟩
  rw [ev_run (at48 S.t)]
  unfold i48 Try.f48
  have hp := M.cp
  have f78 := fun lk => s78 S (show 1 ≤ d by omega) M lk
  have f79 : ∀ lk, ev P T K d 79 [.sc (.mp bw), .sc (.int .i64 o)] lk h = _ := fun lk => by
    obtain ⟨d, rfl⟩ : ∃ k, d = k + 1 := ⟨d - 1, by omega⟩
    rw [ev_kn (at79 S.t)]
    exact thrF_at M.pw H.w8 H.wd o lk
  by_cases c : thrV V.waits o = []
  · simp only [if_pos c] at f79
    simp (maxSteps := 1000000) (disch := first | omega | (simp (disch := first | omega | (simp only [EvV.len, MonV.len, List.length_append, List.length_cons, List.length_nil, List.length_set]; first | done | omega)) only [EvV.len, MonV.len, amSide, Int.reduceToNat, Nat.reducePow, Nat.reduceMul]; first | done | omega)) only  [↓amPre, amPost, ↓s_lit', Nat.reduceAdd, Nat.reduceSub, List.replicate, retA, resultsA, resultA, toC, toCL, Nat.reduceEqDiff, (fa126_3 S.p), part_sc (ag123 S.p), hp, f78, f79]
    refine Ends.some ⟨Ext1.refl _, .nils, rfl, .inl ⟨rfl, ?_⟩⟩
    rw [c]
    show (List.mergeSort [] _).map _ = _
    rw [List.mergeSort_nil]; rfl
  · simp only [if_neg c] at f79
    simp (maxSteps := 1000000) (disch := first | omega | (simp (disch := first | omega | (simp only [EvV.len, MonV.len, List.length_append, List.length_cons, List.length_nil, List.length_set]; first | done | omega)) only [EvV.len, MonV.len, amSide, Int.reduceToNat, Nat.reducePow, Nat.reduceMul]; first | done | omega)) only  [↓amPre, amPost, ↓s_lit', Nat.reduceAdd, Nat.reduceSub, List.replicate, retA, resultsA, resultA, toC, toCL, Nat.reduceEqDiff, (fa126_3 S.p), part_sc (ag123 S.p), hp, f78, f79]
    refine Ends.some ⟨(Ext1.refl _).push _, _, rfl, ?_⟩
    have := own_new h (sortL (thrV V.waits o)) (fun q => c (List.eq_nil_of_length_eq_zero (by rw [← sortL_len, q]; rfl)))
    rw [sortL_len] at this
    exact this
set_option maxHeartbeats 1000000 in
theorem s49 (hd : 2 ≤ d) {p bm bf bw bl : Nat} {V : MdV} {h : List AO} (M : MdAt h p bm bf bw bl V) (H : MdOk V) (o : Int) (lk : Nat) :
    Ends (fun v h' => Ext1 h h' ∧ ∃ q, v = .v (.sc q) ∧ Own 3 1 h.length h' q ((sortL (thrV V.left o)).map (SV.int .i64))) (ev P T K d 49 [.sc (.ptr p 0), .sc (.int .i64 o)] lk h) := by
  obtain ⟨d, rfl⟩ : ∃ k, d = k + 1 := ⟨d - 1, by omega⟩
  rw [ev_run (at49 S.t)]
  unfold i49 Try.f49
  have hp := M.cp
  have f78 := fun lk => s78 S (show 1 ≤ d by omega) M lk
  have f80 : ∀ lk, ev P T K d 80 [.sc (.mp bl), .sc (.int .i64 o)] lk h = _ := fun lk => by
    obtain ⟨d, rfl⟩ : ∃ k, d = k + 1 := ⟨d - 1, by omega⟩
    rw [ev_kn (at80 S.t)]
    exact thrF_at M.pl H.l8 H.ld o lk
  by_cases c : thrV V.left o = []
  · simp only [if_pos c] at f80
    simp (maxSteps := 1000000) (disch := first | omega | (simp (disch := first | omega | (simp only [EvV.len, MonV.len, List.length_append, List.length_cons, List.length_nil, List.length_set]; first | done | omega)) only [EvV.len, MonV.len, amSide, Int.reduceToNat, Nat.reducePow, Nat.reduceMul]; first | done | omega)) only  [↓amPre, amPost, ↓s_lit', Nat.reduceAdd, Nat.reduceSub, List.replicate, retA, resultsA, resultA, toC, toCL, Nat.reduceEqDiff, (fa126_4 S.p), part_sc (ag124 S.p), hp, f78, f80]
    refine Ends.some ⟨Ext1.refl _, .nils, rfl, .inl ⟨rfl, ?_⟩⟩
    rw [c]
    show (List.mergeSort [] _).map _ = _
    rw [List.mergeSort_nil]; rfl
  · simp only [if_neg c] at f80
    simp (maxSteps := 1000000) (disch := first | omega | (simp (disch := first | omega | (simp only [EvV.len, MonV.len, List.length_append, List.length_cons, List.length_nil, List.length_set]; first | done | omega)) only [EvV.len, MonV.len, amSide, Int.reduceToNat, Nat.reducePow, Nat.reduceMul]; first | done | omega)) only  [↓amPre, amPost, ↓s_lit', Nat.reduceAdd, Nat.reduceSub, List.replicate, retA, resultsA, resultA, toC, toCL, Nat.reduceEqDiff, (fa126_4 S.p), part_sc (ag124 S.p), hp, f78, f80]
    refine Ends.some ⟨(Ext1.refl _).push _, _, rfl, ?_⟩
    have := own_new h (sortL (thrV V.left o)) (fun q => c (List.eq_nil_of_length_eq_zero (by rw [← sortL_len, q]; rfl)))
    rw [sortL_len] at this
    exact this
end
end Go.AM
