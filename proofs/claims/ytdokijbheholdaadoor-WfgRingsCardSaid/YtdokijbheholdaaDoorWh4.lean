/- Waiting graphs: who is reached. Conditions: none. -/
import Derived.Test.YtdokijbheholdaaDoorWhs
set_option linter.unusedVariables false
set_option linter.unusedSimpArgs false
set_option maxRecDepth 100000
namespace Go.AM
open Go.Proofs Go.Lib
-- LENS: gC_len, Edg.len, ixC_len
theorem GR.ok {E : List Nat} {L : List Edg} (H : GR E L) : GOk E := ⟨H.len, H.lt⟩
/-- What so many nodes have edges to. -/
def orsE (E : List Nat) (l : List Nat) : Nat := l.foldl (fun m n => m ||| E.getD n 0) 0
theorem orsE_snoc (E : List Nat) (l : List Nat) (n : Nat) : orsE E (l ++ [n]) = orsE E l ||| E.getD n 0 := by unfold orsE; rw [List.foldl_append]; rfl
theorem orsE_lt {E : List Nat} (G : GOk E) (l : List Nat) : orsE E l < 18446744073709551616 := by
  unfold orsE
  have : ∀ (l : List Nat) (m : Nat), m < 18446744073709551616 → l.foldl (fun m n => m ||| E.getD n 0) m < 18446744073709551616 := by
    intro l
    induction l with
    | nil => intro m h; exact h
    | cons a l ih => intro m h; exact ih _ (Nat.or_lt_two_pow (n := 64) h (G.lt a))
  exact this l 0 (by omega)
theorem orsE_bit (E : List Nat) (l : List Nat) (k : Nat) : (orsE E l).testBit k = true ↔ ∃ n ∈ l, (E.getD n 0).testBit k = true := by
  unfold orsE
  have : ∀ (l : List Nat) (m : Nat), (l.foldl (fun m n => m ||| E.getD n 0) m).testBit k = true ↔ m.testBit k = true ∨ ∃ n ∈ l, (E.getD n 0).testBit k = true := by
    intro l
    induction l with
    | nil => intro m; simp
    | cons a l ih =>
      intro m
      rw [List.foldl_cons, ih, Nat.testBit_or, Bool.or_eq_true]
      simp only [List.mem_cons, exists_eq_or_imp, or_assoc]
  rw [this]; simp
theorem less_bit {x y : Nat} (hx : x < 18446744073709551616) (hy : y < 18446744073709551616) (k : Nat) : (x &&& (18446744073709551615 - y)).testBit k = (x.testBit k && !y.testBit k) := by
  rw [show 18446744073709551615 - y = 2 ^ 64 - (y + 1) by omega, Nat.testBit_and, Nat.testBit_two_pow_sub_succ (by simpa using hy)]
  by_cases h : k < 64
  · simp [h]
  · have : x.testBit k = false := Nat.testBit_lt_two_pow (Nat.lt_of_lt_of_le hx (by simpa using Nat.pow_le_pow_right (n := 2) (by omega) (show 64 ≤ k by omega)))
    simp [this]
structure ThS where
  met : Nat
  todo : Nat
  h : List AO
structure ThM where
  i : Nat
theorem fr64 (n : Int) : (freeA (.v (.sc (.int .u64 n)))).isSome = true := nrfl rfl
set_option maxHeartbeats 8000000 in
theorem s33 {P : Program} {T : Tab} {K d : Nat} (S : Sd P T K) (hd : 3 ≤ d) {E : List Nat} {L : List Edg} (G : GR E L) {s : Nat} (hs : s < 64) : ∃ met : Nat, met < 18446744073709551616 ∧ (∀ k, met.testBit k = true ↔ Rch L s k) ∧
    ∀ (lk : Nat) (h : List AO) (hT : tabB 0 h = true), ev P T K d 33 [.ag (gC E), .sc (.int .i64 (s : Nat))] lk h = some (.v (.sc (.int .u64 (met : Nat))), h) := by
  obtain ⟨d, rfl⟩ : ∃ k, d = k + 1 := ⟨d - 1, by omega⟩
  have key : ∀ (h : List AO) (hT : tabB 0 h = true), ∃ met : Nat, met < 18446744073709551616 ∧ (∀ k, met.testBit k = true ↔ Rch L s k) ∧ ∀ lk, ev P T K (d + 1) 33 [.ag (gC E), .sc (.int .i64 (s : Nat))] lk h = some (.v (.sc (.int .u64 (met : Nat))), h) := by
    intro h hT
    have hrun : Ends (fun v _ => ∃ met : Nat, met < 18446744073709551616 ∧ (∀ k, met.testBit k = true ↔ Rch L s k) ∧ v = .v (.sc (.int .u64 (met : Nat)))) (runA ⟨P, ev P T K d, h.length, K, i33.er, i33.dr⟩ i33.fn i33.c [.ag (gC E), .sc (.int .i64 (s : Nat))] h) := by
      unfold i33 Tryd.f33
      have G1 := G.ok
      have hl := gC_len E
      have hl64 := G1.len
      have hg := gC_at (E := E) (i := s) (by omega)
      simp (maxSteps := 1000000) (disch := first | omega | (simp (disch := first | omega | (simp only [gC_len, Edg.len, ixC_len, List.length_append, List.length_cons, List.length_nil, List.length_set]; first | done | omega)) only [gC_len, Edg.len, ixC_len, amSide, Int.reduceToNat, Nat.reducePow, Nat.reduceMul]; first | done | omega)) only  [↓amPre, amPost, ↓s_lit', Nat.reduceAdd, Nat.reduceSub, List.replicate, retA, resultsA, resultA, toC, toCL, Nat.reduceEqDiff, (fa33_0 S.p), iaddr_ptr (un31 S.p) (sz30 S.p), iaddr_sl (un35 S.p) (sz3 S.p), len_sl (un35 S.p), len_nils (un35 S.p), part_sc (ag3 S.p), part_sc (ag30 S.p), hg, cells_self, cells_other, idx_ok, Nat.mul_one, Int.toNat_natCast, Nat.zero_add]
      refine ends_loop (X := ThS) ⟨0, E.getD s 0, h ++ [.rw 33 (gC E)]⟩ [7, 9, 14, 15, 16, 17, 18, 19, 20, 21, 22, 23, 24, 25, 26, 27, 28, 29, 30, 31, 32, 33, 34, 35]
        (fun x => Srch L s x.met x.todo ∧ Ext1 (h ++ [.rw 33 (gC E)]) x.h) (fun x => 64 - (bl x.met).length)
        (fun x e => (e.set 5 (.v (.sc (.int .u64 (x.met : Nat))))).set 6 (.v (.sc (.int .u64 (x.todo : Nat))))) (fun x => x.h)
        (by have := S.k; show _ < K; simp only; omega) ⟨Srch.start G hs, Ext1.refl _⟩ rfl rfl ?_
      rintro ⟨met, todo, hj⟩ ⟨hS, hx⟩ again hag e he
      simp only at hS hx hag he
      simp only [↓amPre, amPost, ↓s_lit', Nat.reduceAdd, Nat.reduceSub, List.replicate, retA, resultsA, resultA, toC, toCL, Nat.reduceEqDiff] at he
      simp only [↓amPre, amPost, ↓s_lit', Nat.reduceAdd, Nat.reduceSub, List.replicate, retA, resultsA, resultA, toC, toCL, Nat.reduceEqDiff, he]
      by_cases h0 : todo = 0
      · subst h0
        simp (maxSteps := 1000000) (disch := first | omega | (simp (disch := first | omega | (simp only [gC_len, Edg.len, ixC_len, List.length_append, List.length_cons, List.length_nil, List.length_set]; first | done | omega)) only [gC_len, Edg.len, ixC_len, amSide, Int.reduceToNat, Nat.reducePow, Nat.reduceMul]; first | done | omega)) only  [↓amPre, amPost, ↓s_lit', Nat.reduceAdd, Nat.reduceSub, List.replicate, retA, resultsA, resultA, toC, toCL, Nat.reduceEqDiff, he, (fa33_0 S.p), iaddr_ptr (un31 S.p) (sz30 S.p), iaddr_sl (un35 S.p) (sz3 S.p), len_sl (un35 S.p), len_nils (un35 S.p), part_sc (ag3 S.p), part_sc (ag30 S.p), bneI_f]
        exact Ends.some ⟨met, hS.mlt, fun k => hS.done k, rfl⟩
      · have hn := neq0 h0
        have ho := or_nat met todo hS.mlt hS.tlt
        have hle := hx.len
        simp only [List.length_append, List.length_singleton] at hle
        have hTj := tabB_ext (tabB_ext hT ((Ext1.refl h).push (.rw 33 (gC E)))) hx
        obtain ⟨v1, h1, e1, hx1, q', rfl, hown⟩ := s23 S (show 2 ≤ d by omega) hS.tlt h.length hj (by omega) hTj
        have hrs := hown.rs (by omega) ixC_len
        have hlen := hrs.len (un35 S.p)
        have hx2 := hx.trans hx1
        have cb : cellsAt h1 h.length = some (gC E) := by rw [hx2.cells (by simp)]; exact cells_self _ _ _ rfl
        have hbl := bl_len todo
        simp (maxSteps := 1000000) (disch := first | omega | (simp (disch := first | omega | (simp only [gC_len, Edg.len, ixC_len, List.length_append, List.length_cons, List.length_nil, List.length_set]; first | done | omega)) only [gC_len, Edg.len, ixC_len, amSide, Int.reduceToNat, Nat.reducePow, Nat.reduceMul]; first | done | omega)) only  [↓amPre, amPost, ↓s_lit', Nat.reduceAdd, Nat.reduceSub, List.replicate, retA, resultsA, resultA, toC, toCL, Nat.reduceEqDiff, he, (fa33_0 S.p), iaddr_ptr (un31 S.p) (sz30 S.p), iaddr_sl (un35 S.p) (sz3 S.p), len_sl (un35 S.p), len_nils (un35 S.p), part_sc (ag3 S.p), part_sc (ag30 S.p), hn, ho, e1, hlen]
        refine ends_loop (X := ThM) ⟨0⟩ [9, 23, 24, 25, 26, 27, 28, 29, 30, 31, 32] (fun x => x.i ≤ (bl todo).length) (fun x => (bl todo).length - x.i)
          (fun x e => (e.set 7 (.v (.sc (.int .u64 (orsE E ((bl todo).take x.i) : Nat))))).set 22 (.v (.sc (.int .i64 x.i)))) (fun x => h1)
          (by have := S.k; show _ < K; simp only; omega) (by simp only; omega) rfl rfl ?_
        clear he
        rintro ⟨i⟩ hi again2 hag2 e2 he2
        simp only at hi hag2 he2
        simp only [↓amPre, amPost, ↓s_lit', Nat.reduceAdd, Nat.reduceSub, List.replicate, retA, resultsA, resultA, toC, toCL, Nat.reduceEqDiff] at he2
        simp only [↓amPre, amPost, ↓s_lit', Nat.reduceAdd, Nat.reduceSub, List.replicate, retA, resultsA, resultA, toC, toCL, Nat.reduceEqDiff, he2]
        refine ends_cond (fun hc1 => ?_) (fun hc1 => ?_)
        · simp only [decide_eq_true_eq] at hc1
          obtain ⟨b, rfl, hb, hc⟩ := hrs.at (by omega)
          obtain ⟨n, hni⟩ : ∃ n, (bl todo)[i]? = some n := ⟨_, List.getElem?_eq_getElem (by omega)⟩
          have hn64 : n < 64 := ((bl_mem todo n).1 (List.mem_of_getElem? hni)).1
          have g1 := recs_get0 ixC_len hni (by omega)
          rw [Nat.mul_one, show (ixC n)[0]? = some (.int .i64 (n : Nat)) from rfl] at g1
          have hgn := gC_at (E := E) (i := n) (by omega)
          have ho2 := or_nat (orsE E ((bl todo).take i)) (E.getD n 0) (orsE_lt G1 _) (G1.lt n)
          have hsn : orsE E ((bl todo).take i) ||| E.getD n 0 = orsE E ((bl todo).take (i + 1)) := by rw [List.take_add_one, hni, ← orsE_snoc]; rfl
          rw [hsn] at ho2
          simp (maxSteps := 1000000) (disch := first | omega | (simp (disch := first | omega | (simp only [gC_len, Edg.len, ixC_len, List.length_append, List.length_cons, List.length_nil, List.length_set]; first | done | omega)) only [gC_len, Edg.len, ixC_len, amSide, Int.reduceToNat, Nat.reducePow, Nat.reduceMul]; first | done | omega)) only  [↓amPre, amPost, ↓s_lit', Nat.reduceAdd, Nat.reduceSub, List.replicate, retA, resultsA, resultA, toC, toCL, Nat.reduceEqDiff, he2, (fa33_0 S.p), iaddr_ptr (un31 S.p) (sz30 S.p), iaddr_sl (un35 S.p) (sz3 S.p), len_sl (un35 S.p), len_nils (un35 S.p), part_sc (ag3 S.p), part_sc (ag30 S.p), idx_ok, hc, g1, cb, hgn, ho2, Nat.mul_one, Int.toNat_natCast, Nat.zero_add, wrap_i64]
          refine hag2 ⟨i + 1⟩ (by simp only; omega) (by simp only; omega) _ ?_
          simp (maxSteps := 1000000) (disch := first | omega | (simp (disch := first | omega | (simp only [gC_len, Edg.len, ixC_len, List.length_append, List.length_cons, List.length_nil, List.length_set]; first | done | omega)) only [gC_len, Edg.len, ixC_len, amSide, Int.reduceToNat, Nat.reducePow, Nat.reduceMul]; first | done | omega)) only [↓amPre, amPost, ↓s_lit', Nat.reduceAdd, Nat.reduceSub, List.replicate, retA, resultsA, resultA, toC, toCL, Nat.reduceEqDiff, Int.natCast_add, Int.cast_ofNat_Int, dec_t, dec_f]
        · simp only [decide_eq_false_iff_not] at hc1
          obtain rfl : i = (bl todo).length := by omega
          clear hag2
          rw [List.take_length] at he2
          have hm := orsE_lt G1 (bl todo)
          have hmt : met ||| todo < 18446744073709551616 := Nat.or_lt_two_pow (n := 64) hS.mlt hS.tlt
          have ha := andNot_nat (orsE E (bl todo)) (met ||| todo) hm hmt
          have hst := Srch.step G hS hm (orsE_bit E (bl todo)) _ (and_lt _ hm) (less_bit hm hmt)
          have hless := hS.less h0
          have hbm := bl_len (met ||| todo)
          simp (maxSteps := 1000000) (disch := first | omega | (simp (disch := first | omega | (simp only [gC_len, Edg.len, ixC_len, List.length_append, List.length_cons, List.length_nil, List.length_set]; first | done | omega)) only [gC_len, Edg.len, ixC_len, amSide, Int.reduceToNat, Nat.reducePow, Nat.reduceMul]; first | done | omega)) only  [↓amPre, amPost, ↓s_lit', Nat.reduceAdd, Nat.reduceSub, List.replicate, retA, resultsA, resultA, toC, toCL, Nat.reduceEqDiff, he2, (fa33_0 S.p), iaddr_ptr (un31 S.p) (sz30 S.p), iaddr_sl (un35 S.p) (sz3 S.p), len_sl (un35 S.p), len_nils (un35 S.p), part_sc (ag3 S.p), part_sc (ag30 S.p), List.take_length, ha]
          refine hag ⟨met ||| todo, orsE E (bl todo) &&& (18446744073709551615 - (met ||| todo)), h1⟩ ⟨hst, hx2⟩ (by simp only; omega) _ ?_
          simp (maxSteps := 1000000) (disch := first | omega | (simp (disch := first | omega | (simp only [gC_len, Edg.len, ixC_len, List.length_append, List.length_cons, List.length_nil, List.length_set]; first | done | omega)) only [gC_len, Edg.len, ixC_len, amSide, Int.reduceToNat, Nat.reducePow, Nat.reduceMul]; first | done | omega)) only [↓amPre, amPost, ↓s_lit', Nat.reduceAdd, Nat.reduceSub, List.replicate, retA, resultsA, resultA, toC, toCL, Nat.reduceEqDiff, Int.natCast_add, Int.cast_ofNat_Int, dec_t, dec_f]
    obtain ⟨v, h', hr, met, h1, h2, rfl⟩ := hrun
    exact ⟨met, h1, h2, fun lk => ev_pure (at33 S.t) (fr64 _) ⟨_, h', hr, rfl⟩⟩
  by_cases hex : ∃ h, tabB 0 h = true
  · obtain ⟨h0, hT0⟩ := hex
    obtain ⟨met, h1, h2, _⟩ := key h0 hT0
    refine ⟨met, h1, h2, fun lk h hT => ?_⟩
    obtain ⟨met', h1', h2', e⟩ := key h hT
    have : met' = met := Nat.eq_of_testBit_eq fun k => by
      have := (h2' k).trans (h2 k).symm
      cases q : met'.testBit k <;> cases q2 : met.testBit k <;> simp_all
    rw [← this]; exact e lk
  · exact absurd ⟨[AO.gl 0 (deBruijn64tab.map fun x => SV.int .u8 (x : Nat))], by kernel_rfl⟩ hex
end Go.AM
