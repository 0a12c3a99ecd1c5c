/- Plans: what is saved; arguments, opened. Conditions: none. -/
import Derived.Test.YtdokijbheholdabPl3
set_option linter.unusedVariables false
set_option linter.unusedSimpArgs false
set_option maxRecDepth 100000
namespace Go.AM
open Go.Proofs
-- LENS: Hdr.len, Hdr.fr, Obj.len, chg_len, chg_fr
theorem Hdr.d8 (x : Hdr) : x.cells.drop 8 = [] := nrfl rfl
theorem chg_zero : eqL [1, 1, 1, 1] (chg 0 0 0 0) [.int .i64 0, .int .u64 0, .int .i64 0, .int .u64 0] = some true := by decide
theorem s12 {P : Program} {T : Tab} {K d : Nat} (S : Sd P T K) (hd : 13 ≤ d) (o : Int) (w : Nat) (hw : w < 18446744073709551616) (k : Int) (q : SV) (cnt : List Int) (lk : Nat) (h : List AO) (hS : Sl h q cnt) :
    ev P T K d 12 [.sc (.int .i64 o), .ag (Obj w k q)] lk h = some (.v (.sc (.bool true)), h) := by
  obtain ⟨d, rfl⟩ : ∃ k, d = k + 1 := ⟨d - 1, by omega⟩
  refine ev_pure (at12 S.t) rfl ?_
  unfold i12 Try.f12
  have f39 : ∀ lk a, ev P T K d 39 [.sc (.int .i64 o), .ag [.int .u64 (w : Nat), .int .i64 k, q]] lk (h ++ [a]) = some (.tup [.ag (oneC o w cnt), .sc (.bool (oneOk o w))], h ++ [a]) := fun lk a =>
    s39 S (d := d) (by omega) o w hw k q cnt lk (h ++ [a]) (hS.push a)
  unfold oneC at f39
  cases ho : oneOk o w with
  | false =>
    rw [ho] at f39
    simp only [Bool.false_eq_true, if_false] at f39
    simp (maxSteps := 1000000) (disch := first | omega | (simp (disch := first | omega | (simp only [Hdr.len, Hdr.fr, Obj.len, chg_len, chg_fr, List.length_append, List.length_cons, List.length_nil, List.length_set]; first | done | omega)) only [Hdr.len, Hdr.fr, Obj.len, chg_len, chg_fr, amSide, Int.reduceToNat, Nat.reducePow, Nat.reduceMul]; first | done | omega)) only  [↓amPre, amPost, ↓s_lit', Nat.reduceAdd, Nat.reduceSub, List.replicate, retA, resultsA, resultA, toC, toCL, Nat.reduceEqDiff, (ze25 S.p), (ze64 S.p), eql_ag, neq_ag, (eq25 S.p), eql_bool (un4 S.p), neq_bool (un4 S.p), (eq64 S.p), (bu25 S.p), (bu64 S.p), (bu67 S.p), (fa25_1 S.p), (fa62_0 S.p), (fa62_1 S.p), (fa62_2 S.p), (fa64_0 S.p), (fa64_1 S.p), (fa64_2 S.p), (fa64_3 S.p), part_all (ag25 S.p) (sz25 S.p), part_at (ag25 S.p) (sz25 S.p), part_sc (ag26 S.p), part_sc (ag3 S.p), part_sc (ag5 S.p), part_sc (ag60 S.p), part_all (ag64 S.p) (sz64 S.p), part_at (ag64 S.p) (sz64 S.p), store_last (sz25 S.p), (sz25 S.p), store_last (sz64 S.p), (sz64 S.p), splice_def, cells_self, cells_other, set_self, set_other, f39, s38 S, chg_zero, Obj.len, Obj.c0, Obj.c1, Obj.c2, chg_len, List.append_nil]
    exact Ends.some rfl
  | true =>
    rw [ho] at f39
    simp only [if_true] at f39
    have ho2 := ho
    unfold oneOk at ho2
    simp only [Bool.and_eq_true, decide_eq_true_eq] at ho2
    obtain ⟨hb, ho3, ho4⟩ := ho2
    obtain ⟨hr, hk, ha, hown, hu⟩ := bi_facts hb
    obtain ⟨yo, ym, yw⟩ := hdr_a (rdH w).age ha
    obtain ⟨r1, r2⟩ := may_rd ym
    rw [yw] at r1 r2
    have g1 : eqL [1, 1, 1, 1, 1, 1, 1, 1] (Hdr.cells ⟨2, (rdH w).age, 0, 0, 0, 0, 0, 0⟩) [.int .i64 2, .int .u8 ((rdH w).age : Nat), .int .u8 0, .int .u32 0, .int .u16 0, .int .u16 0, .int .u16 0, .int .u32 0] = some true := by
      have := eqL_hdr ⟨2, (rdH w).age, 0, 0, 0, 0, 0, 0⟩ ⟨2, (rdH w).age, 0, 0, 0, 0, 0, 0⟩
      simp only [decide_true] at this; exact this
    have hn64 : neuW w < 18446744073709551616 := by unfold neuW; omega
    have n1 : rdOk (neuW w) = true := r1
    have n2 : rdH (neuW w) = ⟨2, (rdH w).age, 0, 0, 0, 0, 0, 0⟩ := r2
    have n3 : (((neuW w : Nat) : Int) != 0) = true := by simp only [bne_iff_ne, ne_eq]; unfold neuW; omega
    have hcc : ∀ q : Bool, (q == q) = true := fun q => by cases q <;> rfl
    cases hh : hasC cnt (ownW w) with
    | false =>
      rw [hh] at f39
      simp only [Bool.false_eq_true, if_false] at f39
      simp (maxSteps := 1000000) (disch := first | omega | (simp (disch := first | omega | (simp only [Hdr.len, Hdr.fr, Obj.len, chg_len, chg_fr, List.length_append, List.length_cons, List.length_nil, List.length_set]; first | done | omega)) only [Hdr.len, Hdr.fr, Obj.len, chg_len, chg_fr, amSide, Int.reduceToNat, Nat.reducePow, Nat.reduceMul]; first | done | omega)) only  [↓amPre, amPost, ↓s_lit', Nat.reduceAdd, Nat.reduceSub, List.replicate, retA, resultsA, resultA, toC, toCL, Nat.reduceEqDiff, (ze25 S.p), (ze64 S.p), eql_ag, neq_ag, (eq25 S.p), eql_bool (un4 S.p), neq_bool (un4 S.p), (eq64 S.p), (bu25 S.p), (bu64 S.p), (bu67 S.p), (fa25_1 S.p), (fa62_0 S.p), (fa62_1 S.p), (fa62_2 S.p), (fa64_0 S.p), (fa64_1 S.p), (fa64_2 S.p), (fa64_3 S.p), part_all (ag25 S.p) (sz25 S.p), part_at (ag25 S.p) (sz25 S.p), part_sc (ag26 S.p), part_sc (ag3 S.p), part_sc (ag5 S.p), part_sc (ag60 S.p), part_all (ag64 S.p) (sz64 S.p), part_at (ag64 S.p) (sz64 S.p), store_last (sz25 S.p), (sz25 S.p), store_last (sz64 S.p), (sz64 S.p), splice_def, cells_self, cells_other, set_self, set_other, f39, s23 S, s38 S, hr, n1, n2, g1, hcc, zeroH_cells, Hdr.len, Hdr.c1, Obj.len, Obj.c0, Obj.c1, Obj.c2, chg_len, chg_0, chg_1, chg_2, chg_3, List.append_nil, Int.reduceGE, Int.reduceLE, Int.reduceNeg, decide_false, decide_true, Int.cast_ofNat_Int, Int.reduceBNe, bne_self_eq_false, beq_self_eq_true]
      exact Ends.some rfl
    | true =>
      rw [hh] at f39
      simp only [if_true] at f39
      have hp := has_pos hh
      have hop : 0 < (rdH w).own := by omega
      obtain ⟨n, rfl⟩ := Int.eq_ofNat_of_zero_le ho3
      obtain ⟨to, tm, tw⟩ := hdr_t (rdH w).own n hop hown (by omega)
      obtain ⟨t1, t2⟩ := may_rd tm
      rw [tw] at t1 t2
      have ht64 : thinW (n : Int) w < 18446744073709551616 := by unfold thinW; rw [Int.toNat_natCast]; omega
      have m1 : rdOk (thinW (n : Int) w) = true := t1
      have d1 : decide (ownW w ≥ 0) = true := decide_eq_true hp
      simp (maxSteps := 1000000) (disch := first | omega | (simp (disch := first | omega | (simp only [Hdr.len, Hdr.fr, Obj.len, chg_len, chg_fr, List.length_append, List.length_cons, List.length_nil, List.length_set]; first | done | omega)) only [Hdr.len, Hdr.fr, Obj.len, chg_len, chg_fr, amSide, Int.reduceToNat, Nat.reducePow, Nat.reduceMul]; first | done | omega)) only  [↓amPre, amPost, ↓s_lit', Nat.reduceAdd, Nat.reduceSub, List.replicate, retA, resultsA, resultA, toC, toCL, Nat.reduceEqDiff, (ze25 S.p), (ze64 S.p), eql_ag, neq_ag, (eq25 S.p), eql_bool (un4 S.p), neq_bool (un4 S.p), (eq64 S.p), (bu25 S.p), (bu64 S.p), (bu67 S.p), (fa25_1 S.p), (fa62_0 S.p), (fa62_1 S.p), (fa62_2 S.p), (fa64_0 S.p), (fa64_1 S.p), (fa64_2 S.p), (fa64_3 S.p), part_all (ag25 S.p) (sz25 S.p), part_at (ag25 S.p) (sz25 S.p), part_sc (ag26 S.p), part_sc (ag3 S.p), part_sc (ag5 S.p), part_sc (ag60 S.p), part_all (ag64 S.p) (sz64 S.p), part_at (ag64 S.p) (sz64 S.p), store_last (sz25 S.p), (sz25 S.p), store_last (sz64 S.p), (sz64 S.p), splice_def, cells_self, cells_other, set_self, set_other, f39, s23 S, s38 S, hr, n1, n2, n3, m1, d1, g1, hcc, Hdr.d8, zeroH_cells, Hdr.len, Hdr.c1, Obj.len, Obj.c0, Obj.c1, Obj.c2, chg_len, chg_0, chg_1, chg_2, chg_3, List.append_nil, Int.reduceBNe, bne_self_eq_false, beq_self_eq_true]
      exact Ends.some rfl
/-- An object out of its cells. -/
theorem obj_of {h : List AO} {xs : List SV} (hf : Fits (.pair 1 (.int .u64) (.pair 1 (.int .i64) (.pair 1 (.slice 1 (.int .i64)) .nil))) h xs) : ∃ (w : Nat) (k : Int) (q : SV) (cnt : List Int), w < 18446744073709551616 ∧ Sl h q cnt ∧ xs = Obj w k q := by
  obtain ⟨l1, ⟨a, ha, wa⟩, l2, ⟨b, hb, wb⟩, l3, hq, hz⟩ := hf
  obtain ⟨pa, qa⟩ := wf_u64 wa
  obtain ⟨w, rfl⟩ := Int.eq_ofNat_of_zero_le pa
  have e : ∃ q, xs = [.int .u64 (w : Nat), .int .i64 b, q] := by
    match xs with
    | [] => simp at l1
    | [x] => simp at l2
    | [x, y] => simp at l3
    | x :: y :: z :: t =>
      simp only [List.take_succ_cons, List.take_zero, List.drop_succ_cons, List.drop_zero, List.cons.injEq, and_true] at ha hb hz
      subst ha hb hz
      exact ⟨z, rfl⟩
  obtain ⟨q, rfl⟩ := e
  simp only [List.drop_succ_cons, List.drop_zero, List.take_succ_cons, List.take_zero] at hq
  rcases hq with hq | ⟨l, n, cs, hq, ho, hl, hm, hx⟩
  · simp only [List.cons.injEq, and_true] at hq
    exact ⟨w, b, q, [], by omega, .inl ⟨hq, rfl⟩, rfl⟩
  · simp only [List.cons.injEq, and_true] at hq
    rw [Nat.mul_one] at hl
    have hcs : cs = (cs.map fun x => match x with | .int _ v => v | _ => 0).map (SV.int .i64) := by
      apply List.ext_getElem?
      intro i
      simp only [List.getElem?_map]
      rcases Nat.lt_or_ge i cs.length with h1 | h1
      · obtain ⟨v, hv, _⟩ := hx i (by omega)
        rw [Nat.mul_one] at hv
        have h2 : cs[i]? = some (.int .i64 v) := by
          have := congrArg (fun l => l[0]?) hv
          simp only [List.getElem?_cons_zero] at this
          rw [List.getElem?_take_of_lt (by omega), List.getElem?_drop] at this
          simpa using this
        rw [h2]; rfl
      · rw [List.getElem?_eq_none h1]; rfl
    refine ⟨w, b, q, cs.map fun x => match x with | .int _ v => v | _ => 0, by omega, .inr ⟨l, ?_, (List.getElem?_eq_some_iff.1 ho).1, ?_⟩, rfl⟩
    · rw [hq, List.length_map, hl]
    · rw [cells_at_ro ho, ← hcs]
end Go.AM
