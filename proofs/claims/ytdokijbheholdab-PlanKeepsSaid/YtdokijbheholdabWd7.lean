/- Headers and words: the document's codes and readings; older words. Conditions: none. -/
import Derived.Test.YtdokijbheholdabWd6
set_option linter.unusedVariables false
set_option linter.unusedSimpArgs false
set_option maxRecDepth 100000
namespace Go.AM
open Go.Proofs
-- LENS: Hdr.len, Hdr.fr
theorem tup_eq {k : IntKind} {a b : Int} {y : CV} (h : a = b) : AV.tup [.sc (.int k a), y] = AV.tup [.sc (.int k b), y] := by rw [h]
theorem s17 {P : Program} {T : Tab} {K d : Nat} (S : Sd P T K) (hd : 3 ≤ d) (x : Hdr) (hx : x.ok) (lk : Nat) (h : List AO) :
    ev P T K d 17 [.ag x.cells] lk h = some (.tup [.sc (.int .u64 ((if x.may then x.word else 0 : Nat) : Int)), .sc (.int .i64 (if x.may then 0 else 1))], h) := by
  obtain ⟨d, rfl⟩ : ∃ k, d = k + 1 := ⟨d - 1, by omega⟩
  refine ev_pure (at17 S.t) rfl ?_
  unfold i17 Try.f17
  cases hm : x.may with
  | false =>
    have hr : mayR x = false := by rw [mayR_eq x hx, hm]
    simp (maxSteps := 1000000) (disch := first | omega | (simp (disch := first | omega | (simp only [Hdr.len, Hdr.fr, List.length_append, List.length_cons, List.length_nil, List.length_set]; first | done | omega)) only [Hdr.len, Hdr.fr, amSide, Int.reduceToNat, Nat.reducePow, Nat.reduceMul]; first | done | omega)) only  [↓amPre, amPost, ↓s_lit', Nat.reduceAdd, Nat.reduceSub, List.replicate, retA, resultsA, resultA, toC, toCL, Nat.reduceEqDiff, lit_fill (un90 S.p) (sz26 S.p) (ze26 S.p), conv_int (un22 S.p) (un26 S.p), conv_int (un23 S.p) (un26 S.p), conv_int (un5 S.p) (un26 S.p), (fa25_0 S.p), (fa25_1 S.p), (fa25_2 S.p), (fa25_3 S.p), (fa25_4 S.p), (fa25_5 S.p), (fa25_6 S.p), (fa25_7 S.p), iaddr_sl (un90 S.p) (sz26 S.p), part_sc (ag22 S.p), part_sc (ag23 S.p), part_all (ag25 S.p) (sz25 S.p), part_at (ag25 S.p) (sz25 S.p), part_sc (ag26 S.p), part_sc (ag3 S.p), part_sc (ag5 S.p), cells_self, cells_other, s19 S, hr, Hdr.len, Bool.false_eq_true]
    exact Ends.some rfl
  | true =>
    have hr : mayR x = true := by rw [mayR_eq x hx, hm]
    have hme := may_eq x hx
    rw [hm] at hme
    simp only [Bool.true_eq, Bool.and_eq_true, decide_eq_true_eq] at hme
    obtain ⟨hf, hq⟩ := hme
    have hw : x.word = if x.kind = 1 then x.rcd * 256 + x.own * 16777216 else if x.kind = 2 then 1 + x.age * 8 + x.hash * 256 else if x.kind = 3 then 2 + x.slot * 256 + x.gen * 16777216 else if x.kind = 4 then 5 + x.age * 8 + x.ep * 256 + x.own * 16777216 else 0 := by
      unfold Hdr.word; rw [if_pos hf]
    have hkk := x.fits_kind hf
    obtain ⟨b1, b2, b3, b4, b5, b6, b7⟩ := hx
    have hr2 := hr
    unfold mayR at hr2
    simp only [Bool.and_eq_true, decide_eq_true_eq] at hr2
    obtain ⟨⟨⟨⟨⟨hk, _⟩, _⟩, _⟩, _⟩, _⟩ := hr2
    have hc : x.kind = 1 ∨ x.kind = 2 ∨ x.kind = 3 ∨ x.kind = 4 ∨ x.kind = 5 := by omega
    unfold keptH at hq
    rcases hc with k1 | k1 | k1 | k1 | k1
    all_goals
      simp only [k1, Int.reduceEq, if_true, if_false] at hq hw
      have q1 := congrArg Hdr.age hq
      have q2 := congrArg Hdr.ep hq
      have q3 := congrArg Hdr.hash hq
      have q4 := congrArg Hdr.own hq
      have q5 := congrArg Hdr.rcd hq
      have q6 := congrArg Hdr.slot hq
      have q7 := congrArg Hdr.gen hq
      simp only at q1 q2 q3 q4 q5 q6 q7
      clear hq
      simp (maxSteps := 1000000) (disch := first | omega | (simp (disch := first | omega | (simp only [Hdr.len, Hdr.fr, List.length_append, List.length_cons, List.length_nil, List.length_set]; first | done | omega)) only [Hdr.len, Hdr.fr, amSide, Int.reduceToNat, Nat.reducePow, Nat.reduceMul]; first | done | omega)) only  [↓amPre, amPost, ↓s_lit', Nat.reduceAdd, Nat.reduceSub, List.replicate, retA, resultsA, resultA, toC, toCL, Nat.reduceEqDiff, lit_fill (un90 S.p) (sz26 S.p) (ze26 S.p), conv_int (un22 S.p) (un26 S.p), conv_int (un23 S.p) (un26 S.p), conv_int (un5 S.p) (un26 S.p), (fa25_0 S.p), (fa25_1 S.p), (fa25_2 S.p), (fa25_3 S.p), (fa25_4 S.p), (fa25_5 S.p), (fa25_6 S.p), (fa25_7 S.p), iaddr_sl (un90 S.p) (sz26 S.p), part_sc (ag22 S.p), part_sc (ag23 S.p), part_all (ag25 S.p) (sz25 S.p), part_at (ag25 S.p) (sz25 S.p), part_sc (ag26 S.p), part_sc (ag3 S.p), part_sc (ag5 S.p), splice_def, cells_self, cells_other, s19 S, hr, k1, Hdr.len, Hdr.c0, Hdr.c1, Hdr.c2, Hdr.c3, Hdr.c4, Hdr.c5, Hdr.c6, Hdr.c7, wrap_u64_nat, wrap_u64, List.flatten_cons, List.flatten_nil, List.append_nil, Int.cast_ofNat_Int, Int.reduceLE, Int.reduceLT, Int.reduceToNat, Nat.reduceMul, Nat.mul_one, Int.reduceAdd, Int.reduceNeg, Int.toNat_one]
      refine Ends.some (tup_eq ?_)
      omega
end Go.AM
