/- Counts: boxes. Conditions: none. -/
import Derived.Test.YtdokijbheholdaaSt1
set_option linter.unusedVariables false
set_option linter.unusedSimpArgs false
set_option maxRecDepth 100000
namespace Go.AM
open Go.Proofs
def I1 (n : Int) : List SV := [.int .i64 n]
theorem I1_len (n : Int) : (I1 n).length = 1 := nrfl rfl
theorem recs_I1 (l : List Int) : recs I1 l = l.map (SV.int .i64) := by
  induction l with
  | nil => rfl
  | cons a l ih => rw [recs_cons, ih]; rfl
/-- Sixteen counts, as cells. -/
def arrC (b : List Nat) : List SV := b.map fun n : Nat => SV.int .i64 (n : Int)
theorem arrC_len (b : List Nat) : (arrC b).length = b.length := by simp [arrC]
theorem arrC_fr (b : List Nat) : (freeL (arrC b)).isSome = true := by
  induction b with
  | nil => rfl
  | cons a b ih =>
    show (freeL (SV.int .i64 (a : Int) :: arrC b)).isSome = true
    rw [fr_cons, ih]; rfl
theorem arrC_get {b : List Nat} {k : Nat} (hk : k < b.length) : (arrC b)[k]? = some (.int .i64 ((b.getD k 0 : Nat) : Int)) := by
  simp [arrC, List.getElem?_eq_getElem hk]
theorem arrC_set (b : List Nat) (k n : Nat) : (arrC b).set k (.int .i64 (n : Int)) = arrC (b.set k n) := by
  simp [arrC, List.map_set]
theorem arrC_set1 (b : List Nat) (k n : Nat) : (arrC b).set k (.int .i64 ((n : Int) + 1)) = arrC (b.set k (n + 1)) := by
  rw [← arrC_set]; simp
/-- A number's box. -/
def bx (s : Int) : Nat := min (lenN s.toNat - 1) 15
def addB (b : List Nat) (s : Int) : List Nat := if 0 < s then b.set (bx s) (b.getD (bx s) 0 + 1) else b
def boxN (l : List Int) : List Nat := l.foldl addB (List.replicate 16 0)
theorem bx_lt (s : Int) : bx s < 16 := by unfold bx; omega
theorem addB_len (b : List Nat) (s : Int) : (addB b s).length = b.length := by unfold addB; split <;> simp
theorem boxN_snoc (l : List Int) (s : Int) : boxN (l ++ [s]) = addB (boxN l) s := by simp [boxN]
theorem snoc_ind {p : List Int → Prop} (h0 : p []) (h1 : ∀ l s, p l → p (l ++ [s])) (l : List Int) : p l := by
  have : ∀ n (l : List Int), l.length = n → p l := by
    intro n
    induction n with
    | zero => intro l hl; rw [List.eq_nil_of_length_eq_zero hl]; exact h0
    | succ n ih =>
      intro l hl
      have hne : l ≠ [] := by intro q; rw [q] at hl; simp at hl
      rw [← List.dropLast_concat_getLast hne]
      exact h1 _ _ (ih _ (by simp; omega))
  exact this _ l rfl
theorem boxN_len (l : List Int) : (boxN l).length = 16 := by
  induction l using snoc_ind with
  | h0 => simp [boxN]
  | h1 l s ih => rw [boxN_snoc, addB_len, ih]
theorem boxN_le (l : List Int) (k : Nat) : (boxN l).getD k 0 ≤ l.length := by
  induction l using snoc_ind with
  | h0 =>
    simp only [boxN, List.foldl_nil, List.getD_eq_getElem?_getD, List.getElem?_replicate]
    split <;> simp
  | h1 l s ih =>
    rw [boxN_snoc, List.length_append, List.length_singleton]
    unfold addB
    split
    · simp only [List.getD_eq_getElem?_getD, List.getElem?_set] at ih ⊢
      by_cases e : bx s = k
      · subst e
        rw [if_pos rfl]
        split
        · simp only [Option.getD_some]; omega
        · simp
      · rw [if_neg e]; omega
    · omega
theorem take_snocI (l : List Int) (i : Nat) (x : Int) (h : l[i]? = some x) : l.take (i + 1) = l.take i ++ [x] := by
  rw [List.take_add_one, h]; rfl
theorem s54 {P : Program} {T : Tab} {K d : Nat} (S : Sd P T K) (hd : 2 ≤ d) (x : Nat) (hx : x < 18446744073709551616) (lk : Nat) (h : List AO) :
    ev P T K d 54 [.sc (.int .u64 (x : Nat))] lk h = some (.v (.sc (.int .i64 ((lenN x : Nat) : Int))), h) := by
  obtain ⟨d, rfl⟩ : ∃ k, d = k + 1 := ⟨d - 1, by omega⟩
  refine ev_pure (at54 S.t) rfl ?_
  unfold i54 Try.f54
  have f := fun lk => s59 S (show 1 ≤ d by omega) x hx lk h
  simp (maxSteps := 1000000) (disch := first | omega | (simp (disch := first | omega | (simp only [List.length_append, List.length_cons, List.length_nil, List.length_set]; first | done | omega)) only [amSide, Int.reduceToNat, Nat.reducePow, Nat.reduceMul]; first | done | omega)) only  [↓amPre, amPost, ↓s_lit', Nat.reduceAdd, Nat.reduceSub, List.replicate, retA, resultsA, resultA, toC, toCL, Nat.reduceEqDiff, conv_int (un93 S.p) (un22 S.p), f]
  exact Ends.some rfl
structure BxSt where
  i : Nat
-- LENS: arrC_len, boxN_len
set_option maxHeartbeats 1000000 in
theorem s36 {P : Program} {T : Tab} {K d : Nat} (S : Sd P T K) (hd : 3 ≤ d) (q : SV) (l : List Int) (hl : l.length ≤ 500) (hw : ∀ x ∈ l, x ≤ 9223372036854775807) (lk : Nat) (h : List AO) (hq : Rs I1 1 h q l) :
    ev P T K d 36 [.sc q] lk h = some (.v (.ag (arrC (boxN l))), h) := by
  obtain ⟨d, rfl⟩ : ∃ k, d = k + 1 := ⟨d - 1, by omega⟩
  refine ev_pure (at36 S.t) (by rw [fr_ag, arrC_fr]) ?_
  unfold i36 Try.f36
  have hlen := hq.len (un35 S.p)
  have hz : [SV.int .i64 0, .int .i64 0, .int .i64 0, .int .i64 0, .int .i64 0, .int .i64 0, .int .i64 0, .int .i64 0, .int .i64 0, .int .i64 0, .int .i64 0, .int .i64 0, .int .i64 0, .int .i64 0, .int .i64 0, .int .i64 0] = arrC (boxN []) := rfl
  simp (maxSteps := 1000000) (disch := first | omega | (simp (disch := first | omega | (simp only [arrC_len, boxN_len, List.length_append, List.length_cons, List.length_nil, List.length_set]; first | done | omega)) only [arrC_len, boxN_len, amSide, Int.reduceToNat, Nat.reducePow, Nat.reduceMul]; first | done | omega)) only  [↓amPre, amPost, ↓s_lit', Nat.reduceAdd, Nat.reduceSub, List.replicate, retA, resultsA, resultA, toC, toCL, Nat.reduceEqDiff, (ze58 S.p), conv_int (un3 S.p) (un93 S.p), iaddr_sl (un35 S.p) (sz3 S.p), iaddr_ptr (un58 S.p) (sz3 S.p), len_sl (un35 S.p), len_nils (un35 S.p), part_sc (ag3 S.p), part_all (ag58 S.p) (sz58 S.p), part_at (ag58 S.p) (sz58 S.p), store_last (sz3 S.p), (sz3 S.p), store_last (sz58 S.p), (sz58 S.p), hlen, hz]
  refine ends_loop (X := BxSt) ⟨0⟩ [5, 9, 10, 11, 12, 13, 14, 15, 16, 17, 18, 19, 20, 21, 22, 23] (fun x => x.i ≤ l.length) (fun x => l.length - x.i)
    (fun x e => e.set 8 (.v (.sc (.int .i64 x.i)))) (fun x => h ++ [.rw 58 (arrC (boxN []))] ++ [.rw 58 (arrC (boxN (l.take x.i)))])
    (by have := S.k; show _ < K; simp only; omega) (by simp only; omega) rfl rfl ?_
  rintro ⟨i⟩ hi again hag e he
  simp only at hi hag he
  simp only [↓amPre, amPost, ↓s_lit', Nat.reduceAdd, Nat.reduceSub, List.replicate, retA, resultsA, resultA, toC, toCL, Nat.reduceEqDiff] at he
  simp only [↓amPre, amPost, ↓s_lit', Nat.reduceAdd, Nat.reduceSub, List.replicate, retA, resultsA, resultA, toC, toCL, Nat.reduceEqDiff, he]
  have hb16 := boxN_len (l.take i)
  refine ends_cond (fun hc1 => ?_) (fun hc1 => ?_)
  · simp only [decide_eq_true_eq] at hc1
    have hio : i < l.length := by omega
    obtain ⟨b, rfl, hb, hc⟩ := hq.at (by omega)
    obtain ⟨x, hx⟩ : ∃ x, l[i]? = some x := ⟨_, List.getElem?_eq_getElem hio⟩
    rw [recs_I1] at hc
    have hxm := hw x (List.mem_of_getElem? hx)
    have hcx : (l.map (SV.int .i64))[i]? = some (.int .i64 x) := by simp [hx]
    have hsn := boxN_snoc (l.take i) x
    rw [← take_snocI l i x hx] at hsn
    have hcc : ∀ z z', cellsAt (h ++ [z] ++ [z']) b = some (l.map (SV.int .i64)) := fun z z' => by rw [cells_other b _ (by simp; omega), cells_other b _ (by omega)]; exact hc
    by_cases hp : 0 < x
    · obtain ⟨n, rfl⟩ := Int.eq_ofNat_of_zero_le (show 0 ≤ x by omega)
      have f54 := fun lk h => s54 S (show 2 ≤ d by omega) n (by omega) lk h
      have hbx : bx (n : Int) = min (lenN n - 1) 15 := by unfold bx; rw [Int.toNat_natCast]
      have hln : 1 ≤ lenN n := by unfold lenN; rw [if_neg (by omega)]; omega
      have hln2 : lenN n ≤ 64 := by
        unfold lenN; rw [if_neg (by omega)]
        have := (Nat.log2_lt (n := n) (k := 63) (by omega)).2 (by omega)
        omega
      have hm : (if (15 : Int) < ((lenN n : Nat) : Int) - 1 then (15 : Int) else ((lenN n : Nat) : Int) - 1) = ((bx (n : Int) : Nat) : Int) := by rw [hbx]; split <;> omega
      have hlt := bx_lt (n : Int)
      have hgt := arrC_get (b := boxN (l.take i)) (k := bx (n : Int)) (by omega)
      have hst := arrC_set1 (boxN (l.take i)) (bx (n : Int)) ((boxN (l.take i)).getD (bx (n : Int)) 0)
      have hle := boxN_le (l.take i) (bx (n : Int))
      have hle2 := List.length_take_le i l
      unfold addB at hsn
      rw [if_pos hp] at hsn
      rw [← hsn] at hst
      generalize bx (n : Int) = k at *
      generalize (boxN (l.take i)).getD k 0 = v at *
      have hki : (0 ≤ ((k : Nat) : Int) ∧ ((k : Nat) : Int) < 16) = True := by simp; omega
      simp (maxSteps := 1000000) (disch := first | omega | (simp (disch := first | omega | (simp only [arrC_len, boxN_len, List.length_append, List.length_cons, List.length_nil, List.length_set]; first | done | omega)) only [arrC_len, boxN_len, amSide, Int.reduceToNat, Nat.reducePow, Nat.reduceMul]; first | done | omega)) only  [↓amPre, amPost, ↓s_lit', Nat.reduceAdd, Nat.reduceSub, List.replicate, retA, resultsA, resultA, toC, toCL, Nat.reduceEqDiff, he, (ze58 S.p), conv_int (un3 S.p) (un93 S.p), iaddr_sl (un35 S.p) (sz3 S.p), iaddr_ptr (un58 S.p) (sz3 S.p), len_sl (un35 S.p), len_nils (un35 S.p), part_sc (ag3 S.p), part_all (ag58 S.p) (sz58 S.p), part_at (ag58 S.p) (sz58 S.p), store_last (sz3 S.p), (sz3 S.p), store_last (sz58 S.p), (sz58 S.p), idx_ok, hki, hcc, hcx, dec_t, wrap_u64, f54, hm, hgt, hst, cells_self, Int.toNat_natCast, Nat.mul_one, Nat.zero_add, wrap_i64, Int.natCast_add, Int.cast_ofNat_Int]
      refine hag ⟨i + 1⟩ (by simp only; omega) (by simp only; omega) _ ?_
      simp (maxSteps := 1000000) (disch := first | omega | (simp (disch := first | omega | (simp only [arrC_len, boxN_len, List.length_append, List.length_cons, List.length_nil, List.length_set]; first | done | omega)) only [arrC_len, boxN_len, amSide, Int.reduceToNat, Nat.reducePow, Nat.reduceMul]; first | done | omega)) only [↓amPre, amPost, ↓s_lit', Nat.reduceAdd, Nat.reduceSub, List.replicate, retA, resultsA, resultA, toC, toCL, Nat.reduceEqDiff, Int.natCast_add, Int.cast_ofNat_Int, dec_t, dec_f]
    · unfold addB at hsn
      rw [if_neg hp] at hsn
      simp (maxSteps := 1000000) (disch := first | omega | (simp (disch := first | omega | (simp only [arrC_len, boxN_len, List.length_append, List.length_cons, List.length_nil, List.length_set]; first | done | omega)) only [arrC_len, boxN_len, amSide, Int.reduceToNat, Nat.reducePow, Nat.reduceMul]; first | done | omega)) only  [↓amPre, amPost, ↓s_lit', Nat.reduceAdd, Nat.reduceSub, List.replicate, retA, resultsA, resultA, toC, toCL, Nat.reduceEqDiff, he, (ze58 S.p), conv_int (un3 S.p) (un93 S.p), iaddr_sl (un35 S.p) (sz3 S.p), iaddr_ptr (un58 S.p) (sz3 S.p), len_sl (un35 S.p), len_nils (un35 S.p), part_sc (ag3 S.p), part_all (ag58 S.p) (sz58 S.p), part_at (ag58 S.p) (sz58 S.p), store_last (sz3 S.p), (sz3 S.p), store_last (sz58 S.p), (sz58 S.p), idx_ok, hcc, hcx, dec_f, Int.toNat_natCast, Nat.mul_one, Nat.zero_add, wrap_i64]
      rw [← hsn]
      refine hag ⟨i + 1⟩ (by simp only; omega) (by simp only; omega) _ ?_
      simp (maxSteps := 1000000) (disch := first | omega | (simp (disch := first | omega | (simp only [arrC_len, boxN_len, List.length_append, List.length_cons, List.length_nil, List.length_set]; first | done | omega)) only [arrC_len, boxN_len, amSide, Int.reduceToNat, Nat.reducePow, Nat.reduceMul]; first | done | omega)) only [↓amPre, amPost, ↓s_lit', Nat.reduceAdd, Nat.reduceSub, List.replicate, retA, resultsA, resultA, toC, toCL, Nat.reduceEqDiff, Int.natCast_add, Int.cast_ofNat_Int, dec_t, dec_f]
  · simp only [decide_eq_false_iff_not] at hc1
    obtain rfl : i = l.length := by omega
    have hbl := boxN_len l
    have hb0 := boxN_len []
    rw [List.take_length] at *
    simp (maxSteps := 1000000) (disch := first | omega | (simp (disch := first | omega | (simp only [arrC_len, boxN_len, List.length_append, List.length_cons, List.length_nil, List.length_set]; first | done | omega)) only [arrC_len, boxN_len, amSide, Int.reduceToNat, Nat.reducePow, Nat.reduceMul]; first | done | omega)) only  [↓amPre, amPost, ↓s_lit', Nat.reduceAdd, Nat.reduceSub, List.replicate, retA, resultsA, resultA, toC, toCL, Nat.reduceEqDiff, he, (ze58 S.p), conv_int (un3 S.p) (un93 S.p), iaddr_sl (un35 S.p) (sz3 S.p), iaddr_ptr (un58 S.p) (sz3 S.p), len_sl (un35 S.p), len_nils (un35 S.p), part_sc (ag3 S.p), part_all (ag58 S.p) (sz58 S.p), part_at (ag58 S.p) (sz58 S.p), store_last (sz3 S.p), (sz3 S.p), store_last (sz58 S.p), (sz58 S.p), cells_self, cells_other]
    exact Ends.some rfl
end Go.AM
