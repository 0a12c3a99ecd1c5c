/- Monitors' model: clones. Conditions: none. -/
import Derived.Test.YtgcgbcdgbfeaaaaMp3
set_option linter.unusedVariables false
set_option linter.unusedSimpArgs false
set_option maxRecDepth 100000
namespace Go.AM
open Go.Proofs
-- LENS: EvV.len, MonV.len
structure CmSt where
  i : Nat
  V : MdV
  h : List AO
structure ClSt where
  i : Nat
  h : List AO
section
variable {P : Program} {T : Tab} {K d : Nat} (S : Sd P T K)
include S
set_option maxHeartbeats 16000000 in
theorem s13 (hd : 8 ≤ d) (q r : SV) (l m : List EvV) (lk : Nat) (h : List AO) (hq : Rs EvV.cells 5 h q l) (hr : Rs EvV.cells 5 h r m) :
    ev P T K d 13 [.sc q, .sc r] lk h = some (.v (.sc (.bool true)), h) := by
  obtain ⟨d, rfl⟩ : ∃ k, d = k + 1 := ⟨d - 1, by omega⟩
  refine ev_pure (at13 S.t) rfl ?_
  unfold i13 Try.f13
  have f50 := fun lk h => s50 S (show 1 ≤ d by omega) lk h
  have hfl : [[SV.nilp], [SV.nilp]].flatten = [.nilp, .nilp] := rfl
  simp (maxSteps := 1000000) (disch := first | omega | (simp (disch := first | omega | (simp only [EvV.len, MonV.len, List.length_append, List.length_cons, List.length_nil, List.length_set]; first | done | omega)) only [EvV.len, MonV.len, amSide, Int.reduceToNat, Nat.reducePow, Nat.reduceMul]; first | done | omega)) only  [↓amPre, amPost, ↓s_lit', Nat.reduceAdd, Nat.reduceSub, List.replicate, retA, resultsA, resultA, toC, toCL, Nat.reduceEqDiff, (ze98 S.p), (bu101 S.p), (bu126 S.p), lit_fill (un127 S.p) (sz92 S.p) (ze92 S.p), iaddr_sl (un127 S.p) (sz92 S.p), iaddr_sl (un91 S.p) (sz98 S.p), len_sl (un127 S.p), len_nils (un127 S.p), len_sl (un47 S.p), len_nils (un47 S.p), len_sl (un91 S.p), len_nils (un91 S.p), part_sc (ag92 S.p), part_all (ag98 S.p) (sz98 S.p), part_at (ag98 S.p) (sz98 S.p), store_last (sz98 S.p), (sz98 S.p), hfl]
  refine ends_loop (X := ClSt) ⟨0, h ++ [.rw 126 [.int .i64 0, .nils, .nils, .nilm, .nilm]] ++ [.rw 92 [.nilp, .ptr h.length 0]]⟩ [4, 6, 20, 21, 22, 23, 24, 25, 26, 27, 28, 29, 30, 31, 32, 33, 34, 35, 36, 37, 38, 39, 40, 41, 42, 43, 44, 45, 46, 47, 48, 49, 50, 51, 52, 53, 54, 55, 56, 57, 58, 59, 60, 61, 62] (fun x => x.i ≤ 2 ∧ Ext1 (h ++ [.rw 126 [.int .i64 0, .nils, .nils, .nilm, .nilm]] ++ [.rw 92 [.nilp, .ptr h.length 0]]) x.h) (fun x => 2 - x.i)
    (fun x e => e.set 19 (.v (.sc (.int .i64 x.i)))) (fun x => x.h)
    (by have := S.k; show _ < K; simp only; omega) ⟨by simp only; omega, Ext1.refl _⟩ rfl rfl ?_
  rintro ⟨i, hj⟩ ⟨hi, hx⟩ again hag e he
  simp only at hi hx hag he
  simp only [↓amPre, amPost, ↓s_lit', Nat.reduceAdd, Nat.reduceSub, List.replicate, retA, resultsA, resultA, toC, toCL, Nat.reduceEqDiff] at he
  simp only [↓amPre, amPost, ↓s_lit', Nat.reduceAdd, Nat.reduceSub, List.replicate, retA, resultsA, resultA, toC, toCL, Nat.reduceEqDiff, he]
  refine ends_cond (fun hc1 => ?_) (fun hc1 => ?_)
  · simp only [decide_eq_true_eq] at hc1
    have hbe : [SV.int .i64 1, .int .i64 0, .int .i64 0, .int .i64 0, .int .i64 0] = EvV.cells ⟨1, 0, 0, 0, 0⟩ := rfl
    have hz : hj[h.length]? = some (.rw 126 [.int .i64 0, .nils, .nils, .nilm, .nilm]) := ext1_get hx (by rw [List.getElem?_append_left (by simp), obj_self _ _ rfl])
    have hcl : cellsAt hj (h.length + 1) = some [.nilp, .ptr h.length 0] := cells_at (ext1_get hx (by rw [obj_self _ _ (by simp)]))
    have key : ∀ x, (x = SV.nilp ∨ x = SV.ptr h.length 0) → NoMd x hj := fun x hq => by
      rcases hq with rfl | rfl
      · exact .inl rfl
      · exact .inr ⟨_, rfl, hz⟩
    have hpn : binOpA P .neq 92 (.v (.sc .nilp)) (.v (.sc .nilp)) = some (.v (.sc (.bool false))) := by simp [binOpA, eqA, un92 S.p]
    rcases (show i = 0 ∨ i = 1 by omega) with rfl | rfl
    · have H := key .nilp (.inl rfl)
      have H2 := H.ext ((Ext1.refl hj).push (.rw 101 (EvV.cells ⟨1, 0, 0, 0, 0⟩)))
      have g43 := fun lk => s43x S (show 3 ≤ d by omega) H ⟨1, 0, 0, 0, 0⟩ lk
      have g45 := fun lk => s45x S (show 3 ≤ d by omega) H2 0 lk
      have g46 := fun lk => s46x S (show 3 ≤ d by omega) H2 0 lk
      have g47 := fun lk => s47x S (show 3 ≤ d by omega) H2 0 lk
      have g48 := fun lk => s48x S (show 2 ≤ d by omega) H2 0 lk
      have g49 := fun lk => s49x S (show 2 ≤ d by omega) H2 0 lk
      have g56 := fun lk => s56x S (show 2 ≤ d by omega) H2 0 lk
      have g54 := fun lk => s54x S (show 2 ≤ d by omega) H2 lk
      have g55 := fun lk => s55x S (show 2 ≤ d by omega) H2 lk
      simp (maxSteps := 1000000) (disch := first | omega | (simp (disch := first | omega | (simp only [EvV.len, MonV.len, List.length_append, List.length_cons, List.length_nil, List.length_set]; first | done | omega)) only [EvV.len, MonV.len, amSide, Int.reduceToNat, Nat.reducePow, Nat.reduceMul]; first | done | omega)) only  [↓amPre, amPost, ↓s_lit', Nat.reduceAdd, Nat.reduceSub, List.replicate, retA, resultsA, resultA, toC, toCL, Nat.reduceEqDiff, he, (ze98 S.p), (bu101 S.p), (bu126 S.p), lit_fill (un127 S.p) (sz92 S.p) (ze92 S.p), iaddr_sl (un127 S.p) (sz92 S.p), iaddr_sl (un91 S.p) (sz98 S.p), len_sl (un127 S.p), len_nils (un127 S.p), len_sl (un47 S.p), len_nils (un47 S.p), len_sl (un91 S.p), len_nils (un91 S.p), part_sc (ag92 S.p), part_all (ag98 S.p) (sz98 S.p), part_at (ag98 S.p) (sz98 S.p), store_last (sz98 S.p), (sz98 S.p), idx_ok, hcl, hbe, g43, g45, g46, g47, g48, g49, g56, g54, g55, hpn, bneI_f, bne_self_eq_false, Nat.mul_one, Nat.zero_mul, Int.toNat_natCast, Nat.zero_add, Nat.add_zero, wrap_i64]
      refine hag ⟨1, _⟩ ⟨by simp only; omega, hx.push _⟩ (by simp only; omega) _ ?_
      simp (maxSteps := 1000000) (disch := first | omega | (simp (disch := first | omega | (simp only [EvV.len, MonV.len, List.length_append, List.length_cons, List.length_nil, List.length_set]; first | done | omega)) only [EvV.len, MonV.len, amSide, Int.reduceToNat, Nat.reducePow, Nat.reduceMul]; first | done | omega)) only  [↓amPre, amPost, ↓s_lit', Nat.reduceAdd, Nat.reduceSub, List.replicate, retA, resultsA, resultA, toC, toCL, Nat.reduceEqDiff, Int.natCast_add, Int.cast_ofNat_Int, dec_t, dec_f, Int.zero_add, Int.natCast_one, Int.reduceAdd]
    · have H := key (.ptr h.length 0) (.inr rfl)
      have H2 := H.ext ((Ext1.refl hj).push (.rw 101 (EvV.cells ⟨1, 0, 0, 0, 0⟩)))
      have g43 := fun lk => s43x S (show 3 ≤ d by omega) H ⟨1, 0, 0, 0, 0⟩ lk
      have g45 := fun lk => s45x S (show 3 ≤ d by omega) H2 0 lk
      have g46 := fun lk => s46x S (show 3 ≤ d by omega) H2 0 lk
      have g47 := fun lk => s47x S (show 3 ≤ d by omega) H2 0 lk
      have g48 := fun lk => s48x S (show 2 ≤ d by omega) H2 0 lk
      have g49 := fun lk => s49x S (show 2 ≤ d by omega) H2 0 lk
      have g56 := fun lk => s56x S (show 2 ≤ d by omega) H2 0 lk
      have g54 := fun lk => s54x S (show 2 ≤ d by omega) H2 lk
      have g55 := fun lk => s55x S (show 2 ≤ d by omega) H2 lk
      simp (maxSteps := 1000000) (disch := first | omega | (simp (disch := first | omega | (simp only [EvV.len, MonV.len, List.length_append, List.length_cons, List.length_nil, List.length_set]; first | done | omega)) only [EvV.len, MonV.len, amSide, Int.reduceToNat, Nat.reducePow, Nat.reduceMul]; first | done | omega)) only  [↓amPre, amPost, ↓s_lit', Nat.reduceAdd, Nat.reduceSub, List.replicate, retA, resultsA, resultA, toC, toCL, Nat.reduceEqDiff, he, (ze98 S.p), (bu101 S.p), (bu126 S.p), lit_fill (un127 S.p) (sz92 S.p) (ze92 S.p), iaddr_sl (un127 S.p) (sz92 S.p), iaddr_sl (un91 S.p) (sz98 S.p), len_sl (un127 S.p), len_nils (un127 S.p), len_sl (un47 S.p), len_nils (un47 S.p), len_sl (un91 S.p), len_nils (un91 S.p), part_sc (ag92 S.p), part_all (ag98 S.p) (sz98 S.p), part_at (ag98 S.p) (sz98 S.p), store_last (sz98 S.p), (sz98 S.p), idx_ok, hcl, hbe, g43, g45, g46, g47, g48, g49, g56, g54, g55, hpn, bneI_f, bne_self_eq_false, Nat.mul_one, Nat.zero_mul, Int.toNat_natCast, Nat.zero_add, Nat.add_zero, wrap_i64]
      refine hag ⟨2, _⟩ ⟨by simp only; omega, hx.push _⟩ (by simp only; omega) _ ?_
      simp (maxSteps := 1000000) (disch := first | omega | (simp (disch := first | omega | (simp only [EvV.len, MonV.len, List.length_append, List.length_cons, List.length_nil, List.length_set]; first | done | omega)) only [EvV.len, MonV.len, amSide, Int.reduceToNat, Nat.reducePow, Nat.reduceMul]; first | done | omega)) only  [↓amPre, amPost, ↓s_lit', Nat.reduceAdd, Nat.reduceSub, List.replicate, retA, resultsA, resultA, toC, toCL, Nat.reduceEqDiff, Int.natCast_add, Int.cast_ofNat_Int, dec_t, dec_f, Int.zero_add, Int.natCast_one, Int.reduceAdd]
  · simp only [decide_eq_false_iff_not] at hc1
    obtain rfl : i = 2 := by omega
    have hxl := hx.len
    simp only [List.length_append, List.length_cons, List.length_nil] at hxl
    have hx0 : Ext1 h hj := (((Ext1.refl h).push _).push _).trans hx
    obtain ⟨v, h1, e41, X1, p, bm, bf, bw, bl, rfl, M0, b0, b1, b2, b3, b4⟩ := s41 S (show 2 ≤ d by omega) (n := 4) (m := 3) (c := 3) (by omega) (by omega) (by omega) h.length hj (by omega)
    have hn1 : binOpA P .eql 92 (.v (.sc (.ptr p 0))) (.v (.sc .nilp)) = some (.v (.sc (.bool false))) := by simp [binOpA, eqA, un92 S.p]
    have hx1 := X1.len
    have e55 := fun lk => s55v S (show 2 ≤ d by omega) M0 lk
    obtain ⟨q', e42, hE⟩ := s42 S (show 1 ≤ d by omega) q l h.length h1 (hq.ext (hx0.trans X1))
    have hlen := (hE h hq).len (un91 S.p)
    have c4 : ((4 : Nat) : Int) = 4 := rfl
    have c3 : ((3 : Nat) : Int) = 3 := rfl
    rw [c4, c3] at e41
    simp (maxSteps := 1000000) (disch := first | omega | (simp (disch := first | omega | (simp only [EvV.len, MonV.len, List.length_append, List.length_cons, List.length_nil, List.length_set]; first | done | omega)) only [EvV.len, MonV.len, amSide, Int.reduceToNat, Nat.reducePow, Nat.reduceMul]; first | done | omega)) only  [↓amPre, amPost, ↓s_lit', Nat.reduceAdd, Nat.reduceSub, List.replicate, retA, resultsA, resultA, toC, toCL, Nat.reduceEqDiff, he, (ze98 S.p), (bu101 S.p), (bu126 S.p), lit_fill (un127 S.p) (sz92 S.p) (ze92 S.p), iaddr_sl (un127 S.p) (sz92 S.p), iaddr_sl (un91 S.p) (sz98 S.p), len_sl (un127 S.p), len_nils (un127 S.p), len_sl (un47 S.p), len_nils (un47 S.p), len_sl (un91 S.p), len_nils (un91 S.p), part_sc (ag92 S.p), part_all (ag98 S.p) (sz98 S.p), part_at (ag98 S.p) (sz98 S.p), store_last (sz98 S.p), (sz98 S.p), e41, hn1, e55, e42, hlen, bneI_f, bne_self_eq_false]
    obtain ⟨m1, m2, m3, m4, m5⟩ := M0.lts
    generalize hN : min l.length 200 = N at *
    have hX : Ext1 h h1 := hx0.trans X1
    have p0 : h.length + 2 ≤ hj.length := hxl
    clear hag again e he
    refine ends_loop (X := CmSt) ⟨0, newV 4 3 3, _⟩ [10, 81, 82, 83, 84, 85, 86, 87, 88] (fun x => x.i ≤ N ∧ Ext1 h x.h ∧ MdAt x.h p bm bf bw bl x.V ∧ MdI 4 3 3 x.V) (fun x => N - x.i)
      (fun x e => e.set 80 (.v (.sc (.int .i64 x.i)))) (fun x => x.h)
      (by have := S.k; show _ < K; simp only; omega) ⟨by simp only; omega, hX, M0, newV_I (by omega) (by omega) (by omega)⟩ rfl rfl ?_
    clear M0 X1 hx1 m1 m2 m3 m4 m5 e41 e55 hX
    rintro ⟨i, V, hk⟩ ⟨hi, hxk, M, I⟩ again hag e he
    simp only at hi hxk M I hag he
    simp only [↓amPre, amPost, ↓s_lit', Nat.reduceAdd, Nat.reduceSub, List.replicate, retA, resultsA, resultA, toC, toCL, Nat.reduceEqDiff] at he
    simp only [↓amPre, amPost, ↓s_lit', Nat.reduceAdd, Nat.reduceSub, List.replicate, retA, resultsA, resultA, toC, toCL, Nat.reduceEqDiff, he]
    refine ends_cond (fun hc1 => ?_) (fun hc1 => ?_)
    · simp only [decide_eq_true_eq] at hc1
      have hiN : i < N := by omega
      have hkl := hxk.len
      rcases hE hk (hq.ext hxk) with ⟨rfl, hz⟩ | ⟨b, rfl, hbl, hcb, hNl⟩
      · omega
      obtain ⟨y, hy⟩ : ∃ y, l[i]? = some y := ⟨_, List.getElem?_eq_getElem (by omega)⟩
      have hpt := recs_part (ag98 S.p) (sz98 S.p) EvV.len hy
      have hpy := partR S y
      have hyl := EvV.len y
      have f44 := fun lk h => s44 S (show 1 ≤ d by omega) y lk h
      have M1 := M.ext ((Ext1.refl hk).push (.rw 98 y.cells))
      obtain ⟨v3, h3, e43, rfl, M3, F3⟩ := s43 S (show 5 ≤ d by omega) M1 I.ok y h.length (by omega)
      have I3 := I.next (by omega) y
      have hx3 : Ext1 h h3 := F3.ext1 (hxk.push _) (by omega) (by omega) (by omega) (by omega)
      simp (maxSteps := 1000000) (disch := first | omega | (simp (disch := first | omega | (simp only [EvV.len, MonV.len, List.length_append, List.length_cons, List.length_nil, List.length_set]; first | done | omega)) only [EvV.len, MonV.len, amSide, Int.reduceToNat, Nat.reducePow, Nat.reduceMul]; first | done | omega)) only  [↓amPre, amPost, ↓s_lit', Nat.reduceAdd, Nat.reduceSub, List.replicate, retA, resultsA, resultA, toC, toCL, Nat.reduceEqDiff, he, (ze98 S.p), (bu101 S.p), (bu126 S.p), lit_fill (un127 S.p) (sz92 S.p) (ze92 S.p), iaddr_sl (un127 S.p) (sz92 S.p), iaddr_sl (un91 S.p) (sz98 S.p), len_sl (un127 S.p), len_nils (un127 S.p), len_sl (un47 S.p), len_nils (un47 S.p), len_sl (un91 S.p), len_nils (un91 S.p), part_sc (ag92 S.p), part_all (ag98 S.p) (sz98 S.p), part_at (ag98 S.p) (sz98 S.p), store_last (sz98 S.p), (sz98 S.p), idx_ok, hcb, hpt, hpy, f44, e43, cells_self, cells_other, Int.toNat_natCast, Nat.zero_add, Nat.add_zero, wrap_i64]
      refine hag ⟨i + 1, _, h3⟩ ⟨by simp only; omega, hx3, M3, I3⟩ (by simp only; omega) _ ?_
      simp (maxSteps := 1000000) (disch := first | omega | (simp (disch := first | omega | (simp only [EvV.len, MonV.len, List.length_append, List.length_cons, List.length_nil, List.length_set]; first | done | omega)) only [EvV.len, MonV.len, amSide, Int.reduceToNat, Nat.reducePow, Nat.reduceMul]; first | done | omega)) only [↓amPre, amPost, ↓s_lit', Nat.reduceAdd, Nat.reduceSub, List.replicate, retA, resultsA, resultA, toC, toCL, Nat.reduceEqDiff, Int.natCast_add, Int.cast_ofNat_Int, dec_t, dec_f]
    · simp only [decide_eq_false_iff_not] at hc1
      clear hag
      have hfn := I.fn
      have hmn := I.mn
      have hkl := hxk.len
      obtain ⟨u1, u2, u3, u4, u5⟩ := M.lts
      obtain ⟨va, ha, ea, Xa, pa, am, af, aw, al, rfl, A, a0, a1, a2, a3, a4⟩ := s54 S (show 2 ≤ d by omega) M (by omega) (by omega) h.length (by omega)
      have hal := Xa.len
      obtain ⟨vb, hb, eb, Xb, pb, qm, qf, qw, ql, rfl, B, c0, c1, c2, c3, c4⟩ := s54 S (show 2 ≤ d by omega) (M.ext Xa) (by omega) (by omega) h.length (by omega)
      have hbl := Xb.len
      obtain ⟨w1, w2, w3, w4, w5⟩ := A.lts
      have A2 := A.ext Xb
      have M2 := M.ext (Xa.trans Xb)
      have g1 := fun lk => s55 S (show 2 ≤ d by omega) A2 M2 I.ok lk
      have g2 := fun lk => s55 S (show 2 ≤ d by omega) M2 B I.ok lk
      have hxb := hxk.trans (Xa.trans Xb)
      obtain ⟨q2, e42b, hE2⟩ := s42 S (show 1 ≤ d by omega) r m h.length hb (hr.ext hxb)
      have hlen2 := (hE2 h hr).len (un91 S.p)
      simp (maxSteps := 1000000) (disch := first | omega | (simp (disch := first | omega | (simp only [EvV.len, MonV.len, List.length_append, List.length_cons, List.length_nil, List.length_set]; first | done | omega)) only [EvV.len, MonV.len, amSide, Int.reduceToNat, Nat.reducePow, Nat.reduceMul]; first | done | omega)) only  [↓amPre, amPost, ↓s_lit', Nat.reduceAdd, Nat.reduceSub, List.replicate, retA, resultsA, resultA, toC, toCL, Nat.reduceEqDiff, he, (ze98 S.p), (bu101 S.p), (bu126 S.p), lit_fill (un127 S.p) (sz92 S.p) (ze92 S.p), iaddr_sl (un127 S.p) (sz92 S.p), iaddr_sl (un91 S.p) (sz98 S.p), len_sl (un127 S.p), len_nils (un127 S.p), len_sl (un47 S.p), len_nils (un47 S.p), len_sl (un91 S.p), len_nils (un91 S.p), part_sc (ag92 S.p), part_all (ag98 S.p) (sz98 S.p), part_at (ag98 S.p) (sz98 S.p), store_last (sz98 S.p), (sz98 S.p), ea, eb, g1, g2, e42b, hlen2, bneI_f, bne_self_eq_false]
      generalize hN2 : min m.length 200 = N2 at *
      refine ends_loop (X := CmSt) ⟨0, V, _⟩ [4, 14, 107, 108, 109, 110, 111, 112, 113, 114, 115, 116, 117, 118, 119, 120, 121, 122, 123, 124, 125] (fun x => x.i ≤ N2 ∧ Ext1 h x.h ∧ hb.length ≤ x.h.length ∧ MdAt x.h p bm bf bw bl V ∧ MdAt x.h pa am af aw al x.V ∧ MdAt x.h pb qm qf qw ql x.V ∧ MdI 4 3 3 x.V) (fun x => N2 - x.i)
        (fun x e => e.set 106 (.v (.sc (.int .i64 x.i)))) (fun x => x.h)
        (by have := S.k; show _ < K; simp only; omega) ⟨by simp only; omega, hxb, Nat.le_refl _, M2, A2, B, I⟩ rfl rfl ?_
      have I0 := I
      clear hE ea eb g1 g2 e42b M M2 A A2 B I he
      rintro ⟨i, W, hc⟩ ⟨hi, hxc, hbc, M, A, B, I⟩ again hag e he
      simp only at hi hxc hbc M A B I hag he
      simp only [↓amPre, amPost, ↓s_lit', Nat.reduceAdd, Nat.reduceSub, List.replicate, retA, resultsA, resultA, toC, toCL, Nat.reduceEqDiff] at he
      simp only [↓amPre, amPost, ↓s_lit', Nat.reduceAdd, Nat.reduceSub, List.replicate, retA, resultsA, resultA, toC, toCL, Nat.reduceEqDiff, he]
      refine ends_cond (fun hc1 => ?_) (fun hc1 => ?_)
      · simp only [decide_eq_true_eq] at hc1
        have hiN : i < N2 := by omega
        have hcl := hxc.len
        rcases hE2 hc (hr.ext hxc) with ⟨rfl, hz⟩ | ⟨b, rfl, hbl, hcb, hNl⟩
        · omega
        obtain ⟨y, hy⟩ : ∃ y, m[i]? = some y := ⟨_, List.getElem?_eq_getElem (by omega)⟩
        have hpt := recs_part (ag98 S.p) (sz98 S.p) EvV.len hy
        have hpy := partR S y
        have hyl := EvV.len y
        have f44 := fun lk h => s44 S (show 1 ≤ d by omega) y lk h
        obtain ⟨z1, z2, z3, z4, z5⟩ := M.lts
        obtain ⟨x1, x2, x3, x4, x5⟩ := A.lts
        obtain ⟨y1, y2, y3, y4, y5⟩ := B.lts
        have P1 := (Ext1.refl hc).push (.rw 98 y.cells)
        obtain ⟨v3, h3, e43, rfl, A3, F3⟩ := s43 S (show 5 ≤ d by omega) (A.ext P1) I.ok y h.length (by omega)
        have hfr := y.fr
        have hf3 := F3.1
        simp only [List.length_append, List.length_cons, List.length_nil] at hf3
        have hbx0 : h3[hc.length]? = (hc ++ [AO.rw 98 y.cells])[hc.length]? := F3.2 _ (by simp) (by omega) (by omega) (by omega) (by omega)
        have hbx3 : cellsAt h3 hc.length = some y.cells := by
          have : cellsAt (hc ++ [AO.rw 98 y.cells]) hc.length = some y.cells := cells_self _ _ _ rfl
          rw [← this]; simp only [cellsAt, hbx0]
        have hlow : ∀ r, lowIf [2 * hc.length + 1] (hc.length + 1) (hc ++ [AO.rw 98 y.cells]) h3 r = r := fun r => lowIf_ok h3 r fun l hl hn => by
          rw [notin_keep1] at hn; subst hn; exact hbx0
        have B3 := (B.ext P1).fr F3 (fun x hx => by rcases hx with rfl | rfl | rfl | rfl | rfl <;> (refine ⟨?_, ?_, ?_, ?_⟩ <;> omega))
        have N3 := (M.ext P1).fr F3 (fun x hx => by rcases hx with rfl | rfl | rfl | rfl | rfl <;> (refine ⟨?_, ?_, ?_, ?_⟩ <;> omega))
        obtain ⟨v4, h4, e43b, rfl, B4, F4⟩ := s43 S (show 5 ≤ d by omega) B3 I.ok y h.length (by omega)
        have A4 := A3.fr F4 (fun x hx => by rcases hx with rfl | rfl | rfl | rfl | rfl <;> (refine ⟨?_, ?_, ?_, ?_⟩ <;> omega))
        have N4 := N3.fr F4 (fun x hx => by rcases hx with rfl | rfl | rfl | rfl | rfl <;> (refine ⟨?_, ?_, ?_, ?_⟩ <;> omega))
        have I4 := I.next (by omega) y
        have hx3 : Ext1 h h3 := F3.ext1 (hxc.push _) (by omega) (by omega) (by omega) (by omega)
        have hx4 : Ext1 h h4 := F4.ext1 hx3 (by omega) (by omega) (by omega) (by omega)
        have hf4 := F4.1
        have f55 := fun lk => s55 S (show 2 ≤ d by omega) A4 B4 I4.ok lk
        clear A B A3 B3 M N3 F3 F4 hbx0
        simp (maxSteps := 1000000) (disch := first | omega | (simp (disch := first | omega | (simp only [EvV.len, MonV.len, List.length_append, List.length_cons, List.length_nil, List.length_set]; first | done | omega)) only [EvV.len, MonV.len, amSide, Int.reduceToNat, Nat.reducePow, Nat.reduceMul]; first | done | omega)) only  [↓amPre, amPost, ↓s_lit', Nat.reduceAdd, Nat.reduceSub, List.replicate, retA, resultsA, resultA, toC, toCL, Nat.reduceEqDiff, he, (ze98 S.p), (bu101 S.p), (bu126 S.p), lit_fill (un127 S.p) (sz92 S.p) (ze92 S.p), iaddr_sl (un127 S.p) (sz92 S.p), iaddr_sl (un91 S.p) (sz98 S.p), len_sl (un127 S.p), len_nils (un127 S.p), len_sl (un47 S.p), len_nils (un47 S.p), len_sl (un91 S.p), len_nils (un91 S.p), part_sc (ag92 S.p), part_all (ag98 S.p) (sz98 S.p), part_at (ag98 S.p) (sz98 S.p), store_last (sz98 S.p), (sz98 S.p), idx_ok, hcb, hpt, hpy, f44, hfr, e43, hlow, hbx3, e43b, f55, bneI_f, bneI_t, bne_self_eq_false, cells_self, cells_other, Int.toNat_natCast, Nat.zero_add, Nat.add_zero, wrap_i64]
        refine hag ⟨i + 1, _, h4⟩ ⟨by simp only; omega, hx4, by simp only; omega, N4, A4, B4, I4⟩ (by simp only; omega) _ ?_
        simp (maxSteps := 1000000) (disch := first | omega | (simp (disch := first | omega | (simp only [EvV.len, MonV.len, List.length_append, List.length_cons, List.length_nil, List.length_set]; first | done | omega)) only [EvV.len, MonV.len, amSide, Int.reduceToNat, Nat.reducePow, Nat.reduceMul]; first | done | omega)) only [↓amPre, amPost, ↓s_lit', Nat.reduceAdd, Nat.reduceSub, List.replicate, retA, resultsA, resultA, toC, toCL, Nat.reduceEqDiff, Int.natCast_add, Int.cast_ofNat_Int, dec_t, dec_f]
      · simp only [decide_eq_false_iff_not] at hc1
        clear hag
        have hcl := hxc.len
        obtain ⟨z1, z2, z3, z4, z5⟩ := M.lts
        have P1 := (Ext1.refl hc).push (.rw 101 (EvV.cells ⟨12, 0, 0, 1, 0⟩))
        obtain ⟨v3, h3, e43, rfl, A3, F3⟩ := s43 S (show 5 ≤ d by omega) A I.ok ⟨12, 0, 0, 1, 0⟩ h.length (by omega)
        have M3 := M.fr F3 (fun x hx => by rcases hx with rfl | rfl | rfl | rfl | rfl <;> (refine ⟨?_, ?_, ?_, ?_⟩ <;> omega))
        obtain ⟨vd, hd, ed, Xd, pd, dm, df, dw, dl, rfl, D, d0, d1, d2, d3, d4⟩ := s54 S (show 2 ≤ d by omega) M3 (by omega) (by omega) h.length (by have := F3.1; omega)
        have M4 := M3.ext Xd
        have g1 := fun lk => s55 S (show 2 ≤ d by omega) M4 D I0.ok lk
        have hbe : [SV.int .i64 12, .int .i64 0, .int .i64 0, .int .i64 1, .int .i64 0] = EvV.cells ⟨12, 0, 0, 1, 0⟩ := rfl
        simp (maxSteps := 1000000) (disch := first | omega | (simp (disch := first | omega | (simp only [EvV.len, MonV.len, List.length_append, List.length_cons, List.length_nil, List.length_set]; first | done | omega)) only [EvV.len, MonV.len, amSide, Int.reduceToNat, Nat.reducePow, Nat.reduceMul]; first | done | omega)) only  [↓amPre, amPost, ↓s_lit', Nat.reduceAdd, Nat.reduceSub, List.replicate, retA, resultsA, resultA, toC, toCL, Nat.reduceEqDiff, he, (ze98 S.p), (bu101 S.p), (bu126 S.p), lit_fill (un127 S.p) (sz92 S.p) (ze92 S.p), iaddr_sl (un127 S.p) (sz92 S.p), iaddr_sl (un91 S.p) (sz98 S.p), len_sl (un127 S.p), len_nils (un127 S.p), len_sl (un47 S.p), len_nils (un47 S.p), len_sl (un91 S.p), len_nils (un91 S.p), part_sc (ag92 S.p), part_all (ag98 S.p) (sz98 S.p), part_at (ag98 S.p) (sz98 S.p), store_last (sz98 S.p), (sz98 S.p), hbe, e43, ed, g1, f50]
        exact Ends.some rfl
end
end Go.AM
