/- Records: a stack that is none answers so. Conditions: none. -/
import Derived.Test.YtgcgbcdgbfeaaaaRe6
set_option linter.unusedVariables false
set_option linter.unusedSimpArgs false
set_option maxRecDepth 100000
namespace Go.AM
open Go.Proofs
-- LENS: Rec.len
theorem s26n {P : Program} {T : Tab} {K d : Nat} (S : Sd P T K) (hd : 2 ≤ d) (x : SV) (o s : Int) (lk : Nat) (hh : List AO) (f65 : ∀ d lk hh', 1 ≤ d → Ext1 hh hh' → ev P T K d 65 [.sc x] lk hh' = some (.v (.sc (.bool false)), hh')) :
    ev P T K d 26 [.sc x, .sc (.int .i64 o), .sc (.int .u64 s)] lk hh = some (.tup [.sc (.int .i64 0), .sc (.int .i64 2)], hh) := by
  obtain ⟨d, rfl⟩ : ∃ k, d = k + 1 := ⟨d - 1, by omega⟩
  rw [ev_run (at26 S.t)]
  unfold i26 Try.f26
  have f := fun lk => f65 d lk hh (by omega) (Ext1.refl hh)
  simp (disch := first | omega | (simp (disch := first | omega | (simp only [Rec.len, List.length_append, List.length_cons, List.length_nil, List.length_set]; first | done | omega)) only [Rec.len, amSide, Int.reduceToNat, Nat.reducePow, Nat.reduceMul]; first | done | omega)) only  [↓amPre, amPost, ↓s_lit', Nat.reduceAdd, Nat.reduceSub, List.replicate, retA, resultsA, resultA, toC, toCL, Nat.reduceEqDiff, append_at (un59 S.p) (sz62 S.p) (by62 S.p) (ze62 S.p) (by decide) (by decide) rfl, sl_cells (sz62 S.p), (bu62 S.p), lit_fill (un59 S.p) (sz62 S.p) (ze62 S.p), (fa88_0 S.p), (fa88_1 S.p), len_sl (un59 S.p), len_nils (un59 S.p), part_sc (ag3 S.p), part_sc (ag59 S.p), store_last (sz59 S.p), (sz59 S.p), f]
theorem s29n {P : Program} {T : Tab} {K d : Nat} (S : Sd P T K) (hd : 5 ≤ d) (x : SV) (o : Int) (lk : Nat) (hh : List AO) (hlk : lk ≤ hh.length) (f65 : ∀ d lk hh', 1 ≤ d → Ext1 hh hh' → ev P T K d 65 [.sc x] lk hh' = some (.v (.sc (.bool false)), hh')) :
    ev P T K d 29 [.sc x, .sc (.int .i64 o)] lk hh = some (.tup [.ag [.int .i64 0, .int .u64 0], .sc (.int .i64 2)], hh ++ [.rw 62 [.int .i64 0, .int .u64 0]]) := by
  obtain ⟨d, rfl⟩ : ∃ k, d = k + 1 := ⟨d - 1, by omega⟩
  rw [ev_run (at29 S.t)]
  unfold i29 Try.f29
  have f := fun lk => f65 d lk (hh ++ [.rw 62 [.int .i64 0, .int .u64 0]]) (by omega) ((Ext1.refl hh).push _)
  have f' := fun lk => f65 d lk hh (by omega) (Ext1.refl hh)
  simp (disch := first | omega | (simp (disch := first | omega | (simp only [Rec.len, List.length_append, List.length_cons, List.length_nil, List.length_set]; first | done | omega)) only [Rec.len, amSide, Int.reduceToNat, Nat.reducePow, Nat.reduceMul]; first | done | omega)) only  [↓amPre, amPost, ↓s_lit', Nat.reduceAdd, Nat.reduceSub, List.replicate, retA, resultsA, resultA, toC, toCL, Nat.reduceEqDiff, (ze62 S.p), (bu62 S.p), (fa88_1 S.p), iaddr_sl (un59 S.p) (sz62 S.p), part_sc (ag59 S.p), part_all (ag62 S.p) (sz62 S.p), part_at (ag62 S.p) (sz62 S.p), store_last (sz59 S.p), (sz59 S.p), store_last (sz62 S.p), (sz62 S.p), f, f', cells_self, splice_def, List.append_nil]
theorem s33n {P : Program} {T : Tab} {K d : Nat} (S : Sd P T K) (hd : 4 ≤ d) (x : SV) (o : Int) (lk : Nat) (hh : List AO) (f65 : ∀ d lk hh', 1 ≤ d → Ext1 hh hh' → ev P T K d 65 [.sc x] lk hh' = some (.v (.sc (.bool false)), hh')) :
    ev P T K d 33 [.sc x, .sc (.int .i64 o)] lk hh = some (.tup [.sc (.int .i64 (-1)), .sc (.bool false)], hh) := by
  obtain ⟨d, rfl⟩ : ∃ k, d = k + 1 := ⟨d - 1, by omega⟩
  refine ev_pure (at33 S.t) rfl ?_
  unfold i33 Try.f33
  have f := fun lk => f65 d lk hh (by omega) (Ext1.refl hh)
  simp (disch := first | omega | (simp (disch := first | omega | (simp only [Rec.len, List.length_append, List.length_cons, List.length_nil, List.length_set]; first | done | omega)) only [Rec.len, amSide, Int.reduceToNat, Nat.reducePow, Nat.reduceMul]; first | done | omega)) only  [↓amPre, amPost, ↓s_lit', Nat.reduceAdd, Nat.reduceSub, List.replicate, retA, resultsA, resultA, toC, toCL, Nat.reduceEqDiff, (fa88_1 S.p), part_sc (ag59 S.p), f, wrap_i64]
  exact Ends.some rfl
theorem s32n {P : Program} {T : Tab} {K d : Nat} (S : Sd P T K) (hd : 4 ≤ d) (x : SV) (o : Int) (lk : Nat) (hh : List AO) (f65 : ∀ d lk hh', 1 ≤ d → Ext1 hh hh' → ev P T K d 65 [.sc x] lk hh' = some (.v (.sc (.bool false)), hh')) :
    ev P T K d 32 [.sc x, .sc (.int .i64 o)] lk hh = some (.v (.sc (.int .i64 0)), hh) := by
  obtain ⟨d, rfl⟩ : ∃ k, d = k + 1 := ⟨d - 1, by omega⟩
  refine ev_pure (at32 S.t) rfl ?_
  unfold i32 Try.f32
  have f := fun lk => s66n S (show 2 ≤ d by omega) x lk hh f65
  have hln := fun hh => len_nils (P := P) (h := hh) (un47 S.p)
  simp (disch := first | omega | (simp (disch := first | omega | (simp only [Rec.len, List.length_append, List.length_cons, List.length_nil, List.length_set]; first | done | omega)) only [Rec.len, amSide, Int.reduceToNat, Nat.reducePow, Nat.reduceMul]; first | done | omega)) only  [↓amPre, amPost, ↓s_lit', Nat.reduceAdd, Nat.reduceSub, List.replicate, retA, resultsA, resultA, toC, toCL, Nat.reduceEqDiff, iaddr_sl (un47 S.p) (sz3 S.p), len_sl (un47 S.p), len_nils (un47 S.p), part_sc (ag3 S.p), f, hln]
  refine ends_loop (X := Unit) () [7, 12, 13, 14, 15, 16, 17, 18, 19, 20] (fun _ => True) (fun _ => 0) (fun _ e => e) (fun _ => hh) (by have := S.k; show 0 < K; omega) trivial rfl rfl ?_
  rintro _ _ again hag e he
  simp only [↓amPre, amPost, ↓s_lit', Nat.reduceAdd, Nat.reduceSub, List.replicate, retA, resultsA, resultA, toC, toCL, Nat.reduceEqDiff] at he
  simp only [↓amPre, amPost, ↓s_lit', Nat.reduceAdd, Nat.reduceSub, List.replicate, retA, resultsA, resultA, toC, toCL, Nat.reduceEqDiff, he]
  simp (disch := first | omega | (simp (disch := first | omega | (simp only [Rec.len, List.length_append, List.length_cons, List.length_nil, List.length_set]; first | done | omega)) only [Rec.len, amSide, Int.reduceToNat, Nat.reducePow, Nat.reduceMul]; first | done | omega)) only  [↓amPre, amPost, ↓s_lit', Nat.reduceAdd, Nat.reduceSub, List.replicate, retA, resultsA, resultA, toC, toCL, Nat.reduceEqDiff, he, iaddr_sl (un47 S.p) (sz3 S.p), len_sl (un47 S.p), len_nils (un47 S.p), part_sc (ag3 S.p), dec_f]
  exact Ends.some rfl
theorem s37n {P : Program} {T : Tab} {K d : Nat} (S : Sd P T K) (hd : 4 ≤ d) (x : SV) (o s : Int) (lk : Nat) (hh : List AO) (hlk : lk ≤ hh.length) (f65 : ∀ d lk hh', 1 ≤ d → Ext1 hh hh' → ev P T K d 65 [.sc x] lk hh' = some (.v (.sc (.bool false)), hh')) :
    ev P T K d 37 [.sc x, .sc (.int .i64 o), .sc (.int .u64 s)] lk hh = some (.v (.sc (.int .i64 2)), hh ++ [.rw 62 [.int .i64 0, .int .u64 0]]) := by
  obtain ⟨d, rfl⟩ : ∃ k, d = k + 1 := ⟨d - 1, by omega⟩
  rw [ev_run (at37 S.t)]
  unfold i37 Try.f37
  have f := fun lk => s28n S (show 2 ≤ d by omega) x o lk hh f65
  simp (disch := first | omega | (simp (disch := first | omega | (simp only [Rec.len, List.length_append, List.length_cons, List.length_nil, List.length_set]; first | done | omega)) only [Rec.len, amSide, Int.reduceToNat, Nat.reducePow, Nat.reduceMul]; first | done | omega)) only  [↓amPre, amPost, ↓s_lit', Nat.reduceAdd, Nat.reduceSub, List.replicate, retA, resultsA, resultA, toC, toCL, Nat.reduceEqDiff, (ze62 S.p), (fa62_1 S.p), (fa88_1 S.p), iaddr_sl (un59 S.p) (sz62 S.p), part_sc (ag59 S.p), store_last (sz39 S.p), (sz39 S.p), store_last (sz62 S.p), (sz62 S.p), f, bneI_t, bneI_f]
theorem s131z {P : Program} {T : Tab} {K d : Nat} (S : Sd P T K) (hd : 1 ≤ d) (lk : Nat) (hh : List AO) : ev P T K d 131 [.sc (.int .u64 0)] lk hh = some (.v (.sc (.int .i64 0)), hh) := by
  obtain ⟨d, rfl⟩ : ∃ k, d = k + 1 := ⟨d - 1, by omega⟩
  refine ev_pure (at131 S.t) rfl ?_
  unfold i131 Try.f131
  simp (disch := first | omega | (simp (disch := first | omega | (simp only [Rec.len, List.length_append, List.length_cons, List.length_nil, List.length_set]; first | done | omega)) only [Rec.len, amSide, Int.reduceToNat, Nat.reducePow, Nat.reduceMul]; first | done | omega)) only  [↓amPre, amPost, ↓s_lit', Nat.reduceAdd, Nat.reduceSub, List.replicate, retA, resultsA, resultA, toC, toCL, Nat.reduceEqDiff, conv_int (un39 S.p) (un5 S.p), conv_int (un5 S.p) (un3 S.p), dec_f]
  refine ends_pure (v := .v (.sc (.int .u8 0))) (by rw [S.p]; kernel_rfl) ?_
  simp (disch := first | omega | (simp (disch := first | omega | (simp only [Rec.len, List.length_append, List.length_cons, List.length_nil, List.length_set]; first | done | omega)) only [Rec.len, amSide, Int.reduceToNat, Nat.reducePow, Nat.reduceMul]; first | done | omega)) only  [↓amPre, amPost, ↓s_lit', Nat.reduceAdd, Nat.reduceSub, List.replicate, retA, resultsA, resultA, toC, toCL, Nat.reduceEqDiff, conv_int (un39 S.p) (un5 S.p), conv_int (un5 S.p) (un3 S.p), wrap_i64]
  exact Ends.some rfl
theorem s104z {P : Program} {T : Tab} {K d : Nat} (S : Sd P T K) (hd : 2 ≤ d) (lk : Nat) (hh : List AO) : ev P T K d 104 [.sc (.int .u64 0)] lk hh = some (.v (.sc (.int .i64 0)), hh) := by
  obtain ⟨d, rfl⟩ : ∃ k, d = k + 1 := ⟨d - 1, by omega⟩
  refine ev_pure (at104 S.t) rfl ?_
  unfold i104 Try.f104
  have f := fun lk => s131z S (show 1 ≤ d by omega) lk hh
  simp (disch := first | omega | (simp (disch := first | omega | (simp only [Rec.len, List.length_append, List.length_cons, List.length_nil, List.length_set]; first | done | omega)) only [Rec.len, amSide, Int.reduceToNat, Nat.reducePow, Nat.reduceMul]; first | done | omega)) only  [↓amPre, amPost, ↓s_lit', Nat.reduceAdd, Nat.reduceSub, List.replicate, retA, resultsA, resultA, toC, toCL, Nat.reduceEqDiff, conv_int (un176 S.p) (un36 S.p), f]
  exact Ends.some rfl
theorem s121z {P : Program} {T : Tab} {K d : Nat} (S : Sd P T K) (hd : 1 ≤ d) (q : SV) (lk : Nat) (hh : List AO) : ev P T K d 121 [.sc q, .sc (.int .i64 0), .sc (.int .i64 0)] lk hh = some (.tup [], hh) := by
  suffices H : Ends (fun v h' => v = .tup [] ∧ h' = hh) (ev P T K d 121 [.sc q, .sc (.int .i64 0), .sc (.int .i64 0)] lk hh) by
    obtain ⟨v, h', e, rfl, rfl⟩ := H
    exact e
  obtain ⟨d, rfl⟩ : ∃ k, d = k + 1 := ⟨d - 1, by omega⟩
  rw [ev_run (at121 S.t)]
  unfold i121 Try.f121
  simp (disch := first | omega | (simp (disch := first | omega | (simp only [Rec.len, List.length_append, List.length_cons, List.length_nil, List.length_set]; first | done | omega)) only [Rec.len, amSide, Int.reduceToNat, Nat.reducePow, Nat.reduceMul]; first | done | omega)) only  [↓amPre, amPost, ↓s_lit', Nat.reduceAdd, Nat.reduceSub, List.replicate, retA, resultsA, resultA, toC, toCL, Nat.reduceEqDiff, iaddr_sl (un47 S.p) (sz3 S.p), part_sc (ag3 S.p), store_last (sz3 S.p), (sz3 S.p), wrap_i64]
  refine ends_loop (X := Unit) () [7, 10, 11, 12, 13, 14, 15, 16, 17, 18, 19, 20, 21, 22, 23, 24, 25, 26, 27, 28, 29, 30, 31, 32, 33, 34, 35, 36, 37, 38, 39, 40, 41, 42, 43, 44, 45, 46, 47, 48] (fun _ => True) (fun _ => 0) (fun _ e => e) (fun _ => hh) (by have := S.k; show 0 < K; omega) trivial rfl rfl ?_
  rintro _ _ again hag e he
  simp only [↓amPre, amPost, ↓s_lit', Nat.reduceAdd, Nat.reduceSub, List.replicate, retA, resultsA, resultA, toC, toCL, Nat.reduceEqDiff] at he
  simp only [↓amPre, amPost, ↓s_lit', Nat.reduceAdd, Nat.reduceSub, List.replicate, retA, resultsA, resultA, toC, toCL, Nat.reduceEqDiff, he]
  simp (disch := first | omega | (simp (disch := first | omega | (simp only [Rec.len, List.length_append, List.length_cons, List.length_nil, List.length_set]; first | done | omega)) only [Rec.len, amSide, Int.reduceToNat, Nat.reducePow, Nat.reduceMul]; first | done | omega)) only  [↓amPre, amPost, ↓s_lit', Nat.reduceAdd, Nat.reduceSub, List.replicate, retA, resultsA, resultA, toC, toCL, Nat.reduceEqDiff, he, iaddr_sl (un47 S.p) (sz3 S.p), part_sc (ag3 S.p), store_last (sz3 S.p), (sz3 S.p), dec_f]
  exact Ends.some ⟨rfl, rfl⟩
theorem s103z {P : Program} {T : Tab} {K d : Nat} (S : Sd P T K) (hd : 2 ≤ d) (q : SV) (lk : Nat) (hh : List AO) : ev P T K d 103 [.sc q, .sc (.int .i64 0), .sc (.int .i64 0), .sc (.int .i64 0)] lk hh = some (.tup [], hh) := by
  suffices H : Ends (fun v h' => v = .tup [] ∧ h' = hh) (ev P T K d 103 [.sc q, .sc (.int .i64 0), .sc (.int .i64 0), .sc (.int .i64 0)] lk hh) by
    obtain ⟨v, h', e, rfl, rfl⟩ := H
    exact e
  obtain ⟨d, rfl⟩ : ∃ k, d = k + 1 := ⟨d - 1, by omega⟩
  rw [ev_run (at103 S.t)]
  unfold i103 Try.f103
  have f := s121z S (show 1 ≤ d by omega) q lk hh
  simp (disch := first | omega | (simp (disch := first | omega | (simp only [Rec.len, List.length_append, List.length_cons, List.length_nil, List.length_set]; first | done | omega)) only [Rec.len, amSide, Int.reduceToNat, Nat.reducePow, Nat.reduceMul]; first | done | omega)) only  [↓amPre, amPost, ↓s_lit', Nat.reduceAdd, Nat.reduceSub, List.replicate, retA, resultsA, resultA, toC, toCL, Nat.reduceEqDiff, iaddr_sl (un47 S.p) (sz3 S.p), part_sc (ag3 S.p)]
  refine ends_loop (X := Unit) () [10, 11, 12, 13, 14, 15, 16, 17, 18, 19, 20, 21, 22, 23, 24, 25, 26, 27, 28, 29, 30, 31, 32, 33, 34, 35, 36, 37, 38, 39, 40, 41, 42, 43, 44, 45, 46, 47, 48, 49, 50, 51, 52, 53, 54, 55, 56, 57, 58, 59, 60, 61, 62, 63, 64, 65, 66, 67, 68, 69, 70, 71, 72, 73, 74, 75, 76, 77, 78, 79, 80, 81, 82, 83, 84, 85, 86, 87, 88, 89, 90, 91, 92, 93, 94, 95, 96, 97, 98, 99, 100, 101, 102, 103, 104, 105, 106, 107, 108, 109, 110, 111, 112, 113, 114, 115, 116, 117, 118, 119, 120, 121, 122, 123, 124, 125, 126, 127, 128, 129, 130, 131, 132, 133] (fun _ => True) (fun _ => 0) (fun _ e => e) (fun _ => hh) (by have := S.k; show 0 < K; omega) trivial rfl rfl ?_
  rintro _ _ again hag e he
  simp only [↓amPre, amPost, ↓s_lit', Nat.reduceAdd, Nat.reduceSub, List.replicate, retA, resultsA, resultA, toC, toCL, Nat.reduceEqDiff] at he
  simp only [↓amPre, amPost, ↓s_lit', Nat.reduceAdd, Nat.reduceSub, List.replicate, retA, resultsA, resultA, toC, toCL, Nat.reduceEqDiff, he]
  simp (disch := first | omega | (simp (disch := first | omega | (simp only [Rec.len, List.length_append, List.length_cons, List.length_nil, List.length_set]; first | done | omega)) only [Rec.len, amSide, Int.reduceToNat, Nat.reducePow, Nat.reduceMul]; first | done | omega)) only  [↓amPre, amPost, ↓s_lit', Nat.reduceAdd, Nat.reduceSub, List.replicate, retA, resultsA, resultA, toC, toCL, Nat.reduceEqDiff, he, iaddr_sl (un47 S.p) (sz3 S.p), part_sc (ag3 S.p), wrap_i64, dec_t, f]
  exact Ends.some ⟨rfl, rfl⟩
theorem s68z {P : Program} {T : Tab} {K d : Nat} (S : Sd P T K) (hd : 3 ≤ d) (lk : Nat) (hh : List AO) : ev P T K d 68 [.sc .nils] lk hh = some (.tup [], hh) := by
  obtain ⟨d, rfl⟩ : ∃ k, d = k + 1 := ⟨d - 1, by omega⟩
  rw [ev_run (at68 S.t)]
  unfold i68 Try.f68
  have f := s103z S (show 2 ≤ d by omega) .nils lk hh
  have f2 := s104z S (show 2 ≤ d by omega) lk hh
  have hln := fun hh => len_nils (P := P) (h := hh) (un47 S.p)
  simp (disch := first | omega | (simp (disch := first | omega | (simp only [Rec.len, List.length_append, List.length_cons, List.length_nil, List.length_set]; first | done | omega)) only [Rec.len, amSide, Int.reduceToNat, Nat.reducePow, Nat.reduceMul]; first | done | omega)) only  [↓amPre, amPost, ↓s_lit', Nat.reduceAdd, Nat.reduceSub, List.replicate, retA, resultsA, resultA, toC, toCL, Nat.reduceEqDiff, conv_int (un3 S.p) (un176 S.p), len_sl (un47 S.p), len_nils (un47 S.p), wrap_u64, hln, f, f2]
theorem s69z {P : Program} {T : Tab} {K d : Nat} (S : Sd P T K) (hd : 1 ≤ d) (lk : Nat) (hh : List AO) : ev P T K d 69 [.sc .nils] lk hh = some (.v (.sc .nils), hh) := by
  obtain ⟨d, rfl⟩ : ∃ k, d = k + 1 := ⟨d - 1, by omega⟩
  rw [ev_run (at69 S.t)]
  unfold i69 Try.f69
  have hln := fun hh => len_nils (P := P) (h := hh) (un47 S.p)
  simp (disch := first | omega | (simp (disch := first | omega | (simp only [Rec.len, List.length_append, List.length_cons, List.length_nil, List.length_set]; first | done | omega)) only [Rec.len, amSide, Int.reduceToNat, Nat.reducePow, Nat.reduceMul]; first | done | omega)) only  [↓amPre, amPost, ↓s_lit', Nat.reduceAdd, Nat.reduceSub, List.replicate, retA, resultsA, resultA, toC, toCL, Nat.reduceEqDiff, clear_sl (un47 S.p) (ze3 S.p), iaddr_sl (un47 S.p) (sz3 S.p), len_sl (un47 S.p), len_nils (un47 S.p), part_sc (ag3 S.p), slice_lo (un47 S.p) (sz3 S.p), slice_hi (un47 S.p) (sz3 S.p), slice_lohi (un47 S.p) (sz3 S.p), slice_nil (un47 S.p) (sz3 S.p), slice_none (un47 S.p), sliceE_lohi (un47 S.p) (sz3 S.p) (by decide), sliceE_hi (un47 S.p) (sz3 S.p) (by decide), slice_mx (un47 S.p), sliceE_mx (un47 S.p) (sz3 S.p) (by decide), store_last (sz3 S.p), (sz3 S.p), hln, dec_t]
theorem s31n {P : Program} {T : Tab} {K d : Nat} (S : Sd P T K) (hd : 5 ≤ d) (x : SV) (lk : Nat) (hh : List AO) (f65 : ∀ d lk hh', 1 ≤ d → Ext1 hh hh' → ev P T K d 65 [.sc x] lk hh' = some (.v (.sc (.bool false)), hh')) :
    ev P T K d 31 [.sc x] lk hh = some (.v (.sc .nils), hh) := by
  obtain ⟨d, rfl⟩ : ∃ k, d = k + 1 := ⟨d - 1, by omega⟩
  rw [ev_run (at31 S.t)]
  unfold i31 Try.f31
  have f := s66n S (show 2 ≤ d by omega) x lk hh f65
  have f1 := s68z S (show 3 ≤ d by omega) lk hh
  have f2 := s69z S (show 1 ≤ d by omega) lk hh
  simp (disch := first | omega | (simp (disch := first | omega | (simp only [Rec.len, List.length_append, List.length_cons, List.length_nil, List.length_set]; first | done | omega)) only [Rec.len, amSide, Int.reduceToNat, Nat.reducePow, Nat.reduceMul]; first | done | omega)) only  [↓amPre, amPost, ↓s_lit', Nat.reduceAdd, Nat.reduceSub, List.replicate, retA, resultsA, resultA, toC, toCL, Nat.reduceEqDiff, if_true, f, f1, f2]
end Go.AM
