/- The abstract machine: operations that write do in the model what they do here. Conditions: none. -/
import Derived.Test.YtjhhjmngjmflaaaAmCode
import Derived.Laws.Append
import Derived.ArgAppend
import Derived.Laws.MakeOwn
set_option linter.unusedVariables false
set_option linter.unusedSimpArgs false
namespace Go.AM
section
variable {P : Program} {g : G} {h : List AO} {w : World}

/-- Where a run stands. -/
structure HSt (W : Nat → Prop) (w0 : World) (lock : Nat) (g : G) (h : List AO) (w : World) : Prop where
  rel : HRel g h w
  keep : Keeps W w0 w
  own : ∀ l, lock ≤ l → isRW h l → W (g.blk l) ∨ w0.heap.size ≤ g.blk l

variable {W : Nat → Prop} {w0 : World} {lock : Nat}
theorem HSt.drew (H : HSt W w0 lock g h w) : HSt W w0 lock g h w.drew := ⟨H.rel.drew, H.keep.drew, H.own⟩

/-- A new block. -/
theorem HSt.new (H : HSt W w0 lock g h w) (e : TypeId) (cs : List SV) (C : Array Value) (hle : cs.length ≤ C.size) (hc : ∀ (i : Nat) (x : SV), cs[i]? = some x → ∃ v : Value, C[i]? = some v ∧ SRel g h.length x v) :
    HSt W w0 lock (g.upd h.length w.heap.size 0 C.size) (h ++ [.rw e cs]) (w.alloc (.cells C e)) := by
  have Hr : HRel g h (w.alloc (.cells C e)) := H.rel.world fun l hl => Go.RowKit.Below.heap_alloc _ _ _ (H.rel.lt hl)
  have hext := g.upd_ext h.length w.heap.size 0 C.size
  refine ⟨Hr.push _ _ _ _ (fun l hl => Nat.ne_of_lt (H.rel.lt hl)) ?_, H.keep.alloc _, ?_⟩
  · refine ⟨C, ?_, ?_, ?_, fun i x hx => ?_⟩
    · simp only [G.upd, if_true]
      show (w.heap.push _)[w.heap.size]? = _
      simp
    · simp [G.upd]
    · simp [G.upd]; exact hle
    · obtain ⟨v, h1, h2⟩ := hc i x hx
      exact ⟨v, by simpa [G.upd] using h1, SRel.mono (by omega) hext x v h2⟩
  · intro l hl hr
    rcases isRW_append hr with hr | ⟨rfl, _⟩
    · rw [(hext l (isLive_lt hr.live)).1]; exact H.own l hl hr
    · right; simp [G.upd]; exact H.keep.size
theorem HSt.newMap (H : HSt W w0 lock g h w) : HSt W w0 lock (g.upd h.length w.heap.size 0 0) (h ++ [.map []]) (w.alloc (.map #[] 0)) := by
  have Hr : HRel g h (w.alloc (.map #[] 0)) := H.rel.world fun l hl => Go.RowKit.Below.heap_alloc _ _ _ (H.rel.lt hl)
  have hext := g.upd_ext h.length w.heap.size 0 0
  refine ⟨Hr.push _ _ _ _ (fun l hl => Nat.ne_of_lt (H.rel.lt hl)) ?_, H.keep.alloc _, ?_⟩
  · refine ⟨#[], 0, ?_, by simp [MRel], Go.MapKept.stamped_empty 0⟩
    simp only [G.upd, if_true]
    show (w.heap.push _)[w.heap.size]? = _
    simp
  · intro l hl hr
    rcases isRW_append hr with hr | ⟨rfl, _⟩
    · rw [(hext l (isLive_lt hr.live)).1]; exact H.own l hl hr
    · right; simp [G.upd]; exact H.keep.size
theorem new_ptr (e : TypeId) (cs : List SV) (s : Nat) : VRel (g.upd h.length w.heap.size 0 s) (h ++ [AO.rw e cs]).length (.v (.sc (.ptr h.length 0))) (.pointer (some ⟨w.heap.size, 0, none⟩)) := by
  simp [VRel, CRel, SRel, G.upd]

theorem store_sound (H : HSt W w0 lock g h w) {t : TypeId} {x y : AV} {u v : Value} {h' : List AO} (hx : VRel g h.length x u) (hy : VRel g h.length y v) (hr : storeA P h lock t x y = some h') :
    ∃ w', (Instr.storeAt t u v).run P w = .ok () w' ∧ HSt W w0 lock g h' w' ∧ h'.length = h.length := by
  unfold storeA at hr
  split at hr
  · rename_i l o c
    simp only [VRel, CRel, SRel] at hx
    obtain ⟨hl, rfl⟩ := hx
    split at hr
    · rename_i e cs hb
      split at hr
      · rename_i hc
        obtain ⟨hlk, hsz, hle⟩ := hc
        obtain rfl := Option.some.inj hr
        obtain ⟨C, h1, h2, h3, h4⟩ := H.rel.obj _ _ hb
        have hcells : SRelL g h.length c.cells v.cells.toList := CRel.cells hy
        have hlen := SRelL.length hcells
        simp only [Array.length_toList] at hlen
        have hRW : isRW h l := ⟨_, hb, rfl⟩
        obtain ⟨w', C', r1, r2, r3, r4, r5, r6, r7, r8, r9⟩ := run_storeCells' (P := P) (g.blk l) (g.off l + o) e v.cells.toList 0 w C h1 (by simp; omega) (SRelL.ones hcells)
        refine ⟨w', ?_, ⟨?_, ?_, ?_⟩, by simp⟩
        · simp only [Instr.storeAt, Instr.sureAddr, storeVar, Sem.run_bind, Sem.run_pure, Result.andThen_ok, run_sizeOf' hsz]
          rw [if_neg (by omega)]
          exact r1
        · refine H.rel.change hb rfl r5 ⟨C', r2, by rw [r3, h2], by rw [splice_length hle]; exact h3, fun i z hz => ?_⟩
          rw [splice_get _ _ _ _ hle] at hz
          rw [r4]
          simp only [Nat.add_zero, Array.length_toList]
          by_cases hi : o ≤ i ∧ i < o + c.cells.length
          · rw [if_pos hi] at hz
            rw [if_pos (by omega)]
            obtain ⟨q, q1, q2⟩ := SRelL.get hcells _ _ hz
            exact ⟨q, by rw [← q1]; congr 1; omega, q2⟩
          · rw [if_neg hi] at hz
            rw [if_neg (by omega)]
            exact h4 i z hz
        · refine ⟨r7.trans H.keep.os, r8.trans H.keep.tape, r9.trans H.keep.output, by rw [r6]; exact H.keep.size, fun k hk hn => ?_⟩
          rw [← H.keep.block k hk hn]
          refine r5 k ?_
          rintro rfl
          rcases H.own l hlk hRW with h5 | h5
          · exact hn h5
          · omega
        · rintro i hi ⟨q, hq, hv⟩
          by_cases hil : i = l
          · subst hil; exact H.own i hlk hRW
          · rw [List.getElem?_set_ne (Ne.symm hil)] at hq
            exact H.own i hi ⟨q, hq, hv⟩
      · cases hr
    · cases hr
  · cases hr

/-- A slice's cells, read. -/
theorem sliceCells_rel (H : HRel g h w) {e : TypeId} {x : AV} {v : Value} {cs : List SV} (hx : VRel g h.length x v) (hc : sliceCells P h e x = some cs) :
    (x = .v (.sc .nils) ∧ v = .slice none 0 0 ∧ cs = []) ∨ ∃ a n c s vs, v = .slice (some a) n c ∧ szT P e = some s ∧ List.length vs = n * s ∧ SRelL g h.length cs vs ∧ (∀ (j : Nat) u, vs[j]? = some u → w.cell? (a.add j) = some u) := by
  unfold sliceCells at hc
  split at hc
  · simp only [VRel, CRel, SRel] at hx
    exact .inl ⟨rfl, hx, (Option.some.inj hc).symm⟩
  · rename_i l o n s
    simp only [VRel, CRel, SRel] at hx
    obtain ⟨hl, cap, o', sp, h1, h2, h3, rfl⟩ := hx
    simp only [Option.bind_eq_some_iff] at hc
    obtain ⟨bs, hb, hc⟩ := hc
    split at hc
    · rename_i hh
      obtain rfl := Option.some.inj hc
      obtain ⟨vs, k1, k2, k3⟩ := H.cells hb (n * s) o hh.2
      refine .inr ⟨_, n, cap, s, vs, rfl, hh.1, k1, k2, fun j u hu => ?_⟩
      rcases h3 with h3 | ⟨rfl, rfl⟩
      · subst h3
        obtain rfl : n = 0 := by omega
        rw [Nat.zero_mul] at k1
        obtain rfl := List.eq_nil_of_length_eq_zero k1
        simp at hu
      · rw [addr_add]
        rw [← k3 j u hu]
    · cases hc
  · cases hc

theorem szT_size {t : TypeId} {s b : Nat} {z : List SV} (hs : szT P t = some s) (hb : bytesT P t = some b) (hz : zeroL P t = some z) :
    ∃ i zv, P.info? t = some i ∧ i.size = s ∧ i.bytes = b ∧ i.zero = some zv ∧ constL zv.cells.toList = some z := by
  unfold szT at hs
  unfold bytesT at hb
  unfold zeroL at hz
  obtain ⟨i, hi, rfl⟩ := Option.map_eq_some_iff.1 hs
  rw [hi] at hb hz
  simp only [Option.bind_eq_some_iff] at hz
  obtain ⟨zv, ⟨j, hj, hz1⟩, hz2⟩ := hz
  obtain rfl := Option.some.inj hj
  exact ⟨i, zv, hi, rfl, Option.some.inj hb, hz1, hz2⟩
theorem constL_length : ∀ {vs : List Value} {xs : List SV}, constL vs = some xs → xs.length = vs.length
  | [], xs, h => by obtain rfl := Option.some.inj h; rfl
  | v :: vs, xs, h => by
    simp only [constL, Option.bind_eq_some_iff, Option.map_eq_some_iff] at h
    obtain ⟨x, h1, ys, h2, rfl⟩ := h
    simp [constL_length h2]

theorem append_sound (H : HSt W w0 lock g h w) {t ty : TypeId} {x y r : AV} {u v : Value} {h' : List AO} (hx : VRel g h.length x u) (hy : VRel g h.length y v) (hr : appendA P h lock t x y = some (r, h')) :
    ∃ z g' w', (Builtin.append_ #[t, t] ty #[u, v]).run P w = .ok z w' ∧ VRel g' h'.length r z ∧ HSt W w0 lock g' h' w' ∧ GExt h.length g g' ∧ h.length ≤ h'.length := by
  unfold appendA at hr
  split at hr
  · rename_i e hu
    split at hr
    · rename_i s b z hs hb hz
      simp only [Option.bind_eq_some_iff] at hr
      obtain ⟨new, hnew, hr⟩ := hr
      split at hr
      · cases hr
      · rename_i hcond
        simp only [not_or, Decidable.not_not] at hcond
        obtain ⟨hs0, hb0, hmod, hzl⟩ := hcond
        obtain ⟨i, zv, hi, hi1, hi2, hi3, hi4⟩ := szT_size hs hb hz
        have hzc : zv.cells.size = s := by have := constL_length hi4; simp at this; omega
        have hsc := sliceCells_rel (P := P) H.rel hy hnew
        have hti : ∀ k, P.underlying t ≠ some (.int k) := fun k hk => by rw [hu] at hk; cases hk
        split at hr
        · -- to nil
          simp only [VRel, CRel, SRel] at hx
          subst hx
          split at hr
          · rename_i hn
            subst hn
            obtain ⟨rfl, rfl⟩ := Prod.mk.inj (Option.some.inj hr)
            rcases hsc with ⟨_, rfl, _⟩ | ⟨a, n, c, s', vs, rfl, hs', hvl, hvr, _⟩
            · refine ⟨.slice none 0 0, g, w, ?_, by simp [VRel, CRel, SRel], H, GExt.refl _ _, Nat.le_refl _⟩
              simp [Builtin.append_, run_underlying hu, run_sizeOf' hs, Builtin.lenOf, Builtin.firstCells]
            · have hl0 := SRelL.length hvr
              simp only [List.length_nil] at hl0
              obtain rfl : s = s' := by rw [hs] at hs'; exact Option.some.inj hs'
              have hn0 : n = 0 := by
                have : n * s = 0 := by omega
                rcases Nat.mul_eq_zero.1 this with h | h
                · exact h
                · exact absurd h hs0
              subst hn0
              refine ⟨.slice none 0 0, g, w, ?_, by simp [VRel, CRel, SRel], H, GExt.refl _ _, Nat.le_refl _⟩
              simp [Builtin.append_, run_underlying hu, run_sizeOf' hs, Builtin.lenOf, Builtin.firstCells, loadCells, loadCellsFrom]
          · rename_i hn
            split at hr
            · rename_i hbd
              obtain ⟨rfl, rfl⟩ := Prod.mk.inj (Option.some.inj hr)
              rcases hsc with ⟨_, _, rfl⟩ | ⟨a, n, c, s', vs, rfl, hs', hvl, hvr, hcell⟩
              · exact absurd rfl hn
              · obtain rfl : s = s' := by rw [hs] at hs'; exact Option.some.inj hs'
                have hl0 := SRelL.length hvr
                have hdiv : new.length / s = n := by rw [hl0, hvl]; exact Nat.mul_div_cancel _ (by omega)
                rw [hdiv] at hbd ⊢
                have hnpos : 0 < n := by
                  rcases Nat.eq_zero_or_pos n with h0 | h0
                  · subst h0
                    rw [Nat.zero_mul] at hvl
                    exact absurd (List.eq_nil_of_length_eq_zero (hl0.trans hvl)) hn
                  · exact h0
                have hn47 : n ≤ 140737488355328 := Nat.le_trans (Nat.le_mul_of_pos_right n (Nat.pos_of_ne_zero hb0)) hbd
                have hrun := run_append_nil (P := P) w t ty e i zv hu hi hi3 a n c vs (by rw [hi1]; exact hvl) hcell hnpos (by omega) (by rw [hi2]; omega)
                have hcap : n ≤ grownCap w n 0 e := grownCap_ge w n 0 e
                have hsize : (vs.toArray ++ Builtin.zeroCells zv.cells (grownCap w n 0 e - n)).size = grownCap w n 0 e * s := by
                  rw [Array.size_append, size_zeroCells, hzc, List.size_toArray, hvl, ← Nat.add_mul]; congr 1; omega
                have hN := H.drew.new e new (vs.toArray ++ Builtin.zeroCells zv.cells (grownCap w n 0 e - n)) (by rw [hsize, hl0, hvl]; exact Nat.mul_le_mul_right _ hcap) (fun j q hq => by
                  obtain ⟨p, p1, p2⟩ := SRelL.get hvr j q hq
                  refine ⟨p, ?_, p2⟩
                  rw [Array.getElem?_append_left (by have := (List.getElem?_eq_some_iff.1 p1).1; simpa using this)]
                  simpa using p1)
                refine ⟨_, _, _, hrun, ?_, hN, g.upd_ext _ _ _ _, by simp⟩
                simp only [VRel, CRel, SRel]
                refine ⟨by simp, grownCap w n 0 e, 0, none, hcap, ?_, ?_, ?_⟩
                · simp [G.upd]; rw [← hsize]; simp
                · right; simp [G.upd]
                · simp [G.upd]
            · cases hr
        · -- to a slice
          rename_i l o n s'
          split at hr
          · cases hr
          · rename_i hss
            have hss : s' = s := Decidable.not_not.1 hss
            subst hss
            simp only [VRel, CRel, SRel] at hx
            obtain ⟨hl, cap, o', sp, h1, h2, h3, rfl⟩ := hx
            split at hr
            · rename_i hn
              subst hn
              obtain ⟨rfl, rfl⟩ := Prod.mk.inj (Option.some.inj hr)
              have hrel : VRel g h.length (.v (.sc (.sl l o n s'))) (.slice (some ⟨g.blk l, o', sp⟩) n cap) := by
                simp only [VRel, CRel, SRel]; exact ⟨hl, cap, o', sp, h1, h2, h3, rfl⟩
              rcases hsc with ⟨_, rfl, _⟩ | ⟨a, m, c, s2, vs, rfl, hs', hvl, hvr, _⟩
              · refine ⟨_, g, w, ?_, hrel, H, GExt.refl _ _, Nat.le_refl _⟩
                simp [Builtin.append_, run_underlying hu, run_sizeOf' hs, Builtin.lenOf, Builtin.firstCells, h1, storeCells]
              · have hl0 := SRelL.length hvr
                simp only [List.length_nil] at hl0
                obtain rfl : s' = s2 := by rw [hs] at hs'; exact Option.some.inj hs'
                have hn0 : m = 0 := by
                  have : m * s' = 0 := by omega
                  rcases Nat.mul_eq_zero.1 this with h | h
                  · exact h
                  · exact absurd h hs0
                subst hn0
                refine ⟨_, g, w, ?_, hrel, H, GExt.refl _ _, Nat.le_refl _⟩
                simp [Builtin.append_, run_underlying hu, run_sizeOf' hs, Builtin.lenOf, Builtin.firstCells, loadCells, loadCellsFrom, h1, storeCells]
            · rename_i hn
              split at hr
              · rename_i e' cs hobj
                split at hr
                · rename_i hlk
                  obtain ⟨hlk, rfl⟩ := hlk
                  split at hr
                  · rename_i hend
                    split at hr
                    · rename_i hbd
                      obtain ⟨rfl, rfl⟩ := Prod.mk.inj (Option.some.inj hr)
                      rcases hsc with ⟨_, _, rfl⟩ | ⟨a, m, c, s2, vs, rfl, hs', hvl, hvr, hcell⟩
                      · exact absurd rfl hn
                      · obtain rfl : s' = s2 := by rw [hs] at hs'; exact Option.some.inj hs'
                        have hl0 := SRelL.length hvr
                        have hdiv : new.length / s' = m := by rw [hl0, hvl]; exact Nat.mul_div_cancel _ (by omega)
                        rw [hdiv] at hbd ⊢
                        have hmpos : 0 < m := by
                          rcases Nat.eq_zero_or_pos m with h0 | h0
                          · subst h0
                            rw [Nat.zero_mul] at hvl
                            exact absurd (List.eq_nil_of_length_eq_zero (hl0.trans hvl)) hn
                          · exact h0
                        have hm47 : n + m ≤ 140737488355328 := Nat.le_trans (Nat.le_mul_of_pos_right _ (Nat.pos_of_ne_zero hb0)) hbd
                        obtain ⟨C, c1, c2, c3, c4⟩ := H.rel.obj _ _ hobj
                        have hRW : isRW h l := ⟨_, hobj, rfl⟩
                        have hcells : cellsAt h l = some cs := by simp [cellsAt, hobj]
                        by_cases hroom : n + m ≤ cap
                        · -- room
                          obtain ⟨rfl, rfl⟩ : o' = g.off l + o ∧ sp = none := by rcases h3 with h3 | h3; (· omega); (· exact h3)
                          have hbig : o + (n + m) * s' ≤ g.siz l := by rw [← h2]; exact Nat.add_le_add_left (Nat.mul_le_mul_right _ hroom) _
                          have hmul : (n + m) * s' = n * s' + m * s' := Nat.add_mul _ _ _
                          obtain ⟨w', C', r1, r2, r3, r4, r5, r6, r7, r8, r9⟩ := run_storeCells' (P := P) (g.blk l) (g.off l + o + n * s') e' vs 0 w C c1 (by rw [hvl]; omega) (SRelL.ones hvr)
                          have hfc := run_firstCells_some (P := P) w s' m a m c vs hvl hcell
                          have hH1 : HRel g (h.set l .dead) w' := by
                            have := H.rel.change (o' := .dead) (w' := w') hobj rfl r5 trivial
                            exact this
                          have hlen' : (h.set l AO.dead).length = h.length := by simp
                          have hdead : ∀ i, isLive (h.set l AO.dead) i → i ≠ l := fun i ⟨q, hq, hv⟩ e => by
                            subst e
                            rw [List.getElem?_set_self hl] at hq
                            obtain rfl := Option.some.inj hq
                            simp [AO.live] at hv
                          have holdl : ∀ i, isLive (h.set l AO.dead) i → isLive h i := fun i hi => by
                            obtain ⟨q, hq, hv⟩ := hi
                            rw [List.getElem?_set_ne (Ne.symm (hdead i ⟨q, hq, hv⟩))] at hq
                            exact ⟨q, hq, hv⟩
                          have hext := g.upd_ext h.length (g.blk l) (g.off l + o) (g.siz l - o)
                          have hP : HRel (g.upd h.length (g.blk l) (g.off l + o) (g.siz l - o)) (h.set l AO.dead ++ [.rw e' (cs.drop o ++ new)]) w' := by
                            have := hH1.push (.rw e' (cs.drop o ++ new)) (g.blk l) (g.off l + o) (g.siz l - o) (fun i hi e => H.rel.excl l i (Ne.symm (hdead i hi)) hRW (holdl i hi) e.symm) (by
                              rw [hlen']
                              refine ⟨C', ?_, ?_, ?_, fun j q hq => ?_⟩
                              · simpa [G.upd] using r2
                              · simp only [G.upd, if_true]; rw [r3, c2]; omega
                              · simp only [G.upd, if_true, List.length_append, List.length_drop]; rw [hl0, hvl]; omega
                              · simp only [G.upd, if_true]
                                rw [r4]
                                simp only [Nat.add_zero]
                                by_cases hj : j < (cs.drop o).length
                                · rw [List.getElem?_append_left hj, List.getElem?_drop] at hq
                                  simp only [List.length_drop] at hj
                                  rw [if_neg (by omega)]
                                  obtain ⟨p, p1, p2⟩ := c4 _ _ hq
                                  refine ⟨p, by rw [← p1]; congr 1; omega, ?_⟩
                                  exact SRel.mono (g' := g.upd h.length (g.blk l) (g.off l + o) (g.siz l - o)) (by omega) hext q p p2
                                · rw [List.getElem?_append_right (by omega)] at hq
                                  obtain ⟨p, p1, p2⟩ := SRelL.get hvr _ _ hq
                                  have hlt := (List.getElem?_eq_some_iff.1 p1).1
                                  simp only [List.length_drop] at hj hlt p1
                                  rw [if_pos (by omega)]
                                  refine ⟨p, by rw [← p1]; congr 1; omega, ?_⟩
                                  exact SRel.mono (g' := g.upd h.length (g.blk l) (g.off l + o) (g.siz l - o)) (by omega) hext q p p2)
                            rw [hlen'] at this
                            exact this
                          refine ⟨.slice (some ⟨g.blk l, g.off l + o, none⟩) (n + m) cap, g.upd h.length (g.blk l) (g.off l + o) (g.siz l - o), w', ?_, ?_, ⟨hP, ?_, ?_⟩, hext, by simp⟩
                          · simp [Builtin.append_, run_underlying hu, run_sizeOf' hs, Builtin.lenOf, hroom, hfc, addr_add]
                            rw [r1]; rfl
                          · simp only [VRel, CRel, SRel]
                            refine ⟨by simp, cap, g.off l + o, none, hroom, ?_, ?_, ?_⟩
                            · simp [G.upd]; omega
                            · right; simp [G.upd]
                            · simp [G.upd]
                          · refine ⟨r7.trans H.keep.os, r8.trans H.keep.tape, r9.trans H.keep.output, by rw [r6]; exact H.keep.size, fun k hk hnk => ?_⟩
                            rw [← H.keep.block k hk hnk]
                            refine r5 k ?_
                            rintro rfl
                            rcases H.own l hlk hRW with h5 | h5
                            · exact hnk h5
                            · omega
                          · intro i hi hri
                            rcases isRW_append hri with hri | ⟨rfl, _⟩
                            · have hil := holdl i hri.live
                              rw [(hext i (isLive_lt hil)).1]
                              obtain ⟨q, hq, hv⟩ := hri
                              rw [List.getElem?_set_ne (Ne.symm (hdead i (isRW.live ⟨q, hq, hv⟩)))] at hq
                              exact H.own i hi ⟨q, hq, hv⟩
                            · rw [hlen']
                              have : (g.upd h.length (g.blk l) (g.off l + o) (g.siz l - o)).blk h.length = g.blk l := by simp [G.upd]
                              rw [this]
                              exact H.own l hlk hRW
                        · -- grows
                          obtain ⟨olds, k1, k2, k3⟩ := H.rel.cells hcells (n * s') o (by omega)
                          have hd : (cs.drop o).take (n * s') = cs.drop o := List.take_of_length_le (by simp; omega)
                          rw [hd] at k2
                          have holds : ∀ (j : Nat) q, olds[j]? = some q → w.cell? ((⟨g.blk l, o', sp⟩ : Addr).add j) = some q := fun j q hq => by
                            rcases h3 with h3 | ⟨rfl, rfl⟩
                            · obtain rfl : n = 0 := by omega
                              rw [Nat.zero_mul] at k1
                              obtain rfl := List.eq_nil_of_length_eq_zero k1
                              simp at hq
                            · rw [addr_add]; exact k3 j q hq
                          have hfit := growslice_fits (bytes := b) (show cap < n + m by omega) hbd
                          have hrun := run_append_grow (P := P) w t ty e' i zv hu hi hi3 ⟨g.blk l, o', sp⟩ n cap olds (by rw [hi1]; exact k1) holds a m c vs (by rw [hi1]; exact hvl) hcell (by omega) (by omega) (by rw [hi2]; exact hfit)
                          have hcap := grownCap_ge w (n + m) cap e'
                          have hmul : (n + m) * s' = n * s' + m * s' := Nat.add_mul _ _ _
                          have hsize : (olds.toArray ++ vs.toArray ++ Builtin.zeroCells zv.cells (grownCap w (n + m) cap e' - (n + m))).size = grownCap w (n + m) cap e' * s' := by
                            rw [Array.size_append, Array.size_append, size_zeroCells, hzc, List.size_toArray, List.size_toArray, hvl, k1, ← Nat.add_mul, ← Nat.add_mul]; congr 1; omega
                          have hK : HSt W w0 lock g (h.set l .dead) w.drew := ⟨H.rel.drew.kill l, H.keep.drew, fun i hi ⟨q, hq, hv⟩ => by
                            by_cases hil : i = l
                            · subst hil
                              rw [List.getElem?_set_self hl] at hq
                              obtain rfl := Option.some.inj hq
                              simp [AO.isRW] at hv
                            · rw [List.getElem?_set_ne (Ne.symm hil)] at hq
                              exact H.own i hi ⟨q, hq, hv⟩⟩
                          have hlen' : (h.set l AO.dead).length = h.length := by simp
                          have hrr : SRelL g h.length (cs.drop o ++ new) (olds ++ vs) := SRelL.append k2 hvr
                          have hN := hK.new e' (cs.drop o ++ new) (olds.toArray ++ vs.toArray ++ Builtin.zeroCells zv.cells (grownCap w (n + m) cap e' - (n + m))) (by
                            have := SRelL.length hrr
                            rw [hsize, this, List.length_append, k1, hvl, ← hmul]; exact Nat.mul_le_mul_right _ hcap) (fun j q hq => by
                            obtain ⟨p, p1, p2⟩ := SRelL.get hrr j q hq
                            have hlt := (List.getElem?_eq_some_iff.1 p1).1
                            refine ⟨p, ?_, by rw [hlen']; exact p2⟩
                            rw [Array.getElem?_append_left (by simpa using hlt)]
                            simpa using p1)
                          rw [hlen'] at hN
                          refine ⟨_, _, _, hrun, ?_, hN, g.upd_ext _ _ _ _, by simp⟩
                          simp only [VRel, CRel, SRel]
                          refine ⟨by simp, grownCap w (n + m) cap e', 0, none, hcap, ?_, ?_, ?_⟩
                          · simp [G.upd]; rw [← hsize]; simp
                          · right; simp [G.upd]
                          · simp [G.upd]
                    · cases hr
                  · split at hr
                    · rename_i hfit
                      obtain ⟨rfl, rfl⟩ := Prod.mk.inj (Option.some.inj hr)
                      rcases hsc with ⟨_, _, rfl⟩ | ⟨a, m, c, s2, vs, rfl, hs', hvl, hvr, hcell⟩
                      · exact absurd rfl hn
                      · obtain rfl : s' = s2 := by rw [hs] at hs'; exact Option.some.inj hs'
                        have hl0 := SRelL.length hvr
                        have hdiv : new.length / s' = m := by rw [hl0, hvl]; exact Nat.mul_div_cancel _ (by omega)
                        rw [hdiv]
                        have hmpos : 0 < m := by
                          rcases Nat.eq_zero_or_pos m with h0 | h0
                          · subst h0
                            rw [Nat.zero_mul] at hvl
                            exact absurd (List.eq_nil_of_length_eq_zero (hl0.trans hvl)) hn
                          · exact h0
                        obtain ⟨C, c1, c2, c3, c4⟩ := H.rel.obj _ _ hobj
                        have hRW : isRW h l := ⟨_, hobj, rfl⟩
                        have hmul : (n + m) * s' = n * s' + m * s' := Nat.add_mul _ _ _
                        have hroom : n + m ≤ cap := Nat.le_of_mul_le_mul_right (c := s') (by omega) (Nat.pos_of_ne_zero hs0)
                        obtain ⟨rfl, rfl⟩ : o' = g.off l + o ∧ sp = none := by rcases h3 with h3 | h3; (· omega); (· exact h3)
                        obtain ⟨w', C', r1, r2, r3, r4, r5, r6, r7, r8, r9⟩ := run_storeCells' (P := P) (g.blk l) (g.off l + o + n * s') e' vs 0 w C c1 (by rw [hvl]; omega) (SRelL.ones hvr)
                        have hfc := run_firstCells_some (P := P) w s' m a m c vs hvl hcell
                        refine ⟨.slice (some ⟨g.blk l, g.off l + o, none⟩) (n + m) cap, g, w', ?_, ?_, ⟨?_, ?_, ?_⟩, GExt.refl _ _, by simp⟩
                        · simp [Builtin.append_, run_underlying hu, run_sizeOf' hs, Builtin.lenOf, hroom, hfc, addr_add]
                          rw [r1]; rfl
                        · simp only [VRel, CRel, SRel]
                          exact ⟨by simpa using hl, cap, g.off l + o, none, hroom, h2, .inr ⟨rfl, rfl⟩, rfl⟩
                        · refine H.rel.change hobj rfl r5 ⟨C', r2, by rw [r3, c2], by rw [splice_length (by omega)]; exact c3, fun j q hq => ?_⟩
                          rw [splice_get _ _ _ _ (by omega)] at hq
                          rw [r4]
                          simp only [Nat.add_zero]
                          by_cases hj : o + n * s' ≤ j ∧ j < o + n * s' + new.length
                          · rw [if_pos hj] at hq
                            rw [if_pos (by omega)]
                            obtain ⟨p, p1, p2⟩ := SRelL.get hvr _ _ hq
                            exact ⟨p, by rw [← p1]; congr 1; omega, p2⟩
                          · rw [if_neg hj] at hq
                            rw [if_neg (by omega)]
                            exact c4 j q hq
                        · refine ⟨r7.trans H.keep.os, r8.trans H.keep.tape, r9.trans H.keep.output, by rw [r6]; exact H.keep.size, fun k hk hnk => ?_⟩
                          rw [← H.keep.block k hk hnk]
                          refine r5 k ?_
                          rintro rfl
                          rcases H.own l hlk hRW with h5 | h5
                          · exact hnk h5
                          · omega
                        · rintro i hi ⟨q, hq, hv⟩
                          by_cases hil : i = l
                          · subst hil; exact H.own i hlk hRW
                          · rw [List.getElem?_set_ne (Ne.symm hil)] at hq
                            exact H.own i hi ⟨q, hq, hv⟩
                    · cases hr
                · cases hr
              · cases hr
        · cases hr
    · cases hr
  · cases hr

/-- A slice beyond the length, in the model. -/
theorem run_slice_far (w : World) (t e : TypeId) (a : Option Addr) (len cap s : Nat) (lo : Option Value) (kh : IntKind) (i j : Int) (hu : P.underlying t = some (.slice e)) (hs : szT P e = some s)
    (hlo : (∃ k, lo = some (.int k i)) ∨ (lo = none ∧ i = 0)) (h0 : 0 ≤ i) (h1 : i ≤ j) (h2 : j ≤ cap) :
    (Instr.sliceAt t (.slice a len cap) lo (some (.int kh j)) none).run P w = .ok (.slice (if cap = i.toNat then a else a.map (·.add (i.toNat * s))) (j.toNat - i.toNat) (cap - i.toNat)) w := by
  have bj : ∀ k c, (Instr.sliceBound (.int k j) cap c).run P w = .ok j.toNat w := fun k c => run_sliceBound w k j cap c (by omega) (by omega)
  have bi : ∀ k c y, j ≤ (y : Nat) → (Instr.sliceBound (.int k i) y c).run P w = .ok i.toNat w := fun k c y hy => run_sliceBound w k i y c h0 (by omega)
  rcases hlo with ⟨kl, rfl⟩ | ⟨rfl, rfl⟩
  · simp only [Instr.sliceAt, Instr.slice, Instr.sliceBounds, Sem.run_bind, run_underlying hu, Result.andThen_ok, Sem.run_pure, bj, bi _ _ j.toNat (by omega), run_sizeOf' hs]
  · simp only [Instr.sliceAt, Instr.slice, Instr.sliceBounds, Sem.run_bind, run_underlying hu, Result.andThen_ok, Sem.run_pure, bj, run_sizeOf' hs, Int.toNat_zero]
theorem run_slice_max (w : World) (t e : TypeId) (a : Option Addr) (len cap s : Nat) (lo : Option Value) (kh km : IntKind) (i j m : Int) (hu : P.underlying t = some (.slice e)) (hs : szT P e = some s)
    (hlo : (∃ k, lo = some (.int k i)) ∨ (lo = none ∧ i = 0)) (h0 : 0 ≤ i) (h1 : i ≤ j) (h2 : j ≤ m) (h3 : m ≤ cap) :
    ∃ v, (Instr.sliceAt t (.slice a len cap) lo (some (.int kh j)) (some (.int km m))).run P w = .ok v w := by
  have bm : ∀ k c, (Instr.sliceBound (.int k m) cap c).run P w = .ok m.toNat w := fun k c => run_sliceBound w k m cap c (by omega) (by omega)
  have bj : ∀ k c, (Instr.sliceBound (.int k j) m.toNat c).run P w = .ok j.toNat w := fun k c => run_sliceBound w k j m.toNat c (by omega) (by omega)
  have bi : ∀ k c y, j ≤ (y : Nat) → (Instr.sliceBound (.int k i) y c).run P w = .ok i.toNat w := fun k c y hy => run_sliceBound w k i y c h0 (by omega)
  rcases hlo with ⟨kl, rfl⟩ | ⟨rfl, rfl⟩
  · refine ⟨?_, ?_⟩
    rotate_left
    · simp only [Instr.sliceAt, Instr.slice, Instr.sliceBounds, Sem.run_bind, run_underlying hu, Result.andThen_ok, Sem.run_pure, bm, bj, bi _ _ j.toNat (by omega), run_sizeOf' hs]
      rfl
  · refine ⟨?_, ?_⟩
    rotate_left
    · simp only [Instr.sliceAt, Instr.slice, Instr.sliceBounds, Sem.run_bind, run_underlying hu, Result.andThen_ok, Sem.run_pure, bm, bj, run_sizeOf' hs]
      rfl
theorem sliceE_sound (H : HSt W w0 lock g h w) {t : TypeId} {x r : AV} {lo hi mx : Option AV} {v : Value} {vlo vhi vmx : Option Value} {h' : List AO} (hv : VRel g h.length x v) (hl : OVRel g h.length lo vlo) (hh : OVRel g h.length hi vhi) (hm : OVRel g h.length mx vmx)
    (hr : sliceE P h t x lo hi mx = some (r, h')) : h' = h ∧ ∃ u, (Instr.sliceAt t v vlo vhi vmx).run P w = .ok u w ∧ VRel g h.length r u := by
  unfold sliceE at hr
  split at hr
  · rename_i l o n s el hu
    split at hr
    · rename_i hsz
      simp only [VRel, CRel, SRel] at hv
      obtain ⟨hln, cap, o', sp, h1, h2, h3, rfl⟩ := hv
      split at hr
      · rename_i kj j
        obtain rfl := hm.2 rfl
        split at hr
        · rename_i ki i ee cs hi' hobj
          split at hr
          · rename_i hc
            obtain ⟨rfl, rfl⟩ := Prod.mk.inj (Option.some.inj hr)
            obtain ⟨u, hu1, hu2⟩ := hh.1 _ rfl
            simp only [VRel, CRel, SRel] at hu2
            subst hu2
            have ci := bound_rel hl.1 hl.2 hi'
            have hi'' : (∃ k, vlo = some (.int k i)) ∨ (vlo = none ∧ i = 0) := by
              rcases ci with h | ⟨h, h'⟩
              · exact .inl h
              · injection h' with h'; injection h' with h'; injection h' with _ h'; exact .inr ⟨h, h'.symm⟩
            obtain ⟨C, c1, c2, c3, c4⟩ := H.rel.obj _ _ hobj
            have hjc : j.toNat ≤ cap := Nat.le_of_mul_le_mul_right (c := s) (by omega) (Nat.pos_of_ne_zero hsz.2)
            rw [hu1]
            refine ⟨rfl, _, run_slice_far w t el _ n cap s vlo kj i j hu hsz.1 hi'' hc.1 hc.2.1 (by omega), ?_⟩
            simp only [VRel, CRel, SRel]
            refine ⟨hln, cap - i.toNat, (if cap = i.toNat then o' else o' + i.toNat * s), (if cap = i.toNat then sp else none), by omega, ?_, ?_, ?_⟩
            · rw [← h2, Nat.add_assoc, ← Nat.add_mul]; congr 2; omega
            · by_cases he : cap = i.toNat
              · exact .inl (by omega)
              · right
                rw [if_neg he, if_neg he]
                rcases h3 with h3 | h3
                · omega
                · exact ⟨by omega, rfl⟩
            · by_cases he : cap = i.toNat
              · simp [he]
              · rcases h3 with h3 | ⟨rfl, rfl⟩
                · omega
                · simp [he, addr_add]
          · cases hr
        · cases hr
      · rename_i kj j km m
        split at hr
        · rename_i ki i hi'
          split at hr
          · rename_i hc
            obtain ⟨rfl, rfl⟩ := Prod.mk.inj (Option.some.inj hr)
            obtain ⟨u, hu1, hu2⟩ := hh.1 _ rfl
            simp only [VRel, CRel, SRel] at hu2
            subst hu2
            obtain ⟨u, hu3, hu4⟩ := hm.1 _ rfl
            simp only [VRel, CRel, SRel] at hu4
            subst hu4
            have ci := bound_rel hl.1 hl.2 hi'
            have hi'' : (∃ k, vlo = some (.int k i)) ∨ (vlo = none ∧ i = 0) := by
              rcases ci with h | ⟨h, h'⟩
              · exact .inl h
              · injection h' with h'; injection h' with h'; injection h' with _ h'; exact .inr ⟨h, h'.symm⟩
            rw [hu1, hu3]
            obtain ⟨v, hv⟩ := run_slice_max w t el (some ⟨g.blk l, o', sp⟩) n cap s vlo kj km i j m hu hsz.1 hi'' hc.1 hc.2.1 hc.2.2.1 (by omega)
            exact ⟨rfl, v, hv, trivial⟩
          · cases hr
        · cases hr
      · cases hr
    · cases hr
  · cases hr
end
end Go.AM
