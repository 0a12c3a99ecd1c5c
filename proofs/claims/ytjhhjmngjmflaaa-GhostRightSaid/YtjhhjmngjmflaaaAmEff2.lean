/- The abstract machine: operations that write do in the model what they do here: all of them. Conditions: none. -/
import Derived.Test.YtjhhjmngjmflaaaAmMap2
set_option linter.unusedVariables false
set_option linter.unusedSimpArgs false
namespace Go.AM
section
variable {P : Program} {g : G} {h : List AO} {w : World} {W : Nat → Prop} {w0 : World} {lock : Nat}

theorem replicate_get (z : List SV) (s n i : Nat) (hz : z.length = s) (hs : s ≠ 0) (hi : i < n * s) : (List.replicate n z).flatten[i]? = z[i % s]? := by
  induction n generalizing i with
  | zero => omega
  | succ n ih =>
    rw [List.replicate_succ, List.flatten_cons]
    rcases Nat.lt_or_ge i s with h1 | h1
    · rw [List.getElem?_append_left (by omega), Nat.mod_eq_of_lt h1]
    · rw [List.getElem?_append_right (by omega), hz, ih (i - s) (by rw [Nat.add_mul, Nat.one_mul] at hi; omega)]
      congr 1
      exact (Nat.mod_eq_sub_mod h1).symm
theorem zeros_rel {n : Nat} {z : List SV} {zc : Array Value} {s m : Nat} (hz : SRelL g n z zc.toList) (hl : z.length = s) (hs : s ≠ 0) :
    SRelL g n (List.replicate m z).flatten ((Array.range (m * s)).map (fun i => zc[i % zc.size]!)).toList := by
  have hsz : zc.size = s := by have := SRelL.length hz; simp at this; omega
  refine SRelL.of (by simp [hl]) fun i x hx => ?_
  have hi : i < m * s := by
    have := (List.getElem?_eq_some_iff.1 hx).1
    simpa [hl] using this
  rw [replicate_get z s m i hl hs hi] at hx
  obtain ⟨v, h1, h2⟩ := SRelL.get hz _ _ hx
  refine ⟨v, ?_, h2⟩
  have hlt := (List.getElem?_eq_some_iff.1 h1).1
  simp only [Array.length_toList] at hlt
  rw [Array.getElem?_toList, Array.getElem?_map, Array.getElem?_range]
  rw [if_pos hi]
  simp only [Option.map_some, hsz]
  rw [getElem!_pos zc (i % s) (by omega)]
  rw [Array.getElem?_toList, Array.getElem?_eq_getElem (by omega)] at h1
  exact h1

theorem run_clear0 (t ty : TypeId) (a : Option Addr) (c : Nat) {el : TypeId} (hu : P.underlying t = some (.slice el)) (w : World) : (Builtin.clear_ #[t] ty #[.slice a 0 c]).run P w = .ok (.tuple #[]) w := by
  cases a <;> simp [Builtin.clear_, run_underlying hu]
theorem clear_sound (H : HSt W w0 lock g h w) {t ty : TypeId} {x r : AV} {v : Value} {h' : List AO} (hx : VRel g h.length x v) (hr : clearA P h lock t x = some (r, h')) :
    ∃ w', r = .tup [] ∧ (Builtin.clear_ #[t] ty #[v]).run P w = .ok (.tuple #[]) w' ∧ HSt W w0 lock g h' w' ∧ h'.length = h.length := by
  unfold clearA at hr
  split at hr
  · rename_i el hu
    obtain ⟨rfl, rfl⟩ := Prod.mk.inj (Option.some.inj hr)
    simp only [VRel, CRel, SRel] at hx
    subst hx
    exact ⟨w, rfl, run_clear0 t ty none 0 hu w, H, rfl⟩
  · rename_i l o n s el hu
    simp only [VRel, CRel, SRel] at hx
    obtain ⟨hln, cap, o', sp, h1, h2, h3, rfl⟩ := hx
    split at hr
    · rename_i hn
      subst hn
      obtain ⟨rfl, rfl⟩ := Prod.mk.inj (Option.some.inj hr)
      exact ⟨w, rfl, run_clear0 t ty _ cap hu w, H, rfl⟩
    · rename_i hn
      split at hr
      · rename_i z e cs hz hobj
        split at hr
        · rename_i hc
          obtain ⟨hlk, hzl, hs0, hfit⟩ := hc
          obtain ⟨rfl, rfl⟩ := Prod.mk.inj (Option.some.inj hr)
          obtain ⟨zv, hzv, hzr⟩ := zero_sound (P := P) (g := g) (n := h.length) hz
          have hzc : zv.cells.size = s := by have := SRelL.length hzr; simp at this; omega
          have hZ := zeros_rel (m := n) hzr hzl hs0
          obtain ⟨C, c1, c2, c3, c4⟩ := H.rel.obj _ _ hobj
          have hRW : isRW h l := ⟨_, hobj, rfl⟩
          have hroom : n ≤ cap := h1
          obtain ⟨rfl, rfl⟩ : o' = g.off l + o ∧ sp = none := by rcases h3 with h3 | h3; (· omega); (· exact h3)
          have hlz : (List.replicate n z).flatten.length = n * s := by simp [hzl]
          have hsz : (((Array.range (n * s)).map (fun i => zv.cells[i % zv.cells.size]!)).toList).length = n * s := by simp
          obtain ⟨w', C', r1, r2, r3, r4, r5, r6, r7, r8, r9⟩ := run_storeCells' (P := P) (g.blk l) (g.off l + o) e ((Array.range (n * s)).map (fun i => zv.cells[i % zv.cells.size]!)).toList 0 w C c1 (by rw [hsz]; omega) (SRelL.ones hZ)
          refine ⟨w', rfl, ?_, ⟨?_, ?_, ?_⟩, by simp⟩
          · have e0 : (Builtin.clear_ #[t] ty #[.slice (some ⟨g.blk l, g.off l + o, none⟩) n cap]) = (do
                match ← underlying t, (Value.slice (some ⟨g.blk l, g.off l + o, none⟩) n cap) with
                | _, .map none | _, .slice none _ _ | _, .slice _ 0 _ => pure ()
                | _, .map (some r) =>
                  let .map _ clock ← getObj r | stuck "clear: map expected"
                  setObj r (.map #[] clock)
                | .slice elem, .slice (some a) n _ => storeCells a (Builtin.zeroCells (← zeroValue elem).cells n).toList
                | _, _ => stuck "clear: map or slice expected"
                pure (.tuple #[])) := rfl
            obtain ⟨k, rfl⟩ : ∃ k, n = k + 1 := ⟨n - 1, by omega⟩
            rw [e0]
            simp only [Sem.run_bind, run_underlying hu, Result.andThen_ok, hzv, Builtin.zeroCells, hzc]
            rw [hzc] at r1
            rw [r1]; rfl
          · refine H.rel.change hobj rfl r5 ⟨C', r2, by rw [r3, c2], by rw [splice_length (by omega)]; exact c3, fun j q hq => ?_⟩
            rw [splice_get _ _ _ _ (by omega)] at hq
            rw [r4]
            simp only [Nat.add_zero]
            by_cases hj : o ≤ j ∧ j < o + (List.replicate n z).flatten.length
            · rw [if_pos hj] at hq
              rw [if_pos (by rw [hsz]; omega)]
              obtain ⟨p, p1, p2⟩ := SRelL.get hZ _ _ hq
              exact ⟨p, by rw [← p1]; congr 1; omega, p2⟩
            · rw [if_neg hj] at hq
              rw [if_neg (by rw [hsz]; omega)]
              exact c4 j q hq
          · refine ⟨r7.trans H.keep.os, r8.trans H.keep.tape, r9.trans H.keep.output, by rw [r6]; exact H.keep.size, fun k hk hnk => ?_⟩
            rw [← H.keep.block k hk hnk]
            refine r5 k ?_
            rintro rfl
            rcases H.own l hlk hRW with h5 | h5
            · exact hnk h5
            · omega
          · rintro i hi ⟨q, hq, hv⟩
            by_cases hil : i = l
            · subst hil; exact H.own i hlk hRW
            · rw [List.getElem?_set_ne (Ne.symm hil)] at hq
              exact H.own i hi ⟨q, hq, hv⟩
        · cases hr
      · cases hr
  · cases hr
theorem eff_sound (H : HSt W w0 lock g h w) {o : Oper} {e : List AV} {a : Act} (hE : ERel g h.length e a.tmps) {r : AV} {h' : List AO} (hr : effA P o e lock h = some (r, h')) :
    ∃ nx z g' w', (execOp a.eval o).run P w = .ok nx w' ∧ (nx = .value z ∨ nx = .skip ∧ z = undef) ∧ VRel g' h'.length r z ∧ HSt W w0 lock g' h' w' ∧ GExt h.length g g' ∧ h.length ≤ h'.length := by
  unfold effA at hr
  have ev := fun x => aeval_rel hE x
  split at hr
  · rename_i t ho
    obtain ⟨z, hz, hr⟩ := Option.map_eq_some_iff.1 hr
    obtain ⟨rfl, rfl⟩ := Prod.mk.inj hr
    obtain ⟨zv, h1, h2⟩ := zero_sound (P := P) (g := g) (n := h.length) hz
    have hl := SRelL.length h2
    simp only [Array.length_toList] at hl
    refine ⟨_, .pointer (some ⟨w.heap.size, 0, none⟩), _, w.alloc (.cells zv.cells t), ?_, .inl rfl, new_ptr t z zv.cells.size, H.new t z zv.cells (by omega) (fun i x hx => by
      obtain ⟨v, p1, p2⟩ := SRelL.get h2 i x hx
      exact ⟨v, by rw [← p1]; simp, p2⟩), g.upd_ext _ _ _ _, by simp⟩
    simp [execOp, ho, Instr.alloc, h1, newVar, newRow]
  · rename_i t x ho
    split at hr
    · rename_i c hc
      obtain ⟨rfl, rfl⟩ := Prod.mk.inj (Option.some.inj hr)
      have hx := ev x
      rw [hc] at hx
      have h2 : SRelL g h.length c.cells (a.eval x).cells.toList := CRel.cells hx
      have hl := SRelL.length h2
      simp only [Array.length_toList] at hl
      refine ⟨_, .pointer (some ⟨w.heap.size, 0, none⟩), _, w.alloc (.cells (a.eval x).cells t), ?_, .inl rfl, new_ptr t c.cells (a.eval x).cells.size, H.new t c.cells (a.eval x).cells (by omega) (fun i y hy => by
        obtain ⟨v, p1, p2⟩ := SRelL.get h2 i y hy
        exact ⟨v, by rw [← p1]; simp, p2⟩), g.upd_ext _ _ _ _, by simp⟩
      simp [execOp, ho, Instr.box, newVar, newRow]
    · cases hr
  · rename_i t x y ho
    obtain ⟨h2, hs, hr⟩ := Option.map_eq_some_iff.1 hr
    obtain ⟨rfl, rfl⟩ := Prod.mk.inj hr
    obtain ⟨w', r1, r2, r3⟩ := store_sound (P := P) H (ev x) (ev y) hs
    exact ⟨.skip, undef, g, w', by simp [execOp, ho, r1], .inr ⟨rfl, rfl⟩, rfl, r2, GExt.refl _ _, by omega⟩
  · rename_i t x y ho
    split at hr
    · rename_i el n m hu hx hy
      split at hr
      · rename_i s b z hs hb hz
        split at hr
        · rename_i hc
          obtain ⟨h0, rfl, hbd, hn, hzl, hs0⟩ := hc
          obtain ⟨rfl, rfl⟩ := Prod.mk.inj (Option.some.inj hr)
          have vx := ev x
          have vy := ev y
          rw [hx] at vx
          rw [hy] at vy
          simp only [VRel, CRel, SRel] at vx vy
          obtain ⟨i, zv, hi, hi1, hi2, hi3, hi4⟩ := szT_size hs hb hz
          have hzr : SRelL g h.length z zv.cells.toList := constL_rel g _ _ _ hi4
          have hZ := zeros_rel (m := n.toNat) hzr hzl hs0
          have hzlen := SRelL.length hZ
          simp only [Array.length_toList] at hzlen
          have hsz : ((Array.range (n.toNat * s)).map (fun i => zv.cells[i % zv.cells.size]!)).size = n.toNat * s := by simp
          obtain ⟨k, rfl⟩ := Int.eq_ofNat_of_zero_le h0
          simp only [Int.toNat_natCast] at hbd hZ hzlen hsz ⊢
          have hw64 : IntKind.i64.wrap (k : Int) = k := by
            have e1 : IntKind.i64.bits = 64 := rfl
            have e2 : IntKind.i64.signed = true := rfl
            unfold IntKind.wrap
            simp only [e1, e2]
            rw [Int.emod_eq_of_lt (by omega) (by omega)]
            simp; omega
          refine ⟨_, .slice (some ⟨w.heap.size, 0, none⟩) k k, _, w.alloc (.cells ((Array.range (k * s)).map (fun i => zv.cells[i % zv.cells.size]!)) el), ?_, .inl rfl, ?_, H.new el _ _ (by omega) (fun i q hq => by
            obtain ⟨v, p1, p2⟩ := SRelL.get hZ i q hq
            exact ⟨v, by rw [← p1, Array.getElem?_toList], p2⟩), g.upd_ext _ _ _ _, by simp⟩
          · have hbd' : ¬ ((b : Int) * (k : Int) > 2 ^ 48) := by
              have : ((k * b : Nat) : Int) ≤ 140737488355328 := by omega
              rw [Int.mul_comm, ← Int.natCast_mul]; omega
            have hrun : (Instr.makeSlice t (a.eval x) (a.eval y)).run P w = .ok (.slice (some ⟨w.heap.size, 0, none⟩) k k) (w.alloc (.cells ((Array.range (k * s)).map (fun i => zv.cells[i % zv.cells.size]!)) el)) := by
              rw [vx, vy]
              simp only [Instr.makeSlice, Sem.run_bind, run_underlying hu, Result.andThen_ok, asInt, asIntOf, Sem.run_pure, run_typeInfo' hi, hi2, hw64, run_sizeOf' hs]
              have ht : ((k : Int) < 0 || (b : Int) * (k : Int) > 2 ^ 48) = false := by simp; omega
              simp only [ht]
              rw [if_neg (by simp)]
              by_cases hk : k * s = 0
              · have hk0 : k = 0 := by
                  rcases Nat.mul_eq_zero.1 hk with h | h
                  · exact h
                  · exact absurd h hs0
                subst hk0
                have hr0 : ∀ f : Nat → Value, Array.map f (Array.range 0) = #[] := fun f => Array.eq_empty_of_size_eq_zero (by simp)
                simp [newRow, run_sizeOf' hs, hr0]
              · simp [hk, newRow, zeroValue, typeInfo, hi, hi3, run_sizeOf' hs]
            simp only [execOp, ho, Sem.run_bind, hrun, Result.andThen_ok, Sem.run_pure]
          · simp only [VRel, CRel, SRel]
            refine ⟨by simp, k, 0, none, Nat.le_refl _, ?_, ?_, ?_⟩
            · simp [G.upd]
            · right; simp [G.upd]
            · simp [G.upd]
        · cases hr
      · cases hr
    · cases hr
  · rename_i t n parts ho
    split at hr
    · rename_i el hu
      split at hr
      · rename_i s z hs hz
        split at hr
        · rename_i hc
          obtain ⟨hbig, hzl, hs0⟩ := hc
          obtain ⟨cs, hcs, hr⟩ := Option.map_eq_some_iff.1 hr
          obtain ⟨rfl, rfl⟩ := Prod.mk.inj hr
          obtain ⟨zv, hzv, hzr⟩ := zero_sound (P := P) (g := g) (n := h.length) hz
          have hZ := zeros_rel (m := n) hzr hzl hs0
          obtain ⟨C, hC, hrel⟩ := fill_sound (g := g) (n := h.length) (place := fun i => some (i * s, s)) (parts := parts.toList.map fun p => (p.1, aeval e p.2)) (vps := (parts.map fun p => (p.1, a.eval p.2)).toList) (by simp) (fun i p hp => by
            simp only [List.getElem?_map, Option.map_eq_some_iff] at hp
            obtain ⟨q, hq, rfl⟩ := hp
            refine ⟨(q.1, a.eval q.2), ?_, rfl, ev _⟩
            rw [Array.toList_map, List.getElem?_map, hq]; rfl) hZ hcs
          have hlen := SRelL.length hrel
          simp only [Array.length_toList] at hlen
          have hfl : ∀ {place : Nat → Option (Nat × Nat)} (ps : List (Nat × AV)) (c d : List SV), fillA place c ps = some d → d.length = c.length := by
            intro place ps
            induction ps with
            | nil => intro c d hd; obtain rfl := Option.some.inj hd; rfl
            | cons p ps ih =>
              obtain ⟨i, x⟩ := p
              intro c d hd
              cases x with
              | v x =>
                simp only [fillA] at hd
                split at hd
                · split at hd
                  · rename_i hq
                    rw [ih _ _ hd, splice_length (by omega)]
                  · cases hd
                · cases hd
              | und => simp [fillA] at hd
              | sk => simp [fillA] at hd
              | tup _ => simp [fillA] at hd
          have hcl : cs.length = n * s := by rw [hfl _ _ _ hcs]; simp [hzl]
          refine ⟨_, .slice (some ⟨w.heap.size, 0, none⟩) n n, _, w.alloc (.cells C el), ?_, .inl rfl, ?_, H.new el cs C (by omega) (fun i q hq => by
            obtain ⟨v, p1, p2⟩ := SRelL.get hrel i q hq
            exact ⟨v, by rw [← p1, Array.getElem?_toList], p2⟩), g.upd_ext _ _ _ _, by simp⟩
          · have hrun : (Instr.buildSlice t n (parts.map fun p => (p.1, a.eval p.2))).run P w = .ok (.slice (some ⟨w.heap.size, 0, none⟩) n n) (w.alloc (.cells C el)) := by
              simp only [Instr.buildSlice, Sem.run_bind, run_underlying hu, Result.andThen_ok, run_sizeOf' hs]
              rw [if_neg (by omega)]
              by_cases hk : n * s = 0
              · have hn : n = 0 := by
                  rcases Nat.mul_eq_zero.1 hk with h | h
                  · exact h
                  · exact absurd h hs0
                subst hn
                have hr0 : ∀ f : Nat → Value, Array.map f (Array.range 0) = #[] := fun f => Array.eq_empty_of_size_eq_zero (by simp)
                simp only [Nat.zero_mul, hr0, Array.toList_map] at hC
                simp [hC, hr0, newRow]
              · rw [if_neg hk]
                simp only [Array.toList_map] at hC
                simp [hzv, hC, newRow]
            simp only [execOp, ho, Sem.run_bind]
            rw [hrun]; rfl
          · simp only [VRel, CRel, SRel]
            refine ⟨by simp, n, 0, none, Nat.le_refl _, ?_, ?_, ?_⟩
            · simp [G.upd]; omega
            · right; simp [G.upd]
            · simp [G.upd]
        · cases hr
      · cases hr
    · cases hr
  · rename_i args ts ho
    split at hr
    · rename_i x y t t' hxs hts
      split at hr
      · rename_i htt
        subst htt
        obtain ⟨z, g', w', r1, r2, r3, r4, r5⟩ := append_sound (P := P) (ty := o.type) H (ev x) (ev y) hr
        have e1 : args = #[x, y] := by rw [← Array.toArray_toList (xs := args), hxs]
        have e2 : ts = #[t, t] := by rw [← Array.toArray_toList (xs := ts), hts]
        subst e1; subst e2
        refine ⟨_, z, g', w', ?_, .inl rfl, r2, r3, r4, r5⟩
        simp only [execOp, ho, resolve, invoke, builtin, Sem.run_bind, Sem.run_pure, Result.andThen_ok]
        simp [r1]
      · cases hr
    · cases hr
  · rename_i t r ho
    split at hr
    · rename_i hn
      obtain rfl := Option.isNone_iff_eq_none.1 hn
      obtain ⟨rfl, rfl⟩ := Prod.mk.inj (Option.some.inj hr)
      refine ⟨_, .map (some w.heap.size), _, w.alloc (.map #[] 0), ?_, .inl rfl, ?_, H.newMap, g.upd_ext _ _ _ _, by simp⟩
      · simp [execOp, ho, Instr.makeMap, newObj]; rfl
      · simp [VRel, CRel, SRel, G.upd]
    · cases hr
  · rename_i t x lo hi mx ho
    obtain ⟨rfl, v, h1, h2⟩ := sliceE_sound (P := P) H (ev x) (ov_rel hE lo) (ov_rel hE hi) (ov_rel hE mx) hr
    exact ⟨_, v, g, w, by simp only [execOp, ho, Sem.run_bind, h1, Result.andThen_ok, Sem.run_pure], .inl rfl, h2, H, GExt.refl _ _, Nat.le_refl _⟩
  · rename_i args ts ho
    split at hr
    · rename_i x t hxs hts
      obtain ⟨w', rfl, h1, h2, h3⟩ := clear_sound (P := P) (ty := o.type) H (ev x) hr
      have e1 : args = #[x] := by rw [← Array.toArray_toList (xs := args), hxs]
      have e2 : ts = #[t] := by rw [← Array.toArray_toList (xs := ts), hts]
      subst e1; subst e2
      refine ⟨_, .tuple #[], g, w', ?_, .inl rfl, ⟨#[], rfl, by simp [CRelL]⟩, h2, GExt.refl _ _, by omega⟩
      simp only [execOp, ho, resolve, invoke, builtin, Sem.run_bind, Sem.run_pure, Result.andThen_ok]
      simp [h1]
    · cases hr
  · rename_i t m k x ho
    obtain ⟨h2, hs, hr⟩ := Option.map_eq_some_iff.1 hr
    obtain ⟨rfl, rfl⟩ := Prod.mk.inj hr
    obtain ⟨w', r1, r2, r3⟩ := upd_sound (P := P) H (ev m) (ev k) (ev x) hs
    exact ⟨.skip, undef, g, w', by simp [execOp, ho, r1], .inr ⟨rfl, rfl⟩, rfl, r2, GExt.refl _ _, by omega⟩
  · rename_i args ts ho
    split at hr
    · rename_i x y t t' hxs hts
      obtain ⟨h2, hs, hr⟩ := Option.map_eq_some_iff.1 hr
      obtain ⟨rfl, rfl⟩ := Prod.mk.inj hr
      obtain ⟨w', h1, h2, h3⟩ := del_sound (P := P) (t' := t') (ty := o.type) H (ev x) (ev y) hs
      have e1 : args = #[x, y] := by rw [← Array.toArray_toList (xs := args), hxs]
      have e2 : ts = #[t, t'] := by rw [← Array.toArray_toList (xs := ts), hts]
      subst e1; subst e2
      refine ⟨_, .tuple #[], g, w', ?_, .inl rfl, ⟨#[], rfl, by simp [CRelL]⟩, h2, GExt.refl _ _, by omega⟩
      simp only [execOp, ho, resolve, invoke, builtin, Sem.run_bind, Sem.run_pure, Result.andThen_ok]
      simp [h1]
    · cases hr
  · cases hr
end
end Go.AM
