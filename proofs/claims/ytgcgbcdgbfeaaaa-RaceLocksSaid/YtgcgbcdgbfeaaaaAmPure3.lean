/- The abstract machine: slices, built values and '==' of whole values do in the model what they do here. Conditions: none. -/
import Derived.Test.YtgcgbcdgbfeaaaaAmPure2
import Derived.Laws.Slices
set_option linter.unusedVariables false
set_option linter.unusedSimpArgs false
namespace Go.AM
section
variable {P : Program} {g : G} {h : List AO} {w : World} {n : Nat}

/-- The values of a bound. -/
theorem bound_rel {x : Option AV} {v : Option Value} {d : AV} {i : Int} {k : IntKind} (hx : ∀ a, x = some a → ∃ u, v = some u ∧ VRel g n a u) (hn : x = none → v = none) (he : x.getD d = .v (.sc (.int k i))) :
    (∃ k', v = some (.int k' i)) ∨ (v = none ∧ d = .v (.sc (.int k i))) := by
  cases x with
  | none => exact .inr ⟨hn rfl, he⟩
  | some a =>
    obtain ⟨u, h1, h2⟩ := hx a rfl
    simp only [Option.getD_some] at he
    subst he
    simp only [VRel, CRel, SRel] at h2
    subst h2
    exact .inl ⟨k, h1⟩

theorem run_slice_row (t e : TypeId) (a : Option Addr) (len cap s : Nat) (lo hi : Option Value) (i j : Int) (hu : P.underlying t = some (.slice e)) (hs : szT P e = some s)
    (hlo : (∃ k, lo = some (.int k i)) ∨ (lo = none ∧ i = 0)) (hhi : (∃ k, hi = some (.int k j)) ∨ (hi = none ∧ j = len)) (h0 : 0 ≤ i) (h1 : i ≤ j) (h2 : j ≤ len) (h3 : len ≤ cap) :
    (Instr.sliceAt t (.slice a len cap) lo hi none).run P w = .ok (.slice (if cap = i.toNat then a else a.map (·.add (i.toNat * s))) (j.toNat - i.toNat) (cap - i.toNat)) w := by
  have e1 : (if cap = i.toNat then a else a.map (·.add (i.toNat * s))) = (if (cap : Int) = i then a else a.map (·.add (i.toNat * s))) := by
    have : (cap = i.toNat) = ((cap : Int) = i) := by apply propext; omega
    simp only [this]
  have bj : ∀ k c, (Instr.sliceBound (.int k j) cap c).run P w = .ok j.toNat w := fun k c => run_sliceBound w k j cap c (by omega) (by omega)
  have bi : ∀ k c y, j ≤ (y : Nat) → (Instr.sliceBound (.int k i) y c).run P w = .ok i.toNat w := fun k c y hy => run_sliceBound w k i y c h0 (by omega)
  rcases hlo with ⟨kl, rfl⟩ | ⟨rfl, rfl⟩ <;> rcases hhi with ⟨kh, rfl⟩ | ⟨rfl, rfl⟩
  · simp only [Instr.sliceAt, Instr.slice, Instr.sliceBounds, Sem.run_bind, run_underlying hu, Result.andThen_ok, Sem.run_pure, bj, bi _ _ j.toNat (by omega), run_sizeOf' hs]
  · simp only [Instr.sliceAt, Instr.slice, Instr.sliceBounds, Sem.run_bind, run_underlying hu, Result.andThen_ok, Sem.run_pure, bi _ _ len (by omega), run_sizeOf' hs, Int.toNat_natCast]
  · simp only [Instr.sliceAt, Instr.slice, Instr.sliceBounds, Sem.run_bind, run_underlying hu, Result.andThen_ok, Sem.run_pure, bj, run_sizeOf' hs, Int.toNat_zero]
  · simp only [Instr.sliceAt, Instr.slice, Instr.sliceBounds, Sem.run_bind, run_underlying hu, Result.andThen_ok, Sem.run_pure, run_sizeOf' hs, Int.toNat_zero, Int.toNat_natCast]
theorem run_slice_str (t : TypeId) (b : ByteArray) (lo hi : Option Value) (i j : Int) (hu : P.underlying t = some .string)
    (hlo : (∃ k, lo = some (.int k i)) ∨ (lo = none ∧ i = 0)) (hhi : (∃ k, hi = some (.int k j)) ∨ (hi = none ∧ j = b.size)) (h0 : 0 ≤ i) (h1 : i ≤ j) (h2 : j ≤ b.size) :
    (Instr.sliceAt t (.string b) lo hi none).run P w = .ok (.string (b.extract i.toNat j.toNat)) w := by
  have bj : ∀ k c, (Instr.sliceBound (.int k j) b.size c).run P w = .ok j.toNat w := fun k c => run_sliceBound w k j b.size c (by omega) (by omega)
  have bi : ∀ k c y, j ≤ (y : Nat) → (Instr.sliceBound (.int k i) y c).run P w = .ok i.toNat w := fun k c y hy => run_sliceBound w k i y c h0 (by omega)
  rcases hlo with ⟨kl, rfl⟩ | ⟨rfl, rfl⟩ <;> rcases hhi with ⟨kh, rfl⟩ | ⟨rfl, rfl⟩
  · simp [Instr.sliceAt, Instr.slice, Instr.sliceBounds, run_underlying hu, bj, bi _ _ j.toNat (by omega)]
  · simp [Instr.sliceAt, Instr.slice, Instr.sliceBounds, run_underlying hu, bi _ _ b.size (by omega)]
  · simp [Instr.sliceAt, Instr.slice, Instr.sliceBounds, run_underlying hu, bj]
  · simp [Instr.sliceAt, Instr.slice, Instr.sliceBounds, run_underlying hu]

def OVRel (g : G) (n : Nat) (x : Option AV) (v : Option Value) : Prop := (∀ a, x = some a → ∃ u, v = some u ∧ VRel g n a u) ∧ (x = none → v = none)
theorem slice_sound {t : TypeId} {x r : AV} {lo hi mx : Option AV} {v : Value} {vlo vhi vmx : Option Value} (hv : VRel g n x v) (hl : OVRel g n lo vlo) (hh : OVRel g n hi vhi) (hm : OVRel g n mx vmx)
    (hr : sliceA P t x lo hi mx = some r) : ∃ u, (∀ w : World, (Instr.sliceAt t v vlo vhi vmx).run P w = .ok u w) ∧ VRel g n r u := by
  unfold sliceA at hr
  split at hr
  · rename_i l o m s e hu
    obtain rfl := hm.2 rfl
    split at hr
    · rename_i k j k' i hj hi'
      split at hr
      · rename_i hc
        obtain rfl := Option.some.inj hr
        simp only [VRel, CRel, SRel] at hv
        obtain ⟨hln, cap, o', sp, h1, h2, h3, rfl⟩ := hv
        have cj := bound_rel hh.1 hh.2 hj
        have ci := bound_rel hl.1 hl.2 hi'
        have hj' : (∃ k, vhi = some (.int k j)) ∨ (vhi = none ∧ j = m) := by
          rcases cj with h | ⟨h, h'⟩
          · exact .inl h
          · injection h' with h'; injection h' with h'; injection h' with _ h'; exact .inr ⟨h, h'.symm⟩
        have hi'' : (∃ k, vlo = some (.int k i)) ∨ (vlo = none ∧ i = 0) := by
          rcases ci with h | ⟨h, h'⟩
          · exact .inl h
          · injection h' with h'; injection h' with h'; injection h' with _ h'; exact .inr ⟨h, h'.symm⟩
        refine ⟨_, fun w => run_slice_row t e _ m cap s vlo vhi i j hu hc.2.2.2 hi'' hj' hc.1 hc.2.1 hc.2.2.1 h1, ?_⟩
        simp only [VRel, CRel, SRel]
        refine ⟨hln, cap - i.toNat, (if cap = i.toNat then o' else o' + i.toNat * s), (if cap = i.toNat then sp else none), by omega, ?_, ?_, ?_⟩
        · rw [← h2, Nat.add_assoc, ← Nat.add_mul]; congr 2; omega
        · by_cases he : cap = i.toNat
          · exact .inl (by omega)
          · right
            rw [if_neg he, if_neg he]
            rcases h3 with h3 | h3
            · omega
            · exact ⟨by omega, rfl⟩
        · by_cases he : cap = i.toNat
          · simp [he]
          · rcases h3 with h3 | ⟨rfl, rfl⟩
            · omega
            · simp [he, addr_add]
      · cases hr
    · cases hr
  · rename_i e hu
    obtain rfl := hm.2 rfl
    split at hr
    · rename_i k j k' i hj hi'
      split at hr
      · rename_i hc
        obtain ⟨rfl, rfl, hs⟩ := hc
        obtain ⟨s, hs⟩ := Option.isSome_iff_exists.1 hs
        obtain rfl := Option.some.inj hr
        simp only [VRel, CRel, SRel] at hv
        subst hv
        have cj := bound_rel hh.1 hh.2 hj
        have ci := bound_rel hl.1 hl.2 hi'
        refine ⟨_, fun w => run_slice_row t e none 0 0 s vlo vhi 0 0 hu hs (ci.imp id fun h => ⟨h.1, rfl⟩) (cj.imp id fun h => ⟨h.1, rfl⟩) (by omega) (by omega) (by omega) (by omega), ?_⟩
        simp [VRel, CRel, SRel]
      · cases hr
    · cases hr
  · rename_i b hu
    obtain rfl := hm.2 rfl
    split at hr
    · rename_i k j k' i hj hi'
      split at hr
      · rename_i hc
        obtain rfl := Option.some.inj hr
        simp only [VRel, CRel, SRel] at hv
        subst hv
        have cj := bound_rel hh.1 hh.2 hj
        have ci := bound_rel hl.1 hl.2 hi'
        have hj' : (∃ k, vhi = some (.int k j)) ∨ (vhi = none ∧ j = b.size) := by
          rcases cj with h | ⟨h, h'⟩
          · exact .inl h
          · injection h' with h'; injection h' with h'; injection h' with _ h'; exact .inr ⟨h, h'.symm⟩
        have hi'' : (∃ k, vlo = some (.int k i)) ∨ (vlo = none ∧ i = 0) := by
          rcases ci with h | ⟨h, h'⟩
          · exact .inl h
          · injection h' with h'; injection h' with h'; injection h' with _ h'; exact .inr ⟨h, h'.symm⟩
        exact ⟨_, fun w => run_slice_str t b vlo vhi i j hu hi'' hj' hc.1 hc.2.1 hc.2.2, by simp [VRel, CRel, SRel]⟩
      · cases hr
    · cases hr
  · cases hr

/-! Values that are built -/
theorem splice_length {cs new : List SV} {o : Nat} (hle : o + new.length ≤ cs.length) : (splice cs o new).length = cs.length := by simp [splice]; omega
theorem splice_get (cs new : List SV) (o i : Nat) (hle : o + new.length ≤ cs.length) : (splice cs o new)[i]? = if o ≤ i ∧ i < o + new.length then new[i - o]? else cs[i]? := by
  unfold splice
  have ht : (cs.take o).length = o := by simp; omega
  by_cases h1 : i < o
  · rw [List.append_assoc, List.getElem?_append_left (by omega), List.getElem?_take, if_pos h1, if_neg (by omega)]
  · by_cases h2 : i < o + new.length
    · rw [if_pos (by omega), List.append_assoc, List.getElem?_append_right (by omega), ht, List.getElem?_append_left (by omega)]
    · rw [if_neg (by omega), List.getElem?_append_right (by simp; omega), List.getElem?_drop]
      congr 1
      simp; omega
theorem fold_get : ∀ (us : List Value) (k o : Nat) (C : Array Value), o + k + us.length ≤ C.size →
    ((us.zipIdx k).foldl (fun cs (p : Value × Nat) => cs.setIfInBounds (o + p.2) p.1) C).size = C.size ∧
    ∀ i : Nat, ((us.zipIdx k).foldl (fun cs (p : Value × Nat) => cs.setIfInBounds (o + p.2) p.1) C)[i]? = if o + k ≤ i ∧ i < o + k + us.length then us[i - (o + k)]? else C[i]?
  | [], k, o, C, _ => ⟨rfl, fun i => by simp; intro h1 h2; omega⟩
  | u :: us, k, o, C, hle => by
    simp only [List.length_cons] at hle
    obtain ⟨h1, h2⟩ := fold_get us (k + 1) o (C.setIfInBounds (o + k) u) (by simp; omega)
    simp only [List.zipIdx_cons, List.foldl_cons]
    refine ⟨by rw [h1]; simp, fun i => ?_⟩
    rw [h2 i]
    by_cases hi : i = o + k
    · subst hi
      rw [if_neg (by omega), if_pos (by simp)]
      rw [Array.getElem?_setIfInBounds]
      simp; omega
    · by_cases hr : o + (k + 1) ≤ i ∧ i < o + (k + 1) + us.length
      · rw [if_pos hr, if_pos (by simp; omega)]
        have : i - (o + k) = (i - (o + (k + 1))) + 1 := by omega
        rw [this, List.getElem?_cons_succ]
      · rw [if_neg hr, if_neg (by simp; omega), Array.getElem?_setIfInBounds, if_neg (by omega)]

theorem fill_sound {place : Nat → Option (Nat × Nat)} : ∀ {parts : List (Nat × AV)} {vps : List (Nat × Value)} {cs r : List SV} {C : Array Value},
    parts.length = vps.length → (∀ (i : Nat) p, parts[i]? = some p → ∃ q, vps[i]? = some q ∧ q.1 = p.1 ∧ VRel g n p.2 q.2) → SRelL g n cs C.toList → fillA place cs parts = some r →
    ∃ C', Instr.fill place C vps = some C' ∧ SRelL g n r C'.toList
  | [], [], cs, r, C, _, _, hc, hr => by
    obtain rfl := Option.some.inj hr
    exact ⟨C, rfl, hc⟩
  | [], _ :: _, _, _, _, hl, _, _, _ => by simp at hl
  | _ :: _, [], _, _, _, hl, _, _, _ => by simp at hl
  | (i, x) :: parts, (j, v) :: vps, cs, r, C, hl, hp, hc, hr => by
    obtain ⟨q, h1, h2, h3⟩ := hp 0 (i, x) (by simp)
    obtain rfl : (j, v) = q := by simpa using h1
    simp only at h2 h3
    subst h2
    cases x with
    | v x =>
      simp only [fillA] at hr
      split at hr
      · rename_i o m hpl
        split at hr
        · rename_i hlm
          have hx : SRelL g n x.cells v.cells.toList := CRel.cells h3
          have hxl := SRelL.length hx
          have hcl := SRelL.length hc
          simp only [Array.length_toList] at hxl hcl
          have hfold : v.cells.zipIdx.foldl (fun cs (p : Value × Nat) => cs.setIfInBounds (o + p.2) p.1) C = (v.cells.toList.zipIdx).foldl (fun cs (p : Value × Nat) => cs.setIfInBounds (o + p.2) p.1) C := by
            rw [← Array.foldl_toList]; simp
          obtain ⟨hs1, hs2⟩ := fold_get v.cells.toList 0 o C (by simp; omega)
          have hrel : SRelL g n (splice cs o x.cells) ((v.cells.toList.zipIdx).foldl (fun cs (p : Value × Nat) => cs.setIfInBounds (o + p.2) p.1) C).toList := by
            refine SRelL.of ?_ fun i y hy => ?_
            · rw [splice_length (by omega)]; simp only [Array.length_toList]; rw [hs1]; omega
            · rw [splice_get _ _ _ _ (by omega)] at hy
              rw [Array.getElem?_toList, hs2 i]
              simp only [Nat.add_zero, Array.length_toList]
              by_cases hb : o ≤ i ∧ i < o + x.cells.length
              · rw [if_pos hb] at hy
                rw [if_pos (by omega)]
                exact SRelL.get hx _ _ hy
              · rw [if_neg hb] at hy
                rw [if_neg (by omega), ← Array.getElem?_toList]
                exact SRelL.get hc _ _ hy
          obtain ⟨C', hC', hr'⟩ := fill_sound (place := place) (parts := parts) (vps := vps) (by simpa using hl) (fun i p h => by
            obtain ⟨q, a, b, c⟩ := hp (i + 1) p (by simpa using h)
            exact ⟨q, by simpa using a, b, c⟩) hrel hr
          refine ⟨C', ?_, hr'⟩
          simp only [Instr.fill, hpl]
          rw [if_neg (by simp; omega)]
          rw [← hC', hfold]
        · cases hr
      · cases hr
    | und => simp [fillA] at hr
    | sk => simp [fillA] at hr
    | tup _ => simp [fillA] at hr

theorem zero_sound {t : TypeId} {z : List SV} (hz : zeroL P t = some z) : ∃ v, (∀ w : World, (zeroValue t).run P w = .ok v w) ∧ SRelL g n z v.cells.toList := by
  unfold zeroL at hz
  simp only [Option.bind_eq_some_iff] at hz
  obtain ⟨v, ⟨i, hi, hv⟩, hc⟩ := hz
  exact ⟨v, fun w => by simp [zeroValue, typeInfo, hi, hv], constL_rel g n _ _ hc⟩
theorem places_sound : ∀ {fs : List Field} {pl : List (Nat × Nat)}, placesA P fs = some pl → (fs.mapM (fun f => (do pure (f.offset, ← sizeOf f.type) : Sem (Nat × Nat)))).run P w = .ok pl w
  | [], pl, h => by
    obtain rfl := Option.some.inj h
    simp
  | f :: fs, pl, h => by
    simp only [placesA, Option.bind_eq_some_iff, Option.map_eq_some_iff] at h
    obtain ⟨m, hm, pl', hp, rfl⟩ := h
    rw [List.mapM_cons]
    simp only [Sem.run_bind, run_sizeOf' hm, Result.andThen_ok, Sem.run_pure, places_sound hp]
theorem build_sound {t : TypeId} {parts : List (Nat × AV)} {vps : Array (Nat × Value)} {r : AV} (hl : parts.length = vps.size) (hp : ∀ (i : Nat) p, parts[i]? = some p → ∃ q, vps.toList[i]? = some q ∧ q.1 = p.1 ∧ VRel g n p.2 q.2)
    (hr : buildA P t parts = some r) : ∃ u, (∀ w : World, (Instr.build t vps).run P w = .ok u w) ∧ VRel g n r u := by
  unfold buildA at hr
  simp only [Option.bind_eq_some_iff] at hr
  obtain ⟨z, hz, hr⟩ := hr
  obtain ⟨zv, hzv, hzr⟩ := zero_sound (g := g) (n := n) hz
  split at hr
  · rename_i fs hu
    simp only [Option.bind_eq_some_iff, Option.map_eq_some_iff] at hr
    obtain ⟨pl, hpl, cs, hcs, rfl⟩ := hr
    obtain ⟨C', hC', hrel⟩ := fill_sound (by simpa using hl) hp hzr hcs
    refine ⟨.agg C', fun w => ?_, C', rfl, hrel⟩
    have hpp := places_sound (w := w) hpl
    have : (fs.mapM (fun f => (do pure (f.offset, ← sizeOf f.type) : Sem (Nat × Nat)))).run P w = .ok pl.toArray w := by
      rw [← Array.toArray_toList (xs := fs), List.mapM_toArray]
      simp only [Sem.run_map, hpp, Result.andThen_ok]
    simp only [Instr.build, Sem.run_bind, hzv, Result.andThen_ok, run_underlying hu, this]
    have hC'' : Instr.fill (fun i => pl.toArray[i]?) zv.cells vps.toList = some C' := by simpa using hC'
    simp [hC']
  · rename_i m e hu
    simp only [Option.bind_eq_some_iff, Option.map_eq_some_iff] at hr
    obtain ⟨s, hs, cs, hcs, rfl⟩ := hr
    obtain ⟨C', hC', hrel⟩ := fill_sound (by simpa using hl) hp hzr hcs
    refine ⟨.agg C', fun w => ?_, C', rfl, hrel⟩
    simp [Instr.build, hzv, run_underlying hu, run_sizeOf' hs, hC']
  · cases hr
end
end Go.AM
