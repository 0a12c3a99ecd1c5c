/- The abstract machine: operations that write nothing do in the model what they do here. Conditions: none. -/
import Derived.Test.YtgcgbcdgbfeaaaaAmOps
import Derived.Laws.Entries
set_option linter.unusedVariables false
set_option linter.unusedSimpArgs false
namespace Go.AM

theorem constS_rel (g : G) (n : Nat) (v : Value) (x : SV) (h : constS v = some x) : SRel g n x v := by
  unfold constS at h
  split at h <;> first | (obtain rfl := Option.some.inj h; simp only [SRel]) | cases h
theorem constL_rel (g : G) (n : Nat) : ∀ (vs : List Value) (xs : List SV), constL vs = some xs → SRelL g n xs vs
  | [], xs, h => by simp only [constL] at h; obtain rfl := Option.some.inj h; simp [SRelL]
  | v :: vs, xs, h => by
    simp only [constL, Option.bind_eq_some_iff, Option.map_eq_some_iff] at h
    obtain ⟨x, h1, ys, h2, rfl⟩ := h
    simp only [SRelL]
    exact ⟨constS_rel g n v x h1, constL_rel g n vs ys h2⟩
theorem constA_rel (g : G) (n : Nat) (v : Value) : VRel g n (constA v) v := by
  unfold constA
  split
  · rename_i cs
    split
    · rename_i xs hx
      exact ⟨cs, rfl, constL_rel g n _ _ hx⟩
    · trivial
  · split
    · rename_i x hx
      exact constS_rel g n _ _ hx
    · trivial
theorem aeval_rel {g : G} {n : Nat} {e : List AV} {a : Act} (h : ERel g n e a.tmps) (x : Operand) : VRel g n (aeval e x) (a.eval x) := by
  cases x with
  | tmp t =>
    simp only [aeval, Act.eval]
    rw [List.getD_eq_getElem?_getD]
    cases hx : e[t]? with
    | none => trivial
    | some y => exact h.get hx
  | const v => exact constA_rel g n v
  | global i => trivial
  | func f => exact ⟨#[], #[], rfl, by simp [SRelL], by simp [SRelL]⟩

section
variable {P : Program} {g : G} {h : List AO} {w : World}

theorem run_typeInfo' {t : TypeId} {i : TypeInfo} (hi : P.info? t = some i) (w : World) : (typeInfo t).run P w = .ok i w := by simp [typeInfo, hi]
theorem run_sizeOf' {t : TypeId} {n : Nat} (hn : szT P t = some n) (w : World) : (sizeOf t).run P w = .ok n w := by
  unfold szT at hn
  obtain ⟨i, hi, rfl⟩ := Option.map_eq_some_iff.1 hn
  simp [sizeOf, typeInfo, hi]
theorem run_isAgg' {t : TypeId} {b : Bool} (hb : aggT P t = some b) (w : World) : (isAgg t).run P w = .ok b w := by
  unfold aggT at hb
  split at hb <;> rename_i hu <;> first | cases hb | (obtain rfl := Option.some.inj hb)
  · simp [isAgg, run_underlying hu]
  · simp [isAgg, run_underlying hu]
  · rename_i d hd1 hd2
    simp only [isAgg, Sem.run_bind, run_underlying hu, Result.andThen_ok]
    cases d <;> first | rfl | exact absurd hu (hd1 _) | exact absurd hu (hd2 _ _)

/-- A cell that is told is there. -/
theorem HRel.cell (H : HRel g h w) {l : Nat} {cs : List SV} (hc : cellsAt h l = some cs) (i : Nat) (x : SV) (hx : cs[i]? = some x) : ∃ v, w.cell? ⟨g.blk l, g.off l + i, none⟩ = some v ∧ SRel g h.length x v := by
  unfold cellsAt at hc
  split at hc
  · rename_i hl
    obtain rfl := Option.some.inj hc
    exact H.obj _ _ hl i x hx
  · rename_i hl
    obtain rfl := Option.some.inj hc
    obtain ⟨C, h1, h2, h3, h4⟩ := H.obj _ _ hl
    obtain ⟨v, h5, h6⟩ := h4 i x hx
    exact ⟨v, by simp [World.cell?, h1, h5], h6⟩
  · cases hc
theorem cellsAt_lt {l : Nat} {cs : List SV} (hc : cellsAt h l = some cs) : l < h.length := by
  unfold cellsAt at hc
  rcases Nat.lt_or_ge l h.length with h1 | h1
  · exact h1
  · rw [List.getElem?_eq_none h1] at hc; cases hc

theorem addr_add (b o j : Nat) : (⟨b, o, none⟩ : Addr).add j = ⟨b, o + j, none⟩ := by unfold Addr.add; split <;> simp_all
theorem run_loadCellsFrom' (b o : Nat) : ∀ (n i : Nat) (acc : Array Value) (vs : List Value), vs.length = n → (∀ j v, vs[j]? = some v → w.cell? ⟨b, o + (i + j), none⟩ = some v) →
    (loadCellsFrom ⟨b, o, none⟩ i n acc).run P w = .ok (acc ++ vs.toArray) w
  | 0, i, acc, vs, hl, _ => by
    obtain rfl : vs = [] := List.eq_nil_of_length_eq_zero hl
    simp [loadCellsFrom]
  | n + 1, i, acc, [], hl, _ => by simp at hl
  | n + 1, i, acc, v :: vs, hl, hv => by
    have h0 := hv 0 v (by simp)
    simp only [Nat.add_zero] at h0
    simp only [loadCellsFrom, Sem.run_bind, run_load, addr_add, h0, Result.andThen_ok]
    rw [run_loadCellsFrom' b o n (i + 1) (acc.push v) vs (by simpa using hl) (fun j u hu => by
      have := hv (j + 1) u (by simpa using hu)
      rw [← this]; congr 2; omega)]
    simp
/-- As many cells as are told, read. -/
theorem HRel.cells (H : HRel g h w) {l : Nat} {cs : List SV} (hc : cellsAt h l = some cs) : ∀ (n o : Nat), o + n ≤ cs.length → ∃ vs : List Value, vs.length = n ∧ SRelL g h.length ((cs.drop o).take n) vs ∧ ∀ (j : Nat) v, vs[j]? = some v → w.cell? ⟨g.blk l, g.off l + o + j, none⟩ = some v
  | 0, o, _ => ⟨[], rfl, by simp [SRelL], fun j v hv => by simp at hv⟩
  | n + 1, o, hle => by
    obtain ⟨vs, h1, h2, h3⟩ := H.cells hc n (o + 1) (by omega)
    have ho : o < cs.length := by omega
    obtain ⟨v, h4, h5⟩ := H.cell hc o cs[o] (by simp [List.getElem?_eq_getElem ho])
    refine ⟨v :: vs, by simp [h1], ?_, ?_⟩
    · rw [List.drop_eq_getElem_cons ho, List.take_succ_cons]
      simp only [SRelL]
      exact ⟨h5, h2⟩
    · intro j u hu
      cases j with
      | zero => have : v = u := by simpa using hu
                subst this; simpa using h4
      | succ j =>
        have := h3 j u (by simpa using hu)
        rw [← this]; congr 2; omega

theorem _root_.Go.AM.Keeps.cell {w w' : World} (h : Keeps (fun _ => False) w w') {a : Addr} {v : Value} (hc : w.cell? a = some v) : w'.cell? a = some v := by
  rw [h.below.cell (World.block_lt_of_cell? _ _ hc)]; exact hc
theorem load_sound (H : HRel g h w) {t : TypeId} {x r : AV} {v : Value} (hv : VRel g h.length x v) (hr : loadA P h t x = some r) :
    ∃ u, (∀ w', Keeps (fun _ => False) w w' → (Instr.loadAt t v).run P w' = .ok u w') ∧ VRel g h.length r u := by
  unfold loadA at hr
  split at hr
  · rename_i l o
    simp only [VRel, CRel, SRel] at hv
    obtain ⟨hl, rfl⟩ := hv
    simp only [Option.bind_eq_some_iff, Option.map_eq_some_iff] at hr
    obtain ⟨cs, hc, q, hq, rfl⟩ := hr
    unfold partA at hq
    split at hq
    · rename_i hag
      split at hq
      · rename_i n hn
        split at hq
        · rename_i hle
          obtain rfl := Option.some.inj hq
          obtain ⟨vs, h1, h2, h3⟩ := H.cells hc n o hle
          refine ⟨.agg vs.toArray, fun w' hw' => ?_, vs.toArray, rfl, by simpa using h2⟩
          simp only [Instr.loadAt, Instr.sureAddr, loadVar, Sem.run_bind, Sem.run_pure, Result.andThen_ok, run_isAgg' hag, if_true, run_sizeOf' hn, loadCells]
          rw [run_loadCellsFrom' (P := P) (g.blk l) (g.off l + o) n 0 #[] vs h1 (fun j u hu => by rw [← hw'.cell (h3 j u hu)]; congr 2; omega)]
          simp
        · cases hq
      · cases hq
    · rename_i hag
      obtain ⟨y, hy, rfl⟩ := Option.map_eq_some_iff.1 hq
      obtain ⟨u, h1, h2⟩ := H.cell hc o y hy
      refine ⟨u, fun w' hw' => ?_, h2⟩
      simp [Instr.loadAt, Instr.sureAddr, loadVar, run_isAgg' hag, hw'.cell h1]
    · cases hq
  · cases hr

theorem part_sound {t : TypeId} {cs : List SV} {vs : Array Value} {o : Nat} {r : CV} {n : Nat} (hv : SRelL g n cs vs.toList) (hr : partA P t cs o = some r) :
    ∃ u, (∀ w : World, (part t vs o).run P w = .ok u w) ∧ CRel g n r u := by
  unfold partA at hr
  split at hr
  · rename_i hag
    split at hr
    · rename_i m hm
      split at hr
      · rename_i hle
        obtain rfl := Option.some.inj hr
        have hl := SRelL.length hv
        refine ⟨.agg (vs.extract o (o + m)), fun w => by simp [part, run_isAgg' hag, run_sizeOf' hm], _, rfl, ?_⟩
        refine SRelL.of (by simp at hl ⊢; omega) fun i x hx => ?_
        rw [List.getElem?_take] at hx
        split at hx
        · rename_i hi
          rw [List.getElem?_drop] at hx
          obtain ⟨u, h1, h2⟩ := SRelL.get hv _ _ hx
          refine ⟨u, ?_, h2⟩
          rw [Array.toList_extract, List.extract_eq_take_drop, List.getElem?_take]
          rw [if_pos (by omega), List.getElem?_drop]
          exact h1
        · cases hx
      · cases hr
    · cases hr
  · rename_i hag
    obtain ⟨y, hy, rfl⟩ := Option.map_eq_some_iff.1 hr
    obtain ⟨u, h1, h2⟩ := SRelL.get hv _ _ hy
    refine ⟨u, fun w => ?_, h2⟩
    have h1' : vs[o]? = some u := by rw [← Array.getElem?_toList]; exact h1
    simp [part, run_isAgg' hag, h1']
  · cases hr

theorem field_sound {t : TypeId} {x r : AV} {v : Value} {n f : Nat} (hv : VRel g n x v) (hr : fieldA P t x f = some r) :
    ∃ u, (∀ w : World, (Instr.field t v f).run P w = .ok u w) ∧ VRel g n r u := by
  unfold fieldA at hr
  split at hr
  · rename_i cs fs hu
    obtain ⟨vs, rfl, h2⟩ := hv
    split at hr
    · rename_i fd hf
      obtain ⟨q, hq, rfl⟩ := Option.map_eq_some_iff.1 hr
      obtain ⟨u, h3, h4⟩ := part_sound h2 hq
      refine ⟨u, fun w => ?_, h4⟩
      simp [Instr.field, run_underlying hu, hf, asAgg, h3]
    · cases hr
  · cases hr

theorem fieldAddr_sound {t : TypeId} {x r : AV} {v : Value} {n f : Nat} (hv : VRel g n x v) (hr : fieldAddrA P t x f = some r) :
    ∃ u, (∀ w : World, (Instr.fieldAt t v f).run P w = .ok u w) ∧ VRel g n r u := by
  unfold fieldAddrA at hr
  split at hr
  · rename_i l o fs hu
    simp only [VRel, CRel, SRel] at hv
    obtain ⟨hl, rfl⟩ := hv
    split at hr
    · rename_i fd hf
      split at hr
      · rename_i m hm
        obtain rfl := Option.some.inj hr
        refine ⟨.pointer (some ⟨g.blk l, g.off l + (o + fd.offset), none⟩), fun w => ?_, ?_⟩
        · simp [Instr.fieldAt, run_underlying hu, hf, Instr.sureAddr, fieldPlace, run_sizeOf' hm, addr_add, Nat.add_assoc]
        · simp only [VRel, CRel, SRel]; exact ⟨hl, trivial⟩
      · cases hr
    · cases hr
  · cases hr

theorem extract_sound {x r : AV} {v : Value} {n i : Nat} (hv : VRel g n x v) (hr : extractA x i = some r) :
    ∃ u, (∀ w : World, (Instr.extract v i).run P w = .ok u w) ∧ VRel g n r u := by
  unfold extractA at hr
  split at hr
  · obtain ⟨vs, rfl, h2⟩ := hv
    obtain ⟨y, hy, rfl⟩ := Option.map_eq_some_iff.1 hr
    obtain ⟨u, h3, h4⟩ := CRelL.get h2 _ _ hy
    have h3' : vs[i]? = some u := by rw [← Array.getElem?_toList]; exact h3
    exact ⟨u, fun w => by simp [Instr.extract, h3'], h4⟩
  · cases hr

theorem indexAddr_sound {t : TypeId} {x i r : AV} {v j : Value} {n : Nat} (hv : VRel g n x v) (hj : VRel g n i j) (hr : indexAddrA P t x i = some r) :
    ∃ u, (∀ w : World, (Instr.indexAt t v j).run P w = .ok u w) ∧ VRel g n r u := by
  unfold indexAddrA at hr
  split at hr
  · rename_i l o k m len elem hu
    simp only [VRel, CRel, SRel] at hv hj
    obtain ⟨hl, rfl⟩ := hv
    subst hj
    split at hr
    · rename_i s hs
      split at hr
      · rename_i hlt
        obtain rfl := Option.some.inj hr
        refine ⟨.pointer (some ⟨g.blk l, g.off l + (o + m.toNat * s), none⟩), fun w => ?_, ?_⟩
        · simp [Instr.indexAt, run_underlying hu, asIntOf, Instr.sureAddr, hlt.1, hlt.2, run_sizeOf' hs, addr_add, Nat.add_assoc]
        · simp only [VRel, CRel, SRel]; exact ⟨hl, trivial⟩
      · cases hr
    · cases hr
  · rename_i l o len esz k m elem hu
    simp only [VRel, CRel, SRel] at hv hj
    obtain ⟨hl, cap, o', sp, h1, h2, h3, rfl⟩ := hv
    subst hj
    split at hr
    · rename_i s hs
      split at hr
      · rename_i hlt
        obtain rfl := Option.some.inj hr
        obtain ⟨rfl, rfl⟩ : o' = g.off l + o ∧ sp = none := by rcases h3 with h3 | h3; (· omega); (· exact h3)
        refine ⟨.pointer (some ⟨g.blk l, g.off l + (o + m.toNat * s), none⟩), fun w => ?_, ?_⟩
        · simp [Instr.indexAt, run_underlying hu, asIntOf, hlt.1, hlt.2, run_sizeOf' hs, addr_add, Nat.add_assoc]
        · simp only [VRel, CRel, SRel]; exact ⟨hl, trivial⟩
      · cases hr
    · cases hr
  · cases hr

theorem index_sound {t : TypeId} {x i r : AV} {v j : Value} {n : Nat} (hv : VRel g n x v) (hj : VRel g n i j) (hr : indexA P t x i = some r) :
    ∃ u, (∀ w : World, (Instr.index t v j).run P w = .ok u w) ∧ VRel g n r u := by
  unfold indexA at hr
  split at hr
  · rename_i cs k m len elem hu
    obtain ⟨vs, rfl, h2⟩ := hv
    simp only [VRel, CRel, SRel] at hj
    subst hj
    split at hr
    · rename_i s hs
      split at hr
      · rename_i hlt
        obtain ⟨q, hq, rfl⟩ := Option.map_eq_some_iff.1 hr
        obtain ⟨u, h3, h4⟩ := part_sound h2 hq
        refine ⟨u, fun w => ?_, h4⟩
        simp [Instr.index, run_underlying hu, asIntOf, hlt.1, hlt.2, run_sizeOf' hs, h3]
      · cases hr
    · cases hr
  · rename_i s k m hu
    simp only [VRel, CRel, SRel] at hv hj
    subst hv; subst hj
    split at hr
    · rename_i h0
      obtain ⟨b, hb, rfl⟩ := Option.map_eq_some_iff.1 hr
      refine ⟨.int .u8 b.toNat, fun w => ?_, ?_⟩
      · simp [Instr.index, run_underlying hu, asIntOf, h0, hb]
      · simp [VRel, CRel, SRel]
    · cases hr
  · cases hr
end
end Go.AM
