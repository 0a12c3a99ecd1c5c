/- The abstract machine: operations that write nothing do in the model what they do here. Conditions: none. -/
import Derived.Test.YtjhhjmngjmflaaaAmOps
import Derived.Laws.Entries
import Derived.Laws.Slices
set_option linter.unusedVariables false
set_option linter.unusedSimpArgs false
namespace Go.AM

theorem constS_rel (g : G) (n : Nat) (v : Value) (x : SV) (h : constS v = some x) : SRel g n x v := by
  unfold constS at h
  split at h <;> first | (obtain rfl := Option.some.inj h; simp only [SRel]) | cases h
theorem constL_rel (g : G) (n : Nat) : ∀ (vs : List Value) (xs : List SV), constL vs = some xs → SRelL g n xs vs
  | [], xs, h => by simp only [constL] at h; obtain rfl := Option.some.inj h; simp [SRelL]
  | v :: vs, xs, h => by
    simp only [constL, Option.bind_eq_some_iff, Option.map_eq_some_iff] at h
    obtain ⟨x, h1, ys, h2, rfl⟩ := h
    simp only [SRelL]
    exact ⟨constS_rel g n v x h1, constL_rel g n vs ys h2⟩
theorem constA_rel (g : G) (n : Nat) (v : Value) : VRel g n (constA v) v := by
  unfold constA
  split
  · rename_i cs
    split
    · rename_i xs hx
      exact ⟨cs, rfl, constL_rel g n _ _ hx⟩
    · trivial
  · split
    · rename_i x hx
      exact constS_rel g n _ _ hx
    · trivial
theorem aeval_rel {g : G} {n : Nat} {e : List AV} {a : Act} (h : ERel g n e a.tmps) (x : Operand) : VRel g n (aeval e x) (a.eval x) := by
  cases x with
  | tmp t =>
    simp only [aeval, Act.eval]
    rw [List.getD_eq_getElem?_getD]
    cases hx : e[t]? with
    | none => trivial
    | some y => exact h.get hx
  | const v => exact constA_rel g n v
  | global i => trivial
  | func f => exact ⟨#[], #[], rfl, by simp [SRelL], by simp [SRelL]⟩

section
variable {P : Program} {g : G} {h : List AO} {w : World}

theorem run_typeInfo' {t : TypeId} {i : TypeInfo} (hi : P.info? t = some i) (w : World) : (typeInfo t).run P w = .ok i w := by simp [typeInfo, hi]
theorem run_sizeOf' {t : TypeId} {n : Nat} (hn : szT P t = some n) (w : World) : (sizeOf t).run P w = .ok n w := by
  unfold szT at hn
  obtain ⟨i, hi, rfl⟩ := Option.map_eq_some_iff.1 hn
  simp [sizeOf, typeInfo, hi]
theorem run_isAgg' {t : TypeId} {b : Bool} (hb : aggT P t = some b) (w : World) : (isAgg t).run P w = .ok b w := by
  unfold aggT at hb
  split at hb <;> rename_i hu <;> first | cases hb | (obtain rfl := Option.some.inj hb)
  · simp [isAgg, run_underlying hu]
  · simp [isAgg, run_underlying hu]
  · rename_i d hd1 hd2
    simp only [isAgg, Sem.run_bind, run_underlying hu, Result.andThen_ok]
    cases d <;> first | rfl | exact absurd hu (hd1 _) | exact absurd hu (hd2 _ _)

/-- A cell that is told is there. -/
theorem HRel.cell (H : HRel g h w) {l : Nat} {cs : List SV} (hc : cellsAt h l = some cs) (i : Nat) (x : SV) (hx : cs[i]? = some x) : ∃ v, w.cell? ⟨g.blk l, g.off l + i, none⟩ = some v ∧ SRel g h.length x v := by
  unfold cellsAt at hc
  split at hc
  · rename_i hl
    obtain rfl := Option.some.inj hc
    exact H.obj _ _ hl i x hx
  · rename_i hl
    obtain rfl := Option.some.inj hc
    obtain ⟨C, h1, h2, h3, h4⟩ := H.obj _ _ hl
    obtain ⟨v, h5, h6⟩ := h4 i x hx
    exact ⟨v, by simp [World.cell?, h1, h5], h6⟩
  · cases hc
theorem addr_add (b o j : Nat) : (⟨b, o, none⟩ : Addr).add j = ⟨b, o + j, none⟩ := by unfold Addr.add; split <;> simp_all
theorem run_loadCellsFrom' (b o : Nat) : ∀ (n i : Nat) (acc : Array Value) (vs : List Value), vs.length = n → (∀ j v, vs[j]? = some v → w.cell? ⟨b, o + (i + j), none⟩ = some v) →
    (loadCellsFrom ⟨b, o, none⟩ i n acc).run P w = .ok (acc ++ vs.toArray) w
  | 0, i, acc, vs, hl, _ => by
    obtain rfl : vs = [] := List.eq_nil_of_length_eq_zero hl
    simp [loadCellsFrom]
  | n + 1, i, acc, [], hl, _ => by simp at hl
  | n + 1, i, acc, v :: vs, hl, hv => by
    have h0 := hv 0 v (by simp)
    simp only [Nat.add_zero] at h0
    simp only [loadCellsFrom, Sem.run_bind, run_load, addr_add, h0, Result.andThen_ok]
    rw [run_loadCellsFrom' b o n (i + 1) (acc.push v) vs (by simpa using hl) (fun j u hu => by
      have := hv (j + 1) u (by simpa using hu)
      rw [← this]; congr 2; omega)]
    simp
/-- As many cells as are told, read. -/
theorem HRel.cells (H : HRel g h w) {l : Nat} {cs : List SV} (hc : cellsAt h l = some cs) : ∀ (n o : Nat), o + n ≤ cs.length → ∃ vs : List Value, vs.length = n ∧ SRelL g h.length ((cs.drop o).take n) vs ∧ ∀ (j : Nat) v, vs[j]? = some v → w.cell? ⟨g.blk l, g.off l + o + j, none⟩ = some v
  | 0, o, _ => ⟨[], rfl, by simp [SRelL], fun j v hv => by simp at hv⟩
  | n + 1, o, hle => by
    obtain ⟨vs, h1, h2, h3⟩ := H.cells hc n (o + 1) (by omega)
    have ho : o < cs.length := by omega
    obtain ⟨v, h4, h5⟩ := H.cell hc o cs[o] (by simp [List.getElem?_eq_getElem ho])
    refine ⟨v :: vs, by simp [h1], ?_, ?_⟩
    · rw [List.drop_eq_getElem_cons ho, List.take_succ_cons]
      simp only [SRelL]
      exact ⟨h5, h2⟩
    · intro j u hu
      cases j with
      | zero => have : v = u := by simpa using hu
                subst this; simpa using h4
      | succ j =>
        have := h3 j u (by simpa using hu)
        rw [← this]; congr 2; omega

theorem _root_.Go.AM.Keeps.cell {w w' : World} (h : Keeps (fun _ => False) w w') {a : Addr} {v : Value} (hc : w.cell? a = some v) : w'.cell? a = some v := by
  rw [h.below.cell (World.block_lt_of_cell? _ _ hc)]; exact hc
theorem load_sound (H : HRel g h w) {t : TypeId} {x r : AV} {v : Value} (hv : VRel g h.length x v) (hr : loadA P h t x = some r) :
    ∃ u, (∀ w', Keeps (fun _ => False) w w' → (Instr.loadAt t v).run P w' = .ok u w') ∧ VRel g h.length r u := by
  unfold loadA at hr
  split at hr
  · rename_i l o
    simp only [VRel, CRel, SRel] at hv
    obtain ⟨hl, rfl⟩ := hv
    simp only [Option.bind_eq_some_iff, Option.map_eq_some_iff] at hr
    obtain ⟨cs, hc, q, hq, rfl⟩ := hr
    unfold partA at hq
    split at hq
    · rename_i hag
      split at hq
      · rename_i n hn
        split at hq
        · rename_i hle
          obtain rfl := Option.some.inj hq
          obtain ⟨vs, h1, h2, h3⟩ := H.cells hc n o hle
          refine ⟨.agg vs.toArray, fun w' hw' => ?_, vs.toArray, rfl, by simpa using h2⟩
          simp only [Instr.loadAt, Instr.sureAddr, loadVar, Sem.run_bind, Sem.run_pure, Result.andThen_ok, run_isAgg' hag, if_true, run_sizeOf' hn, loadCells]
          rw [run_loadCellsFrom' (P := P) (g.blk l) (g.off l + o) n 0 #[] vs h1 (fun j u hu => by rw [← hw'.cell (h3 j u hu)]; congr 2; omega)]
          simp
        · cases hq
      · cases hq
    · rename_i hag
      obtain ⟨y, hy, rfl⟩ := Option.map_eq_some_iff.1 hq
      obtain ⟨u, h1, h2⟩ := H.cell hc o y hy
      refine ⟨u, fun w' hw' => ?_, h2⟩
      simp [Instr.loadAt, Instr.sureAddr, loadVar, run_isAgg' hag, hw'.cell h1]
    · cases hq
  · cases hr

theorem part_sound {t : TypeId} {cs : List SV} {vs : Array Value} {o : Nat} {r : CV} {n : Nat} (hv : SRelL g n cs vs.toList) (hr : partA P t cs o = some r) :
    ∃ u, (∀ w : World, (part t vs o).run P w = .ok u w) ∧ CRel g n r u := by
  unfold partA at hr
  split at hr
  · rename_i hag
    split at hr
    · rename_i m hm
      split at hr
      · rename_i hle
        obtain rfl := Option.some.inj hr
        have hl := SRelL.length hv
        refine ⟨.agg (vs.extract o (o + m)), fun w => by simp [part, run_isAgg' hag, run_sizeOf' hm], _, rfl, ?_⟩
        refine SRelL.of (by simp at hl ⊢; omega) fun i x hx => ?_
        rw [List.getElem?_take] at hx
        split at hx
        · rename_i hi
          rw [List.getElem?_drop] at hx
          obtain ⟨u, h1, h2⟩ := SRelL.get hv _ _ hx
          refine ⟨u, ?_, h2⟩
          rw [Array.toList_extract, List.extract_eq_take_drop, List.getElem?_take]
          rw [if_pos (by omega), List.getElem?_drop]
          exact h1
        · cases hx
      · cases hr
    · cases hr
  · rename_i hag
    obtain ⟨y, hy, rfl⟩ := Option.map_eq_some_iff.1 hr
    obtain ⟨u, h1, h2⟩ := SRelL.get hv _ _ hy
    refine ⟨u, fun w => ?_, h2⟩
    have h1' : vs[o]? = some u := by rw [← Array.getElem?_toList]; exact h1
    simp [part, run_isAgg' hag, h1']
  · cases hr

theorem field_sound {t : TypeId} {x r : AV} {v : Value} {n f : Nat} (hv : VRel g n x v) (hr : fieldA P t x f = some r) :
    ∃ u, (∀ w : World, (Instr.field t v f).run P w = .ok u w) ∧ VRel g n r u := by
  unfold fieldA at hr
  split at hr
  · rename_i cs fs hu
    obtain ⟨vs, rfl, h2⟩ := hv
    split at hr
    · rename_i fd hf
      obtain ⟨q, hq, rfl⟩ := Option.map_eq_some_iff.1 hr
      obtain ⟨u, h3, h4⟩ := part_sound h2 hq
      refine ⟨u, fun w => ?_, h4⟩
      simp [Instr.field, run_underlying hu, hf, asAgg, h3]
    · cases hr
  · cases hr

theorem fieldAddr_sound {t : TypeId} {x r : AV} {v : Value} {n f : Nat} (hv : VRel g n x v) (hr : fieldAddrA P t x f = some r) :
    ∃ u, (∀ w : World, (Instr.fieldAt t v f).run P w = .ok u w) ∧ VRel g n r u := by
  unfold fieldAddrA at hr
  split at hr
  · rename_i l o fs hu
    simp only [VRel, CRel, SRel] at hv
    obtain ⟨hl, rfl⟩ := hv
    split at hr
    · rename_i fd hf
      split at hr
      · rename_i m hm
        obtain rfl := Option.some.inj hr
        refine ⟨.pointer (some ⟨g.blk l, g.off l + (o + fd.offset), none⟩), fun w => ?_, ?_⟩
        · simp [Instr.fieldAt, run_underlying hu, hf, Instr.sureAddr, fieldPlace, run_sizeOf' hm, addr_add, Nat.add_assoc]
        · simp only [VRel, CRel, SRel]; exact ⟨hl, trivial⟩
      · cases hr
    · cases hr
  · cases hr

theorem extract_sound {x r : AV} {v : Value} {n i : Nat} (hv : VRel g n x v) (hr : extractA x i = some r) :
    ∃ u, (∀ w : World, (Instr.extract v i).run P w = .ok u w) ∧ VRel g n r u := by
  unfold extractA at hr
  split at hr
  · obtain ⟨vs, rfl, h2⟩ := hv
    obtain ⟨y, hy, rfl⟩ := Option.map_eq_some_iff.1 hr
    obtain ⟨u, h3, h4⟩ := CRelL.get h2 _ _ hy
    have h3' : vs[i]? = some u := by rw [← Array.getElem?_toList]; exact h3
    exact ⟨u, fun w => by simp [Instr.extract, h3'], h4⟩
  · cases hr

theorem indexAddr_sound {t : TypeId} {x i r : AV} {v j : Value} {n : Nat} (hv : VRel g n x v) (hj : VRel g n i j) (hr : indexAddrA P t x i = some r) :
    ∃ u, (∀ w : World, (Instr.indexAt t v j).run P w = .ok u w) ∧ VRel g n r u := by
  unfold indexAddrA at hr
  split at hr
  · rename_i l o k m len elem hu
    simp only [VRel, CRel, SRel] at hv hj
    obtain ⟨hl, rfl⟩ := hv
    subst hj
    split at hr
    · rename_i s hs
      split at hr
      · rename_i hlt
        obtain rfl := Option.some.inj hr
        refine ⟨.pointer (some ⟨g.blk l, g.off l + (o + m.toNat * s), none⟩), fun w => ?_, ?_⟩
        · simp [Instr.indexAt, run_underlying hu, asIntOf, Instr.sureAddr, hlt.1, hlt.2, run_sizeOf' hs, addr_add, Nat.add_assoc]
        · simp only [VRel, CRel, SRel]; exact ⟨hl, trivial⟩
      · cases hr
    · cases hr
  · rename_i l o len esz k m elem hu
    simp only [VRel, CRel, SRel] at hv hj
    obtain ⟨hl, cap, o', sp, h1, h2, h3, rfl⟩ := hv
    subst hj
    split at hr
    · rename_i s hs
      split at hr
      · rename_i hlt
        obtain rfl := Option.some.inj hr
        obtain ⟨rfl, rfl⟩ : o' = g.off l + o ∧ sp = none := by rcases h3 with h3 | h3; (· omega); (· exact h3)
        refine ⟨.pointer (some ⟨g.blk l, g.off l + (o + m.toNat * s), none⟩), fun w => ?_, ?_⟩
        · simp [Instr.indexAt, run_underlying hu, asIntOf, hlt.1, hlt.2, run_sizeOf' hs, addr_add, Nat.add_assoc]
        · simp only [VRel, CRel, SRel]; exact ⟨hl, trivial⟩
      · cases hr
    · cases hr
  · cases hr

theorem index_sound {t : TypeId} {x i r : AV} {v j : Value} {n : Nat} (hv : VRel g n x v) (hj : VRel g n i j) (hr : indexA P t x i = some r) :
    ∃ u, (∀ w : World, (Instr.index t v j).run P w = .ok u w) ∧ VRel g n r u := by
  unfold indexA at hr
  split at hr
  · rename_i cs k m len elem hu
    obtain ⟨vs, rfl, h2⟩ := hv
    simp only [VRel, CRel, SRel] at hj
    subst hj
    split at hr
    · rename_i s hs
      split at hr
      · rename_i hlt
        obtain ⟨q, hq, rfl⟩ := Option.map_eq_some_iff.1 hr
        obtain ⟨u, h3, h4⟩ := part_sound h2 hq
        refine ⟨u, fun w => ?_, h4⟩
        simp [Instr.index, run_underlying hu, asIntOf, hlt.1, hlt.2, run_sizeOf' hs, h3]
      · cases hr
    · cases hr
  · rename_i s k m hu
    simp only [VRel, CRel, SRel] at hv hj
    subst hv; subst hj
    split at hr
    · rename_i h0
      obtain ⟨b, hb, rfl⟩ := Option.map_eq_some_iff.1 hr
      refine ⟨.int .u8 b.toNat, fun w => ?_, ?_⟩
      · simp [Instr.index, run_underlying hu, asIntOf, h0, hb]
      · simp [VRel, CRel, SRel]
    · cases hr
  · cases hr
end
end Go.AM
/- The abstract machine: operations on numbers, strings, slices and whole values do in the model what they do here. Conditions: none. -/
set_option linter.unusedVariables false
set_option linter.unusedSimpArgs false
namespace Go.AM
section
variable {P : Program} {g : G} {h : List AO} {w : World} {n : Nat}

theorem eqGuard_int (op : BinOp) (t : TypeId) (x y : Operand) (k k' : IntKind) (a b : Int) : (eqGuard op t x y (.int k a) (.int k' b)).run P w = .ok () w := by cases op <;> rfl
theorem eqGuard_str (op : BinOp) (t : TypeId) (x y : Operand) (a b : ByteArray) : (eqGuard op t x y (.string a) (.string b)).run P w = .ok () w := by cases op <;> rfl

theorem binI_sound {op : BinOp} {k : IntKind} {a b : Int} {t : TypeId} {z : SV} (hs : op ≠ .shl ∧ op ≠ .shr) (hz : binI op k a b = some z) :
    ∃ v, (∀ w : World, (binOp op t (.int k a) (.int k b)).run P w = .ok v w) ∧ SRel g n z v := by
  unfold binI at hz
  split at hz
  all_goals first | (obtain rfl := Option.some.inj hz) | skip
  all_goals first
    | (refine ⟨_, fun w => ?_, rfl⟩; simp [binOp, Op.intArith, Op.intBits, Op.intCmp, bitsA]; done)
    | (split at hz; (· cases hz); rename_i hy; obtain rfl := Option.some.inj hz; refine ⟨_, fun w => ?_, rfl⟩; simp [binOp, Op.intDiv, hy]; done)
    | cases hz
theorem shiftA_sound {op : BinOp} {k k' : IntKind} {a b : Int} {t : TypeId} {z : SV} (hz : shiftA op k a b = some z) :
    ∃ v, (∀ w : World, (binOp op t (.int k a) (.int k' b)).run P w = .ok v w) ∧ SRel g n z v := by
  unfold shiftA at hz
  split at hz
  · cases hz
  · rename_i hb
    split at hz
    all_goals first | (obtain rfl := Option.some.inj hz) | skip
    all_goals first
      | (refine ⟨_, fun w => ?_, rfl⟩; simp [binOp, Op.shift, hb]; done)
      | cases hz
theorem strOpA_sound {op : BinOp} {a b : ByteArray} {t : TypeId} {z : SV} (hz : strOpA op a b = some z) :
    ∃ v, (∀ w : World, (binOp op t (.string a) (.string b)).run P w = .ok v w) ∧ SRel g n z v := by
  unfold strOpA at hz
  split at hz
  · split at hz
    · rename_i hs
      obtain rfl := Option.some.inj hz
      refine ⟨_, fun w => ?_, rfl⟩
      have : ¬ (((a.size + b.size : Nat) : Int) > IntKind.i64.max) := by
        have : IntKind.i64.max = 9223372036854775807 := by decide
        omega
      simp only [binOp, Op.stringOp, this, if_false, Sem.run_pure]
    · cases hz
  all_goals first | (obtain rfl := Option.some.inj hz; refine ⟨_, fun w => ?_, rfl⟩; simp [binOp, Op.stringOp]; done) | cases hz

theorem unOp_sound {op : UnOp} {x r : AV} {v : Value} (hv : VRel g n x v) (hr : unOpA op x = some r) : ∃ u, (∀ w : World, (Op.unary op v).run P w = .ok u w) ∧ VRel g n r u := by
  unfold unOpA at hr
  split at hr
  · simp only [VRel, CRel, SRel] at hv; subst hv
    obtain rfl := Option.some.inj hr
    exact ⟨_, fun w => rfl, rfl⟩
  · simp only [VRel, CRel, SRel] at hv; subst hv
    obtain rfl := Option.some.inj hr
    exact ⟨_, fun w => rfl, rfl⟩
  · simp only [VRel, CRel, SRel] at hv; subst hv
    obtain rfl := Option.some.inj hr
    exact ⟨_, fun w => rfl, rfl⟩
  · cases hr
theorem convert_sound {s d : TypeId} {x r : AV} {v : Value} (hv : VRel g n x v) (hr : convertA P s d x = some r) : ∃ u, (∀ w : World, (convert s d v).run P w = .ok u w) ∧ VRel g n r u := by
  unfold convertA at hr
  split at hr
  · rename_i u1 k k2 m h1 h2
    simp only [VRel, CRel, SRel] at hv; subst hv
    obtain rfl := Option.some.inj hr
    refine ⟨.int k (k.wrap m), fun w => ?_, by simp [VRel, CRel, SRel]⟩
    simp only [convert, Sem.run_bind, run_underlying h1, run_underlying h2, Result.andThen_ok]
    cases u1 <;> rfl
  · rename_i u1 b h1 h2
    simp only [VRel, CRel, SRel] at hv; subst hv
    obtain rfl := Option.some.inj hr
    refine ⟨.string b, fun w => ?_, by simp [VRel, CRel, SRel]⟩
    simp only [convert, Sem.run_bind, run_underlying h1, run_underlying h2, Result.andThen_ok]
    cases u1 <;> rfl
  · cases hr
theorem len_sound (H : HRel g h w) {t ty : TypeId} {x r : AV} {v : Value} (hv : VRel g h.length x v) (hr : lenA P h t x = some r) : ∃ u, (∀ w', Keeps (fun _ => False) w w' → (Builtin.len_ #[t] ty #[v]).run P w' = .ok u w') ∧ VRel g h.length r u := by
  unfold lenA at hr
  split at hr
  · rename_i s hu
    simp only [VRel, CRel, SRel] at hv; subst hv
    obtain rfl := Option.some.inj hr
    exact ⟨.int .i64 s.size, fun w' _ => by simp [Builtin.len_, run_underlying hu, goInt], by simp [VRel, CRel, SRel]⟩
  · rename_i m e hu
    obtain rfl := Option.some.inj hr
    exact ⟨.int .i64 m, fun w' _ => by simp [Builtin.len_, run_underlying hu, goInt], by simp [VRel, CRel, SRel]⟩
  · rename_i l o m s hu
    simp only [VRel, CRel, SRel] at hv
    obtain ⟨hl, cap, o', sp, h1, h2, h3, rfl⟩ := hv
    obtain rfl := Option.some.inj hr
    exact ⟨.int .i64 m, fun w' _ => by simp [Builtin.len_, run_underlying hu, goInt], by simp [VRel, CRel, SRel]⟩
  · rename_i hu
    simp only [VRel, CRel, SRel] at hv; subst hv
    obtain rfl := Option.some.inj hr
    exact ⟨.int .i64 0, fun w' _ => by simp [Builtin.len_, run_underlying hu, goInt], by simp [VRel, CRel, SRel]⟩
  · rename_i hu
    simp only [VRel, CRel, SRel] at hv; subst hv
    obtain rfl := Option.some.inj hr
    exact ⟨.int .i64 0, fun w' _ => by simp [Builtin.len_, run_underlying hu, goInt], by simp [VRel, CRel, SRel]⟩
  · rename_i l hu
    simp only [VRel, CRel, SRel] at hv
    obtain ⟨hl, rfl⟩ := hv
    split at hr
    · rename_i es hm
      obtain rfl := Option.some.inj hr
      obtain ⟨ms, tt, h1, h2, _⟩ := H.obj _ _ hm
      refine ⟨.int .i64 es.length, fun w' hw' => ?_, by simp [VRel, CRel, SRel]⟩
      have : es.length = ms.size := by
        have : ∀ (es : List (CV × CV)) (ms : List MapEntry), MRel g h.length es ms → es.length = ms.length := by
          intro es
          induction es with
          | nil => intro ms h; cases ms <;> simp_all [MRel]
          | cons x xs ih => intro ms h; cases ms <;> simp only [MRel] at h; simp [ih _ h.2]
        have := this _ _ h2
        simpa using this
      have h1' : w'.heap[g.blk l]? = some (.map ms tt) := by rw [hw'.block _ (Array.getElem?_eq_some_iff.1 h1).1 (fun h => h)]; exact h1
      simp [Builtin.len_, run_underlying hu, goInt, getObj, Sem.run, h1', this]
    · cases hr
  · cases hr
theorem min_sound {ts : Array TypeId} {ty : TypeId} {x y r : AV} {v u : Value} (hv : VRel g n x v) (hu : VRel g n y u) (hr : min2A x y = some r) : ∃ z, (∀ w : World, (Builtin.min_ ts ty #[v, u]).run P w = .ok z w) ∧ VRel g n r z := by
  unfold min2A at hr
  split at hr
  · simp only [VRel, CRel, SRel] at hv hu; subst hv; subst hu
    obtain rfl := Option.some.inj hr
    exact ⟨_, fun w => by simp [Builtin.min_, Builtin.min2]; rfl, by simp [VRel, CRel, SRel]⟩
  · cases hr
theorem max_sound {ts : Array TypeId} {ty : TypeId} {x y r : AV} {v u : Value} (hv : VRel g n x v) (hu : VRel g n y u) (hr : max2A x y = some r) : ∃ z, (∀ w : World, (Builtin.max_ ts ty #[v, u]).run P w = .ok z w) ∧ VRel g n r z := by
  unfold max2A at hr
  split at hr
  · simp only [VRel, CRel, SRel] at hv hu; subst hv; subst hu
    obtain rfl := Option.some.inj hr
    exact ⟨_, fun w => by simp [Builtin.max_, Builtin.max2]; rfl, by simp [VRel, CRel, SRel]⟩
  · cases hr
end
end Go.AM
/- The abstract machine: slices, built values and '==' of whole values do in the model what they do here. Conditions: none. -/
set_option linter.unusedVariables false
set_option linter.unusedSimpArgs false
namespace Go.AM
section
variable {P : Program} {g : G} {h : List AO} {w : World} {n : Nat}

/-- The values of a bound. -/
theorem bound_rel {x : Option AV} {v : Option Value} {d : AV} {i : Int} {k : IntKind} (hx : ∀ a, x = some a → ∃ u, v = some u ∧ VRel g n a u) (hn : x = none → v = none) (he : x.getD d = .v (.sc (.int k i))) :
    (∃ k', v = some (.int k' i)) ∨ (v = none ∧ d = .v (.sc (.int k i))) := by
  cases x with
  | none => exact .inr ⟨hn rfl, he⟩
  | some a =>
    obtain ⟨u, h1, h2⟩ := hx a rfl
    simp only [Option.getD_some] at he
    subst he
    simp only [VRel, CRel, SRel] at h2
    subst h2
    exact .inl ⟨k, h1⟩

theorem run_slice_row (t e : TypeId) (a : Option Addr) (len cap s : Nat) (lo hi : Option Value) (i j : Int) (hu : P.underlying t = some (.slice e)) (hs : szT P e = some s)
    (hlo : (∃ k, lo = some (.int k i)) ∨ (lo = none ∧ i = 0)) (hhi : (∃ k, hi = some (.int k j)) ∨ (hi = none ∧ j = len)) (h0 : 0 ≤ i) (h1 : i ≤ j) (h2 : j ≤ len) (h3 : len ≤ cap) :
    (Instr.sliceAt t (.slice a len cap) lo hi none).run P w = .ok (.slice (if cap = i.toNat then a else a.map (·.add (i.toNat * s))) (j.toNat - i.toNat) (cap - i.toNat)) w := by
  have e1 : (if cap = i.toNat then a else a.map (·.add (i.toNat * s))) = (if (cap : Int) = i then a else a.map (·.add (i.toNat * s))) := by
    have : (cap = i.toNat) = ((cap : Int) = i) := by apply propext; omega
    simp only [this]
  have bj : ∀ k c, (Instr.sliceBound (.int k j) cap c).run P w = .ok j.toNat w := fun k c => run_sliceBound w k j cap c (by omega) (by omega)
  have bi : ∀ k c y, j ≤ (y : Nat) → (Instr.sliceBound (.int k i) y c).run P w = .ok i.toNat w := fun k c y hy => run_sliceBound w k i y c h0 (by omega)
  rcases hlo with ⟨kl, rfl⟩ | ⟨rfl, rfl⟩ <;> rcases hhi with ⟨kh, rfl⟩ | ⟨rfl, rfl⟩
  · simp only [Instr.sliceAt, Instr.slice, Instr.sliceBounds, Sem.run_bind, run_underlying hu, Result.andThen_ok, Sem.run_pure, bj, bi _ _ j.toNat (by omega), run_sizeOf' hs]
  · simp only [Instr.sliceAt, Instr.slice, Instr.sliceBounds, Sem.run_bind, run_underlying hu, Result.andThen_ok, Sem.run_pure, bi _ _ len (by omega), run_sizeOf' hs, Int.toNat_natCast]
  · simp only [Instr.sliceAt, Instr.slice, Instr.sliceBounds, Sem.run_bind, run_underlying hu, Result.andThen_ok, Sem.run_pure, bj, run_sizeOf' hs, Int.toNat_zero]
  · simp only [Instr.sliceAt, Instr.slice, Instr.sliceBounds, Sem.run_bind, run_underlying hu, Result.andThen_ok, Sem.run_pure, run_sizeOf' hs, Int.toNat_zero, Int.toNat_natCast]
theorem run_slice_str (t : TypeId) (b : ByteArray) (lo hi : Option Value) (i j : Int) (hu : P.underlying t = some .string)
    (hlo : (∃ k, lo = some (.int k i)) ∨ (lo = none ∧ i = 0)) (hhi : (∃ k, hi = some (.int k j)) ∨ (hi = none ∧ j = b.size)) (h0 : 0 ≤ i) (h1 : i ≤ j) (h2 : j ≤ b.size) :
    (Instr.sliceAt t (.string b) lo hi none).run P w = .ok (.string (b.extract i.toNat j.toNat)) w := by
  have bj : ∀ k c, (Instr.sliceBound (.int k j) b.size c).run P w = .ok j.toNat w := fun k c => run_sliceBound w k j b.size c (by omega) (by omega)
  have bi : ∀ k c y, j ≤ (y : Nat) → (Instr.sliceBound (.int k i) y c).run P w = .ok i.toNat w := fun k c y hy => run_sliceBound w k i y c h0 (by omega)
  rcases hlo with ⟨kl, rfl⟩ | ⟨rfl, rfl⟩ <;> rcases hhi with ⟨kh, rfl⟩ | ⟨rfl, rfl⟩
  · simp [Instr.sliceAt, Instr.slice, Instr.sliceBounds, run_underlying hu, bj, bi _ _ j.toNat (by omega)]
  · simp [Instr.sliceAt, Instr.slice, Instr.sliceBounds, run_underlying hu, bi _ _ b.size (by omega)]
  · simp [Instr.sliceAt, Instr.slice, Instr.sliceBounds, run_underlying hu, bj]
  · simp [Instr.sliceAt, Instr.slice, Instr.sliceBounds, run_underlying hu]

def OVRel (g : G) (n : Nat) (x : Option AV) (v : Option Value) : Prop := (∀ a, x = some a → ∃ u, v = some u ∧ VRel g n a u) ∧ (x = none → v = none)
theorem slice_sound {t : TypeId} {x r : AV} {lo hi mx : Option AV} {v : Value} {vlo vhi vmx : Option Value} (hv : VRel g n x v) (hl : OVRel g n lo vlo) (hh : OVRel g n hi vhi) (hm : OVRel g n mx vmx)
    (hr : sliceA P t x lo hi mx = some r) : ∃ u, (∀ w : World, (Instr.sliceAt t v vlo vhi vmx).run P w = .ok u w) ∧ VRel g n r u := by
  unfold sliceA at hr
  split at hr
  · rename_i l o m s e hu
    obtain rfl := hm.2 rfl
    split at hr
    · rename_i k j k' i hj hi'
      split at hr
      · rename_i hc
        obtain rfl := Option.some.inj hr
        simp only [VRel, CRel, SRel] at hv
        obtain ⟨hln, cap, o', sp, h1, h2, h3, rfl⟩ := hv
        have cj := bound_rel hh.1 hh.2 hj
        have ci := bound_rel hl.1 hl.2 hi'
        have hj' : (∃ k, vhi = some (.int k j)) ∨ (vhi = none ∧ j = m) := by
          rcases cj with h | ⟨h, h'⟩
          · exact .inl h
          · injection h' with h'; injection h' with h'; injection h' with _ h'; exact .inr ⟨h, h'.symm⟩
        have hi'' : (∃ k, vlo = some (.int k i)) ∨ (vlo = none ∧ i = 0) := by
          rcases ci with h | ⟨h, h'⟩
          · exact .inl h
          · injection h' with h'; injection h' with h'; injection h' with _ h'; exact .inr ⟨h, h'.symm⟩
        refine ⟨_, fun w => run_slice_row t e _ m cap s vlo vhi i j hu hc.2.2.2 hi'' hj' hc.1 hc.2.1 hc.2.2.1 h1, ?_⟩
        simp only [VRel, CRel, SRel]
        refine ⟨hln, cap - i.toNat, (if cap = i.toNat then o' else o' + i.toNat * s), (if cap = i.toNat then sp else none), by omega, ?_, ?_, ?_⟩
        · rw [← h2, Nat.add_assoc, ← Nat.add_mul]; congr 2; omega
        · by_cases he : cap = i.toNat
          · exact .inl (by omega)
          · right
            rw [if_neg he, if_neg he]
            rcases h3 with h3 | h3
            · omega
            · exact ⟨by omega, rfl⟩
        · by_cases he : cap = i.toNat
          · simp [he]
          · rcases h3 with h3 | ⟨rfl, rfl⟩
            · omega
            · simp [he, addr_add]
      · cases hr
    · cases hr
  · rename_i e hu
    obtain rfl := hm.2 rfl
    split at hr
    · rename_i k j k' i hj hi'
      split at hr
      · rename_i hc
        obtain ⟨rfl, rfl, hs⟩ := hc
        obtain ⟨s, hs⟩ := Option.isSome_iff_exists.1 hs
        obtain rfl := Option.some.inj hr
        simp only [VRel, CRel, SRel] at hv
        subst hv
        have cj := bound_rel hh.1 hh.2 hj
        have ci := bound_rel hl.1 hl.2 hi'
        refine ⟨_, fun w => run_slice_row t e none 0 0 s vlo vhi 0 0 hu hs (ci.imp id fun h => ⟨h.1, rfl⟩) (cj.imp id fun h => ⟨h.1, rfl⟩) (by omega) (by omega) (by omega) (by omega), ?_⟩
        simp [VRel, CRel, SRel]
      · cases hr
    · cases hr
  · rename_i b hu
    obtain rfl := hm.2 rfl
    split at hr
    · rename_i k j k' i hj hi'
      split at hr
      · rename_i hc
        obtain rfl := Option.some.inj hr
        simp only [VRel, CRel, SRel] at hv
        subst hv
        have cj := bound_rel hh.1 hh.2 hj
        have ci := bound_rel hl.1 hl.2 hi'
        have hj' : (∃ k, vhi = some (.int k j)) ∨ (vhi = none ∧ j = b.size) := by
          rcases cj with h | ⟨h, h'⟩
          · exact .inl h
          · injection h' with h'; injection h' with h'; injection h' with _ h'; exact .inr ⟨h, h'.symm⟩
        have hi'' : (∃ k, vlo = some (.int k i)) ∨ (vlo = none ∧ i = 0) := by
          rcases ci with h | ⟨h, h'⟩
          · exact .inl h
          · injection h' with h'; injection h' with h'; injection h' with _ h'; exact .inr ⟨h, h'.symm⟩
        exact ⟨_, fun w => run_slice_str t b vlo vhi i j hu hi'' hj' hc.1 hc.2.1 hc.2.2, by simp [VRel, CRel, SRel]⟩
      · cases hr
    · cases hr
  · cases hr

/-! Values that are built -/
theorem splice_length {cs new : List SV} {o : Nat} (hle : o + new.length ≤ cs.length) : (splice cs o new).length = cs.length := by simp [splice]; omega
theorem splice_get (cs new : List SV) (o i : Nat) (hle : o + new.length ≤ cs.length) : (splice cs o new)[i]? = if o ≤ i ∧ i < o + new.length then new[i - o]? else cs[i]? := by
  unfold splice
  have ht : (cs.take o).length = o := by simp; omega
  by_cases h1 : i < o
  · rw [List.append_assoc, List.getElem?_append_left (by omega), List.getElem?_take, if_pos h1, if_neg (by omega)]
  · by_cases h2 : i < o + new.length
    · rw [if_pos (by omega), List.append_assoc, List.getElem?_append_right (by omega), ht, List.getElem?_append_left (by omega)]
    · rw [if_neg (by omega), List.getElem?_append_right (by simp; omega), List.getElem?_drop]
      congr 1
      simp; omega
theorem fold_get : ∀ (us : List Value) (k o : Nat) (C : Array Value), o + k + us.length ≤ C.size →
    ((us.zipIdx k).foldl (fun cs (p : Value × Nat) => cs.setIfInBounds (o + p.2) p.1) C).size = C.size ∧
    ∀ i : Nat, ((us.zipIdx k).foldl (fun cs (p : Value × Nat) => cs.setIfInBounds (o + p.2) p.1) C)[i]? = if o + k ≤ i ∧ i < o + k + us.length then us[i - (o + k)]? else C[i]?
  | [], k, o, C, _ => ⟨rfl, fun i => by simp; intro h1 h2; omega⟩
  | u :: us, k, o, C, hle => by
    simp only [List.length_cons] at hle
    obtain ⟨h1, h2⟩ := fold_get us (k + 1) o (C.setIfInBounds (o + k) u) (by simp; omega)
    simp only [List.zipIdx_cons, List.foldl_cons]
    refine ⟨by rw [h1]; simp, fun i => ?_⟩
    rw [h2 i]
    by_cases hi : i = o + k
    · subst hi
      rw [if_neg (by omega), if_pos (by simp)]
      rw [Array.getElem?_setIfInBounds]
      simp; omega
    · by_cases hr : o + (k + 1) ≤ i ∧ i < o + (k + 1) + us.length
      · rw [if_pos hr, if_pos (by simp; omega)]
        have : i - (o + k) = (i - (o + (k + 1))) + 1 := by omega
        rw [this, List.getElem?_cons_succ]
      · rw [if_neg hr, if_neg (by simp; omega), Array.getElem?_setIfInBounds, if_neg (by omega)]

theorem fill_sound {place : Nat → Option (Nat × Nat)} : ∀ {parts : List (Nat × AV)} {vps : List (Nat × Value)} {cs r : List SV} {C : Array Value},
    parts.length = vps.length → (∀ (i : Nat) p, parts[i]? = some p → ∃ q, vps[i]? = some q ∧ q.1 = p.1 ∧ VRel g n p.2 q.2) → SRelL g n cs C.toList → fillA place cs parts = some r →
    ∃ C', Instr.fill place C vps = some C' ∧ SRelL g n r C'.toList
  | [], [], cs, r, C, _, _, hc, hr => by
    obtain rfl := Option.some.inj hr
    exact ⟨C, rfl, hc⟩
  | [], _ :: _, _, _, _, hl, _, _, _ => by simp at hl
  | _ :: _, [], _, _, _, hl, _, _, _ => by simp at hl
  | (i, x) :: parts, (j, v) :: vps, cs, r, C, hl, hp, hc, hr => by
    obtain ⟨q, h1, h2, h3⟩ := hp 0 (i, x) (by simp)
    obtain rfl : (j, v) = q := by simpa using h1
    simp only at h2 h3
    subst h2
    cases x with
    | v x =>
      simp only [fillA] at hr
      split at hr
      · rename_i o m hpl
        split at hr
        · rename_i hlm
          have hx : SRelL g n x.cells v.cells.toList := CRel.cells h3
          have hxl := SRelL.length hx
          have hcl := SRelL.length hc
          simp only [Array.length_toList] at hxl hcl
          have hfold : v.cells.zipIdx.foldl (fun cs (p : Value × Nat) => cs.setIfInBounds (o + p.2) p.1) C = (v.cells.toList.zipIdx).foldl (fun cs (p : Value × Nat) => cs.setIfInBounds (o + p.2) p.1) C := by
            rw [← Array.foldl_toList]; simp
          obtain ⟨hs1, hs2⟩ := fold_get v.cells.toList 0 o C (by simp; omega)
          have hrel : SRelL g n (splice cs o x.cells) ((v.cells.toList.zipIdx).foldl (fun cs (p : Value × Nat) => cs.setIfInBounds (o + p.2) p.1) C).toList := by
            refine SRelL.of ?_ fun i y hy => ?_
            · rw [splice_length (by omega)]; simp only [Array.length_toList]; rw [hs1]; omega
            · rw [splice_get _ _ _ _ (by omega)] at hy
              rw [Array.getElem?_toList, hs2 i]
              simp only [Nat.add_zero, Array.length_toList]
              by_cases hb : o ≤ i ∧ i < o + x.cells.length
              · rw [if_pos hb] at hy
                rw [if_pos (by omega)]
                exact SRelL.get hx _ _ hy
              · rw [if_neg hb] at hy
                rw [if_neg (by omega), ← Array.getElem?_toList]
                exact SRelL.get hc _ _ hy
          obtain ⟨C', hC', hr'⟩ := fill_sound (place := place) (parts := parts) (vps := vps) (by simpa using hl) (fun i p h => by
            obtain ⟨q, a, b, c⟩ := hp (i + 1) p (by simpa using h)
            exact ⟨q, by simpa using a, b, c⟩) hrel hr
          refine ⟨C', ?_, hr'⟩
          simp only [Instr.fill, hpl]
          rw [if_neg (by simp; omega)]
          rw [← hC', hfold]
        · cases hr
      · cases hr
    | und => simp [fillA] at hr
    | sk => simp [fillA] at hr
    | tup _ => simp [fillA] at hr

theorem zero_sound {t : TypeId} {z : List SV} (hz : zeroL P t = some z) : ∃ v, (∀ w : World, (zeroValue t).run P w = .ok v w) ∧ SRelL g n z v.cells.toList := by
  unfold zeroL at hz
  simp only [Option.bind_eq_some_iff] at hz
  obtain ⟨v, ⟨i, hi, hv⟩, hc⟩ := hz
  exact ⟨v, fun w => by simp [zeroValue, typeInfo, hi, hv], constL_rel g n _ _ hc⟩
theorem places_sound : ∀ {fs : List Field} {pl : List (Nat × Nat)}, placesA P fs = some pl → (fs.mapM (fun f => (do pure (f.offset, ← sizeOf f.type) : Sem (Nat × Nat)))).run P w = .ok pl w
  | [], pl, h => by
    obtain rfl := Option.some.inj h
    simp
  | f :: fs, pl, h => by
    simp only [placesA, Option.bind_eq_some_iff, Option.map_eq_some_iff] at h
    obtain ⟨m, hm, pl', hp, rfl⟩ := h
    rw [List.mapM_cons]
    simp only [Sem.run_bind, run_sizeOf' hm, Result.andThen_ok, Sem.run_pure, places_sound hp]
theorem build_sound {t : TypeId} {parts : List (Nat × AV)} {vps : Array (Nat × Value)} {r : AV} (hl : parts.length = vps.size) (hp : ∀ (i : Nat) p, parts[i]? = some p → ∃ q, vps.toList[i]? = some q ∧ q.1 = p.1 ∧ VRel g n p.2 q.2)
    (hr : buildA P t parts = some r) : ∃ u, (∀ w : World, (Instr.build t vps).run P w = .ok u w) ∧ VRel g n r u := by
  unfold buildA at hr
  simp only [Option.bind_eq_some_iff] at hr
  obtain ⟨z, hz, hr⟩ := hr
  obtain ⟨zv, hzv, hzr⟩ := zero_sound (g := g) (n := n) hz
  split at hr
  · rename_i fs hu
    simp only [Option.bind_eq_some_iff, Option.map_eq_some_iff] at hr
    obtain ⟨pl, hpl, cs, hcs, rfl⟩ := hr
    obtain ⟨C', hC', hrel⟩ := fill_sound (by simpa using hl) hp hzr hcs
    refine ⟨.agg C', fun w => ?_, C', rfl, hrel⟩
    have hpp := places_sound (w := w) hpl
    have : (fs.mapM (fun f => (do pure (f.offset, ← sizeOf f.type) : Sem (Nat × Nat)))).run P w = .ok pl.toArray w := by
      rw [← Array.toArray_toList (xs := fs), List.mapM_toArray]
      simp only [Sem.run_map, hpp, Result.andThen_ok]
    simp only [Instr.build, Sem.run_bind, hzv, Result.andThen_ok, run_underlying hu, this]
    have hC'' : Instr.fill (fun i => pl.toArray[i]?) zv.cells vps.toList = some C' := by simpa using hC'
    simp [hC']
  · rename_i m e hu
    simp only [Option.bind_eq_some_iff, Option.map_eq_some_iff] at hr
    obtain ⟨s, hs, cs, hcs, rfl⟩ := hr
    obtain ⟨C', hC', hrel⟩ := fill_sound (by simpa using hl) hp hzr hcs
    refine ⟨.agg C', fun w => ?_, C', rfl, hrel⟩
    simp [Instr.build, hzv, run_underlying hu, run_sizeOf' hs, hC']
  · cases hr
end
end Go.AM
