/- The abstract machine: an operation that writes nothing, and calls nobody, does in the model what it does here. Conditions: none. -/
import Derived.Test.YtjhhjmngjmflaaaAmMap
set_option linter.unusedVariables false
set_option linter.unusedSimpArgs false
namespace Go.AM
section
variable {P : Program} {g : G} {h : List AO} {w : World} {n : Nat}

theorem binOp_sound {op : BinOp} {t : TypeId} {a b : Operand} {x y r : AV} {u v : Value} (hx : VRel g n x u) (hy : VRel g n y v) (hr : binOpA P op t x y = some r) :
    ∃ z, (∀ w : World, (do eqGuard op t a b u v; binOp op t u v : Sem Value).run P w = .ok z w) ∧ VRel g n r z := by
  unfold binOpA at hr
  split at hr
  · rename_i k i k' j
    simp only [VRel, CRel, SRel] at hx hy; subst hx; subst hy
    simp only [Sem.run_bind, eqGuard_int, Result.andThen_ok]
    split at hr
    · obtain ⟨z, hz, rfl⟩ := Option.map_eq_some_iff.1 hr
      exact shiftA_sound hz
    · obtain ⟨z, hz, rfl⟩ := Option.map_eq_some_iff.1 hr
      exact shiftA_sound hz
    · rename_i h1 h2
      split at hr
      · rename_i hk
        subst hk
        obtain ⟨z, hz, rfl⟩ := Option.map_eq_some_iff.1 hr
        exact binI_sound ⟨h1, h2⟩ hz
      · cases hr
  · simp only [VRel, CRel, SRel] at hx hy; subst hx; subst hy
    simp only [Sem.run_bind, eqGuard_str, Result.andThen_ok]
    obtain ⟨z, hz, rfl⟩ := Option.map_eq_some_iff.1 hr
    exact strOpA_sound hz
  · split at hr
    · obtain ⟨q, hq, rfl⟩ := Option.map_eq_some_iff.1 hr
      obtain ⟨h1, h2, h3, h4⟩ := eqA_sound hx hy hq
      exact ⟨.bool q, fun w => by simp only [Sem.run_bind, h2, Result.andThen_ok, h3, h1, Sem.run_pure], by simp [VRel, CRel, SRel]⟩
    · obtain ⟨q, hq, rfl⟩ := Option.map_eq_some_iff.1 hr
      obtain ⟨h1, h2, h3, h4⟩ := eqA_sound hx hy hq
      exact ⟨.bool !q, fun w => by simp only [Sem.run_bind, h2, Result.andThen_ok, h4, h1, Sem.run_pure], by simp [VRel, CRel, SRel]⟩
    · cases hr

theorem toSL_rel {a : Act} {e : List AV} (hE : ERel g n e a.tmps) : ∀ {xs : List Operand} {ys : List SV}, toSL (xs.map (aeval e)) = some ys → SRelL g n ys (xs.map a.eval)
  | [], ys, h => by obtain rfl := Option.some.inj h; simp [SRelL]
  | x :: xs, ys, h => by
    simp only [List.map_cons, toSL, Option.bind_eq_some_iff, Option.map_eq_some_iff] at h
    obtain ⟨y, hy, zs, hz, rfl⟩ := h
    simp only [List.map_cons, SRelL]
    refine ⟨?_, toSL_rel hE hz⟩
    have := aeval_rel hE x
    unfold toS at hy
    split at hy
    · rename_i hh
      rw [hh] at this
      obtain rfl := Option.some.inj hy
      exact this
    · cases hy
theorem ov_rel {a : Act} {e : List AV} (hE : ERel g n e a.tmps) (x : Option Operand) : OVRel g n (x.map (aeval e)) (x.map a.eval) := by
  cases x with
  | none => exact ⟨fun _ h => (by cases h), fun _ => rfl⟩
  | some x => exact ⟨fun y h => (by obtain rfl := Option.some.inj h; exact ⟨_, rfl, aeval_rel hE x⟩), fun h => (by cases h)⟩

theorem pure_sound (H : HRel g h w) {o : Oper} {e : List AV} {a : Act} (hE : ERel g h.length e a.tmps) {r : AV} (hr : pureA P o e h = some r) :
    ∃ v, (∀ w', Keeps (fun _ => False) w w' → (execOp a.eval o).run P w' = .ok (.value v) w') ∧ VRel g h.length r v := by
  unfold pureA at hr
  have ev := fun x => aeval_rel hE x
  split at hr
  · rename_i x ho
    obtain rfl := Option.some.inj hr
    exact ⟨_, fun w' hw' => by simp only [execOp, ho]; rfl, ev x⟩
  · rename_i x ho
    obtain rfl := Option.some.inj hr
    exact ⟨_, fun w' hw' => by simp only [execOp, ho]; rfl, ev x⟩
  · rename_i c x y ho
    split at hr
    · rename_i q hq
      obtain rfl := Option.some.inj hr
      have hc := ev c
      rw [hq] at hc
      simp only [VRel, CRel, SRel] at hc
      refine ⟨if q then a.eval x else a.eval y, fun w' hw' => by simp only [execOp, ho, hc, asBool]; cases q <;> rfl, ?_⟩
      cases q
      · exact ev y
      · exact ev x
    · cases hr
  · rename_i t x ho
    obtain ⟨v, h1, h2⟩ := load_sound (P := P) H (ev x) hr
    exact ⟨v, fun w' hw' => by simp only [execOp, ho, Sem.run_bind, h1 w' hw', Result.andThen_ok, Sem.run_pure], h2⟩
  · rename_i x ho
    have hx := ev x
    split at hr
    · rename_i l i hh
      obtain rfl := Option.some.inj hr
      rw [hh] at hx
      simp only [VRel, CRel, SRel] at hx
      exact ⟨_, fun w' hw' => by simp only [execOp, ho, hx.2]; rfl, by simp only [VRel, CRel, SRel]; exact ⟨hx.1, trivial⟩⟩
    · rename_i f b c hh
      obtain rfl := Option.some.inj hr
      rw [hh] at hx
      simp only [VRel, CRel, SRel] at hx
      obtain ⟨va, vc, h1, h2, h3⟩ := hx
      exact ⟨_, fun w' hw' => by simp only [execOp, ho, h1]; rfl, va, vc, rfl, h2, h3⟩
    · cases hr
  · rename_i op t x y t' ho
    obtain ⟨v, h1, h2⟩ := binOp_sound (P := P) (a := x) (b := y) (ev x) (ev y) hr
    exact ⟨v, fun w' hw' => by simp only [execOp, ho]; rw [Sem.run_bind, h1]; rfl, h2⟩
  · rename_i op t x ho
    obtain ⟨v, h1, h2⟩ := unOp_sound (P := P) (ev x) hr
    exact ⟨v, fun w' hw' => by simp only [execOp, ho, Sem.run_bind, h1, Result.andThen_ok, Sem.run_pure], h2⟩
  · rename_i s d x ho
    obtain ⟨v, h1, h2⟩ := convert_sound (P := P) (ev x) hr
    exact ⟨v, fun w' hw' => by simp only [execOp, ho, Sem.run_bind, h1, Result.andThen_ok, Sem.run_pure], h2⟩
  · rename_i s x f ho
    obtain ⟨v, h1, h2⟩ := fieldAddr_sound (P := P) (ev x) hr
    exact ⟨v, fun w' hw' => by simp only [execOp, ho, Sem.run_bind, h1, Result.andThen_ok, Sem.run_pure], h2⟩
  · rename_i s x f ho
    obtain ⟨v, h1, h2⟩ := field_sound (P := P) (ev x) hr
    exact ⟨v, fun w' hw' => by simp only [execOp, ho, Sem.run_bind, h1, Result.andThen_ok, Sem.run_pure], h2⟩
  · rename_i t x i ho
    obtain ⟨v, h1, h2⟩ := indexAddr_sound (P := P) (ev x) (ev i) hr
    exact ⟨v, fun w' hw' => by simp only [execOp, ho, Sem.run_bind, h1, Result.andThen_ok, Sem.run_pure], h2⟩
  · rename_i t x i ho
    obtain ⟨v, h1, h2⟩ := index_sound (P := P) (ev x) (ev i) hr
    exact ⟨v, fun w' hw' => by simp only [execOp, ho, Sem.run_bind, h1, Result.andThen_ok, Sem.run_pure], h2⟩
  · rename_i x i ho
    obtain ⟨v, h1, h2⟩ := extract_sound (P := P) (ev x) hr
    exact ⟨v, fun w' hw' => by simp only [execOp, ho, Sem.run_bind, h1, Result.andThen_ok, Sem.run_pure], h2⟩
  · rename_i t x lo hi mx ho
    obtain ⟨v, h1, h2⟩ := slice_sound (P := P) (ev x) (ov_rel hE lo) (ov_rel hE hi) (ov_rel hE mx) hr
    exact ⟨v, fun w' hw' => by simp only [execOp, ho, Sem.run_bind, h1, Result.andThen_ok, Sem.run_pure], h2⟩
  · rename_i t parts ho
    obtain ⟨v, h1, h2⟩ := build_sound (P := P) (g := g) (n := h.length) (vps := parts.map fun p => (p.1, a.eval p.2)) (by simp) (fun i p hp => by
      simp only [List.getElem?_map, Option.map_eq_some_iff] at hp
      obtain ⟨q, hq, rfl⟩ := hp
      refine ⟨(q.1, a.eval q.2), ?_, rfl, ev _⟩
      rw [Array.toList_map, List.getElem?_map, hq]; rfl) hr
    exact ⟨v, fun w' hw' => by simp only [execOp, ho, Sem.run_bind]; rw [h1]; rfl, h2⟩
  · rename_i f b c ho
    simp only [Option.bind_eq_some_iff, Option.map_eq_some_iff] at hr
    obtain ⟨b', hb, c', hc, rfl⟩ := hr
    refine ⟨.func (.func f) (b.map a.eval) (c.map a.eval), fun w' hw' => by simp only [execOp, ho, Instr.makeFunc]; rfl, _, _, rfl, ?_, ?_⟩
    · simpa using toSL_rel hE hb
    · simpa using toSL_rel hE hc
  · rename_i args ts ho
    split at hr
    · rename_i x t hxs hts
      obtain ⟨v, h1, h2⟩ := len_sound (P := P) (ty := o.type) H (ev x) hr
      have e1 : args = #[x] := by rw [← Array.toArray_toList (xs := args), hxs]
      have e2 : ts = #[t] := by rw [← Array.toArray_toList (xs := ts), hts]
      subst e1; subst e2
      exact ⟨v, fun w' hw' => by simp only [execOp, ho, resolve, invoke, builtin, Sem.run_bind, Sem.run_pure, Result.andThen_ok]; simp [h1 w' hw'], h2⟩
    · cases hr
  · rename_i args ts ho
    split at hr
    · rename_i x y hxs
      obtain ⟨v, h1, h2⟩ := min_sound (P := P) (ts := ts) (ty := o.type) (ev x) (ev y) hr
      have e1 : args = #[x, y] := by rw [← Array.toArray_toList (xs := args), hxs]
      subst e1
      exact ⟨v, fun w' hw' => by simp only [execOp, ho, resolve, invoke, builtin, Sem.run_bind, Sem.run_pure, Result.andThen_ok]; simp [h1], h2⟩
    · cases hr
  · rename_i args ts ho
    split at hr
    · rename_i x y hxs
      obtain ⟨v, h1, h2⟩ := max_sound (P := P) (ts := ts) (ty := o.type) (ev x) (ev y) hr
      have e1 : args = #[x, y] := by rw [← Array.toArray_toList (xs := args), hxs]
      subst e1
      exact ⟨v, fun w' hw' => by simp only [execOp, ho, resolve, invoke, builtin, Sem.run_bind, Sem.run_pure, Result.andThen_ok]; simp [h1], h2⟩
    · cases hr
  · rename_i t x k ok ho
    obtain ⟨v, h1, h2⟩ := lookup_sound (P := P) H (ev x) (ev k) hr
    exact ⟨v, fun w' hw' => by simp only [execOp, ho, Sem.run_bind, h1 w' hw', Result.andThen_ok, Sem.run_pure], h2⟩
  · cases hr
end
end Go.AM
