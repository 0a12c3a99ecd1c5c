/- The abstract machine: maps whose keys are whole numbers: what is found. Conditions: none. -/
import Derived.Test.YtjhhjmngjmflaaaAmKey
set_option linter.unusedVariables false
set_option linter.unusedSimpArgs false
namespace Go.AM
section
variable {P : Program} {g : G} {n : Nat}
theorem MRel.length : ∀ {xs : List (CV × CV)} {ms : List MapEntry}, MRel g n xs ms → xs.length = ms.length
  | [], [], _ => rfl
  | _ :: _, _ :: _, h => by simp [MRel.length h.2]
  | [], _ :: _, h => by simp [MRel] at h
  | _ :: _, [], h => by simp [MRel] at h
theorem MRel.get : ∀ {xs : List (CV × CV)} {ms : List MapEntry}, MRel g n xs ms → ∀ (i : Nat) x, xs[i]? = some x → ∃ y : MapEntry, ms[i]? = some y ∧ CRel g n x.1 y.key ∧ CRel g n x.2 y.val
  | [], [], _, i, x, hx => by simp at hx
  | a :: xs, b :: ms, h, 0, x, hx => by
    obtain rfl : a = x := by simpa using hx
    exact ⟨b, by simp, h.1⟩
  | a :: xs, b :: ms, h, i + 1, x, hx => by
    obtain ⟨y, h1, h2⟩ := MRel.get h.2 i x (by simpa using hx)
    exact ⟨y, by simpa using h1, h2⟩
  | [], _ :: _, h, _, _, _ => by simp [MRel] at h
  | _ :: _, [], h, _, _, _ => by simp [MRel] at h
theorem MRel.of : ∀ {xs : List (CV × CV)} {ms : List MapEntry}, xs.length = ms.length → (∀ (i : Nat) x, xs[i]? = some x → ∃ y : MapEntry, ms[i]? = some y ∧ CRel g n x.1 y.key ∧ CRel g n x.2 y.val) → MRel g n xs ms
  | [], [], _, _ => trivial
  | a :: xs, b :: ms, hl, h => by
    refine ⟨?_, MRel.of (by simpa using hl) fun i x hx => by simpa using h (i + 1) x (by simpa using hx)⟩
    obtain ⟨y, h1, h2⟩ := h 0 a (by simp)
    obtain rfl : b = y := by simpa using h1
    exact h2
  | [], _ :: _, hl, _ => by simp at hl
  | _ :: _, [], hl, _ => by simp at hl
theorem findM_sound (kk : IntKind) {q : IntKind} {a : Int} : ∀ {es : List (CV × CV)} {ms : List MapEntry} {i : Nat} {r : Option (Nat × CV)}, MRel g n es ms → findM q a es i = some r →
    (r = none ∧ Instr.findNow (.int kk) (.int q a) ms i = some none) ∨
    ∃ j c e, r = some (i + j, c) ∧ Instr.findNow (.int kk) (.int q a) ms i = some (some (i + j, e.val)) ∧ ms[j]? = some e ∧ e.key = .int q a ∧ CRel g n c e.val ∧ j < es.length
  | [], [], i, r, _, hr => by
    obtain rfl := Option.some.inj hr
    exact .inl ⟨rfl, rfl⟩
  | [], _ :: _, _, _, h, _ => by simp [MRel] at h
  | _ :: _, [], _, _, h, _ => by simp [MRel] at h
  | (x, v) :: es, m :: ms, i, r, h, hr => by
    cases x with
    | ag _ => simp [findM] at hr
    | sc x =>
      cases x with
      | int k' b =>
        simp only [findM] at hr
        obtain ⟨⟨hk, hv⟩, ht⟩ := h
        have hk' : m.key = .int k' b := by simpa [CRel, SRel] using hk
        split at hr
        · rename_i hkk
          subst hkk
          split at hr
          · rename_i hab
            subst hab
            obtain rfl := Option.some.inj hr
            refine .inr ⟨0, v, m, rfl, ?_, rfl, hk', hv, by simp⟩
            simp [Instr.findNow, Instr.sameNow, hk']
          · rename_i hab
            have hf : ∀ r', Instr.findNow (.int kk) (.int q a) ms (i + 1) = r' → Instr.findNow (.int kk) (.int q a) (m :: ms) i = r' := fun r' h' => by
              have hne : (a == b) = false := by simpa using hab
              simp only [Instr.findNow, Instr.sameNow, hk', if_true, hne]
              exact h'
            rcases findM_sound kk ht hr with ⟨e1, e2⟩ | ⟨j, c, e, e1, e2, e3, e4, e5, e6⟩
            · exact .inl ⟨e1, hf _ e2⟩
            · refine .inr ⟨j + 1, c, e, ?_, ?_, by simpa using e3, e4, e5, by simp; omega⟩
              · rw [e1, show i + 1 + j = i + (j + 1) by omega]
              · rw [hf _ e2, show i + 1 + j = i + (j + 1) by omega]
        · cases hr
      | _ => simp [findM] at hr
theorem findM_none {q : IntKind} {a : Int} : ∀ {es : List (CV × CV)} {ms : List MapEntry} {i : Nat}, MRel g n es ms → findM q a es i = some none → ∀ x ∈ ms, x.key ≠ .int q a
  | [], [], _, _, _, x, hx => by cases hx
  | [], _ :: _, _, h, _, _, _ => by simp [MRel] at h
  | _ :: _, [], _, h, _, _, _ => by simp [MRel] at h
  | (x, v) :: es, m :: ms, i, h, hr, y, hy => by
    cases x with
    | ag _ => simp [findM] at hr
    | sc x =>
      cases x with
      | int k' b =>
        simp only [findM] at hr
        obtain ⟨⟨hk, hv⟩, ht⟩ := h
        have hk' : m.key = .int k' b := by simpa [CRel, SRel] using hk
        split at hr
        · rename_i hkk
          subst hkk
          split at hr
          · cases hr
          · rename_i hab
            rcases List.mem_cons.1 hy with rfl | hy
            · rw [hk']; intro e; exact hab (Value.int.inj e).2.symm
            · exact findM_none ht hr y hy
        · cases hr
      | _ => simp [findM] at hr
theorem run_getM {w : World} {r : Nat} {es : Array MapEntry} {clock : Nat} (hb : w.heap[r]? = some (.map es clock)) : (getObj r).run P w = .ok (.map es clock) w := by
  simp [getObj, Sem.run, hb]
theorem run_setM {w : World} {r : Nat} {es : Array MapEntry} {clock : Nat} (o : Obj) (hb : w.heap[r]? = some (.map es clock)) : (setObj r o).run P w = .ok () { w with heap := w.heap.setIfInBounds r o } := by
  simp [setObj, Sem.run, hb]
theorem zeroC_sound {t : TypeId} {z : CV} (hz : zeroC P t = some z) : ∃ v, (∀ w : World, (zeroValue t).run P w = .ok v w) ∧ CRel g n z v := by
  unfold zeroC at hz
  simp only [Option.bind_eq_some_iff] at hz
  obtain ⟨v, ⟨i, hi, hv⟩, hc⟩ := hz
  refine ⟨v, fun w => by simp [zeroValue, typeInfo, hi, hv], ?_⟩
  have := constA_rel g n v
  split at hc
  · rename_i c hcc
    obtain rfl := Option.some.inj hc
    rw [hcc] at this
    exact this
  · cases hc
theorem run_check_int {w : World} {kt : TypeId} {kk q : IntKind} {a : Int} (hd : P.underlying kt = some (.int kk)) (e : Bool) : (Instr.checkKey e 10000 kt (.int q a)).run P w = .ok () w := by
  unfold Instr.checkKey
  simp [run_underlying hd]
theorem run_find_int {w : World} {kt : TypeId} {kk q : IntKind} {a : Int} {l : List MapEntry} {r : Option (Nat × Value)} (hd : P.underlying kt = some (.int kk)) (h : Instr.findNow (.int kk) (.int q a) l 0 = some r) : (Instr.findKey kt (.int q a) l).run P w = .ok r w := by
  simp [Instr.findKey, run_underlying hd, h]
theorem lookup_sound {h : List AO} {w : World} (H : HRel g h w) {t : TypeId} {x y r : AV} {u v : Value} {ok : Bool} (hx : VRel g h.length x u) (hy : VRel g h.length y v) (hr : lookupA P h t x y ok = some r) :
    ∃ z, (∀ w', Keeps (fun _ => False) w w' → (Instr.lookup t u v ok).run P w' = .ok z w') ∧ VRel g h.length r z := by
  unfold lookupA at hr
  split at hr
  · rename_i kt el k a hu
    simp only [VRel, CRel, SRel] at hy
    subst hy
    split at hr
    · rename_i kk hk
      simp only [Option.bind_eq_some_iff] at hr
      obtain ⟨es, hes, f, hf, hr⟩ := hr
      -- the entries
      obtain ⟨ms, hms, hrun⟩ : ∃ ms : Array MapEntry, MRel g h.length es ms.toList ∧ ∀ w', Keeps (fun _ => False) w w' → (Instr.lookup t u (.int k a) ok).run P w' =
          ((do let (v, ok') ← match ← Instr.findKey kt (.int k a) ms.toList with
                | some (_, v) => pure (v, true)
                | none => pure (← zeroValue el, false)
               pure (if ok then .tuple #[v, .bool ok'] else v) : Sem Value).run P w') := by
        unfold mapAt at hes
        split at hes
        · obtain rfl := Option.some.inj hes
          simp only [VRel, CRel, SRel] at hx
          subst hx
          exact ⟨#[], by simp [MRel], fun w' _ => by simp [Instr.lookup, run_underlying hu, run_check_int hk]; rfl⟩
        · rename_i l
          split at hes
          · rename_i es' hl
            obtain rfl := Option.some.inj hes
            simp only [VRel, CRel, SRel] at hx
            obtain ⟨hlt, rfl⟩ := hx
            obtain ⟨ms, t', h1, h2, _⟩ := H.obj _ _ hl
            refine ⟨ms, h2, fun w' hw' => ?_⟩
            have hb : w'.heap[g.blk l]? = some (.map ms t') := by
              rw [hw'.block _ ((Array.getElem?_eq_some_iff.1 h1).1) (fun h => h)]; exact h1
            simp [Instr.lookup, run_underlying hu, run_check_int hk, run_getM hb]; rfl
          · cases hes
        · cases hes
      rcases findM_sound kk hms hf with ⟨rfl, e2⟩ | ⟨j, c, e, rfl, e2, e3, e4, e5, _⟩
      · obtain ⟨z, hz, rfl⟩ := Option.map_eq_some_iff.1 hr
        obtain ⟨zv, z1, z2⟩ := zeroC_sound (P := P) (g := g) (n := h.length) hz
        refine ⟨if ok then .tuple #[zv, .bool false] else zv, fun w' hw' => ?_, ?_⟩
        · rw [hrun w' hw']
          simp [run_find_int hk e2, z1]
        · cases ok
          · exact z2
          · exact ⟨_, rfl, by simp only [CRelL]; exact ⟨z2, by simp [CRel, SRel], trivial⟩⟩
      · obtain rfl := Option.some.inj hr
        refine ⟨if ok then .tuple #[e.val, .bool true] else e.val, fun w' hw' => ?_, ?_⟩
        · rw [hrun w' hw']
          simp [run_find_int hk e2]
        · cases ok
          · exact e5
          · exact ⟨_, rfl, by simp only [CRelL]; exact ⟨e5, by simp [CRel, SRel], trivial⟩⟩
    · cases hr
  · rename_i kt el ks hu
    obtain ⟨A, rfl, hA⟩ := hy
    split at hr
    · rename_i hk
      have hki : intsB ks = true := by
        unfold keyB at hk
        rw [Bool.and_eq_true] at hk
        exact hk.1
      simp only [Option.bind_eq_some_iff] at hr
      obtain ⟨es, hes, f, hf, hr⟩ := hr
      obtain ⟨ms, hms, hrun⟩ : ∃ ms : Array MapEntry, MRel g h.length es ms.toList ∧ ∀ w', Keeps (fun _ => False) w w' → (Instr.lookup t u (.agg A) ok).run P w' =
          ((do let (v, ok') ← match ← Instr.findKey kt (.agg A) ms.toList with
                | some (_, v) => pure (v, true)
                | none => pure (← zeroValue el, false)
               pure (if ok then .tuple #[v, .bool ok'] else v) : Sem Value).run P w') := by
        unfold mapAt at hes
        split at hes
        · obtain rfl := Option.some.inj hes
          simp only [VRel, CRel, SRel] at hx
          subst hx
          exact ⟨#[], by simp [MRel], fun w' _ => by simp [Instr.lookup, run_underlying hu, run_check_ints (P := P) hk hA]; rfl⟩
        · rename_i l
          split at hes
          · rename_i es' hl
            obtain rfl := Option.some.inj hes
            simp only [VRel, CRel, SRel] at hx
            obtain ⟨hlt, rfl⟩ := hx
            obtain ⟨ms, t', h1, h2, _⟩ := H.obj _ _ hl
            refine ⟨ms, h2, fun w' hw' => ?_⟩
            have hb : w'.heap[g.blk l]? = some (.map ms t') := by
              rw [hw'.block _ ((Array.getElem?_eq_some_iff.1 h1).1) (fun h => h)]; exact h1
            simp [Instr.lookup, run_underlying hu, run_check_ints (P := P) hk hA, run_getM hb]; rfl
          · cases hes
        · cases hes
      rcases findS_sound (P := P) hki hA hms hf with ⟨rfl, e2, _⟩ | ⟨j, c, e, rfl, e2, e3, e4, e5, _⟩
      · obtain ⟨z, hz, rfl⟩ := Option.map_eq_some_iff.1 hr
        obtain ⟨zv, z1, z2⟩ := zeroC_sound (P := P) (g := g) (n := h.length) hz
        refine ⟨if ok then .tuple #[zv, .bool false] else zv, fun w' hw' => ?_, ?_⟩
        · rw [hrun w' hw']
          simp [run_findKey_ints (P := P) A ms.toList hk (e2 w'), z1]
        · cases ok
          · exact z2
          · exact ⟨_, rfl, by simp only [CRelL]; exact ⟨z2, by simp [CRel, SRel], trivial⟩⟩
      · obtain rfl := Option.some.inj hr
        refine ⟨if ok then .tuple #[e.val, .bool true] else e.val, fun w' hw' => ?_, ?_⟩
        · rw [hrun w' hw']
          simp [run_findKey_ints (P := P) A ms.toList hk (e2 w')]
        · cases ok
          · exact e5
          · exact ⟨_, rfl, by simp only [CRelL]; exact ⟨e5, by simp [CRel, SRel], trivial⟩⟩
    · cases hr
  · cases hr
end
end Go.AM
