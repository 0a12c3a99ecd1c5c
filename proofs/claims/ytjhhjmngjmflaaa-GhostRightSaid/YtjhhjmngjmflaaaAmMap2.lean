/- The abstract machine: maps whose keys are whole numbers: what is put, what is taken away. Conditions: none. -/
import Derived.Test.YtjhhjmngjmflaaaAmEff
set_option linter.unusedVariables false
set_option linter.unusedSimpArgs false
namespace Go.AM
section
variable {P : Program} {g : G} {h : List AO} {w : World} {W : Nat → Prop} {w0 : World} {lock : Nat}
/-- A map's entries are others. -/
theorem HSt.setMap (H : HSt W w0 lock g h w) {l : Nat} {es es' : List (CV × CV)} {ms ms' : Array MapEntry} {t t' : Nat} (hl : h[l]? = some (.map es)) (hlk : lock ≤ l) (hb : w.heap[g.blk l]? = some (.map ms t)) (hr : MRel g h.length es' ms'.toList) (hst : Go.MapKept.Stamped ms' t') :
    HSt W w0 lock g (h.set l (.map es')) { w with heap := w.heap.setIfInBounds (g.blk l) (.map ms' t') } := by
  have hlt : g.blk l < w.heap.size := (Array.getElem?_eq_some_iff.1 hb).1
  have same : ∀ k, k ≠ g.blk l → ({ w with heap := w.heap.setIfInBounds (g.blk l) (.map ms' t') } : World).heap[k]? = w.heap[k]? := fun k hk => by simp [Ne.symm hk]
  refine ⟨H.rel.change hl rfl same ⟨ms', t', by simp [hlt], hr, hst⟩, ⟨H.keep.os, H.keep.tape, H.keep.output, by simpa using H.keep.size, fun k hk hnk => ?_⟩, ?_⟩
  · rw [← H.keep.block k hk hnk]
    refine same k ?_
    rintro rfl
    rcases H.own l hlk ⟨_, hl, rfl⟩ with h5 | h5
    · exact hnk h5
    · omega
  · rintro i hi ⟨q, hq, hv⟩
    by_cases hil : i = l
    · subst hil; exact H.own i hlk ⟨_, hl, rfl⟩
    · rw [List.getElem?_set_ne (Ne.symm hil)] at hq
      exact H.own i hi ⟨q, hq, hv⟩
theorem same_int (q : IntKind) (a : Int) : Instr.sameBits 10000 (.int q a) (.int q a) = true := by
  unfold Instr.sameBits; simp
theorem upd_sound (H : HSt W w0 lock g h w) {t : TypeId} {x k v : AV} {a b c : Value} {h' : List AO} (hx : VRel g h.length x a) (hk : VRel g h.length k b) (hv : VRel g h.length v c) (hr : updA P h lock t x k v = some h') :
    ∃ w', (Instr.mapUpdate t a b c).run P w = .ok () w' ∧ HSt W w0 lock g h' w' ∧ h'.length = h.length := by
  unfold updA at hr
  split at hr
  · rename_i kt el l q n c' hu
    simp only [VRel, CRel, SRel] at hx hk
    obtain ⟨hlt, rfl⟩ := hx
    subst hk
    split at hr
    · rename_i kk es hkt hl
      split at hr
      · rename_i hlk
        obtain ⟨r, hf, rfl⟩ := Option.map_eq_some_iff.1 hr
        obtain ⟨ms, tt, hb, hms, hst⟩ := H.rel.obj _ _ hl
        rcases findM_sound kk hms hf with ⟨rfl, e2⟩ | ⟨j, c2, e, rfl, e2, e3, e4, e5, e6⟩
        · refine ⟨_, ?_, H.setMap (ms' := ms.push ⟨.int q n, c, tt⟩) (t' := tt + 1) hl hlk hb ?_ (Go.MapKept.stamped_push hst (findM_none hms hf)), by simp⟩
          · simp [Instr.mapUpdate, run_underlying hu, run_getM hb, run_check_int hkt, run_find_int hkt e2, run_setM _ hb]
          · have hlen := MRel.length hms
            refine MRel.of (by simp [hlen]) fun i y hy => ?_
            rw [Array.toList_push]
            rcases Nat.lt_or_ge i es.length with h1 | h1
            · rw [List.getElem?_append_left h1] at hy
              obtain ⟨z, z1, z2⟩ := MRel.get hms i y hy
              exact ⟨z, by rw [List.getElem?_append_left (by omega)]; exact z1, z2⟩
            · rw [List.getElem?_append_right h1] at hy
              have h0 : i - es.length = 0 := by
                have := (List.getElem?_eq_some_iff.1 hy).1
                simpa using this
              rw [h0] at hy
              obtain rfl := Option.some.inj hy
              refine ⟨⟨.int q n, c, tt⟩, by rw [List.getElem?_append_right (by omega), ← hlen, h0]; rfl, by simp [CRel, SRel], hv⟩
        · rw [Nat.zero_add] at e2
          have hj : ms[j]? = some e := by rw [← Array.getElem?_toList]; exact e3
          have hjl : j < ms.size := (Array.getElem?_eq_some_iff.1 hj).1
          have hks : (Instr.keyThatStays e.key (.int q n)) = (pure (.int q n) : Sem Value) := by
            unfold Instr.keyThatStays
            rw [e4, same_int]; rfl
          refine ⟨_, ?_, H.setMap (ms' := ms.modify j fun e => { e with key := .int q n, val := c }) (t' := tt) hl hlk hb ?_ (Go.MapKept.stamped_modify hst j _ (fun _ _ => rfl) (fun e' _ he' => by rw [hj] at he'; obtain rfl := Option.some.inj he'; exact e4.symm)), by simp⟩
          · simp [Instr.mapUpdate, run_underlying hu, run_getM hb, run_check_int hkt, run_find_int hkt e2, run_setM _ hb, hj, hks]
          · have hlen := MRel.length hms
            simp only [Array.length_toList] at hlen
            rw [Nat.zero_add]
            refine MRel.of (by simp [hlen]) fun i y hy => ?_
            rw [Array.getElem?_toList, Array.getElem?_modify]
            rw [List.getElem?_set] at hy
            by_cases hij : j = i
            · subst hij
              rw [if_pos rfl, if_pos e6] at hy
              obtain rfl := Option.some.inj hy
              exact ⟨{ e with key := .int q n, val := c }, by simp [hj], by simp [CRel, SRel], hv⟩
            · rw [if_neg hij] at hy
              obtain ⟨z, z1, z2⟩ := MRel.get hms i y hy
              refine ⟨z, ?_, z2⟩
              rw [if_neg hij]
              rw [← Array.getElem?_toList]; exact z1
      · cases hr
    · cases hr
  · rename_i kt el l ks c' hu
    simp only [VRel] at hx
    obtain ⟨hlt, rfl⟩ : l < h.length ∧ a = .map (some (g.blk l)) := hx
    obtain ⟨A, rfl, hA⟩ := hk
    split at hr
    · rename_i es hl
      split at hr
      · rename_i hc
        obtain ⟨hlk, hkb⟩ := hc
        have hki : intsB ks = true := by
          unfold keyB at hkb
          rw [Bool.and_eq_true] at hkb
          exact hkb.1
        obtain ⟨r, hf, rfl⟩ := Option.map_eq_some_iff.1 hr
        obtain ⟨ms, tt, hb, hms, hst⟩ := H.rel.obj _ _ hl
        rcases findS_sound (P := P) hki hA hms hf with ⟨rfl, e2, e3⟩ | ⟨j, c2, e, rfl, e2, e3, e4, e5, e6⟩
        · refine ⟨_, ?_, H.setMap (ms' := ms.push ⟨.agg A, c, tt⟩) (t' := tt + 1) hl hlk hb ?_ (Go.MapKept.stamped_push hst e3), by simp⟩
          · simp [Instr.mapUpdate, run_underlying hu, run_getM hb, run_check_ints (P := P) hkb hA, run_findKey_ints (P := P) A ms.toList hkb (e2 w), run_setM _ hb]
          · have hlen := MRel.length hms
            refine MRel.of (by simp [hlen]) fun i y hy => ?_
            rw [Array.toList_push]
            rcases Nat.lt_or_ge i es.length with h1 | h1
            · rw [List.getElem?_append_left h1] at hy
              obtain ⟨z, z1, z2⟩ := MRel.get hms i y hy
              exact ⟨z, by rw [List.getElem?_append_left (by omega)]; exact z1, z2⟩
            · rw [List.getElem?_append_right h1] at hy
              have h0 : i - es.length = 0 := by
                have := (List.getElem?_eq_some_iff.1 hy).1
                simpa using this
              rw [h0] at hy
              obtain rfl := Option.some.inj hy
              exact ⟨⟨.agg A, c, tt⟩, by rw [List.getElem?_append_right (by omega), ← hlen, h0]; rfl, ⟨A, rfl, hA⟩, hv⟩
        · have e2' := fun w => e2 w
          simp only [Nat.zero_add] at e2'
          have hj : ms[j]? = some e := by rw [← Array.getElem?_toList]; exact e3
          have hjl : j < ms.size := (Array.getElem?_eq_some_iff.1 hj).1
          have hks : (Instr.keyThatStays e.key (.agg A)).run P w = .ok (.agg A) w := by rw [e4]; exact run_stays_ints hki hA
          refine ⟨_, ?_, H.setMap (ms' := ms.modify j fun e => { e with key := .agg A, val := c }) (t' := tt) hl hlk hb ?_ (Go.MapKept.stamped_modify hst j _ (fun _ _ => rfl) (fun e' _ he' => by rw [hj] at he'; obtain rfl := Option.some.inj he'; exact e4.symm)), by simp⟩
          · simp [Instr.mapUpdate, run_underlying hu, run_getM hb, run_check_ints (P := P) hkb hA, run_findKey_ints (P := P) A ms.toList hkb (e2' w), run_setM _ hb, hj, hks]
          · have hlen := MRel.length hms
            simp only [Array.length_toList] at hlen
            rw [Nat.zero_add]
            refine MRel.of (by simp [hlen]) fun i y hy => ?_
            rw [Array.getElem?_toList, Array.getElem?_modify]
            rw [List.getElem?_set] at hy
            by_cases hij : j = i
            · subst hij
              rw [if_pos rfl, if_pos e6] at hy
              obtain rfl := Option.some.inj hy
              exact ⟨{ e with key := .agg A, val := c }, by simp [hj], ⟨A, rfl, hA⟩, hv⟩
            · rw [if_neg hij] at hy
              obtain ⟨z, z1, z2⟩ := MRel.get hms i y hy
              refine ⟨z, ?_, z2⟩
              rw [if_neg hij]
              rw [← Array.getElem?_toList]; exact z1
      · cases hr
    · cases hr
  · cases hr
theorem del_sound (H : HSt W w0 lock g h w) {t t' ty : TypeId} {x k : AV} {a b : Value} {h' : List AO} (hx : VRel g h.length x a) (hk : VRel g h.length k b) (hr : delA P h lock t x k = some h') :
    ∃ w', (Builtin.delete_ #[t, t'] ty #[a, b]).run P w = .ok (.tuple #[]) w' ∧ HSt W w0 lock g h' w' ∧ h'.length = h.length := by
  unfold delA at hr
  split at hr
  · rename_i kt el l q n hu
    simp only [VRel, CRel, SRel] at hx hk
    obtain ⟨hlt, rfl⟩ := hx
    subst hk
    split at hr
    · rename_i kk es hkt hl
      split at hr
      · rename_i hlk
        obtain ⟨r, hf, rfl⟩ := Option.map_eq_some_iff.1 hr
        obtain ⟨ms, tt, hb, hms, hst⟩ := H.rel.obj _ _ hl
        rcases findM_sound kk hms hf with ⟨rfl, e2⟩ | ⟨j, c2, e, rfl, e2, e3, e4, e5, e6⟩
        · have hS := H.setMap (ms' := ms) (t' := tt) hl hlk hb hms hst
          rw [show h.set l (.map es) = h from by
            apply List.ext_getElem? ; intro i
            rw [List.getElem?_set]
            split
            · rename_i hij; subst hij
              exact hl.symm
            · rfl] at hS
          refine ⟨_, ?_, hS, rfl⟩
          simp [Builtin.delete_, run_underlying hu, run_getM hb, run_check_int hkt, run_find_int hkt e2, run_setM _ hb]
        · rw [Nat.zero_add] at e2
          have hj : ms[j]? = some e := by rw [← Array.getElem?_toList]; exact e3
          have hjl : j < ms.size := (Array.getElem?_eq_some_iff.1 hj).1
          refine ⟨_, ?_, H.setMap (ms' := ms.eraseIdxIfInBounds j) (t' := tt) hl hlk hb ?_ (Go.MapKept.stamped_erase hst j), by simp⟩
          · simp [Builtin.delete_, run_underlying hu, run_getM hb, run_check_int hkt, run_find_int hkt e2, run_setM _ hb]
          · have hlen := MRel.length hms
            simp only [Array.length_toList] at hlen
            rw [Nat.zero_add]
            have he : (ms.eraseIdxIfInBounds j).toList = ms.toList.eraseIdx j := by
              unfold Array.eraseIdxIfInBounds
              rw [dif_pos hjl]; simp
            rw [he]
            refine MRel.of (by simp [List.length_eraseIdx, hlen]) fun i y hy => ?_
            rw [List.getElem?_eraseIdx] at hy ⊢
            split at hy
            · rename_i hij
              rw [if_pos hij]; exact MRel.get hms i y hy
            · rename_i hij
              rw [if_neg hij]; exact MRel.get hms (i + 1) y hy
      · cases hr
    · cases hr
  · rename_i kt el l ks hu
    obtain ⟨hlt, rfl⟩ : l < h.length ∧ a = .map (some (g.blk l)) := hx
    obtain ⟨A, rfl, hA⟩ := hk
    split at hr
    · rename_i es hl
      split at hr
      · rename_i hc
        obtain ⟨hlk, hkb⟩ := hc
        have hki : intsB ks = true := by
          unfold keyB at hkb
          rw [Bool.and_eq_true] at hkb
          exact hkb.1
        obtain ⟨r, hf, rfl⟩ := Option.map_eq_some_iff.1 hr
        obtain ⟨ms, tt, hb, hms, hst⟩ := H.rel.obj _ _ hl
        rcases findS_sound (P := P) hki hA hms hf with ⟨rfl, e2, e3⟩ | ⟨j, c2, e, rfl, e2, e3, e4, e5, e6⟩
        · have hS := H.setMap (ms' := ms) (t' := tt) hl hlk hb hms hst
          rw [show h.set l (.map es) = h from by
            apply List.ext_getElem? ; intro i
            rw [List.getElem?_set]
            split
            · rename_i hij; subst hij
              exact hl.symm
            · rfl] at hS
          refine ⟨_, ?_, hS, rfl⟩
          simp [Builtin.delete_, run_underlying hu, run_getM hb, run_check_ints (P := P) hkb hA, run_findKey_ints (P := P) A ms.toList hkb (e2 w), run_setM _ hb]
        · have e2' := fun w => e2 w
          simp only [Nat.zero_add] at e2'
          have hj : ms[j]? = some e := by rw [← Array.getElem?_toList]; exact e3
          have hjl : j < ms.size := (Array.getElem?_eq_some_iff.1 hj).1
          refine ⟨_, ?_, H.setMap (ms' := ms.eraseIdxIfInBounds j) (t' := tt) hl hlk hb ?_ (Go.MapKept.stamped_erase hst j), by simp⟩
          · simp [Builtin.delete_, run_underlying hu, run_getM hb, run_check_ints (P := P) hkb hA, run_findKey_ints (P := P) A ms.toList hkb (e2' w), run_setM _ hb]
          · have hlen := MRel.length hms
            simp only [Array.length_toList] at hlen
            rw [Nat.zero_add]
            have he : (ms.eraseIdxIfInBounds j).toList = ms.toList.eraseIdx j := by
              unfold Array.eraseIdxIfInBounds
              rw [dif_pos hjl]; simp
            rw [he]
            refine MRel.of (by simp [List.length_eraseIdx, hlen]) fun i y hy => ?_
            rw [List.getElem?_eraseIdx] at hy ⊢
            split at hy
            · rename_i hij
              rw [if_pos hij]; exact MRel.get hms i y hy
            · rename_i hij
              rw [if_neg hij]; exact MRel.get hms (i + 1) y hy
      · cases hr
    · cases hr
  · cases hr
end
end Go.AM
