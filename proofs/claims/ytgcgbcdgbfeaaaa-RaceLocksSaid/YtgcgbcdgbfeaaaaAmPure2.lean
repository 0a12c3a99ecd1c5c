/- The abstract machine: operations on numbers, strings, slices and whole values do in the model what they do here. Conditions: none. -/
import Derived.Test.YtgcgbcdgbfeaaaaAmPure
set_option linter.unusedVariables false
set_option linter.unusedSimpArgs false
namespace Go.AM
section
variable {P : Program} {g : G} {h : List AO} {w : World} {n : Nat}

theorem eqGuard_int (op : BinOp) (t : TypeId) (x y : Operand) (k k' : IntKind) (a b : Int) : (eqGuard op t x y (.int k a) (.int k' b)).run P w = .ok () w := by cases op <;> rfl
theorem eqGuard_str (op : BinOp) (t : TypeId) (x y : Operand) (a b : ByteArray) : (eqGuard op t x y (.string a) (.string b)).run P w = .ok () w := by cases op <;> rfl

theorem binI_sound {op : BinOp} {k : IntKind} {a b : Int} {t : TypeId} {z : SV} (hs : op ≠ .shl ∧ op ≠ .shr) (hz : binI op k a b = some z) :
    ∃ v, (∀ w : World, (binOp op t (.int k a) (.int k b)).run P w = .ok v w) ∧ SRel g n z v := by
  unfold binI at hz
  split at hz
  all_goals first | (obtain rfl := Option.some.inj hz) | skip
  all_goals first
    | (refine ⟨_, fun w => ?_, rfl⟩; simp [binOp, Op.intArith, Op.intBits, Op.intCmp, bitsA]; done)
    | (split at hz; (· cases hz); rename_i hy; obtain rfl := Option.some.inj hz; refine ⟨_, fun w => ?_, rfl⟩; simp [binOp, Op.intDiv, hy]; done)
    | cases hz
theorem shiftA_sound {op : BinOp} {k k' : IntKind} {a b : Int} {t : TypeId} {z : SV} (hz : shiftA op k a b = some z) :
    ∃ v, (∀ w : World, (binOp op t (.int k a) (.int k' b)).run P w = .ok v w) ∧ SRel g n z v := by
  unfold shiftA at hz
  split at hz
  · cases hz
  · rename_i hb
    split at hz
    all_goals first | (obtain rfl := Option.some.inj hz) | skip
    all_goals first
      | (refine ⟨_, fun w => ?_, rfl⟩; simp [binOp, Op.shift, hb]; done)
      | cases hz
theorem strOpA_sound {op : BinOp} {a b : ByteArray} {t : TypeId} {z : SV} (hz : strOpA op a b = some z) :
    ∃ v, (∀ w : World, (binOp op t (.string a) (.string b)).run P w = .ok v w) ∧ SRel g n z v := by
  unfold strOpA at hz
  split at hz
  · split at hz
    · rename_i hs
      obtain rfl := Option.some.inj hz
      refine ⟨_, fun w => ?_, rfl⟩
      have : ¬ (((a.size + b.size : Nat) : Int) > IntKind.i64.max) := by
        have : IntKind.i64.max = 9223372036854775807 := by decide
        omega
      simp only [binOp, Op.stringOp, this, if_false, Sem.run_pure]
    · cases hz
  all_goals first | (obtain rfl := Option.some.inj hz; refine ⟨_, fun w => ?_, rfl⟩; simp [binOp, Op.stringOp]; done) | cases hz

theorem unOp_sound {op : UnOp} {x r : AV} {v : Value} (hv : VRel g n x v) (hr : unOpA op x = some r) : ∃ u, (∀ w : World, (Op.unary op v).run P w = .ok u w) ∧ VRel g n r u := by
  unfold unOpA at hr
  split at hr
  · simp only [VRel, CRel, SRel] at hv; subst hv
    obtain rfl := Option.some.inj hr
    exact ⟨_, fun w => rfl, rfl⟩
  · simp only [VRel, CRel, SRel] at hv; subst hv
    obtain rfl := Option.some.inj hr
    exact ⟨_, fun w => rfl, rfl⟩
  · simp only [VRel, CRel, SRel] at hv; subst hv
    obtain rfl := Option.some.inj hr
    exact ⟨_, fun w => rfl, rfl⟩
  · cases hr
theorem convert_sound {s d : TypeId} {x r : AV} {v : Value} (hv : VRel g n x v) (hr : convertA P s d x = some r) : ∃ u, (∀ w : World, (convert s d v).run P w = .ok u w) ∧ VRel g n r u := by
  unfold convertA at hr
  split at hr
  · rename_i u1 k k2 m h1 h2
    simp only [VRel, CRel, SRel] at hv; subst hv
    obtain rfl := Option.some.inj hr
    refine ⟨.int k (k.wrap m), fun w => ?_, by simp [VRel, CRel, SRel]⟩
    simp only [convert, Sem.run_bind, run_underlying h1, run_underlying h2, Result.andThen_ok]
    cases u1 <;> rfl
  · rename_i u1 b h1 h2
    simp only [VRel, CRel, SRel] at hv; subst hv
    obtain rfl := Option.some.inj hr
    refine ⟨.string b, fun w => ?_, by simp [VRel, CRel, SRel]⟩
    simp only [convert, Sem.run_bind, run_underlying h1, run_underlying h2, Result.andThen_ok]
    cases u1 <;> rfl
  · cases hr
theorem len_sound (H : HRel g h w) {t ty : TypeId} {x r : AV} {v : Value} (hv : VRel g h.length x v) (hr : lenA P h t x = some r) : ∃ u, (∀ w', Keeps (fun _ => False) w w' → (Builtin.len_ #[t] ty #[v]).run P w' = .ok u w') ∧ VRel g h.length r u := by
  unfold lenA at hr
  split at hr
  · rename_i s hu
    simp only [VRel, CRel, SRel] at hv; subst hv
    obtain rfl := Option.some.inj hr
    exact ⟨.int .i64 s.size, fun w' _ => by simp [Builtin.len_, run_underlying hu, goInt], by simp [VRel, CRel, SRel]⟩
  · rename_i m e hu
    obtain rfl := Option.some.inj hr
    exact ⟨.int .i64 m, fun w' _ => by simp [Builtin.len_, run_underlying hu, goInt], by simp [VRel, CRel, SRel]⟩
  · rename_i l o m s hu
    simp only [VRel, CRel, SRel] at hv
    obtain ⟨hl, cap, o', sp, h1, h2, h3, rfl⟩ := hv
    obtain rfl := Option.some.inj hr
    exact ⟨.int .i64 m, fun w' _ => by simp [Builtin.len_, run_underlying hu, goInt], by simp [VRel, CRel, SRel]⟩
  · rename_i hu
    simp only [VRel, CRel, SRel] at hv; subst hv
    obtain rfl := Option.some.inj hr
    exact ⟨.int .i64 0, fun w' _ => by simp [Builtin.len_, run_underlying hu, goInt], by simp [VRel, CRel, SRel]⟩
  · rename_i hu
    simp only [VRel, CRel, SRel] at hv; subst hv
    obtain rfl := Option.some.inj hr
    exact ⟨.int .i64 0, fun w' _ => by simp [Builtin.len_, run_underlying hu, goInt], by simp [VRel, CRel, SRel]⟩
  · rename_i l hu
    simp only [VRel, CRel, SRel] at hv
    obtain ⟨hl, rfl⟩ := hv
    split at hr
    · rename_i es hm
      obtain rfl := Option.some.inj hr
      obtain ⟨ms, tt, h1, h2, _⟩ := H.obj _ _ hm
      refine ⟨.int .i64 es.length, fun w' hw' => ?_, by simp [VRel, CRel, SRel]⟩
      have : es.length = ms.size := by
        have : ∀ (es : List (CV × CV)) (ms : List MapEntry), MRel g h.length es ms → es.length = ms.length := by
          intro es
          induction es with
          | nil => intro ms h; cases ms <;> simp_all [MRel]
          | cons x xs ih => intro ms h; cases ms <;> simp only [MRel] at h; simp [ih _ h.2]
        have := this _ _ h2
        simpa using this
      have h1' : w'.heap[g.blk l]? = some (.map ms tt) := by rw [hw'.block _ (Array.getElem?_eq_some_iff.1 h1).1 (fun h => h)]; exact h1
      simp [Builtin.len_, run_underlying hu, goInt, getObj, Sem.run, h1', this]
    · cases hr
  · cases hr
theorem min_sound {ts : Array TypeId} {ty : TypeId} {x y r : AV} {v u : Value} (hv : VRel g n x v) (hu : VRel g n y u) (hr : min2A x y = some r) : ∃ z, (∀ w : World, (Builtin.min_ ts ty #[v, u]).run P w = .ok z w) ∧ VRel g n r z := by
  unfold min2A at hr
  split at hr
  · simp only [VRel, CRel, SRel] at hv hu; subst hv; subst hu
    obtain rfl := Option.some.inj hr
    exact ⟨_, fun w => by simp [Builtin.min_, Builtin.min2]; rfl, by simp [VRel, CRel, SRel]⟩
  · cases hr
theorem max_sound {ts : Array TypeId} {ty : TypeId} {x y r : AV} {v u : Value} (hv : VRel g n x v) (hu : VRel g n y u) (hr : max2A x y = some r) : ∃ z, (∀ w : World, (Builtin.max_ ts ty #[v, u]).run P w = .ok z w) ∧ VRel g n r z := by
  unfold max2A at hr
  split at hr
  · simp only [VRel, CRel, SRel] at hv hu; subst hv; subst hu
    obtain rfl := Option.some.inj hr
    exact ⟨_, fun w => by simp [Builtin.max_, Builtin.max2]; rfl, by simp [VRel, CRel, SRel]⟩
  · cases hr
end
end Go.AM
