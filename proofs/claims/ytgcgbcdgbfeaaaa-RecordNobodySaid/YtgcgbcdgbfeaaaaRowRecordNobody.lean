/- A stack that nobody made answers an error, and has nothing (RecordNobody). Conditions: none. -/
import Derived.Test.YtgcgbcdgbfeaaaaRows
import Derived.Test.YtgcgbcdgbfeaaaaRe8
import Derived.Test.YtgcgbcdgbfeaaaaReOpen
import Derived.Test.YtgcgbcdgbfeaaaaAmOpen2
import Derived.WalkKit
import Derived.ProofKit
import Derived.OpenShut
import Derived.ShutString
import Derived.ChangeOld
import Derived.Below
import Derived.SizedLaws
import Derived.Carry
namespace Go.Proofs.Ytgcgbcdgbfeaaaa.recordNobody
open Go.ChangeShapes Go.WideShapes Go.ChangeAt Go.RowKit
open Go.ChangeMaps (open_string shut_string)
set_option linter.unusedVariables false
theorem own : ownKnob Try.prog.godebug = none := by kernel_rfl
theorem laidOut : laidOutB Try.prog = true := by kernel_rfl
open Go.AM in
theorem run {P : Program} {T : Tab} {K : Nat} (S : Sd P T K) (v0 : Value) (xs0 : List Go.AM.SV) (l0 : xs0.length = 3) (o0 : ∀ (i : Nat) (k : Go.AM.FK), ([.i .u8, .i .i64, .i .u64] : List Go.AM.FK)[i]? = some k → ∃ x, xs0[i]? = some x ∧ k.ok x) (c0 : Go.AM.CRel Go.AM.noG 0 (.ag xs0) v0) : ∃ h', ev P T K 8 9 [.ag xs0] 0 [] = some (.v (.sc (.bool true)), h') := by
  obtain ⟨a, b, c, rfl⟩ := step_of l0 o0
  exact ⟨_, s9 S (by omega) a b c 0 []⟩
theorem walk (v0 : Value) (xs0 : List Go.AM.SV) (l0 : xs0.length = 3) (o0 : ∀ (i : Nat) (k : Go.AM.FK), ([.i .u8, .i .i64, .i .u64] : List Go.AM.FK)[i]? = some k → ∃ x, xs0[i]? = some x ∧ k.ok x) (c0 : Go.AM.CRel Go.AM.noG 0 (.ag xs0) v0) (W : World) : Calls Try.prog 9 #[v0] W (fun e W' => e = .returned (.bool true) ∧ Below W.heap.size W W') := by
  obtain ⟨h', hr⟩ := run (T := Go.AM.tab) (K := 18446744073709551616) ⟨rfl, rfl, Nat.le_refl _⟩ v0 xs0 l0 o0 c0
  exact Go.AM.row_call Go.AM.tabOk (by kernel_rfl) (xs := [.ag xs0]) (vals := [v0]) ⟨c0, trivial⟩ hr W
set_option maxRecDepth 100000 in
theorem lifted (os : Os) (started : os.Started) (H : Type) (enc : TypeId × Value → H) :
    ReturnsInHanded {} Try.checked os 9 .any (Rows.recordNobodySpec.pre6 enc Try.prog Try.f9 Rows.recordNobodyRow.domain false) (Rows.recordNobodySpec.post enc Try.prog Try.f9 false true false false) := by
  refine returnsInHanded_of_change_sized (C := Try.checked) own started (by kernel_rfl) Try.func9
    (ChangeSpec.witness6 (enc := enc) (C := Try.checked) false ⟨#[], #[.agg #[.int .u8 0, .int .i64 0, .int .u64 0]], []⟩ 8 (by kernel_rfl) (by kernel_rfl) (by kernel_rfl) (by kernel_rfl)) ?_
  intro W base args ds gs before hval0 hW hcnd hsz0 _
  have hval : ∀ (j : Nat) t v, Try.f9.params[j]? = some t → args[j]? = some v → Value.okWide Try.prog W .any base t v := hval0
  have hW' := hW
  obtain ⟨p, q, hA0, hV, rfl, hfz, hnd⟩ := hW
  have hA : DataW.TrodAll enc Try.prog W 0 (fun _ => true) true Try.f9.params.toList args.toList ds p := hA0
  rw [Try.params9] at hA hval
  obtain ⟨v0, vs0, d0, ds0, p0, q0, hargs, rfl, rfl, h0, r0⟩ := trodAll_cons hA
  obtain ⟨rfl, rfl, rfl⟩ := trodAll_nil r0
  obtain rfl : args = #[v0] := by cases args; simp_all
  obtain ⟨rfl, rfl⟩ := trodVars_none hV
  have k0 := h0
  have lt0 : ∀ x ∈ p0, x.block < W.heap.size := by obtain ⟨m, hm⟩ := k0; exact DataW.trod_lt m _ _ _ hm
  obtain ⟨xs0, l0, o0, c0⟩ := Go.AM.open_flat (ks := [.i .u8, .i .i64, .i .u64]) Try.underlying56 (by kernel_rfl) (by kernel_rfl) (hval 0 56 v0 rfl rfl) h0
  clear hA0 hval0 hsz0
  refine (walk v0 xs0 l0 o0 c0 W).mono fun e W' ⟨he, bel⟩ => ?_
  subst he
  exact ⟨_, rfl, _, _, _, [], _, [], hW', trodAll_mk1 (shut_bool Try.underlying4 _), (trodAll_cons_mk (Below.trod laidOut (by kernel_rfl) (of_decide_eq_true (by kernel_rfl)) k0 bel lt0) trodAll_mk0), rfl, bel.frame _, fun h => by cases h⟩
theorem over : Rows.recordNobodyRow.holds Try.pinned (OpenSpec.ofChange Rows.recordNobodySpec) :=
  OpenClaim.holds_of_wide 9 Try.f9 rfl rfl rfl rfl rfl rfl rfl ⟨rfl, rfl, rfl, rfl, rfl⟩ rfl rfl rfl rfl rfl (by kernel_rfl) Try.func9 (by kernel_rfl)
    (of_decide_eq_true (by kernel_rfl)) (by unfold Func.isWrapper; first | (rw [if_pos (by decide +kernel)]; kernel_rfl) | (rw [if_neg (by decide +kernel)]; exact ⟨rfl, rfl⟩))
    (fun os started H enc _ => lifted os started H enc)
theorem proved : Rows.RecordNobodySaid := over
#print axioms proved
end Go.Proofs.Ytgcgbcdgbfeaaaa.recordNobody
namespace Go.Proofs.Ytgcgbcdgbfeaaaa
/-- The row, under a short name, for the claim. -/
theorem recordNobody_holds : Rows.RecordNobodySaid := recordNobody.proved
end Go.Proofs.Ytgcgbcdgbfeaaaa
