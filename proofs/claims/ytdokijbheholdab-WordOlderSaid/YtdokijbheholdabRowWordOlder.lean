/- An older word is of the same kind, and of nothing else another one (WordOlder). Conditions: none. -/
import Derived.Test.YtdokijbheholdabRows
import Derived.Test.YtdokijbheholdabWd10
import Derived.Test.YtdokijbheholdabWdOpen
import Derived.Test.YtdokijbheholdabAmOpen
import Derived.WalkKit
import Derived.ProofKit
import Derived.OpenShut
import Derived.ShutString
import Derived.ChangeOld
import Derived.Below
import Derived.SizedLaws
import Derived.Carry
namespace Go.Proofs.Ytdokijbheholdab.wordOlder
open Go.ChangeShapes Go.WideShapes Go.ChangeAt Go.RowKit
open Go.ChangeMaps (open_string shut_string)
set_option linter.unusedVariables false
theorem own : ownKnob Try.prog.godebug = none := by kernel_rfl
theorem laidOut : laidOutB Try.prog = true := by kernel_rfl
open Go.AM in
theorem run {P : Program} {T : Tab} {K : Nat} (S : Sd P T K) (a0 : Int) (w0 : (Lit.int .u64 a0).wf = true) : ∃ h', ev P T K 12 7 [.sc (.int .u64 a0)] 0 [] = some (.v (.sc (.bool true)), h') := by
  have hb := wf_u64 w0
  obtain ⟨w, rfl⟩ := Int.eq_ofNat_of_zero_le hb.1
  exact ⟨_, s7 S (by omega) w (by omega) 0 []⟩
theorem walk (a0 : Int) (w0 : (Lit.int .u64 a0).wf = true) (W : World) : Calls Try.prog 7 #[.int .u64 a0] W (fun e W' => e = .returned (.bool true) ∧ Below W.heap.size W W') := by
  obtain ⟨h', hr⟩ := run (T := Go.AM.tab) (K := 18446744073709551616) ⟨rfl, rfl, Nat.le_refl _⟩ a0 w0
  exact Go.AM.row_call Go.AM.tabOk (by kernel_rfl) (xs := [.sc (.int .u64 a0)]) (vals := [.int .u64 a0]) ⟨rfl, trivial⟩ hr W
set_option maxRecDepth 100000 in
theorem lifted (os : Os) (started : os.Started) (H : Type) (enc : TypeId × Value → H) :
    ReturnsInHanded {} Try.checked os 7 .any (Rows.wordOlderSpec.pre6 enc Try.prog Try.f7 Rows.wordOlderRow.domain false) (Rows.wordOlderSpec.post enc Try.prog Try.f7 false true false false) := by
  refine returnsInHanded_of_change_sized (C := Try.checked) own started (by kernel_rfl) Try.func7
    (ChangeSpec.witness6 (enc := enc) (C := Try.checked) false ⟨#[], #[.int .u64 0], []⟩ 8 (by kernel_rfl) (by kernel_rfl) (by kernel_rfl) (by kernel_rfl)) ?_
  intro W base args ds gs before hval0 hW hcnd hsz0 _
  have hval : ∀ (j : Nat) t v, Try.f7.params[j]? = some t → args[j]? = some v → Value.okWide Try.prog W .any base t v := hval0
  have hW' := hW
  obtain ⟨p, q, hA0, hV, rfl, hfz, hnd⟩ := hW
  have hA : DataW.TrodAll enc Try.prog W 0 (fun _ => true) true Try.f7.params.toList args.toList ds p := hA0
  rw [Try.params7] at hA hval
  obtain ⟨v0, vs0, d0, ds0, p0, q0, hargs, rfl, rfl, h0, r0⟩ := trodAll_cons hA
  obtain ⟨rfl, rfl, rfl⟩ := trodAll_nil r0
  obtain rfl : args = #[v0] := by cases args; simp_all
  obtain ⟨rfl, rfl⟩ := trodVars_none hV
  obtain ⟨a0, rfl, rfl, rfl, w0⟩ := open_int Try.underlying26 (hval 0 26 v0 rfl rfl) h0
  clear hA0 hval0 hsz0
  refine (walk a0 w0 W).mono fun e W' ⟨he, bel⟩ => ?_
  subst he
  exact ⟨_, rfl, _, _, _, [], _, [], hW', trodAll_mk1 (shut_bool Try.underlying4 _), (trodAll_cons_mk (shut_int Try.underlying26 w0) trodAll_mk0), rfl, bel.frame _, fun h => by cases h⟩
theorem over : Rows.wordOlderRow.holds Try.pinned (OpenSpec.ofChange Rows.wordOlderSpec) :=
  OpenClaim.holds_of_wide 7 Try.f7 rfl rfl rfl rfl rfl rfl rfl ⟨rfl, rfl, rfl, rfl, rfl⟩ rfl rfl rfl rfl rfl (by kernel_rfl) Try.func7 (by kernel_rfl)
    (of_decide_eq_true (by kernel_rfl)) (by unfold Func.isWrapper; first | (rw [if_pos (by decide +kernel)]; kernel_rfl) | (rw [if_neg (by decide +kernel)]; exact ⟨rfl, rfl⟩))
    (fun os started H enc _ => lifted os started H enc)
theorem proved : Rows.WordOlderSaid := over
#print axioms proved
end Go.Proofs.Ytdokijbheholdab.wordOlder
namespace Go.Proofs.Ytdokijbheholdab
/-- The row, under a short name, for the claim. -/
theorem wordOlder_holds : Rows.WordOlderSaid := wordOlder.proved
end Go.Proofs.Ytdokijbheholdab
