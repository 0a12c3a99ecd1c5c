/- What is saved is Neutral of the word's Age, and just where a thread owns it (PlanSaved). Conditions: none. -/
import Derived.Test.YtdokijbheholdabRows
import Derived.Test.YtdokijbheholdabPl4
import Derived.Test.YtdokijbheholdabAmOpen2
import Derived.WalkKit
import Derived.ProofKit
import Derived.OpenShut
import Derived.ShutString
import Derived.ChangeOld
import Derived.Below
import Derived.SizedLaws
import Derived.Carry
namespace Go.Proofs.Ytdokijbheholdab.planSaved
open Go.ChangeShapes Go.WideShapes Go.ChangeAt Go.RowKit
open Go.ChangeMaps (open_string shut_string)
set_option linter.unusedVariables false
theorem own : ownKnob Try.prog.godebug = none := by kernel_rfl
theorem laidOut : laidOutB Try.prog = true := by kernel_rfl
open Go.AM in
theorem run {P : Program} {T : Tab} {K : Nat} (S : Sd P T K) (a0 : Int) (w0 : (Lit.int .i64 a0).wf = true) (h : List Go.AM.AO) (xs1 : List Go.AM.SV) (f1 : Go.AM.Fits (.pair 1 (.int .u64) (.pair 1 (.int .i64) (.pair 1 (.slice 1 (.int .i64)) .nil))) h xs1) : ∃ h', ev P T K 15 12 [.sc (.int .i64 a0), .ag xs1] 0 h = some (.v (.sc (.bool true)), h') := by
  obtain ⟨w, k, q, cnt, hw, hS, rfl⟩ := obj_of f1
  exact ⟨_, s12 S (by omega) a0 w hw k q cnt 0 h hS⟩
set_option maxRecDepth 100000 in
theorem lifted (os : Os) (started : os.Started) (H : Type) (enc : TypeId × Value → H) :
    ReturnsInHanded {} Try.checked os 12 .any (Rows.planSavedSpec.pre6 enc Try.prog Try.f12 Rows.planSavedRow.domain false) (Rows.planSavedSpec.post enc Try.prog Try.f12 false true false false) := by
  refine returnsInHanded_of_change_sized (C := Try.checked) own started (by kernel_rfl) Try.func12
    (ChangeSpec.witness6 (enc := enc) (C := Try.checked) false ⟨#[], #[.int .i64 0, .agg #[.int .u64 0, .int .i64 0, .slice none 0 0]], []⟩ 8 (by kernel_rfl) (by kernel_rfl) (by kernel_rfl) (by kernel_rfl)) ?_
  intro W base args ds gs before hval0 hW hcnd hsz0 _
  have hval : ∀ (j : Nat) t v, Try.f12.params[j]? = some t → args[j]? = some v → Value.okWide Try.prog W .any base t v := hval0
  have hW' := hW
  obtain ⟨p, q, hA0, hV, rfl, hfz, hnd⟩ := hW
  have hA : DataW.TrodAll enc Try.prog W 0 (fun _ => true) true Try.f12.params.toList args.toList ds p := hA0
  rw [Try.params12] at hA hval
  obtain ⟨v0, vs0, d0, ds0, p0, q0, hargs, rfl, rfl, h0, r0⟩ := trodAll_cons hA
  obtain ⟨v1, vs1, d1, ds1, p1, q1, rfl, rfl, rfl, h1, r1⟩ := trodAll_cons r0
  obtain ⟨rfl, rfl, rfl⟩ := trodAll_nil r1
  obtain rfl : args = #[v0, v1] := by cases args; simp_all
  obtain ⟨rfl, rfl⟩ := trodVars_none hV
  obtain ⟨a0, rfl, rfl, rfl, w0⟩ := open_int Try.underlying3 (hval 0 3 v0 rfl rfl) h0
  have k1 := h1
  have lt1 : ∀ x ∈ p1, x.block < W.heap.size := by obtain ⟨m, hm⟩ := k1; exact DataW.trod_lt m _ _ _ hm
  have rd1 : Go.AM.Rd W (.pair 1 (.int .u64) (.pair 1 (.int .i64) (.pair 1 (.slice 1 (.int .i64)) .nil))) v1.cells.toList := by obtain ⟨m, hm⟩ := h1; exact Go.AM.rd_of 10 62 _ (by kernel_rfl) m _ _ hm
  obtain ⟨as1, rfl, _⟩ := okWide_struct Try.underlying62 (hval 1 62 v1 rfl rfl)
  obtain ⟨g1, t1, xs1, H1, n1, _, r1, f1⟩ := Go.AM.opens_of _ _ rd1 Go.AM.noG [] (Go.AM.HRel.nil W) Go.AM.noRW_nil
  clear hA0 hval0 hsz0
  obtain ⟨h', hr⟩ := run (T := Go.AM.tab) (K := 18446744073709551616) ⟨rfl, rfl, Nat.le_refl _⟩ a0 w0 _ xs1 f1
  refine (Go.AM.row_call2 Go.AM.tabOk (by kernel_rfl) H1 n1 (xs := [.sc (.int .i64 a0), .ag xs1]) (vals := [.int .i64 a0, .agg as1]) ⟨rfl, ⟨_, rfl, r1⟩, trivial⟩ hr).mono fun e W' ⟨he, bel⟩ => ?_
  subst he
  exact ⟨_, rfl, _, _, _, [], _, [], hW', trodAll_mk1 (shut_bool Try.underlying4 _), (trodAll_cons_mk (shut_int Try.underlying3 w0) (trodAll_cons_mk (Below.trod laidOut (by kernel_rfl) (of_decide_eq_true (by kernel_rfl)) k1 bel lt1) trodAll_mk0)), rfl, bel.frame _, fun h => by cases h⟩
theorem over : Rows.planSavedRow.holds Try.pinned (OpenSpec.ofChange Rows.planSavedSpec) :=
  OpenClaim.holds_of_wide 12 Try.f12 rfl rfl rfl rfl rfl rfl rfl ⟨rfl, rfl, rfl, rfl, rfl⟩ rfl rfl rfl rfl rfl (by kernel_rfl) Try.func12 (by kernel_rfl)
    (of_decide_eq_true (by kernel_rfl)) (by unfold Func.isWrapper; first | (rw [if_pos (by decide +kernel)]; kernel_rfl) | (rw [if_neg (by decide +kernel)]; exact ⟨rfl, rfl⟩))
    (fun os started H enc _ => lifted os started H enc)
theorem proved : Rows.PlanSavedSaid := over
#print axioms proved
end Go.Proofs.Ytdokijbheholdab.planSaved
namespace Go.Proofs.Ytdokijbheholdab
/-- The row, under a short name, for the claim. -/
theorem planSaved_holds : Rows.PlanSavedSaid := planSaved.proved
end Go.Proofs.Ytdokijbheholdab
