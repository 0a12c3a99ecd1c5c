/- A log that nobody made answers an error, and has nothing; what is told may be written over (GhostNobody). Conditions: none. -/
import Derived.Test.YtjhhjmngjmflaaaRows
import Derived.Test.YtjhhjmngjmflaaaGh8
import Derived.Test.YtjhhjmngjmflaaaGhOpen
import Derived.Test.YtjhhjmngjmflaaaAmOpns
import Derived.WalkKit
import Derived.ProofKit
import Derived.OpenShut
import Derived.ShutString
import Derived.ChangeOld
import Derived.Below
import Derived.SizedLaws
import Derived.Carry
namespace Go.Proofs.Ytjhhjmngjmflaaa.ghostNobody
open Go.ChangeShapes Go.WideShapes Go.ChangeAt Go.RowKit
open Go.ChangeMaps (open_string shut_string)
set_option linter.unusedVariables false
theorem own : ownKnob Try.prog.godebug = none := by kernel_rfl
theorem laidOut : laidOutB Try.prog = true := by kernel_rfl
open Go.AM in
theorem run {P : Program} {T : Tab} {K : Nat} (S : Sd P T K) (h : List Go.AM.AO) (xs0 : List Go.AM.SV) (f0 : Go.AM.Fits Go.AM.shEn h xs0) : ∃ h', ev P T K 8 5 [.ag xs0] 0 h = some (.v (.sc (.bool true)), h') := by
  obtain ⟨x, _, rfl⟩ := en_of f0
  exact ⟨_, s5 S (by omega) x 0 h⟩
set_option maxRecDepth 100000 in
theorem lifted (os : Os) (started : os.Started) (H : Type) (enc : TypeId × Value → H) :
    ReturnsInHanded {} Try.checked os 5 .any (Rows.ghostNobodySpec.pre6 enc Try.prog Try.f5 Rows.ghostNobodyRow.domain false) (Rows.ghostNobodySpec.post enc Try.prog Try.f5 false true false false) := by
  refine returnsInHanded_of_change_sized (C := Try.checked) own started (by kernel_rfl) Try.func5
    (ChangeSpec.witness6 (enc := enc) (C := Try.checked) false ⟨#[], #[.agg #[.int .i64 0, .int .i64 0, .int .i64 0, .int .i64 0, .int .i64 0, .int .i64 0, .int .i64 0, .int .i64 0, .int .i64 0, .int .i64 0, .int .i64 0, .int .i64 0, .int .i64 0]], []⟩ 8 (by kernel_rfl) (by kernel_rfl) (by kernel_rfl) (by kernel_rfl)) ?_
  intro W base args ds gs before hval0 hW hcnd hsz0 _
  have hval : ∀ (j : Nat) t v, Try.f5.params[j]? = some t → args[j]? = some v → Value.okWide Try.prog W .any base t v := hval0
  have hW' := hW
  obtain ⟨p, q, hA0, hV, rfl, hfz, hnd⟩ := hW
  have hA : DataW.TrodAll enc Try.prog W 0 (fun _ => true) true Try.f5.params.toList args.toList ds p := hA0
  rw [Try.params5] at hA hval
  obtain ⟨v0, vs0, d0, ds0, p0, q0, hargs, rfl, rfl, h0, r0⟩ := trodAll_cons hA
  obtain ⟨rfl, rfl, rfl⟩ := trodAll_nil r0
  obtain rfl : args = #[v0] := by cases args; simp_all
  obtain ⟨rfl, rfl⟩ := trodVars_none hV
  have k0 := h0
  have lt0 : ∀ x ∈ p0, x.block < W.heap.size := by obtain ⟨m, hm⟩ := k0; exact DataW.trod_lt m _ _ _ hm
  have rd0 : Go.AM.Rd W Go.AM.shEn v0.cells.toList := by obtain ⟨m, hm⟩ := h0; exact Go.AM.rd_of 10 31 _ (by kernel_rfl) m _ _ hm
  obtain ⟨as0, rfl, _⟩ := okWide_struct Try.underlying31 (hval 0 31 v0 rfl rfl)
  obtain ⟨g0, t0, xs0, H0, n0, e0, z0, f0⟩ := Go.AM.opens_of _ _ rd0 Go.AM.noG [] (Go.AM.HRel.nil W) Go.AM.noRW_nil
  clear hA0 hval0 hsz0
  obtain ⟨h', hr⟩ := run (T := Go.AM.tab) (K := 18446744073709551616) ⟨rfl, rfl, Nat.le_refl _⟩ _ xs0 f0
  refine (Go.AM.row_call2 Go.AM.tabOk (by kernel_rfl) H0 n0 (xs := [.ag xs0]) (vals := [.agg as0]) ⟨⟨_, rfl, z0⟩, trivial⟩ hr).mono fun e W' ⟨he, bel⟩ => ?_
  subst he
  exact ⟨_, rfl, _, _, _, [], _, [], hW', trodAll_mk1 (shut_bool Try.underlying4 _), (trodAll_cons_mk (Below.trod laidOut (by kernel_rfl) (of_decide_eq_true (by kernel_rfl)) k0 bel lt0) trodAll_mk0), rfl, bel.frame _, fun h => by cases h⟩
theorem over : Rows.ghostNobodyRow.holds Try.pinned (OpenSpec.ofChange Rows.ghostNobodySpec) :=
  OpenClaim.holds_of_wide 5 Try.f5 rfl rfl rfl rfl rfl rfl rfl ⟨rfl, rfl, rfl, rfl, rfl⟩ rfl rfl rfl rfl rfl (by kernel_rfl) Try.func5 (by kernel_rfl)
    (of_decide_eq_true (by kernel_rfl)) (by unfold Func.isWrapper; first | (rw [if_pos (by decide +kernel)]; kernel_rfl) | (rw [if_neg (by decide +kernel)]; exact ⟨rfl, rfl⟩))
    (fun os started H enc _ => lifted os started H enc)
theorem proved : Rows.GhostNobodySaid := over
#print axioms proved
end Go.Proofs.Ytjhhjmngjmflaaa.ghostNobody
namespace Go.Proofs.Ytjhhjmngjmflaaa
/-- The row, under a short name, for the claim. -/
theorem ghostNobody_holds : Rows.GhostNobodySaid := ghostNobody.proved
end Go.Proofs.Ytjhhjmngjmflaaa
