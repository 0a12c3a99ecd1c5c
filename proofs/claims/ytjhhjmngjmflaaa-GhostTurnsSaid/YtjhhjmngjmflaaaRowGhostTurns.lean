/- Who called and did not return calls no more; each operation that returned has a commit that it tells of, between its Call and its Return (GhostTurns). Conditions: none. -/
import Derived.Test.YtjhhjmngjmflaaaRows
import Derived.Test.YtjhhjmngjmflaaaGh7
import Derived.Test.YtjhhjmngjmflaaaGhOpen
import Derived.Test.YtjhhjmngjmflaaaAmOpns
import Derived.WalkKit
import Derived.ProofKit
import Derived.OpenShut
import Derived.ShutString
import Derived.ChangeOld
import Derived.Below
import Derived.SizedLaws
import Derived.Carry
namespace Go.Proofs.Ytjhhjmngjmflaaa.ghostTurns
open Go.ChangeShapes Go.WideShapes Go.ChangeAt Go.RowKit
open Go.ChangeMaps (open_string shut_string)
set_option linter.unusedVariables false
theorem own : ownKnob Try.prog.godebug = none := by kernel_rfl
theorem laidOut : laidOutB Try.prog = true := by kernel_rfl
open Go.AM in
theorem run {P : Program} {T : Tab} {K : Nat} (S : Sd P T K) (h : List Go.AM.AO) (q0 : Go.AM.SV) (f0 : Go.AM.Fits (.slice 13 Go.AM.shEn) h [q0]) : ∃ h', ev P T K 8 4 [.sc q0] 0 h = some (.v (.sc (.bool true)), h') := by
  obtain ⟨q, xs, he, hq⟩ := ens_of f0
  obtain rfl : q0 = q := by simpa using he
  exact ⟨_, s4 S (by omega) _ xs 0 h hq⟩
set_option maxRecDepth 100000 in
theorem lifted (os : Os) (started : os.Started) (H : Type) (enc : TypeId × Value → H) :
    ReturnsInHanded {} Try.checked os 4 .any (Rows.ghostTurnsSpec.pre6 enc Try.prog Try.f4 Rows.ghostTurnsRow.domain false) (Rows.ghostTurnsSpec.post enc Try.prog Try.f4 false true false false) := by
  refine returnsInHanded_of_change_sized (C := Try.checked) own started (by kernel_rfl) Try.func4
    (ChangeSpec.witness6 (enc := enc) (C := Try.checked) false ⟨#[], #[.slice none 0 0], []⟩ 8 (by kernel_rfl) (by kernel_rfl) (by kernel_rfl) (by kernel_rfl)) ?_
  intro W base args ds gs before hval0 hW hcnd hsz0 _
  have hval : ∀ (j : Nat) t v, Try.f4.params[j]? = some t → args[j]? = some v → Value.okWide Try.prog W .any base t v := hval0
  have hW' := hW
  obtain ⟨p, q, hA0, hV, rfl, hfz, hnd⟩ := hW
  have hA : DataW.TrodAll enc Try.prog W 0 (fun _ => true) true Try.f4.params.toList args.toList ds p := hA0
  rw [Try.params4] at hA hval
  obtain ⟨v0, vs0, d0, ds0, p0, q0, hargs, rfl, rfl, h0, r0⟩ := trodAll_cons hA
  obtain ⟨rfl, rfl, rfl⟩ := trodAll_nil r0
  obtain rfl : args = #[v0] := by cases args; simp_all
  obtain ⟨rfl, rfl⟩ := trodVars_none hV
  have k0 := h0
  have lt0 : ∀ x ∈ p0, x.block < W.heap.size := by obtain ⟨m, hm⟩ := k0; exact DataW.trod_lt m _ _ _ hm
  have rd0 : Go.AM.Rd W (.slice 13 Go.AM.shEn) v0.cells.toList := by obtain ⟨m, hm⟩ := h0; exact Go.AM.rd_of 10 23 _ (by kernel_rfl) m _ _ hm
  obtain ⟨ad0, len0, cap0, rfl⟩ := okWide_slice Try.underlying23 (hval 0 23 v0 rfl rfl)
  obtain ⟨g0, t0, xs0, H0, n0, e0, zz0, f0⟩ := Go.AM.opens_of _ _ rd0 Go.AM.noG [] (Go.AM.HRel.nil W) Go.AM.noRW_nil
  obtain ⟨q0, rfl, z0⟩ := Go.AM.one_of zz0
  clear hA0 hval0 hsz0
  obtain ⟨h', hr⟩ := run (T := Go.AM.tab) (K := 18446744073709551616) ⟨rfl, rfl, Nat.le_refl _⟩ _ q0 f0
  refine (Go.AM.row_call2 Go.AM.tabOk (by kernel_rfl) H0 n0 (xs := [.sc q0]) (vals := [(.slice ad0 len0 cap0)]) ⟨z0, trivial⟩ hr).mono fun e W' ⟨he, bel⟩ => ?_
  subst he
  exact ⟨_, rfl, _, _, _, [], _, [], hW', trodAll_mk1 (shut_bool Try.underlying4 _), (trodAll_cons_mk (Below.trod laidOut (by kernel_rfl) (of_decide_eq_true (by kernel_rfl)) k0 bel lt0) trodAll_mk0), rfl, bel.frame _, fun h => by cases h⟩
theorem over : Rows.ghostTurnsRow.holds Try.pinned (OpenSpec.ofChange Rows.ghostTurnsSpec) :=
  OpenClaim.holds_of_wide 4 Try.f4 rfl rfl rfl rfl rfl rfl rfl ⟨rfl, rfl, rfl, rfl, rfl⟩ rfl rfl rfl rfl rfl (by kernel_rfl) Try.func4 (by kernel_rfl)
    (of_decide_eq_true (by kernel_rfl)) (by unfold Func.isWrapper; first | (rw [if_pos (by decide +kernel)]; kernel_rfl) | (rw [if_neg (by decide +kernel)]; exact ⟨rfl, rfl⟩))
    (fun os started H enc _ => lifted os started H enc)
theorem proved : Rows.GhostTurnsSaid := over
#print axioms proved
end Go.Proofs.Ytjhhjmngjmflaaa.ghostTurns
namespace Go.Proofs.Ytjhhjmngjmflaaa
/-- The row, under a short name, for the claim. -/
theorem ghostTurns_holds : Rows.GhostTurnsSaid := ghostTurns.proved
end Go.Proofs.Ytjhhjmngjmflaaa
