/- The least ring, and the order, of any graph are the document's (WfgRings): the tied card. Conditions: none. -/
import Derived.Test.YtdokijbheholdaaDoorRows
import Derived.Test.YtdokijbheholdaaDoorWjR
import Derived.Test.YtdokijbheholdaaDoorWns
import Derived.Test.YtdokijbheholdaaDoorAmOpns
import Derived.WalkKit
import Derived.ProofKit
import Derived.OpenShut
import Derived.ShutString
import Derived.ChangeOld
import Derived.Below
import Derived.SizedLaws
import Derived.Carry
import Derived.LaidMore
import Derived.Lay
import Derived.SevenTiedAt
import Derived.Stop.Joined
import Derived.Test.YtdokijbheholdaaDoorTie
import Derived.Test.YtdokijbheholdaaDoorCards
namespace Go.Proofs.YtdokijbheholdaaDoor.wfgRings
open Go.ChangeShapes Go.WideShapes Go.ChangeAt Go.RowKit
open Go.ChangeMaps (open_string shut_string)
set_option linter.unusedVariables false
theorem own : ownKnob Tryd.prog.godebug = none := by kernel_rfl
theorem laidOut : laidOutB Tryd.prog = true := by kernel_rfl
open Go.AM in
theorem run {P : Program} {T : Tab} {K : Nat} (S : Sd P T K) (h : List Go.AM.AO) (hT : Go.AM.tabB 0 h = true) (q0 : Go.AM.SV) (f0 : Go.AM.Fits (.slice 2 Go.AM.shEd) h [q0]) : ∃ h', ev P T K 22 3 [.sc q0] 0 h = some (.v (.sc (.bool true)), h') := by
  obtain ⟨q, xs, he, hq, _⟩ := edgs_of f0
  obtain rfl : q0 = q := by simpa using he
  exact ⟨_, s3a S (by omega) _ xs 0 h hT hq⟩
set_option maxRecDepth 100000 in
theorem lifted (os : Os) (started : os.Started) (H : Type) (enc : TypeId × Value → H) :
    ReturnsInHanded {} Tryd.checked os 3 .any (fun w args => (Rows.wfgRingsSpec.pre enc Tryd.prog Tryd.f3 Rows.wfgRingsRow.domain false w args ∧ laidMetH Tryd.prog [("math/bits.deBruijn64tab", Rows.laid_math_bits_deBruijn64tab)] w) ∧ sizedMet enc Tryd.prog Tryd.f3 (OpenSpec.ofChange Rows.wfgRingsSpec) false w args) (Rows.wfgRingsSpec.post enc Tryd.prog Tryd.f3 false true false false) := by
  refine returnsInHanded_of_change_and (C := Tryd.checked) (X := fun w _ => laidMetH Tryd.prog [("math/bits.deBruijn64tab", Rows.laid_math_bits_deBruijn64tab)] w) (fun _ _ _ hh h => h.of_heap hh) own started (by kernel_rfl) Tryd.func3
    (ChangeSpec.witness_shaped (enc := enc) (C := Tryd.checked) (os := os) (X := fun w _ => laidMetH Tryd.prog [("math/bits.deBruijn64tab", Rows.laid_math_bits_deBruijn64tab)] w) false (World.laidAll Tryd.prog os [("math/bits.deBruijn64tab", Rows.laid_math_bits_deBruijn64tab)]) #[.slice none 0 0] 8 (World.laidAll_os _ _ _)
      (World.shaped_of_ZipB (by kernel_rfl) (by kernel_rfl)) (by kernel_rfl) (by kernel_rfl) (by kernel_rfl)
      (by rw [MakeChecks.laidMetH_plain _ _ _ (by kernel_rfl)]; exact laidMet_laidAll _ (by kernel_rfl) (by kernel_rfl))) ?_
  intro W base args ds gs before hval0 hW hcnd hsz0 hL _
  have hval : ∀ (j : Nat) t v, Tryd.f3.params[j]? = some t → args[j]? = some v → Value.okWide Tryd.prog W .any base t v := hval0
  have hW' := hW
  obtain ⟨p, q, hA0, hV, rfl, hfz, hnd⟩ := hW
  have hA : DataW.TrodAll enc Tryd.prog W 0 (fun _ => true) true Tryd.f3.params.toList args.toList ds p := hA0
  rw [Tryd.params3] at hA hval
  obtain ⟨v0, vs0, d0, ds0, p0, q0, hargs, rfl, rfl, h0, r0⟩ := trodAll_cons hA
  obtain ⟨rfl, rfl, rfl⟩ := trodAll_nil r0
  obtain rfl : args = #[v0] := by cases args; simp_all
  obtain ⟨rfl, rfl⟩ := trodVars_none hV
  have k0 := h0
  have lt0 : ∀ x ∈ p0, x.block < W.heap.size := by obtain ⟨m, hm⟩ := k0; exact DataW.trod_lt m _ _ _ hm
  have rd0 : Go.AM.Rd W (.slice 2 Go.AM.shEd) v0.cells.toList := by obtain ⟨m, hm⟩ := h0; exact Go.AM.rd_of 10 22 _ (by kernel_rfl) m _ _ hm
  obtain ⟨ad0, len0, cap0, rfl⟩ := okWide_slice Tryd.underlying22 (hval 0 22 v0 rfl rfl)
  obtain ⟨g0, t0, xs0, H0, n0, e0, zz0, f0⟩ := Go.AM.opens_of _ _ rd0 Go.AM.noG [Go.AM.AO.gl 0 Go.AM.tabC] (Go.AM.HRel.gl (tab_cell hL)) Go.AM.noRW_gl
  obtain ⟨q0, rfl, z0⟩ := Go.AM.one_of zz0
  clear hA0 hval0 hsz0
  obtain ⟨h', hr⟩ := run (T := Go.AM.tab) (K := 18446744073709551616) ⟨rfl, rfl, Nat.le_refl _⟩ _ (Go.AM.tab_ok _) q0 f0
  refine (Go.AM.row_call2 Go.AM.tabOk (by kernel_rfl) H0 n0 (xs := [.sc q0]) (vals := [(.slice ad0 len0 cap0)]) ⟨z0, trivial⟩ hr).mono fun e W' ⟨he, bel⟩ => ?_
  subst he
  exact ⟨_, rfl, _, _, _, [], _, [], hW', trodAll_mk1 (shut_bool Tryd.underlying4 _), (trodAll_cons_mk (Below.trod laidOut (by kernel_rfl) (of_decide_eq_true (by kernel_rfl)) k0 bel lt0) trodAll_mk0), rfl, bel.frame _, fun h => by cases h⟩
theorem over : Rows.wfgRingsRow.holds Tryd.pinned (OpenSpec.ofChange Rows.wfgRingsSpec) :=
  OpenClaim.holds_of_wide 3 Tryd.f3 rfl rfl rfl rfl rfl rfl rfl ⟨rfl, rfl, rfl, rfl, rfl⟩ rfl rfl rfl rfl rfl (by kernel_rfl) Tryd.func3 (by kernel_rfl)
    (of_decide_eq_true (by kernel_rfl)) (by unfold Func.isWrapper; first | (rw [if_pos (by decide +kernel)]; kernel_rfl) | (rw [if_neg (by decide +kernel)]; exact ⟨rfl, rfl⟩))
    (fun os started H enc _ => lifted os started H enc)
theorem proved : Rows.WfgRingsSaid := over
#print axioms proved
end Go.Proofs.YtdokijbheholdaaDoor.wfgRings
namespace Go.Proofs.YtdokijbheholdaaDoor
open Go
/-- The tied card, for the claim. -/
theorem wfgRings_holds : Rows.WfgRingsCardSaid :=
  Claim7.holds_tied_plain_at .later [] [.data] true (true, "b0185c13e4344c9f416b7c1a3a3d405a2ab5d2649cca3bd649246f6c2215bb27") false wfgRings.proved (fun _ h => by cases h) (by kernel_rfl) (fun _ h => by cases h) wfgRings_row_tie rfl ⟨rfl, rfl⟩ (by kernel_rfl) rfl
    (fun f fn hf hfn => by
      obtain rfl : f = 3 := Option.some.inj ((show Tryd.prog.funcNamed "futtock/futtocklaw26.WfgRings" = some 3 by kernel_rfl).symm.trans hf) |>.symm
      obtain rfl : fn = Tryd.f3 := (Option.some.inj (Tryd.func3.symm.trans hfn)).symm
      exact ⟨by kernel_rfl, fun j t ht => by
        rw [Tryd.params3] at ht
        have hm : t ∈ [22] := by simpa using Array.mem_of_getElem? ht
        have hall : ([22].all fun u => !Tryd.prog.wantsStandIn u) = true := by kernel_rfl
        exact (show Tryd.prog.wantsStandIn t = false by simpa using List.all_eq_true.1 hall t hm)⟩)
    (by kernel_rfl)
#print axioms wfgRings_holds
end Go.Proofs.YtdokijbheholdaaDoor
