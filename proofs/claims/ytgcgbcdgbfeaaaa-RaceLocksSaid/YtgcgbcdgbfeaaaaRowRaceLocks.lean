/- A cell that one lock is owned at each access to is never Bare; one that just one thread accesses is Fresh or Own (RaceLocks). Conditions: none. -/
import Derived.Test.YtgcgbcdgbfeaaaaRows
import Derived.Test.YtgcgbcdgbfeaaaaRb2
import Derived.Test.YtgcgbcdgbfeaaaaAmOpen2
import Derived.WalkKit
import Derived.ProofKit
import Derived.OpenShut
import Derived.ShutString
import Derived.ChangeOld
import Derived.Below
import Derived.SizedLaws
import Derived.Carry
namespace Go.Proofs.Ytgcgbcdgbfeaaaa.raceLocks
open Go.ChangeShapes Go.WideShapes Go.ChangeAt Go.RowKit
open Go.ChangeMaps (open_string shut_string)
set_option linter.unusedVariables false
theorem own : ownKnob Try.prog.godebug = none := by kernel_rfl
theorem laidOut : laidOutB Try.prog = true := by kernel_rfl
open Go.AM in
theorem run {P : Program} {T : Tab} {K : Nat} (S : Sd P T K) (h : List Go.AM.AO) (q0 : Go.AM.SV) (f0 : Go.AM.Fits (.slice 12 Go.AM.shAc) h [q0]) (a1 : Int) (w1 : (Lit.int .u8 a1).wf = true) (a2 : Int) (w2 : (Lit.int .i64 a2).wf = true) : ∃ h', ev P T K 8 5 [.sc q0, .sc (.int .u8 a1), .sc (.int .i64 a2)] 0 h = some (.v (.sc (.bool true)), h') := by
  obtain ⟨q, xs, he, hq, hw⟩ := acvs_of f0
  obtain rfl : q0 = q := by simpa using he
  exact ⟨_, s5 S (by omega) _ xs (fun x hx => (hw x hx).1) a1 a2 w1 0 h hq⟩
set_option maxRecDepth 100000 in
theorem lifted (os : Os) (started : os.Started) (H : Type) (enc : TypeId × Value → H) :
    ReturnsInHanded {} Try.checked os 5 .any (Rows.raceLocksSpec.pre6 enc Try.prog Try.f5 Rows.raceLocksRow.domain false) (Rows.raceLocksSpec.post enc Try.prog Try.f5 false true false false) := by
  refine returnsInHanded_of_change_sized (C := Try.checked) own started (by kernel_rfl) Try.func5
    (ChangeSpec.witness6 (enc := enc) (C := Try.checked) false ⟨#[], #[.slice none 0 0, .int .u8 0, .int .i64 0], []⟩ 8 (by kernel_rfl) (by kernel_rfl) (by kernel_rfl) (by kernel_rfl)) ?_
  intro W base args ds gs before hval0 hW hcnd hsz0 _
  have hval : ∀ (j : Nat) t v, Try.f5.params[j]? = some t → args[j]? = some v → Value.okWide Try.prog W .any base t v := hval0
  have hW' := hW
  obtain ⟨p, q, hA0, hV, rfl, hfz, hnd⟩ := hW
  have hA : DataW.TrodAll enc Try.prog W 0 (fun _ => true) true Try.f5.params.toList args.toList ds p := hA0
  rw [Try.params5] at hA hval
  obtain ⟨v0, vs0, d0, ds0, p0, q0, hargs, rfl, rfl, h0, r0⟩ := trodAll_cons hA
  obtain ⟨v1, vs1, d1, ds1, p1, q1, rfl, rfl, rfl, h1, r1⟩ := trodAll_cons r0
  obtain ⟨v2, vs2, d2, ds2, p2, q2, rfl, rfl, rfl, h2, r2⟩ := trodAll_cons r1
  obtain ⟨rfl, rfl, rfl⟩ := trodAll_nil r2
  obtain rfl : args = #[v0, v1, v2] := by cases args; simp_all
  obtain ⟨rfl, rfl⟩ := trodVars_none hV
  have k0 := h0
  have lt0 : ∀ x ∈ p0, x.block < W.heap.size := by obtain ⟨m, hm⟩ := k0; exact DataW.trod_lt m _ _ _ hm
  have rd0 : Go.AM.Rd W (.slice 12 Go.AM.shAc) v0.cells.toList := by obtain ⟨m, hm⟩ := h0; exact Go.AM.rd_of 10 22 _ (by kernel_rfl) m _ _ hm
  obtain ⟨ad0, len0, cap0, rfl⟩ := okWide_slice Try.underlying22 (hval 0 22 v0 rfl rfl)
  obtain ⟨g0, t0, xs0, H0, n0, e0, zz0, f0⟩ := Go.AM.opens_of _ _ rd0 Go.AM.noG [] (Go.AM.HRel.nil W) Go.AM.noRW_nil
  obtain ⟨q0, rfl, z0⟩ := Go.AM.one_of zz0
  obtain ⟨a1, rfl, rfl, rfl, w1⟩ := open_int Try.underlying5 (hval 1 5 v1 rfl rfl) h1
  obtain ⟨a2, rfl, rfl, rfl, w2⟩ := open_int Try.underlying3 (hval 2 3 v2 rfl rfl) h2
  clear hA0 hval0 hsz0
  obtain ⟨h', hr⟩ := run (T := Go.AM.tab) (K := 18446744073709551616) ⟨rfl, rfl, Nat.le_refl _⟩ _ q0 f0 a1 w1 a2 w2
  refine (Go.AM.row_call2 Go.AM.tabOk (by kernel_rfl) H0 n0 (xs := [.sc q0, .sc (.int .u8 a1), .sc (.int .i64 a2)]) (vals := [(.slice ad0 len0 cap0), .int .u8 a1, .int .i64 a2]) ⟨z0, rfl, rfl, trivial⟩ hr).mono fun e W' ⟨he, bel⟩ => ?_
  subst he
  exact ⟨_, rfl, _, _, _, [], _, [], hW', trodAll_mk1 (shut_bool Try.underlying4 _), (trodAll_cons_mk (Below.trod laidOut (by kernel_rfl) (of_decide_eq_true (by kernel_rfl)) k0 bel lt0) (trodAll_cons_mk (shut_int Try.underlying5 w1) (trodAll_cons_mk (shut_int Try.underlying3 w2) trodAll_mk0))), rfl, bel.frame _, fun h => by cases h⟩
theorem over : Rows.raceLocksRow.holds Try.pinned (OpenSpec.ofChange Rows.raceLocksSpec) :=
  OpenClaim.holds_of_wide 5 Try.f5 rfl rfl rfl rfl rfl rfl rfl ⟨rfl, rfl, rfl, rfl, rfl⟩ rfl rfl rfl rfl rfl (by kernel_rfl) Try.func5 (by kernel_rfl)
    (of_decide_eq_true (by kernel_rfl)) (by unfold Func.isWrapper; first | (rw [if_pos (by decide +kernel)]; kernel_rfl) | (rw [if_neg (by decide +kernel)]; exact ⟨rfl, rfl⟩))
    (fun os started H enc _ => lifted os started H enc)
theorem proved : Rows.RaceLocksSaid := over
#print axioms proved
end Go.Proofs.Ytgcgbcdgbfeaaaa.raceLocks
namespace Go.Proofs.Ytgcgbcdgbfeaaaa
/-- The row, under a short name, for the claim. -/
theorem raceLocks_holds : Rows.RaceLocksSaid := raceLocks.proved
end Go.Proofs.Ytgcgbcdgbfeaaaa
