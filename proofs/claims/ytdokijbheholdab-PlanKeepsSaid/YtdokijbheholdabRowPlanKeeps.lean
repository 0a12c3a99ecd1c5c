/- Who had records of an object that was Biased to it is told by its word behind it: as its Thin owner, or still as a Biased one, that is Valid, if its class was given a new epoch; objects of other classes stay (PlanKeeps). Conditions: none. -/
import Derived.Test.YtdokijbheholdabRows
import Derived.Test.YtdokijbheholdabPlOpen
import Derived.Test.YtdokijbheholdabPl13
import Derived.Test.YtdokijbheholdabAmOpns
import Derived.WalkKit
import Derived.ProofKit
import Derived.OpenShut
import Derived.ShutString
import Derived.ChangeOld
import Derived.Below
import Derived.SizedLaws
import Derived.Carry
namespace Go.Proofs.Ytdokijbheholdab.planKeeps
open Go.ChangeShapes Go.WideShapes Go.ChangeAt Go.RowKit
open Go.ChangeMaps (open_string shut_string)
set_option linter.unusedVariables false
theorem own : ownKnob Try.prog.godebug = none := by kernel_rfl
theorem laidOut : laidOutB Try.prog = true := by kernel_rfl
open Go.AM in
theorem run {P : Program} {T : Tab} {K : Nat} (S : Sd P T K) (h : List Go.AM.AO) (q0 : Go.AM.SV) (f0 : Go.AM.Fits (.slice 3 Go.AM.shO) h [q0]) (q1 : Go.AM.SV) (f1 : Go.AM.Fits (.slice 3 Go.AM.shK) h [q1]) (xs2 : List Go.AM.SV) (f2 : Go.AM.Fits Go.AM.sh3 h xs2) : ∃ h', ev P T K 15 14 [.sc q0, .sc q1, .ag xs2] 0 h = some (.v (.sc (.bool true)), h') := by
  obtain ⟨q, os, he, hq, hok⟩ := objs_of f0
  obtain rfl : q0 = q := by simpa using he
  obtain ⟨r, cs, he, hr, hcs⟩ := klss_of f1
  obtain rfl : q1 = r := by simpa using he
  obtain ⟨a, b, c, rfl⟩ := arr3_of f2
  exact ⟨_, s14 S (by omega) _ _ os cs a b c hcs 0 h hq hr hok⟩
set_option maxRecDepth 100000 in
theorem lifted (os : Os) (started : os.Started) (H : Type) (enc : TypeId × Value → H) :
    ReturnsInHanded {} Try.checked os 14 .any (Rows.planKeepsSpec.pre6 enc Try.prog Try.f14 Rows.planKeepsRow.domain false) (Rows.planKeepsSpec.post enc Try.prog Try.f14 false true false false) := by
  refine returnsInHanded_of_change_sized (C := Try.checked) own started (by kernel_rfl) Try.func14
    (ChangeSpec.witness6 (enc := enc) (C := Try.checked) false ⟨#[], #[.slice none 0 0, .slice none 0 0, .agg #[.int .i64 0, .int .i64 0, .int .i64 0]], []⟩ 8 (by kernel_rfl) (by kernel_rfl) (by kernel_rfl) (by kernel_rfl)) ?_
  intro W base args ds gs before hval0 hW hcnd hsz0 _
  have hval : ∀ (j : Nat) t v, Try.f14.params[j]? = some t → args[j]? = some v → Value.okWide Try.prog W .any base t v := hval0
  have hW' := hW
  obtain ⟨p, q, hA0, hV, rfl, hfz, hnd⟩ := hW
  have hA : DataW.TrodAll enc Try.prog W 0 (fun _ => true) true Try.f14.params.toList args.toList ds p := hA0
  rw [Try.params14] at hA hval
  obtain ⟨v0, vs0, d0, ds0, p0, q0, hargs, rfl, rfl, h0, r0⟩ := trodAll_cons hA
  obtain ⟨v1, vs1, d1, ds1, p1, q1, rfl, rfl, rfl, h1, r1⟩ := trodAll_cons r0
  obtain ⟨v2, vs2, d2, ds2, p2, q2, rfl, rfl, rfl, h2, r2⟩ := trodAll_cons r1
  obtain ⟨rfl, rfl, rfl⟩ := trodAll_nil r2
  obtain rfl : args = #[v0, v1, v2] := by cases args; simp_all
  obtain ⟨rfl, rfl⟩ := trodVars_none hV
  have k0 := h0
  have lt0 : ∀ x ∈ p0, x.block < W.heap.size := by obtain ⟨m, hm⟩ := k0; exact DataW.trod_lt m _ _ _ hm
  have rd0 : Go.AM.Rd W (.slice 3 Go.AM.shO) v0.cells.toList := by obtain ⟨m, hm⟩ := h0; exact Go.AM.rd_of 10 73 _ (by kernel_rfl) m _ _ hm
  obtain ⟨ad0, len0, cap0, rfl⟩ := okWide_slice Try.underlying73 (hval 0 73 v0 rfl rfl)
  obtain ⟨g0, t0, xs0, H0, n0, e0, zz0, f0⟩ := Go.AM.opens_of _ _ rd0 Go.AM.noG [] (Go.AM.HRel.nil W) Go.AM.noRW_nil
  obtain ⟨q0, rfl, z0⟩ := Go.AM.one_of zz0
  have k1 := h1
  have lt1 : ∀ x ∈ p1, x.block < W.heap.size := by obtain ⟨m, hm⟩ := k1; exact DataW.trod_lt m _ _ _ hm
  have rd1 : Go.AM.Rd W (.slice 3 Go.AM.shK) v1.cells.toList := by obtain ⟨m, hm⟩ := h1; exact Go.AM.rd_of 10 74 _ (by kernel_rfl) m _ _ hm
  obtain ⟨ad1, len1, cap1, rfl⟩ := okWide_slice Try.underlying74 (hval 1 74 v1 rfl rfl)
  obtain ⟨g1, t1, xs1, H1, n1, e1, zz1, f1⟩ := Go.AM.opens_of _ _ rd1 _ _ H0 n0
  obtain ⟨q1, rfl, z1⟩ := Go.AM.one_of zz1
  replace z0 := Go.AM.SRel.mono (n' := (([] : List Go.AM.AO) ++ t0 ++ t1).length) (by simp) e1 _ _ z0
  replace f0 := Go.AM.Fits.mono t1 _ _ f0
  have k2 := h2
  have lt2 : ∀ x ∈ p2, x.block < W.heap.size := by obtain ⟨m, hm⟩ := k2; exact DataW.trod_lt m _ _ _ hm
  have rd2 : Go.AM.Rd W Go.AM.sh3 v2.cells.toList := by obtain ⟨m, hm⟩ := h2; exact Go.AM.rd_of 10 75 _ (by kernel_rfl) m _ _ hm
  obtain ⟨as2, rfl⟩ := Go.AM.okWide_arr Try.underlying75 (hval 2 75 v2 rfl rfl)
  obtain ⟨g2, t2, xs2, H2, n2, e2, z2, f2⟩ := Go.AM.opens_of _ _ rd2 _ _ H1 n1
  replace z0 := Go.AM.SRel.mono (n' := (([] : List Go.AM.AO) ++ t0 ++ t1 ++ t2).length) (by simp) e2 _ _ z0
  replace f0 := Go.AM.Fits.mono t2 _ _ f0
  replace z1 := Go.AM.SRel.mono (n' := (([] : List Go.AM.AO) ++ t0 ++ t1 ++ t2).length) (by simp) e2 _ _ z1
  replace f1 := Go.AM.Fits.mono t2 _ _ f1
  clear hA0 hval0 hsz0
  obtain ⟨h', hr⟩ := run (T := Go.AM.tab) (K := 18446744073709551616) ⟨rfl, rfl, Nat.le_refl _⟩ _ q0 f0 q1 f1 xs2 f2
  refine (Go.AM.row_call2 Go.AM.tabOk (by kernel_rfl) H2 n2 (xs := [.sc q0, .sc q1, .ag xs2]) (vals := [(.slice ad0 len0 cap0), (.slice ad1 len1 cap1), .agg as2]) ⟨z0, z1, ⟨_, rfl, z2⟩, trivial⟩ hr).mono fun e W' ⟨he, bel⟩ => ?_
  subst he
  exact ⟨_, rfl, _, _, _, [], _, [], hW', trodAll_mk1 (shut_bool Try.underlying4 _), (trodAll_cons_mk (Below.trod laidOut (by kernel_rfl) (of_decide_eq_true (by kernel_rfl)) k0 bel lt0) (trodAll_cons_mk (Below.trod laidOut (by kernel_rfl) (of_decide_eq_true (by kernel_rfl)) k1 bel lt1) (trodAll_cons_mk (Below.trod laidOut (by kernel_rfl) (of_decide_eq_true (by kernel_rfl)) k2 bel lt2) trodAll_mk0))), rfl, bel.frame _, fun h => by cases h⟩
theorem over : Rows.planKeepsRow.holds Try.pinned (OpenSpec.ofChange Rows.planKeepsSpec) :=
  OpenClaim.holds_of_wide 14 Try.f14 rfl rfl rfl rfl rfl rfl rfl ⟨rfl, rfl, rfl, rfl, rfl⟩ rfl rfl rfl rfl rfl (by kernel_rfl) Try.func14 (by kernel_rfl)
    (of_decide_eq_true (by kernel_rfl)) (by unfold Func.isWrapper; first | (rw [if_pos (by decide +kernel)]; kernel_rfl) | (rw [if_neg (by decide +kernel)]; exact ⟨rfl, rfl⟩))
    (fun os started H enc _ => lifted os started H enc)
theorem proved : Rows.PlanKeepsSaid := over
#print axioms proved
end Go.Proofs.Ytdokijbheholdab.planKeeps
namespace Go.Proofs.Ytdokijbheholdab
/-- The row, under a short name, for the claim. -/
theorem planKeeps_holds : Rows.PlanKeepsSaid := planKeeps.proved
end Go.Proofs.Ytdokijbheholdab
