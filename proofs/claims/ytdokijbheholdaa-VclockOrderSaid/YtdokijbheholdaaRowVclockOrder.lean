/- Clocks are ordered; Join is the least that is above both (VclockOrder). Conditions: none. -/
import Derived.Test.YtdokijbheholdaaRows
import Derived.Test.YtdokijbheholdaaVc6
import Derived.Test.YtdokijbheholdaaAmOpen2
import Derived.WalkKit
import Derived.ProofKit
import Derived.OpenShut
import Derived.ShutString
import Derived.ChangeOld
import Derived.Below
import Derived.SizedLaws
import Derived.Carry
namespace Go.Proofs.Ytdokijbheholdaa.vclockOrder
open Go.ChangeShapes Go.WideShapes Go.ChangeAt Go.RowKit
open Go.ChangeMaps (open_string shut_string)
set_option linter.unusedVariables false
theorem own : ownKnob Try.prog.godebug = none := by kernel_rfl
theorem laidOut : laidOutB Try.prog = true := by kernel_rfl
open Go.AM in
theorem run {P : Program} {T : Tab} {K : Nat} (S : Sd P T K) (h : List Go.AM.AO) (xs0 : List Go.AM.SV) (f0 : Go.AM.Fits Go.AM.shC h xs0) (xs1 : List Go.AM.SV) (f1 : Go.AM.Fits Go.AM.shC h xs1) (xs2 : List Go.AM.SV) (f2 : Go.AM.Fits Go.AM.shC h xs2) : ∃ h', ev P T K 6 4 [.ag xs0, .ag xs1, .ag xs2] 0 h = some (.v (.sc (.bool true)), h') := by
  obtain ⟨a, ha, _, rfl⟩ := clock_of f0
  obtain ⟨b, hb, _, rfl⟩ := clock_of f1
  obtain ⟨c, hc, _, rfl⟩ := clock_of f2
  exact ⟨_, s4 S (by omega) a b c ha hb hc 0 h⟩
set_option maxRecDepth 100000 in
theorem lifted (os : Os) (started : os.Started) (H : Type) (enc : TypeId × Value → H) :
    ReturnsInHanded {} Try.checked os 4 .any (Rows.vclockOrderSpec.pre6 enc Try.prog Try.f4 Rows.vclockOrderRow.domain false) (Rows.vclockOrderSpec.post enc Try.prog Try.f4 false true false false) := by
  refine returnsInHanded_of_change_sized (C := Try.checked) own started (by kernel_rfl) Try.func4
    (ChangeSpec.witness6 (enc := enc) (C := Try.checked) false ⟨#[], #[.agg #[.int .u32 0, .int .u32 0, .int .u32 0, .int .u32 0, .int .u32 0, .int .u32 0, .int .u32 0, .int .u32 0], .agg #[.int .u32 0, .int .u32 0, .int .u32 0, .int .u32 0, .int .u32 0, .int .u32 0, .int .u32 0, .int .u32 0], .agg #[.int .u32 0, .int .u32 0, .int .u32 0, .int .u32 0, .int .u32 0, .int .u32 0, .int .u32 0, .int .u32 0]], []⟩ 8 (by kernel_rfl) (by kernel_rfl) (by kernel_rfl) (by kernel_rfl)) ?_
  intro W base args ds gs before hval0 hW hcnd hsz0 _
  have hval : ∀ (j : Nat) t v, Try.f4.params[j]? = some t → args[j]? = some v → Value.okWide Try.prog W .any base t v := hval0
  have hW' := hW
  obtain ⟨p, q, hA0, hV, rfl, hfz, hnd⟩ := hW
  have hA : DataW.TrodAll enc Try.prog W 0 (fun _ => true) true Try.f4.params.toList args.toList ds p := hA0
  rw [Try.params4] at hA hval
  obtain ⟨v0, vs0, d0, ds0, p0, q0, hargs, rfl, rfl, h0, r0⟩ := trodAll_cons hA
  obtain ⟨v1, vs1, d1, ds1, p1, q1, rfl, rfl, rfl, h1, r1⟩ := trodAll_cons r0
  obtain ⟨v2, vs2, d2, ds2, p2, q2, rfl, rfl, rfl, h2, r2⟩ := trodAll_cons r1
  obtain ⟨rfl, rfl, rfl⟩ := trodAll_nil r2
  obtain rfl : args = #[v0, v1, v2] := by cases args; simp_all
  obtain ⟨rfl, rfl⟩ := trodVars_none hV
  have k0 := h0
  have lt0 : ∀ x ∈ p0, x.block < W.heap.size := by obtain ⟨m, hm⟩ := k0; exact DataW.trod_lt m _ _ _ hm
  have rd0 : Go.AM.Rd W Go.AM.shC v0.cells.toList := by obtain ⟨m, hm⟩ := h0; exact Go.AM.rd_of 10 23 _ (by kernel_rfl) m _ _ hm
  obtain ⟨as0, rfl⟩ := Go.AM.okWide_arr Try.underlying23 (hval 0 23 v0 rfl rfl)
  obtain ⟨g0, t0, xs0, H0, n0, e0, z0, f0⟩ := Go.AM.opens_of _ _ rd0 Go.AM.noG [] (Go.AM.HRel.nil W) Go.AM.noRW_nil
  have k1 := h1
  have lt1 : ∀ x ∈ p1, x.block < W.heap.size := by obtain ⟨m, hm⟩ := k1; exact DataW.trod_lt m _ _ _ hm
  have rd1 : Go.AM.Rd W Go.AM.shC v1.cells.toList := by obtain ⟨m, hm⟩ := h1; exact Go.AM.rd_of 10 23 _ (by kernel_rfl) m _ _ hm
  obtain ⟨as1, rfl⟩ := Go.AM.okWide_arr Try.underlying23 (hval 1 23 v1 rfl rfl)
  obtain ⟨g1, t1, xs1, H1, n1, e1, z1, f1⟩ := Go.AM.opens_of _ _ rd1 _ _ H0 n0
  replace z0 := Go.AM.SRelL.mono (n' := (([] : List Go.AM.AO) ++ t0 ++ t1).length) (by simp) e1 _ _ z0
  replace f0 := Go.AM.Fits.mono t1 _ _ f0
  have k2 := h2
  have lt2 : ∀ x ∈ p2, x.block < W.heap.size := by obtain ⟨m, hm⟩ := k2; exact DataW.trod_lt m _ _ _ hm
  have rd2 : Go.AM.Rd W Go.AM.shC v2.cells.toList := by obtain ⟨m, hm⟩ := h2; exact Go.AM.rd_of 10 23 _ (by kernel_rfl) m _ _ hm
  obtain ⟨as2, rfl⟩ := Go.AM.okWide_arr Try.underlying23 (hval 2 23 v2 rfl rfl)
  obtain ⟨g2, t2, xs2, H2, n2, e2, z2, f2⟩ := Go.AM.opens_of _ _ rd2 _ _ H1 n1
  replace z0 := Go.AM.SRelL.mono (n' := (([] : List Go.AM.AO) ++ t0 ++ t1 ++ t2).length) (by simp) e2 _ _ z0
  replace f0 := Go.AM.Fits.mono t2 _ _ f0
  replace z1 := Go.AM.SRelL.mono (n' := (([] : List Go.AM.AO) ++ t0 ++ t1 ++ t2).length) (by simp) e2 _ _ z1
  replace f1 := Go.AM.Fits.mono t2 _ _ f1
  clear hA0 hval0 hsz0
  obtain ⟨h', hr⟩ := run (T := Go.AM.tab) (K := 18446744073709551616) ⟨rfl, rfl, Nat.le_refl _⟩ _ xs0 f0 xs1 f1 xs2 f2
  refine (Go.AM.row_call2 Go.AM.tabOk (by kernel_rfl) H2 n2 (xs := [.ag xs0, .ag xs1, .ag xs2]) (vals := [.agg as0, .agg as1, .agg as2]) ⟨⟨_, rfl, z0⟩, ⟨_, rfl, z1⟩, ⟨_, rfl, z2⟩, trivial⟩ hr).mono fun e W' ⟨he, bel⟩ => ?_
  subst he
  exact ⟨_, rfl, _, _, _, [], _, [], hW', trodAll_mk1 (shut_bool Try.underlying4 _), (trodAll_cons_mk (Below.trod laidOut (by kernel_rfl) (of_decide_eq_true (by kernel_rfl)) k0 bel lt0) (trodAll_cons_mk (Below.trod laidOut (by kernel_rfl) (of_decide_eq_true (by kernel_rfl)) k1 bel lt1) (trodAll_cons_mk (Below.trod laidOut (by kernel_rfl) (of_decide_eq_true (by kernel_rfl)) k2 bel lt2) trodAll_mk0))), rfl, bel.frame _, fun h => by cases h⟩
theorem over : Rows.vclockOrderRow.holds Try.pinned (OpenSpec.ofChange Rows.vclockOrderSpec) :=
  OpenClaim.holds_of_wide 4 Try.f4 rfl rfl rfl rfl rfl rfl rfl ⟨rfl, rfl, rfl, rfl, rfl⟩ rfl rfl rfl rfl rfl (by kernel_rfl) Try.func4 (by kernel_rfl)
    (of_decide_eq_true (by kernel_rfl)) (by unfold Func.isWrapper; first | (rw [if_pos (by decide +kernel)]; kernel_rfl) | (rw [if_neg (by decide +kernel)]; exact ⟨rfl, rfl⟩))
    (fun os started H enc _ => lifted os started H enc)
theorem proved : Rows.VclockOrderSaid := over
#print axioms proved
end Go.Proofs.Ytdokijbheholdaa.vclockOrder
namespace Go.Proofs.Ytdokijbheholdaa
/-- The row, under a short name, for the claim. -/
theorem vclockOrder_holds : Rows.VclockOrderSaid := vclockOrder.proved
end Go.Proofs.Ytdokijbheholdaa
