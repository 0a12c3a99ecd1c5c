/- Ranks and orders lead to each other; the next one has the rank behind (InterLead). Conditions: none. -/
import Derived.Test.YtdokijbheholdaaRows
import Derived.Test.YtdokijbheholdaaIn18
import Derived.Test.YtdokijbheholdaaAmOpen2
import Derived.WalkKit
import Derived.ProofKit
import Derived.OpenShut
import Derived.ShutString
import Derived.ChangeOld
import Derived.Below
import Derived.SizedLaws
import Derived.Carry
namespace Go.Proofs.Ytdokijbheholdaa.interLead
open Go.ChangeShapes Go.WideShapes Go.ChangeAt Go.RowKit
open Go.ChangeMaps (open_string shut_string)
set_option linter.unusedVariables false
theorem own : ownKnob Try.prog.godebug = none := by kernel_rfl
theorem laidOut : laidOutB Try.prog = true := by kernel_rfl
open Go.AM in
theorem run {P : Program} {T : Tab} {K : Nat} (S : Sd P T K) (a0 : Int) (w0 : (Lit.int .u64 a0).wf = true) (h : List Go.AM.AO) (q1 : Go.AM.SV) (f1 : Go.AM.Fits (.slice 1 (.int .i64)) h [q1]) : ∃ h', ev P T K 8 8 [.sc (.int .u64 a0), .sc q1] 0 h = some (.v (.sc (.bool true)), h') := by
  obtain ⟨q, cnt, hS, he⟩ := list_of f1
  obtain rfl : q1 = q := by simpa using he
  have hr := wfU64 w0
  obtain ⟨n0, rfl⟩ := Int.eq_ofNat_of_zero_le hr.1
  exact ⟨_, s8 S (by omega) n0 (by omega) _ cnt 0 h hS⟩
set_option maxRecDepth 100000 in
theorem lifted (os : Os) (started : os.Started) (H : Type) (enc : TypeId × Value → H) :
    ReturnsInHanded {} Try.checked os 8 .any (Rows.interLeadSpec.pre6 enc Try.prog Try.f8 Rows.interLeadRow.domain false) (Rows.interLeadSpec.post enc Try.prog Try.f8 false true false false) := by
  refine returnsInHanded_of_change_sized (C := Try.checked) own started (by kernel_rfl) Try.func8
    (ChangeSpec.witness6 (enc := enc) (C := Try.checked) false ⟨#[], #[.int .u64 0, .slice none 0 0], []⟩ 8 (by kernel_rfl) (by kernel_rfl) (by kernel_rfl) (by kernel_rfl)) ?_
  intro W base args ds gs before hval0 hW hcnd hsz0 _
  have hval : ∀ (j : Nat) t v, Try.f8.params[j]? = some t → args[j]? = some v → Value.okWide Try.prog W .any base t v := hval0
  have hW' := hW
  obtain ⟨p, q, hA0, hV, rfl, hfz, hnd⟩ := hW
  have hA : DataW.TrodAll enc Try.prog W 0 (fun _ => true) true Try.f8.params.toList args.toList ds p := hA0
  rw [Try.params8] at hA hval
  obtain ⟨v0, vs0, d0, ds0, p0, q0, hargs, rfl, rfl, h0, r0⟩ := trodAll_cons hA
  obtain ⟨v1, vs1, d1, ds1, p1, q1, rfl, rfl, rfl, h1, r1⟩ := trodAll_cons r0
  obtain ⟨rfl, rfl, rfl⟩ := trodAll_nil r1
  obtain rfl : args = #[v0, v1] := by cases args; simp_all
  obtain ⟨rfl, rfl⟩ := trodVars_none hV
  obtain ⟨a0, rfl, rfl, rfl, w0⟩ := open_int Try.underlying36 (hval 0 36 v0 rfl rfl) h0
  have k1 := h1
  have lt1 : ∀ x ∈ p1, x.block < W.heap.size := by obtain ⟨m, hm⟩ := k1; exact DataW.trod_lt m _ _ _ hm
  have rd1 : Go.AM.Rd W (.slice 1 (.int .i64)) v1.cells.toList := by obtain ⟨m, hm⟩ := h1; exact Go.AM.rd_of 10 35 _ (by kernel_rfl) m _ _ hm
  obtain ⟨ad1, len1, cap1, rfl⟩ := okWide_slice Try.underlying35 (hval 1 35 v1 rfl rfl)
  obtain ⟨g1, t1, xs1, H1, n1, e1, zz1, f1⟩ := Go.AM.opens_of _ _ rd1 Go.AM.noG [] (Go.AM.HRel.nil W) Go.AM.noRW_nil
  obtain ⟨q1, rfl, z1⟩ := Go.AM.one_of zz1
  clear hA0 hval0 hsz0
  obtain ⟨h', hr⟩ := run (T := Go.AM.tab) (K := 18446744073709551616) ⟨rfl, rfl, Nat.le_refl _⟩ a0 w0 _ q1 f1
  refine (Go.AM.row_call2 Go.AM.tabOk (by kernel_rfl) H1 n1 (xs := [.sc (.int .u64 a0), .sc q1]) (vals := [.int .u64 a0, (.slice ad1 len1 cap1)]) ⟨rfl, z1, trivial⟩ hr).mono fun e W' ⟨he, bel⟩ => ?_
  subst he
  exact ⟨_, rfl, _, _, _, [], _, [], hW', trodAll_mk1 (shut_bool Try.underlying4 _), (trodAll_cons_mk (shut_int Try.underlying36 w0) (trodAll_cons_mk (Below.trod laidOut (by kernel_rfl) (of_decide_eq_true (by kernel_rfl)) k1 bel lt1) trodAll_mk0)), rfl, bel.frame _, fun h => by cases h⟩
theorem over : Rows.interLeadRow.holds Try.pinned (OpenSpec.ofChange Rows.interLeadSpec) :=
  OpenClaim.holds_of_wide 8 Try.f8 rfl rfl rfl rfl rfl rfl rfl ⟨rfl, rfl, rfl, rfl, rfl⟩ rfl rfl rfl rfl rfl (by kernel_rfl) Try.func8 (by kernel_rfl)
    (of_decide_eq_true (by kernel_rfl)) (by unfold Func.isWrapper; first | (rw [if_pos (by decide +kernel)]; kernel_rfl) | (rw [if_neg (by decide +kernel)]; exact ⟨rfl, rfl⟩))
    (fun os started H enc _ => lifted os started H enc)
theorem proved : Rows.InterLeadSaid := over
#print axioms proved
end Go.Proofs.Ytdokijbheholdaa.interLead
namespace Go.Proofs.Ytdokijbheholdaa
/-- The row, under a short name, for the claim. -/
theorem interLead_holds : Rows.InterLeadSaid := interLead.proved
end Go.Proofs.Ytdokijbheholdaa
