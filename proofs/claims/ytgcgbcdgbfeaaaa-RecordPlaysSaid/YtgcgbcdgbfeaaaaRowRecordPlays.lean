/- A stack answers every call, in every order, as the document says, and has behind each the records that the document's has (RecordPlays). Conditions: none. -/
import Derived.Test.YtgcgbcdgbfeaaaaRows
import Derived.Test.YtgcgbcdgbfeaaaaRe18
import Derived.Test.YtgcgbcdgbfeaaaaReOpen
import Derived.Test.YtgcgbcdgbfeaaaaAmOpen2
import Derived.WalkKit
import Derived.ProofKit
import Derived.OpenShut
import Derived.ShutString
import Derived.ChangeOld
import Derived.Below
import Derived.SizedLaws
import Derived.Carry
namespace Go.Proofs.Ytgcgbcdgbfeaaaa.recordPlays
open Go.ChangeShapes Go.WideShapes Go.ChangeAt Go.RowKit
open Go.ChangeMaps (open_string shut_string)
set_option linter.unusedVariables false
theorem own : ownKnob Try.prog.godebug = none := by kernel_rfl
theorem laidOut : laidOutB Try.prog = true := by kernel_rfl
open Go.AM in
theorem run {P : Program} {T : Tab} {K : Nat} (S : Sd P T K) (a0 : Int) (w0 : (Lit.int .i64 a0).wf = true) (h : List Go.AM.AO) (q1 : Go.AM.SV) (f1 : Go.AM.Fits (.slice 3 Go.AM.shSt) h [q1]) : ∃ h', ev P T K 8 8 [.sc (.int .i64 a0), .sc q1] 0 h = some (.v (.sc (.bool true)), h') := by
  obtain ⟨q, xs, he, hq, _⟩ := stvs_of f1
  obtain rfl : q1 = q := by simpa using he
  exact ⟨_, s8 S (by omega) a0 _ xs 0 h hq⟩
set_option maxRecDepth 100000 in
theorem lifted (os : Os) (started : os.Started) (H : Type) (enc : TypeId × Value → H) :
    ReturnsInHanded {} Try.checked os 8 .any (Rows.recordPlaysSpec.pre6 enc Try.prog Try.f8 Rows.recordPlaysRow.domain false) (Rows.recordPlaysSpec.post enc Try.prog Try.f8 false true false false) := by
  refine returnsInHanded_of_change_sized (C := Try.checked) own started (by kernel_rfl) Try.func8
    (ChangeSpec.witness6 (enc := enc) (C := Try.checked) false ⟨#[], #[.int .i64 0, .slice none 0 0], []⟩ 8 (by kernel_rfl) (by kernel_rfl) (by kernel_rfl) (by kernel_rfl)) ?_
  intro W base args ds gs before hval0 hW hcnd hsz0 _
  have hval : ∀ (j : Nat) t v, Try.f8.params[j]? = some t → args[j]? = some v → Value.okWide Try.prog W .any base t v := hval0
  have hW' := hW
  obtain ⟨p, q, hA0, hV, rfl, hfz, hnd⟩ := hW
  have hA : DataW.TrodAll enc Try.prog W 0 (fun _ => true) true Try.f8.params.toList args.toList ds p := hA0
  rw [Try.params8] at hA hval
  obtain ⟨v0, vs0, d0, ds0, p0, q0, hargs, rfl, rfl, h0, r0⟩ := trodAll_cons hA
  obtain ⟨v1, vs1, d1, ds1, p1, q1, rfl, rfl, rfl, h1, r1⟩ := trodAll_cons r0
  obtain ⟨rfl, rfl, rfl⟩ := trodAll_nil r1
  obtain rfl : args = #[v0, v1] := by cases args; simp_all
  obtain ⟨rfl, rfl⟩ := trodVars_none hV
  obtain ⟨a0, rfl, rfl, rfl, w0⟩ := open_int Try.underlying3 (hval 0 3 v0 rfl rfl) h0
  have k1 := h1
  have lt1 : ∀ x ∈ p1, x.block < W.heap.size := by obtain ⟨m, hm⟩ := k1; exact DataW.trod_lt m _ _ _ hm
  have rd1 : Go.AM.Rd W (.slice 3 Go.AM.shSt) v1.cells.toList := by obtain ⟨m, hm⟩ := h1; exact Go.AM.rd_of 10 50 _ (by kernel_rfl) m _ _ hm
  obtain ⟨ad1, len1, cap1, rfl⟩ := okWide_slice Try.underlying50 (hval 1 50 v1 rfl rfl)
  obtain ⟨g1, t1, xs1, H1, n1, e1, zz1, f1⟩ := Go.AM.opens_of _ _ rd1 Go.AM.noG [] (Go.AM.HRel.nil W) Go.AM.noRW_nil
  obtain ⟨q1, rfl, z1⟩ := Go.AM.one_of zz1
  clear hA0 hval0 hsz0
  obtain ⟨h', hr⟩ := run (T := Go.AM.tab) (K := 18446744073709551616) ⟨rfl, rfl, Nat.le_refl _⟩ a0 w0 _ q1 f1
  refine (Go.AM.row_call2 Go.AM.tabOk (by kernel_rfl) H1 n1 (xs := [.sc (.int .i64 a0), .sc q1]) (vals := [.int .i64 a0, (.slice ad1 len1 cap1)]) ⟨rfl, z1, trivial⟩ hr).mono fun e W' ⟨he, bel⟩ => ?_
  subst he
  exact ⟨_, rfl, _, _, _, [], _, [], hW', trodAll_mk1 (shut_bool Try.underlying4 _), (trodAll_cons_mk (shut_int Try.underlying3 w0) (trodAll_cons_mk (Below.trod laidOut (by kernel_rfl) (of_decide_eq_true (by kernel_rfl)) k1 bel lt1) trodAll_mk0)), rfl, bel.frame _, fun h => by cases h⟩
theorem over : Rows.recordPlaysRow.holds Try.pinned (OpenSpec.ofChange Rows.recordPlaysSpec) :=
  OpenClaim.holds_of_wide 8 Try.f8 rfl rfl rfl rfl rfl rfl rfl ⟨rfl, rfl, rfl, rfl, rfl⟩ rfl rfl rfl rfl rfl (by kernel_rfl) Try.func8 (by kernel_rfl)
    (of_decide_eq_true (by kernel_rfl)) (by unfold Func.isWrapper; first | (rw [if_pos (by decide +kernel)]; kernel_rfl) | (rw [if_neg (by decide +kernel)]; exact ⟨rfl, rfl⟩))
    (fun os started H enc _ => lifted os started H enc)
theorem proved : Rows.RecordPlaysSaid := over
#print axioms proved
end Go.Proofs.Ytgcgbcdgbfeaaaa.recordPlays
namespace Go.Proofs.Ytgcgbcdgbfeaaaa
/-- The row, under a short name, for the claim. -/
theorem recordPlays_holds : Rows.RecordPlaysSaid := recordPlays.proved
end Go.Proofs.Ytgcgbcdgbfeaaaa
