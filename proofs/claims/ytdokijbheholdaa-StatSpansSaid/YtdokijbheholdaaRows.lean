/-
  No cell of these rows narrows 'for every input' (looked for: loops, veiled, ifaces, maps, wideKeys, modest, calm, conditions, laid).
  DERIVED. THE GIVEN ROWS OF THIS SEAT. 9 by the template 'for every input the law returns true; each argument reads behind the call as it read before'; 0 by the template 'total and deterministic' (their statements: YtdokijbheholdaaTotals.lean).
  GIVEN WITH THE SEED: the statements are not yours to turn. If you find one false, say at which input.
  Laid BY PROGRAM, IN A SANDBOX (cutbox-rows.mjs): the forced cells as the released guide's own fill.sh prints them over the translation 9d36070fc450affc… (all of the seat's roots in one cut). By AI agents, Wed Nov 11 2026. No macro, syntax, notation, axiom, sorry.
-/
import Derived.Test.YtdokijbheholdaaChecked
import GoSem.Claim
import GoSem.ClaimJoined
import GoSem.ClaimMapViews
import Derived.JoinedTies
import Derived.KernelRfl
namespace Go.Proofs.Ytdokijbheholdaa
/- THE CELL 'sum', in the pinned program and in every row, IS THE sha256 OF THE DUMP (.gsa) THAT YtdokijbheholdaaProg.lean LOADS. Nothing in Lean hashes anything: it is a label: what it is worth is what the hold of that sum in a sandbox is worth. -/
noncomputable def Try.pinned : Pinned := { name := "ytdokijbheholdaa", sum := "9d36070fc450affc9cc080b270b4bc968457c1b2166e62d3d7e4d5c7a082c804", checked := Try.checked }
namespace Rows
def none {H : Type} : Left H := { results := [], args := [] }

/-- 'futtocklaw30.VclockSums': WHATEVER THE INPUT: true; the input reads as it did. -/
def vclockSumsSpec : ChangeSpec := { name := "vclockSums", fn := fun _ => fun
  | [d1, d2, d3] => { results := [.lit (.bool true)], args := [d1, d2, d3] }
  | _ => none }
def vclockSumsRow : OpenClaim := { program := "ytdokijbheholdaa", sum := "9d36070fc450affc9cc080b270b4bc968457c1b2166e62d3d7e4d5c7a082c804", func := "futtock/futtocklaw30.VclockSums", spec := "vclockSums", plainKeys := false, apart := false }
def VclockSumsSaid : Prop := vclockSumsRow.holds Try.pinned (OpenSpec.ofChange vclockSumsSpec)

/-- ITS FALSE NEIGHBOUR: 'it returns false'. Refute it at one input. -/
def vclockSumsWrong : ChangeSpec := { name := "vclockSums", fn := fun _ => fun
  | [d1, d2, d3] => { results := [.lit (.bool false)], args := [d1, d2, d3] }
  | _ => none }
def VclockSumsWrongFalsely : Prop := vclockSumsRow.holds Try.pinned (OpenSpec.ofChange vclockSumsWrong)

/-- 'futtocklaw30.VclockOrder': WHATEVER THE INPUT: true; the input reads as it did. -/
def vclockOrderSpec : ChangeSpec := { name := "vclockOrder", fn := fun _ => fun
  | [d1, d2, d3] => { results := [.lit (.bool true)], args := [d1, d2, d3] }
  | _ => none }
def vclockOrderRow : OpenClaim := { program := "ytdokijbheholdaa", sum := "9d36070fc450affc9cc080b270b4bc968457c1b2166e62d3d7e4d5c7a082c804", func := "futtock/futtocklaw30.VclockOrder", spec := "vclockOrder", plainKeys := false, apart := false }
def VclockOrderSaid : Prop := vclockOrderRow.holds Try.pinned (OpenSpec.ofChange vclockOrderSpec)

/-- ITS FALSE NEIGHBOUR: 'it returns false'. Refute it at one input. -/
def vclockOrderWrong : ChangeSpec := { name := "vclockOrder", fn := fun _ => fun
  | [d1, d2, d3] => { results := [.lit (.bool false)], args := [d1, d2, d3] }
  | _ => none }
def VclockOrderWrongFalsely : Prop := vclockOrderRow.holds Try.pinned (OpenSpec.ofChange vclockOrderWrong)

/-- 'futtocklaw32.InterTotal': WHATEVER THE INPUT: true; the input reads as it did. -/
def interTotalSpec : ChangeSpec := { name := "interTotal", fn := fun _ => fun
  | [d] => { results := [.lit (.bool true)], args := [d] }
  | _ => none }
def interTotalRow : OpenClaim := { program := "ytdokijbheholdaa", sum := "9d36070fc450affc9cc080b270b4bc968457c1b2166e62d3d7e4d5c7a082c804", func := "futtock/futtocklaw32.InterTotal", spec := "interTotal", plainKeys := false, apart := false }
def InterTotalSaid : Prop := interTotalRow.holds Try.pinned (OpenSpec.ofChange interTotalSpec)

/-- ITS FALSE NEIGHBOUR: 'it returns false'. Refute it at one input. -/
def interTotalWrong : ChangeSpec := { name := "interTotal", fn := fun _ => fun
  | [d] => { results := [.lit (.bool false)], args := [d] }
  | _ => none }
def InterTotalWrongFalsely : Prop := interTotalRow.holds Try.pinned (OpenSpec.ofChange interTotalWrong)

/-- 'futtocklaw32.InterNths': WHATEVER THE INPUT: true; the input reads as it did. -/
def interNthsSpec : ChangeSpec := { name := "interNths", fn := fun _ => fun
  | [d1, d2] => { results := [.lit (.bool true)], args := [d1, d2] }
  | _ => none }
def interNthsRow : OpenClaim := { program := "ytdokijbheholdaa", sum := "9d36070fc450affc9cc080b270b4bc968457c1b2166e62d3d7e4d5c7a082c804", func := "futtock/futtocklaw32.InterNths", spec := "interNths", plainKeys := false, apart := false }
def InterNthsSaid : Prop := interNthsRow.holds Try.pinned (OpenSpec.ofChange interNthsSpec)

/-- ITS FALSE NEIGHBOUR: 'it returns false'. Refute it at one input. -/
def interNthsWrong : ChangeSpec := { name := "interNths", fn := fun _ => fun
  | [d1, d2] => { results := [.lit (.bool false)], args := [d1, d2] }
  | _ => none }
def InterNthsWrongFalsely : Prop := interNthsRow.holds Try.pinned (OpenSpec.ofChange interNthsWrong)

/-- 'futtocklaw32.InterRanks': WHATEVER THE INPUT: true; the input reads as it did. -/
def interRanksSpec : ChangeSpec := { name := "interRanks", fn := fun _ => fun
  | [d1, d2] => { results := [.lit (.bool true)], args := [d1, d2] }
  | _ => none }
def interRanksRow : OpenClaim := { program := "ytdokijbheholdaa", sum := "9d36070fc450affc9cc080b270b4bc968457c1b2166e62d3d7e4d5c7a082c804", func := "futtock/futtocklaw32.InterRanks", spec := "interRanks", plainKeys := false, apart := false }
def InterRanksSaid : Prop := interRanksRow.holds Try.pinned (OpenSpec.ofChange interRanksSpec)

/-- ITS FALSE NEIGHBOUR: 'it returns false'. Refute it at one input. -/
def interRanksWrong : ChangeSpec := { name := "interRanks", fn := fun _ => fun
  | [d1, d2] => { results := [.lit (.bool false)], args := [d1, d2] }
  | _ => none }
def InterRanksWrongFalsely : Prop := interRanksRow.holds Try.pinned (OpenSpec.ofChange interRanksWrong)

/-- 'futtocklaw32.InterLead': WHATEVER THE INPUT: true; the input reads as it did. -/
def interLeadSpec : ChangeSpec := { name := "interLead", fn := fun _ => fun
  | [d1, d2] => { results := [.lit (.bool true)], args := [d1, d2] }
  | _ => none }
def interLeadRow : OpenClaim := { program := "ytdokijbheholdaa", sum := "9d36070fc450affc9cc080b270b4bc968457c1b2166e62d3d7e4d5c7a082c804", func := "futtock/futtocklaw32.InterLead", spec := "interLead", plainKeys := false, apart := false }
def InterLeadSaid : Prop := interLeadRow.holds Try.pinned (OpenSpec.ofChange interLeadSpec)

/-- ITS FALSE NEIGHBOUR: 'it returns false'. Refute it at one input. -/
def interLeadWrong : ChangeSpec := { name := "interLead", fn := fun _ => fun
  | [d1, d2] => { results := [.lit (.bool false)], args := [d1, d2] }
  | _ => none }
def InterLeadWrongFalsely : Prop := interLeadRow.holds Try.pinned (OpenSpec.ofChange interLeadWrong)

/-- 'futtocklaw32.InterAll': WHATEVER THE INPUT: true; the input reads as it did. -/
def interAllSpec : ChangeSpec := { name := "interAll", fn := fun _ => fun
  | [d1, d2, d3] => { results := [.lit (.bool true)], args := [d1, d2, d3] }
  | _ => none }
def interAllRow : OpenClaim := { program := "ytdokijbheholdaa", sum := "9d36070fc450affc9cc080b270b4bc968457c1b2166e62d3d7e4d5c7a082c804", func := "futtock/futtocklaw32.InterAll", spec := "interAll", plainKeys := false, apart := false }
def InterAllSaid : Prop := interAllRow.holds Try.pinned (OpenSpec.ofChange interAllSpec)

/-- ITS FALSE NEIGHBOUR: 'it returns false'. Refute it at one input. -/
def interAllWrong : ChangeSpec := { name := "interAll", fn := fun _ => fun
  | [d1, d2, d3] => { results := [.lit (.bool false)], args := [d1, d2, d3] }
  | _ => none }
def InterAllWrongFalsely : Prop := interAllRow.holds Try.pinned (OpenSpec.ofChange interAllWrong)

/-- 'futtocklaw27.StatBoxes': WHATEVER THE INPUT: true; the input reads as it did. -/
def statBoxesSpec : ChangeSpec := { name := "statBoxes", fn := fun _ => fun
  | [d] => { results := [.lit (.bool true)], args := [d] }
  | _ => none }
def statBoxesRow : OpenClaim := { program := "ytdokijbheholdaa", sum := "9d36070fc450affc9cc080b270b4bc968457c1b2166e62d3d7e4d5c7a082c804", func := "futtock/futtocklaw27.StatBoxes", spec := "statBoxes", plainKeys := false, apart := false }
def StatBoxesSaid : Prop := statBoxesRow.holds Try.pinned (OpenSpec.ofChange statBoxesSpec)

/-- ITS FALSE NEIGHBOUR: 'it returns false'. Refute it at one input. -/
def statBoxesWrong : ChangeSpec := { name := "statBoxes", fn := fun _ => fun
  | [d] => { results := [.lit (.bool false)], args := [d] }
  | _ => none }
def StatBoxesWrongFalsely : Prop := statBoxesRow.holds Try.pinned (OpenSpec.ofChange statBoxesWrong)

/-- 'futtocklaw27.StatSpans': WHATEVER THE INPUT: true; the input reads as it did. -/
def statSpansSpec : ChangeSpec := { name := "statSpans", fn := fun _ => fun
  | [d1, d2] => { results := [.lit (.bool true)], args := [d1, d2] }
  | _ => none }
def statSpansRow : OpenClaim := { program := "ytdokijbheholdaa", sum := "9d36070fc450affc9cc080b270b4bc968457c1b2166e62d3d7e4d5c7a082c804", func := "futtock/futtocklaw27.StatSpans", spec := "statSpans", plainKeys := false, apart := false }
def StatSpansSaid : Prop := statSpansRow.holds Try.pinned (OpenSpec.ofChange statSpansSpec)

/-- ITS FALSE NEIGHBOUR: 'it returns false'. Refute it at one input. -/
def statSpansWrong : ChangeSpec := { name := "statSpans", fn := fun _ => fun
  | [d1, d2] => { results := [.lit (.bool false)], args := [d1, d2] }
  | _ => none }
def StatSpansWrongFalsely : Prop := statSpansRow.holds Try.pinned (OpenSpec.ofChange statSpansWrong)

/- THE SECOND FORM. 'bulk': how many values and letters a reading holds, each counted each time it is reached (what is shared counts as often as it is met; a slice's spare places count too). A statement '..UptoSaid' is the law's where the arguments, and the package variables that the reading takes, are together of bulk at most 1048576: NARROWER than '..Said'. Prove '..Said' where nothing that the law and all that it calls make is longer than what came in: it says more and counts as full. Else prove '..UptoSaid'. A law counts once. -/
mutual
def uptoBulk {H : Type} : DataW H → Nat
  | .lit (.string bytes) => bytes.length + 1
  | .lit _ => 1
  | .nil => 1
  | .ptr d => uptoBulk d + 1
  | .slice elems spare => uptoBulkAll elems + uptoBulkAll spare + 1
  | .agg parts => uptoBulkAll parts + 1
  | .iface _ d => uptoBulk d + 1
  | .map entries => uptoBulkEntries entries + 1
  | .held _ => 1
def uptoBulkAll {H : Type} : List (DataW H) → Nat
  | [] => 0
  | d :: r => uptoBulk d + uptoBulkAll r
def uptoBulkEntries {H : Type} : List (Lit × DataW H) → Nat
  | [] => 0
  | x :: r => uptoBulkEntry x + uptoBulkEntries r
def uptoBulkEntry {H : Type} : Lit × DataW H → Nat
  | (.string bytes, d) => bytes.length + uptoBulk d + 1
  | (_, d) => uptoBulk d + 1
 end
def uptoSmall : (H : Type) → List (DataW H) → Bool := fun _ ds => decide (uptoBulkAll ds ≤ 1048576)
def OpenSpec.upto (s : _root_.Go.ChangeSpec) : _root_.Go.OpenSpec := { _root_.Go.OpenSpec.ofChange s with cond := some uptoSmall }

/-- 'futtocklaw30.VclockSums', WHERE WHAT IT READS IS OF BULK AT MOST 1048576: true; the input reads as it did. -/
def vclockSumsUptoRow : OpenClaim := { program := "ytdokijbheholdaa", sum := "9d36070fc450affc9cc080b270b4bc968457c1b2166e62d3d7e4d5c7a082c804", func := "futtock/futtocklaw30.VclockSums", spec := "vclockSums", plainKeys := false, apart := false, narrowed := true }
def VclockSumsUptoSaid : Prop := vclockSumsUptoRow.holds Try.pinned (OpenSpec.upto vclockSumsSpec)

/-- 'futtocklaw30.VclockOrder', WHERE WHAT IT READS IS OF BULK AT MOST 1048576: true; the input reads as it did. -/
def vclockOrderUptoRow : OpenClaim := { program := "ytdokijbheholdaa", sum := "9d36070fc450affc9cc080b270b4bc968457c1b2166e62d3d7e4d5c7a082c804", func := "futtock/futtocklaw30.VclockOrder", spec := "vclockOrder", plainKeys := false, apart := false, narrowed := true }
def VclockOrderUptoSaid : Prop := vclockOrderUptoRow.holds Try.pinned (OpenSpec.upto vclockOrderSpec)

/-- 'futtocklaw32.InterTotal', WHERE WHAT IT READS IS OF BULK AT MOST 1048576: true; the input reads as it did. -/
def interTotalUptoRow : OpenClaim := { program := "ytdokijbheholdaa", sum := "9d36070fc450affc9cc080b270b4bc968457c1b2166e62d3d7e4d5c7a082c804", func := "futtock/futtocklaw32.InterTotal", spec := "interTotal", plainKeys := false, apart := false, narrowed := true }
def InterTotalUptoSaid : Prop := interTotalUptoRow.holds Try.pinned (OpenSpec.upto interTotalSpec)

/-- 'futtocklaw32.InterNths', WHERE WHAT IT READS IS OF BULK AT MOST 1048576: true; the input reads as it did. -/
def interNthsUptoRow : OpenClaim := { program := "ytdokijbheholdaa", sum := "9d36070fc450affc9cc080b270b4bc968457c1b2166e62d3d7e4d5c7a082c804", func := "futtock/futtocklaw32.InterNths", spec := "interNths", plainKeys := false, apart := false, narrowed := true }
def InterNthsUptoSaid : Prop := interNthsUptoRow.holds Try.pinned (OpenSpec.upto interNthsSpec)

/-- 'futtocklaw32.InterRanks', WHERE WHAT IT READS IS OF BULK AT MOST 1048576: true; the input reads as it did. -/
def interRanksUptoRow : OpenClaim := { program := "ytdokijbheholdaa", sum := "9d36070fc450affc9cc080b270b4bc968457c1b2166e62d3d7e4d5c7a082c804", func := "futtock/futtocklaw32.InterRanks", spec := "interRanks", plainKeys := false, apart := false, narrowed := true }
def InterRanksUptoSaid : Prop := interRanksUptoRow.holds Try.pinned (OpenSpec.upto interRanksSpec)

/-- 'futtocklaw32.InterLead', WHERE WHAT IT READS IS OF BULK AT MOST 1048576: true; the input reads as it did. -/
def interLeadUptoRow : OpenClaim := { program := "ytdokijbheholdaa", sum := "9d36070fc450affc9cc080b270b4bc968457c1b2166e62d3d7e4d5c7a082c804", func := "futtock/futtocklaw32.InterLead", spec := "interLead", plainKeys := false, apart := false, narrowed := true }
def InterLeadUptoSaid : Prop := interLeadUptoRow.holds Try.pinned (OpenSpec.upto interLeadSpec)

/-- 'futtocklaw32.InterAll', WHERE WHAT IT READS IS OF BULK AT MOST 1048576: true; the input reads as it did. -/
def interAllUptoRow : OpenClaim := { program := "ytdokijbheholdaa", sum := "9d36070fc450affc9cc080b270b4bc968457c1b2166e62d3d7e4d5c7a082c804", func := "futtock/futtocklaw32.InterAll", spec := "interAll", plainKeys := false, apart := false, narrowed := true }
def InterAllUptoSaid : Prop := interAllUptoRow.holds Try.pinned (OpenSpec.upto interAllSpec)

/-- 'futtocklaw27.StatBoxes', WHERE WHAT IT READS IS OF BULK AT MOST 1048576: true; the input reads as it did. -/
def statBoxesUptoRow : OpenClaim := { program := "ytdokijbheholdaa", sum := "9d36070fc450affc9cc080b270b4bc968457c1b2166e62d3d7e4d5c7a082c804", func := "futtock/futtocklaw27.StatBoxes", spec := "statBoxes", plainKeys := false, apart := false, narrowed := true }
def StatBoxesUptoSaid : Prop := statBoxesUptoRow.holds Try.pinned (OpenSpec.upto statBoxesSpec)

/-- 'futtocklaw27.StatSpans', WHERE WHAT IT READS IS OF BULK AT MOST 1048576: true; the input reads as it did. -/
def statSpansUptoRow : OpenClaim := { program := "ytdokijbheholdaa", sum := "9d36070fc450affc9cc080b270b4bc968457c1b2166e62d3d7e4d5c7a082c804", func := "futtock/futtocklaw27.StatSpans", spec := "statSpans", plainKeys := false, apart := false, narrowed := true }
def StatSpansUptoSaid : Prop := statSpansUptoRow.holds Try.pinned (OpenSpec.upto statSpansSpec)

end Rows
end Go.Proofs.Ytdokijbheholdaa
