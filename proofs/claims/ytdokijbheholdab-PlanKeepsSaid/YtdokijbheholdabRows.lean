/-
  No cell of these rows narrows 'for every input' (looked for: loops, veiled, ifaces, maps, wideKeys, modest, calm, conditions, laid).
  DERIVED. THE GIVEN ROWS OF THIS SEAT. 12 by the template 'for every input the law returns true; each argument reads behind the call as it read before'; 0 by the template 'total and deterministic' (their statements: YtdokijbheholdabTotals.lean).
  GIVEN WITH THE SEED: the statements are not yours to turn. If you find one false, say at which input.
  Laid BY PROGRAM, IN A SANDBOX (cutbox-rows.mjs): the forced cells as the released guide's own fill.sh prints them over the translation 7d1ac99e70e90799… (all of the seat's roots in one cut). By AI agents, Wed Nov 11 2026. No macro, syntax, notation, axiom, sorry.
-/
import Derived.Test.YtdokijbheholdabChecked
import GoSem.Claim
import GoSem.ClaimJoined
import GoSem.ClaimMapViews
import Derived.JoinedTies
import Derived.KernelRfl
namespace Go.Proofs.Ytdokijbheholdab
/- THE CELL 'sum', in the pinned program and in every row, IS THE sha256 OF THE DUMP (.gsa) THAT YtdokijbheholdabProg.lean LOADS. Nothing in Lean hashes anything: it is a label: what it is worth is what the hold of that sum in a sandbox is worth. -/
noncomputable def Try.pinned : Pinned := { name := "ytdokijbheholdab", sum := "7d1ac99e70e90799445e4b4404e21f7dbfc0586202a1285dbf08694589d6fe2e", checked := Try.checked }
namespace Rows
def none {H : Type} : Left H := { results := [], args := [] }

/-- 'futtocklaw02.WordCodes': WHATEVER THE INPUT: true; the input reads as it did. -/
def wordCodesSpec : ChangeSpec := { name := "wordCodes", fn := fun _ => fun
  | [d] => { results := [.lit (.bool true)], args := [d] }
  | _ => none }
def wordCodesRow : OpenClaim := { program := "ytdokijbheholdab", sum := "7d1ac99e70e90799445e4b4404e21f7dbfc0586202a1285dbf08694589d6fe2e", func := "futtock/futtocklaw02.WordCodes", spec := "wordCodes", unfollowed := true, recurses := true, apart := false }
def WordCodesSaid : Prop := wordCodesRow.holds Try.pinned (OpenSpec.ofChange wordCodesSpec)

/-- ITS FALSE NEIGHBOUR: 'it returns false'. Refute it at one input. -/
def wordCodesWrong : ChangeSpec := { name := "wordCodes", fn := fun _ => fun
  | [d] => { results := [.lit (.bool false)], args := [d] }
  | _ => none }
def WordCodesWrongFalsely : Prop := wordCodesRow.holds Try.pinned (OpenSpec.ofChange wordCodesWrong)

/-- 'futtocklaw02.WordBack': WHATEVER THE INPUT: true; the input reads as it did. -/
def wordBackSpec : ChangeSpec := { name := "wordBack", fn := fun _ => fun
  | [d] => { results := [.lit (.bool true)], args := [d] }
  | _ => none }
def wordBackRow : OpenClaim := { program := "ytdokijbheholdab", sum := "7d1ac99e70e90799445e4b4404e21f7dbfc0586202a1285dbf08694589d6fe2e", func := "futtock/futtocklaw02.WordBack", spec := "wordBack", unfollowed := true, recurses := true, apart := false }
def WordBackSaid : Prop := wordBackRow.holds Try.pinned (OpenSpec.ofChange wordBackSpec)

/-- ITS FALSE NEIGHBOUR: 'it returns false'. Refute it at one input. -/
def wordBackWrong : ChangeSpec := { name := "wordBack", fn := fun _ => fun
  | [d] => { results := [.lit (.bool false)], args := [d] }
  | _ => none }
def WordBackWrongFalsely : Prop := wordBackRow.holds Try.pinned (OpenSpec.ofChange wordBackWrong)

/-- 'futtocklaw02.WordOnce': WHATEVER THE INPUT: true; the input reads as it did. -/
def wordOnceSpec : ChangeSpec := { name := "wordOnce", fn := fun _ => fun
  | [d] => { results := [.lit (.bool true)], args := [d] }
  | _ => none }
def wordOnceRow : OpenClaim := { program := "ytdokijbheholdab", sum := "7d1ac99e70e90799445e4b4404e21f7dbfc0586202a1285dbf08694589d6fe2e", func := "futtock/futtocklaw02.WordOnce", spec := "wordOnce", unfollowed := true, recurses := true, apart := false }
def WordOnceSaid : Prop := wordOnceRow.holds Try.pinned (OpenSpec.ofChange wordOnceSpec)

/-- ITS FALSE NEIGHBOUR: 'it returns false'. Refute it at one input. -/
def wordOnceWrong : ChangeSpec := { name := "wordOnce", fn := fun _ => fun
  | [d] => { results := [.lit (.bool false)], args := [d] }
  | _ => none }
def WordOnceWrongFalsely : Prop := wordOnceRow.holds Try.pinned (OpenSpec.ofChange wordOnceWrong)

/-- 'futtocklaw02.WordReads': WHATEVER THE INPUT: true; the input reads as it did. -/
def wordReadsSpec : ChangeSpec := { name := "wordReads", fn := fun _ => fun
  | [d] => { results := [.lit (.bool true)], args := [d] }
  | _ => none }
def wordReadsRow : OpenClaim := { program := "ytdokijbheholdab", sum := "7d1ac99e70e90799445e4b4404e21f7dbfc0586202a1285dbf08694589d6fe2e", func := "futtock/futtocklaw02.WordReads", spec := "wordReads", unfollowed := true, recurses := true, apart := false }
def WordReadsSaid : Prop := wordReadsRow.holds Try.pinned (OpenSpec.ofChange wordReadsSpec)

/-- ITS FALSE NEIGHBOUR: 'it returns false'. Refute it at one input. -/
def wordReadsWrong : ChangeSpec := { name := "wordReads", fn := fun _ => fun
  | [d] => { results := [.lit (.bool false)], args := [d] }
  | _ => none }
def WordReadsWrongFalsely : Prop := wordReadsRow.holds Try.pinned (OpenSpec.ofChange wordReadsWrong)

/-- 'futtocklaw02.WordOlder': WHATEVER THE INPUT: true; the input reads as it did. -/
def wordOlderSpec : ChangeSpec := { name := "wordOlder", fn := fun _ => fun
  | [d] => { results := [.lit (.bool true)], args := [d] }
  | _ => none }
def wordOlderRow : OpenClaim := { program := "ytdokijbheholdab", sum := "7d1ac99e70e90799445e4b4404e21f7dbfc0586202a1285dbf08694589d6fe2e", func := "futtock/futtocklaw02.WordOlder", spec := "wordOlder", unfollowed := true, recurses := true, apart := false }
def WordOlderSaid : Prop := wordOlderRow.holds Try.pinned (OpenSpec.ofChange wordOlderSpec)

/-- ITS FALSE NEIGHBOUR: 'it returns false'. Refute it at one input. -/
def wordOlderWrong : ChangeSpec := { name := "wordOlder", fn := fun _ => fun
  | [d] => { results := [.lit (.bool false)], args := [d] }
  | _ => none }
def WordOlderWrongFalsely : Prop := wordOlderRow.holds Try.pinned (OpenSpec.ofChange wordOlderWrong)

/-- 'futtocklaw06.KlassWords': WHATEVER THE INPUT: true; the input reads as it did. -/
def klassWordsSpec : ChangeSpec := { name := "klassWords", fn := fun _ => fun
  | [d1, d2] => { results := [.lit (.bool true)], args := [d1, d2] }
  | _ => none }
def klassWordsRow : OpenClaim := { program := "ytdokijbheholdab", sum := "7d1ac99e70e90799445e4b4404e21f7dbfc0586202a1285dbf08694589d6fe2e", func := "futtock/futtocklaw06.KlassWords", spec := "klassWords", unfollowed := true, recurses := true, apart := false }
def KlassWordsSaid : Prop := klassWordsRow.holds Try.pinned (OpenSpec.ofChange klassWordsSpec)

/-- ITS FALSE NEIGHBOUR: 'it returns false'. Refute it at one input. -/
def klassWordsWrong : ChangeSpec := { name := "klassWords", fn := fun _ => fun
  | [d1, d2] => { results := [.lit (.bool false)], args := [d1, d2] }
  | _ => none }
def KlassWordsWrongFalsely : Prop := klassWordsRow.holds Try.pinned (OpenSpec.ofChange klassWordsWrong)

/-- 'futtocklaw06.KlassEpochs': WHATEVER THE INPUT: true; the input reads as it did. -/
def klassEpochsSpec : ChangeSpec := { name := "klassEpochs", fn := fun _ => fun
  | [d1, d2] => { results := [.lit (.bool true)], args := [d1, d2] }
  | _ => none }
def klassEpochsRow : OpenClaim := { program := "ytdokijbheholdab", sum := "7d1ac99e70e90799445e4b4404e21f7dbfc0586202a1285dbf08694589d6fe2e", func := "futtock/futtocklaw06.KlassEpochs", spec := "klassEpochs", unfollowed := true, recurses := true, apart := false }
def KlassEpochsSaid : Prop := klassEpochsRow.holds Try.pinned (OpenSpec.ofChange klassEpochsSpec)

/-- ITS FALSE NEIGHBOUR: 'it returns false'. Refute it at one input. -/
def klassEpochsWrong : ChangeSpec := { name := "klassEpochs", fn := fun _ => fun
  | [d1, d2] => { results := [.lit (.bool false)], args := [d1, d2] }
  | _ => none }
def KlassEpochsWrongFalsely : Prop := klassEpochsRow.holds Try.pinned (OpenSpec.ofChange klassEpochsWrong)

/-- 'futtocklaw06.KlassCounts': WHATEVER THE INPUT: true; the input reads as it did. -/
def klassCountsSpec : ChangeSpec := { name := "klassCounts", fn := fun _ => fun
  | [d1, d2, d3] => { results := [.lit (.bool true)], args := [d1, d2, d3] }
  | _ => none }
def klassCountsRow : OpenClaim := { program := "ytdokijbheholdab", sum := "7d1ac99e70e90799445e4b4404e21f7dbfc0586202a1285dbf08694589d6fe2e", func := "futtock/futtocklaw06.KlassCounts", spec := "klassCounts", unfollowed := true, recurses := true, apart := false }
def KlassCountsSaid : Prop := klassCountsRow.holds Try.pinned (OpenSpec.ofChange klassCountsSpec)

/-- ITS FALSE NEIGHBOUR: 'it returns false'. Refute it at one input. -/
def klassCountsWrong : ChangeSpec := { name := "klassCounts", fn := fun _ => fun
  | [d1, d2, d3] => { results := [.lit (.bool false)], args := [d1, d2, d3] }
  | _ => none }
def KlassCountsWrongFalsely : Prop := klassCountsRow.holds Try.pinned (OpenSpec.ofChange klassCountsWrong)

/-- 'futtocklaw19.PlanOnes': WHATEVER THE INPUT: true; the input reads as it did. -/
def planOnesSpec : ChangeSpec := { name := "planOnes", fn := fun _ => fun
  | [d1, d2] => { results := [.lit (.bool true)], args := [d1, d2] }
  | _ => none }
def planOnesRow : OpenClaim := { program := "ytdokijbheholdab", sum := "7d1ac99e70e90799445e4b4404e21f7dbfc0586202a1285dbf08694589d6fe2e", func := "futtock/futtocklaw19.PlanOnes", spec := "planOnes", unfollowed := true, recurses := true, apart := false }
def PlanOnesSaid : Prop := planOnesRow.holds Try.pinned (OpenSpec.ofChange planOnesSpec)

/-- ITS FALSE NEIGHBOUR: 'it returns false'. Refute it at one input. -/
def planOnesWrong : ChangeSpec := { name := "planOnes", fn := fun _ => fun
  | [d1, d2] => { results := [.lit (.bool false)], args := [d1, d2] }
  | _ => none }
def PlanOnesWrongFalsely : Prop := planOnesRow.holds Try.pinned (OpenSpec.ofChange planOnesWrong)

/-- 'futtocklaw19.PlanSaved': WHATEVER THE INPUT: true; the input reads as it did. -/
def planSavedSpec : ChangeSpec := { name := "planSaved", fn := fun _ => fun
  | [d1, d2] => { results := [.lit (.bool true)], args := [d1, d2] }
  | _ => none }
def planSavedRow : OpenClaim := { program := "ytdokijbheholdab", sum := "7d1ac99e70e90799445e4b4404e21f7dbfc0586202a1285dbf08694589d6fe2e", func := "futtock/futtocklaw19.PlanSaved", spec := "planSaved", unfollowed := true, recurses := true, apart := false }
def PlanSavedSaid : Prop := planSavedRow.holds Try.pinned (OpenSpec.ofChange planSavedSpec)

/-- ITS FALSE NEIGHBOUR: 'it returns false'. Refute it at one input. -/
def planSavedWrong : ChangeSpec := { name := "planSaved", fn := fun _ => fun
  | [d1, d2] => { results := [.lit (.bool false)], args := [d1, d2] }
  | _ => none }
def PlanSavedWrongFalsely : Prop := planSavedRow.holds Try.pinned (OpenSpec.ofChange planSavedWrong)

/-- 'futtocklaw19.PlanRevokes': WHATEVER THE INPUT: true; the input reads as it did. -/
def planRevokesSpec : ChangeSpec := { name := "planRevokes", fn := fun _ => fun
  | [d1, d2, d3] => { results := [.lit (.bool true)], args := [d1, d2, d3] }
  | _ => none }
def planRevokesRow : OpenClaim := { program := "ytdokijbheholdab", sum := "7d1ac99e70e90799445e4b4404e21f7dbfc0586202a1285dbf08694589d6fe2e", func := "futtock/futtocklaw19.PlanRevokes", spec := "planRevokes", unfollowed := true, recurses := true, apart := false }
def PlanRevokesSaid : Prop := planRevokesRow.holds Try.pinned (OpenSpec.ofChange planRevokesSpec)

/-- ITS FALSE NEIGHBOUR: 'it returns false'. Refute it at one input. -/
def planRevokesWrong : ChangeSpec := { name := "planRevokes", fn := fun _ => fun
  | [d1, d2, d3] => { results := [.lit (.bool false)], args := [d1, d2, d3] }
  | _ => none }
def PlanRevokesWrongFalsely : Prop := planRevokesRow.holds Try.pinned (OpenSpec.ofChange planRevokesWrong)

/-- 'futtocklaw19.PlanKeeps': WHATEVER THE INPUT: true; the input reads as it did. -/
def planKeepsSpec : ChangeSpec := { name := "planKeeps", fn := fun _ => fun
  | [d1, d2, d3] => { results := [.lit (.bool true)], args := [d1, d2, d3] }
  | _ => none }
def planKeepsRow : OpenClaim := { program := "ytdokijbheholdab", sum := "7d1ac99e70e90799445e4b4404e21f7dbfc0586202a1285dbf08694589d6fe2e", func := "futtock/futtocklaw19.PlanKeeps", spec := "planKeeps", unfollowed := true, recurses := true, apart := false }
def PlanKeepsSaid : Prop := planKeepsRow.holds Try.pinned (OpenSpec.ofChange planKeepsSpec)

/-- ITS FALSE NEIGHBOUR: 'it returns false'. Refute it at one input. -/
def planKeepsWrong : ChangeSpec := { name := "planKeeps", fn := fun _ => fun
  | [d1, d2, d3] => { results := [.lit (.bool false)], args := [d1, d2, d3] }
  | _ => none }
def PlanKeepsWrongFalsely : Prop := planKeepsRow.holds Try.pinned (OpenSpec.ofChange planKeepsWrong)

/- THE SECOND FORM. 'bulk': how many values and letters a reading holds, each counted each time it is reached (what is shared counts as often as it is met; a slice's spare places count too). A statement '..UptoSaid' is the law's where the arguments, and the package variables that the reading takes, are together of bulk at most 1048576: NARROWER than '..Said'. Prove '..Said' where nothing that the law and all that it calls make is longer than what came in: it says more and counts as full. Else prove '..UptoSaid'. A law counts once. -/
mutual
def uptoBulk {H : Type} : DataW H → Nat
  | .lit (.string bytes) => bytes.length + 1
  | .lit _ => 1
  | .nil => 1
  | .ptr d => uptoBulk d + 1
  | .slice elems spare => uptoBulkAll elems + uptoBulkAll spare + 1
  | .agg parts => uptoBulkAll parts + 1
  | .iface _ d => uptoBulk d + 1
  | .map entries => uptoBulkEntries entries + 1
  | .held _ => 1
def uptoBulkAll {H : Type} : List (DataW H) → Nat
  | [] => 0
  | d :: r => uptoBulk d + uptoBulkAll r
def uptoBulkEntries {H : Type} : List (Lit × DataW H) → Nat
  | [] => 0
  | x :: r => uptoBulkEntry x + uptoBulkEntries r
def uptoBulkEntry {H : Type} : Lit × DataW H → Nat
  | (.string bytes, d) => bytes.length + uptoBulk d + 1
  | (_, d) => uptoBulk d + 1
 end
def uptoSmall : (H : Type) → List (DataW H) → Bool := fun _ ds => decide (uptoBulkAll ds ≤ 1048576)
def OpenSpec.upto (s : _root_.Go.ChangeSpec) : _root_.Go.OpenSpec := { _root_.Go.OpenSpec.ofChange s with cond := some uptoSmall }

/-- 'futtocklaw02.WordCodes', WHERE WHAT IT READS IS OF BULK AT MOST 1048576: true; the input reads as it did. -/
def wordCodesUptoRow : OpenClaim := { program := "ytdokijbheholdab", sum := "7d1ac99e70e90799445e4b4404e21f7dbfc0586202a1285dbf08694589d6fe2e", func := "futtock/futtocklaw02.WordCodes", spec := "wordCodes", unfollowed := true, recurses := true, apart := false, narrowed := true }
def WordCodesUptoSaid : Prop := wordCodesUptoRow.holds Try.pinned (OpenSpec.upto wordCodesSpec)

/-- 'futtocklaw02.WordBack', WHERE WHAT IT READS IS OF BULK AT MOST 1048576: true; the input reads as it did. -/
def wordBackUptoRow : OpenClaim := { program := "ytdokijbheholdab", sum := "7d1ac99e70e90799445e4b4404e21f7dbfc0586202a1285dbf08694589d6fe2e", func := "futtock/futtocklaw02.WordBack", spec := "wordBack", unfollowed := true, recurses := true, apart := false, narrowed := true }
def WordBackUptoSaid : Prop := wordBackUptoRow.holds Try.pinned (OpenSpec.upto wordBackSpec)

/-- 'futtocklaw02.WordOnce', WHERE WHAT IT READS IS OF BULK AT MOST 1048576: true; the input reads as it did. -/
def wordOnceUptoRow : OpenClaim := { program := "ytdokijbheholdab", sum := "7d1ac99e70e90799445e4b4404e21f7dbfc0586202a1285dbf08694589d6fe2e", func := "futtock/futtocklaw02.WordOnce", spec := "wordOnce", unfollowed := true, recurses := true, apart := false, narrowed := true }
def WordOnceUptoSaid : Prop := wordOnceUptoRow.holds Try.pinned (OpenSpec.upto wordOnceSpec)

/-- 'futtocklaw02.WordReads', WHERE WHAT IT READS IS OF BULK AT MOST 1048576: true; the input reads as it did. -/
def wordReadsUptoRow : OpenClaim := { program := "ytdokijbheholdab", sum := "7d1ac99e70e90799445e4b4404e21f7dbfc0586202a1285dbf08694589d6fe2e", func := "futtock/futtocklaw02.WordReads", spec := "wordReads", unfollowed := true, recurses := true, apart := false, narrowed := true }
def WordReadsUptoSaid : Prop := wordReadsUptoRow.holds Try.pinned (OpenSpec.upto wordReadsSpec)

/-- 'futtocklaw02.WordOlder', WHERE WHAT IT READS IS OF BULK AT MOST 1048576: true; the input reads as it did. -/
def wordOlderUptoRow : OpenClaim := { program := "ytdokijbheholdab", sum := "7d1ac99e70e90799445e4b4404e21f7dbfc0586202a1285dbf08694589d6fe2e", func := "futtock/futtocklaw02.WordOlder", spec := "wordOlder", unfollowed := true, recurses := true, apart := false, narrowed := true }
def WordOlderUptoSaid : Prop := wordOlderUptoRow.holds Try.pinned (OpenSpec.upto wordOlderSpec)

/-- 'futtocklaw06.KlassWords', WHERE WHAT IT READS IS OF BULK AT MOST 1048576: true; the input reads as it did. -/
def klassWordsUptoRow : OpenClaim := { program := "ytdokijbheholdab", sum := "7d1ac99e70e90799445e4b4404e21f7dbfc0586202a1285dbf08694589d6fe2e", func := "futtock/futtocklaw06.KlassWords", spec := "klassWords", unfollowed := true, recurses := true, apart := false, narrowed := true }
def KlassWordsUptoSaid : Prop := klassWordsUptoRow.holds Try.pinned (OpenSpec.upto klassWordsSpec)

/-- 'futtocklaw06.KlassEpochs', WHERE WHAT IT READS IS OF BULK AT MOST 1048576: true; the input reads as it did. -/
def klassEpochsUptoRow : OpenClaim := { program := "ytdokijbheholdab", sum := "7d1ac99e70e90799445e4b4404e21f7dbfc0586202a1285dbf08694589d6fe2e", func := "futtock/futtocklaw06.KlassEpochs", spec := "klassEpochs", unfollowed := true, recurses := true, apart := false, narrowed := true }
def KlassEpochsUptoSaid : Prop := klassEpochsUptoRow.holds Try.pinned (OpenSpec.upto klassEpochsSpec)

/-- 'futtocklaw06.KlassCounts', WHERE WHAT IT READS IS OF BULK AT MOST 1048576: true; the input reads as it did. -/
def klassCountsUptoRow : OpenClaim := { program := "ytdokijbheholdab", sum := "7d1ac99e70e90799445e4b4404e21f7dbfc0586202a1285dbf08694589d6fe2e", func := "futtock/futtocklaw06.KlassCounts", spec := "klassCounts", unfollowed := true, recurses := true, apart := false, narrowed := true }
def KlassCountsUptoSaid : Prop := klassCountsUptoRow.holds Try.pinned (OpenSpec.upto klassCountsSpec)

/-- 'futtocklaw19.PlanOnes', WHERE WHAT IT READS IS OF BULK AT MOST 1048576: true; the input reads as it did. -/
def planOnesUptoRow : OpenClaim := { program := "ytdokijbheholdab", sum := "7d1ac99e70e90799445e4b4404e21f7dbfc0586202a1285dbf08694589d6fe2e", func := "futtock/futtocklaw19.PlanOnes", spec := "planOnes", unfollowed := true, recurses := true, apart := false, narrowed := true }
def PlanOnesUptoSaid : Prop := planOnesUptoRow.holds Try.pinned (OpenSpec.upto planOnesSpec)

/-- 'futtocklaw19.PlanSaved', WHERE WHAT IT READS IS OF BULK AT MOST 1048576: true; the input reads as it did. -/
def planSavedUptoRow : OpenClaim := { program := "ytdokijbheholdab", sum := "7d1ac99e70e90799445e4b4404e21f7dbfc0586202a1285dbf08694589d6fe2e", func := "futtock/futtocklaw19.PlanSaved", spec := "planSaved", unfollowed := true, recurses := true, apart := false, narrowed := true }
def PlanSavedUptoSaid : Prop := planSavedUptoRow.holds Try.pinned (OpenSpec.upto planSavedSpec)

/-- 'futtocklaw19.PlanRevokes', WHERE WHAT IT READS IS OF BULK AT MOST 1048576: true; the input reads as it did. -/
def planRevokesUptoRow : OpenClaim := { program := "ytdokijbheholdab", sum := "7d1ac99e70e90799445e4b4404e21f7dbfc0586202a1285dbf08694589d6fe2e", func := "futtock/futtocklaw19.PlanRevokes", spec := "planRevokes", unfollowed := true, recurses := true, apart := false, narrowed := true }
def PlanRevokesUptoSaid : Prop := planRevokesUptoRow.holds Try.pinned (OpenSpec.upto planRevokesSpec)

/-- 'futtocklaw19.PlanKeeps', WHERE WHAT IT READS IS OF BULK AT MOST 1048576: true; the input reads as it did. -/
def planKeepsUptoRow : OpenClaim := { program := "ytdokijbheholdab", sum := "7d1ac99e70e90799445e4b4404e21f7dbfc0586202a1285dbf08694589d6fe2e", func := "futtock/futtocklaw19.PlanKeeps", spec := "planKeeps", unfollowed := true, recurses := true, apart := false, narrowed := true }
def PlanKeepsUptoSaid : Prop := planKeepsUptoRow.holds Try.pinned (OpenSpec.upto planKeepsSpec)

end Rows
end Go.Proofs.Ytdokijbheholdab
