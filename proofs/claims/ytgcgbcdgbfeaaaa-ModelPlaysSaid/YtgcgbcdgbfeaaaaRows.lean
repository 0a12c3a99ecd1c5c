/-
  No cell of these rows narrows 'for every input' (looked for: loops, veiled, ifaces, maps, wideKeys, modest, calm, conditions, laid).
  DERIVED. THE GIVEN ROWS OF THIS SEAT. 11 by the template 'for every input the law returns true; each argument reads behind the call as it read before'; 0 by the template 'total and deterministic' (their statements: YtgcgbcdgbfeaaaaTotals.lean).
  GIVEN WITH THE SEED: the statements are not yours to turn. If you find one false, say at which input.
  Laid BY PROGRAM, IN A SANDBOX (cutbox-rows.mjs): the forced cells as the released guide's own fill.sh prints them over the translation 25584d38a060fdbc… (all of the seat's roots in one cut). By AI agents, Wed Nov 11 2026. No macro, syntax, notation, axiom, sorry.
-/
import Derived.Test.YtgcgbcdgbfeaaaaChecked
import GoSem.Claim
import GoSem.ClaimJoined
import GoSem.ClaimMapViews
import Derived.JoinedTies
import Derived.KernelRfl
namespace Go.Proofs.Ytgcgbcdgbfeaaaa
/- THE CELL 'sum', in the pinned program and in every row, IS THE sha256 OF THE DUMP (.gsa) THAT YtgcgbcdgbfeaaaaProg.lean LOADS. Nothing in Lean hashes anything: it is a label: what it is worth is what the hold of that sum in a sandbox is worth. -/
noncomputable def Try.pinned : Pinned := { name := "ytgcgbcdgbfeaaaa", sum := "25584d38a060fdbcee2dbefee430d9d880e1f8da0628502d3a6eeb39b2363372", checked := Try.checked }
namespace Rows
def none {H : Type} : Left H := { results := [], args := [] }

/-- 'futtocklaw31.RaceAll': WHATEVER THE INPUT: true; the input reads as it did. -/
def raceAllSpec : ChangeSpec := { name := "raceAll", fn := fun _ => fun
  | [d] => { results := [.lit (.bool true)], args := [d] }
  | _ => none }
def raceAllRow : OpenClaim := { program := "ytgcgbcdgbfeaaaa", sum := "25584d38a060fdbcee2dbefee430d9d880e1f8da0628502d3a6eeb39b2363372", func := "futtock/futtocklaw31.RaceAll", spec := "raceAll", unfollowed := true, recurses := true, plainKeys := false, apart := false }
def RaceAllSaid : Prop := raceAllRow.holds Try.pinned (OpenSpec.ofChange raceAllSpec)

/-- ITS FALSE NEIGHBOUR: 'it returns false'. Refute it at one input. -/
def raceAllWrong : ChangeSpec := { name := "raceAll", fn := fun _ => fun
  | [d] => { results := [.lit (.bool false)], args := [d] }
  | _ => none }
def RaceAllWrongFalsely : Prop := raceAllRow.holds Try.pinned (OpenSpec.ofChange raceAllWrong)

/-- 'futtocklaw31.RaceEither': WHATEVER THE INPUT: true; the input reads as it did. -/
def raceEitherSpec : ChangeSpec := { name := "raceEither", fn := fun _ => fun
  | [d] => { results := [.lit (.bool true)], args := [d] }
  | _ => none }
def raceEitherRow : OpenClaim := { program := "ytgcgbcdgbfeaaaa", sum := "25584d38a060fdbcee2dbefee430d9d880e1f8da0628502d3a6eeb39b2363372", func := "futtock/futtocklaw31.RaceEither", spec := "raceEither", unfollowed := true, recurses := true, plainKeys := false, apart := false }
def RaceEitherSaid : Prop := raceEitherRow.holds Try.pinned (OpenSpec.ofChange raceEitherSpec)

/-- ITS FALSE NEIGHBOUR: 'it returns false'. Refute it at one input. -/
def raceEitherWrong : ChangeSpec := { name := "raceEither", fn := fun _ => fun
  | [d] => { results := [.lit (.bool false)], args := [d] }
  | _ => none }
def RaceEitherWrongFalsely : Prop := raceEitherRow.holds Try.pinned (OpenSpec.ofChange raceEitherWrong)

/-- 'futtocklaw31.RaceLocks': WHATEVER THE INPUT: true; the input reads as it did. -/
def raceLocksSpec : ChangeSpec := { name := "raceLocks", fn := fun _ => fun
  | [d1, d2, d3] => { results := [.lit (.bool true)], args := [d1, d2, d3] }
  | _ => none }
def raceLocksRow : OpenClaim := { program := "ytgcgbcdgbfeaaaa", sum := "25584d38a060fdbcee2dbefee430d9d880e1f8da0628502d3a6eeb39b2363372", func := "futtock/futtocklaw31.RaceLocks", spec := "raceLocks", unfollowed := true, recurses := true, plainKeys := false, apart := false }
def RaceLocksSaid : Prop := raceLocksRow.holds Try.pinned (OpenSpec.ofChange raceLocksSpec)

/-- ITS FALSE NEIGHBOUR: 'it returns false'. Refute it at one input. -/
def raceLocksWrong : ChangeSpec := { name := "raceLocks", fn := fun _ => fun
  | [d1, d2, d3] => { results := [.lit (.bool false)], args := [d1, d2, d3] }
  | _ => none }
def RaceLocksWrongFalsely : Prop := raceLocksRow.holds Try.pinned (OpenSpec.ofChange raceLocksWrong)

/-- 'futtocklaw09.RecordBack': WHATEVER THE INPUT: true; the input reads as it did. -/
def recordBackSpec : ChangeSpec := { name := "recordBack", fn := fun _ => fun
  | [d1, d2] => { results := [.lit (.bool true)], args := [d1, d2] }
  | _ => none }
def recordBackRow : OpenClaim := { program := "ytgcgbcdgbfeaaaa", sum := "25584d38a060fdbcee2dbefee430d9d880e1f8da0628502d3a6eeb39b2363372", func := "futtock/futtocklaw09.RecordBack", spec := "recordBack", unfollowed := true, recurses := true, plainKeys := false, apart := false }
def RecordBackSaid : Prop := recordBackRow.holds Try.pinned (OpenSpec.ofChange recordBackSpec)

/-- ITS FALSE NEIGHBOUR: 'it returns false'. Refute it at one input. -/
def recordBackWrong : ChangeSpec := { name := "recordBack", fn := fun _ => fun
  | [d1, d2] => { results := [.lit (.bool false)], args := [d1, d2] }
  | _ => none }
def RecordBackWrongFalsely : Prop := recordBackRow.holds Try.pinned (OpenSpec.ofChange recordBackWrong)

/-- 'futtocklaw09.RecordCounts': WHATEVER THE INPUT: true; the input reads as it did. -/
def recordCountsSpec : ChangeSpec := { name := "recordCounts", fn := fun _ => fun
  | [d] => { results := [.lit (.bool true)], args := [d] }
  | _ => none }
def recordCountsRow : OpenClaim := { program := "ytgcgbcdgbfeaaaa", sum := "25584d38a060fdbcee2dbefee430d9d880e1f8da0628502d3a6eeb39b2363372", func := "futtock/futtocklaw09.RecordCounts", spec := "recordCounts", unfollowed := true, recurses := true, plainKeys := false, apart := false }
def RecordCountsSaid : Prop := recordCountsRow.holds Try.pinned (OpenSpec.ofChange recordCountsSpec)

/-- ITS FALSE NEIGHBOUR: 'it returns false'. Refute it at one input. -/
def recordCountsWrong : ChangeSpec := { name := "recordCounts", fn := fun _ => fun
  | [d] => { results := [.lit (.bool false)], args := [d] }
  | _ => none }
def RecordCountsWrongFalsely : Prop := recordCountsRow.holds Try.pinned (OpenSpec.ofChange recordCountsWrong)

/-- 'futtocklaw09.RecordPlays': WHATEVER THE INPUT: true; the input reads as it did. -/
def recordPlaysSpec : ChangeSpec := { name := "recordPlays", fn := fun _ => fun
  | [d1, d2] => { results := [.lit (.bool true)], args := [d1, d2] }
  | _ => none }
def recordPlaysRow : OpenClaim := { program := "ytgcgbcdgbfeaaaa", sum := "25584d38a060fdbcee2dbefee430d9d880e1f8da0628502d3a6eeb39b2363372", func := "futtock/futtocklaw09.RecordPlays", spec := "recordPlays", unfollowed := true, recurses := true, plainKeys := false, apart := false }
def RecordPlaysSaid : Prop := recordPlaysRow.holds Try.pinned (OpenSpec.ofChange recordPlaysSpec)

/-- ITS FALSE NEIGHBOUR: 'it returns false'. Refute it at one input. -/
def recordPlaysWrong : ChangeSpec := { name := "recordPlays", fn := fun _ => fun
  | [d1, d2] => { results := [.lit (.bool false)], args := [d1, d2] }
  | _ => none }
def RecordPlaysWrongFalsely : Prop := recordPlaysRow.holds Try.pinned (OpenSpec.ofChange recordPlaysWrong)

/-- 'futtocklaw09.RecordNobody': WHATEVER THE INPUT: true; the input reads as it did. -/
def recordNobodySpec : ChangeSpec := { name := "recordNobody", fn := fun _ => fun
  | [d] => { results := [.lit (.bool true)], args := [d] }
  | _ => none }
def recordNobodyRow : OpenClaim := { program := "ytgcgbcdgbfeaaaa", sum := "25584d38a060fdbcee2dbefee430d9d880e1f8da0628502d3a6eeb39b2363372", func := "futtock/futtocklaw09.RecordNobody", spec := "recordNobody", unfollowed := true, recurses := true, plainKeys := false, apart := false }
def RecordNobodySaid : Prop := recordNobodyRow.holds Try.pinned (OpenSpec.ofChange recordNobodySpec)

/-- ITS FALSE NEIGHBOUR: 'it returns false'. Refute it at one input. -/
def recordNobodyWrong : ChangeSpec := { name := "recordNobody", fn := fun _ => fun
  | [d] => { results := [.lit (.bool false)], args := [d] }
  | _ => none }
def RecordNobodyWrongFalsely : Prop := recordNobodyRow.holds Try.pinned (OpenSpec.ofChange recordNobodyWrong)

/-- 'futtocklaw14.ModelOwners': WHATEVER THE INPUT: true; the input reads as it did. -/
def modelOwnersSpec : ChangeSpec := { name := "modelOwners", fn := fun _ => fun
  | [d] => { results := [.lit (.bool true)], args := [d] }
  | _ => none }
def modelOwnersRow : OpenClaim := { program := "ytgcgbcdgbfeaaaa", sum := "25584d38a060fdbcee2dbefee430d9d880e1f8da0628502d3a6eeb39b2363372", func := "futtock/futtocklaw14.ModelOwners", spec := "modelOwners", unfollowed := true, recurses := true, plainKeys := false, apart := false }
def ModelOwnersSaid : Prop := modelOwnersRow.holds Try.pinned (OpenSpec.ofChange modelOwnersSpec)

/-- ITS FALSE NEIGHBOUR: 'it returns false'. Refute it at one input. -/
def modelOwnersWrong : ChangeSpec := { name := "modelOwners", fn := fun _ => fun
  | [d] => { results := [.lit (.bool false)], args := [d] }
  | _ => none }
def ModelOwnersWrongFalsely : Prop := modelOwnersRow.holds Try.pinned (OpenSpec.ofChange modelOwnersWrong)

/-- 'futtocklaw14.ModelPlays': WHATEVER THE INPUT: true; the input reads as it did. -/
def modelPlaysSpec : ChangeSpec := { name := "modelPlays", fn := fun _ => fun
  | [d1, d2] => { results := [.lit (.bool true)], args := [d1, d2] }
  | _ => none }
def modelPlaysRow : OpenClaim := { program := "ytgcgbcdgbfeaaaa", sum := "25584d38a060fdbcee2dbefee430d9d880e1f8da0628502d3a6eeb39b2363372", func := "futtock/futtocklaw14.ModelPlays", spec := "modelPlays", unfollowed := true, recurses := true, plainKeys := false, apart := false }
def ModelPlaysSaid : Prop := modelPlaysRow.holds Try.pinned (OpenSpec.ofChange modelPlaysSpec)

/-- ITS FALSE NEIGHBOUR: 'it returns false'. Refute it at one input. -/
def modelPlaysWrong : ChangeSpec := { name := "modelPlays", fn := fun _ => fun
  | [d1, d2] => { results := [.lit (.bool false)], args := [d1, d2] }
  | _ => none }
def ModelPlaysWrongFalsely : Prop := modelPlaysRow.holds Try.pinned (OpenSpec.ofChange modelPlaysWrong)

/-- 'futtocklaw14.ModelErrors': WHATEVER THE INPUT: true; the input reads as it did. -/
def modelErrorsSpec : ChangeSpec := { name := "modelErrors", fn := fun _ => fun
  | [d] => { results := [.lit (.bool true)], args := [d] }
  | _ => none }
def modelErrorsRow : OpenClaim := { program := "ytgcgbcdgbfeaaaa", sum := "25584d38a060fdbcee2dbefee430d9d880e1f8da0628502d3a6eeb39b2363372", func := "futtock/futtocklaw14.ModelErrors", spec := "modelErrors", inPlace := ["maps.clone"], unfollowed := true, recurses := true, plainKeys := false, apart := false }
def ModelErrorsSaid : Prop := modelErrorsRow.holds Try.pinned (OpenSpec.ofChange modelErrorsSpec)

/-- ITS FALSE NEIGHBOUR: 'it returns false'. Refute it at one input. -/
def modelErrorsWrong : ChangeSpec := { name := "modelErrors", fn := fun _ => fun
  | [d] => { results := [.lit (.bool false)], args := [d] }
  | _ => none }
def ModelErrorsWrongFalsely : Prop := modelErrorsRow.holds Try.pinned (OpenSpec.ofChange modelErrorsWrong)

/-- 'futtocklaw14.ModelClones': WHATEVER THE INPUT: true; the input reads as it did. -/
def modelClonesSpec : ChangeSpec := { name := "modelClones", fn := fun _ => fun
  | [d1, d2] => { results := [.lit (.bool true)], args := [d1, d2] }
  | _ => none }
def modelClonesRow : OpenClaim := { program := "ytgcgbcdgbfeaaaa", sum := "25584d38a060fdbcee2dbefee430d9d880e1f8da0628502d3a6eeb39b2363372", func := "futtock/futtocklaw14.ModelClones", spec := "modelClones", inPlace := ["maps.clone"], unfollowed := true, recurses := true, plainKeys := false, apart := false }
def ModelClonesSaid : Prop := modelClonesRow.holds Try.pinned (OpenSpec.ofChange modelClonesSpec)

/-- ITS FALSE NEIGHBOUR: 'it returns false'. Refute it at one input. -/
def modelClonesWrong : ChangeSpec := { name := "modelClones", fn := fun _ => fun
  | [d1, d2] => { results := [.lit (.bool false)], args := [d1, d2] }
  | _ => none }
def ModelClonesWrongFalsely : Prop := modelClonesRow.holds Try.pinned (OpenSpec.ofChange modelClonesWrong)

/- THE SECOND FORM. 'bulk': how many values and letters a reading holds, each counted each time it is reached (what is shared counts as often as it is met; a slice's spare places count too). A statement '..UptoSaid' is the law's where the arguments, and the package variables that the reading takes, are together of bulk at most 1048576: NARROWER than '..Said'. Prove '..Said' where nothing that the law and all that it calls make is longer than what came in: it says more and counts as full. Else prove '..UptoSaid'. A law counts once. -/
mutual
def uptoBulk {H : Type} : DataW H → Nat
  | .lit (.string bytes) => bytes.length + 1
  | .lit _ => 1
  | .nil => 1
  | .ptr d => uptoBulk d + 1
  | .slice elems spare => uptoBulkAll elems + uptoBulkAll spare + 1
  | .agg parts => uptoBulkAll parts + 1
  | .iface _ d => uptoBulk d + 1
  | .map entries => uptoBulkEntries entries + 1
  | .held _ => 1
def uptoBulkAll {H : Type} : List (DataW H) → Nat
  | [] => 0
  | d :: r => uptoBulk d + uptoBulkAll r
def uptoBulkEntries {H : Type} : List (Lit × DataW H) → Nat
  | [] => 0
  | x :: r => uptoBulkEntry x + uptoBulkEntries r
def uptoBulkEntry {H : Type} : Lit × DataW H → Nat
  | (.string bytes, d) => bytes.length + uptoBulk d + 1
  | (_, d) => uptoBulk d + 1
 end
def uptoSmall : (H : Type) → List (DataW H) → Bool := fun _ ds => decide (uptoBulkAll ds ≤ 1048576)
def OpenSpec.upto (s : _root_.Go.ChangeSpec) : _root_.Go.OpenSpec := { _root_.Go.OpenSpec.ofChange s with cond := some uptoSmall }

/-- 'futtocklaw31.RaceAll', WHERE WHAT IT READS IS OF BULK AT MOST 1048576: true; the input reads as it did. -/
def raceAllUptoRow : OpenClaim := { program := "ytgcgbcdgbfeaaaa", sum := "25584d38a060fdbcee2dbefee430d9d880e1f8da0628502d3a6eeb39b2363372", func := "futtock/futtocklaw31.RaceAll", spec := "raceAll", unfollowed := true, recurses := true, plainKeys := false, apart := false, narrowed := true }
def RaceAllUptoSaid : Prop := raceAllUptoRow.holds Try.pinned (OpenSpec.upto raceAllSpec)

/-- 'futtocklaw31.RaceEither', WHERE WHAT IT READS IS OF BULK AT MOST 1048576: true; the input reads as it did. -/
def raceEitherUptoRow : OpenClaim := { program := "ytgcgbcdgbfeaaaa", sum := "25584d38a060fdbcee2dbefee430d9d880e1f8da0628502d3a6eeb39b2363372", func := "futtock/futtocklaw31.RaceEither", spec := "raceEither", unfollowed := true, recurses := true, plainKeys := false, apart := false, narrowed := true }
def RaceEitherUptoSaid : Prop := raceEitherUptoRow.holds Try.pinned (OpenSpec.upto raceEitherSpec)

/-- 'futtocklaw31.RaceLocks', WHERE WHAT IT READS IS OF BULK AT MOST 1048576: true; the input reads as it did. -/
def raceLocksUptoRow : OpenClaim := { program := "ytgcgbcdgbfeaaaa", sum := "25584d38a060fdbcee2dbefee430d9d880e1f8da0628502d3a6eeb39b2363372", func := "futtock/futtocklaw31.RaceLocks", spec := "raceLocks", unfollowed := true, recurses := true, plainKeys := false, apart := false, narrowed := true }
def RaceLocksUptoSaid : Prop := raceLocksUptoRow.holds Try.pinned (OpenSpec.upto raceLocksSpec)

/-- 'futtocklaw09.RecordBack', WHERE WHAT IT READS IS OF BULK AT MOST 1048576: true; the input reads as it did. -/
def recordBackUptoRow : OpenClaim := { program := "ytgcgbcdgbfeaaaa", sum := "25584d38a060fdbcee2dbefee430d9d880e1f8da0628502d3a6eeb39b2363372", func := "futtock/futtocklaw09.RecordBack", spec := "recordBack", unfollowed := true, recurses := true, plainKeys := false, apart := false, narrowed := true }
def RecordBackUptoSaid : Prop := recordBackUptoRow.holds Try.pinned (OpenSpec.upto recordBackSpec)

/-- 'futtocklaw09.RecordCounts', WHERE WHAT IT READS IS OF BULK AT MOST 1048576: true; the input reads as it did. -/
def recordCountsUptoRow : OpenClaim := { program := "ytgcgbcdgbfeaaaa", sum := "25584d38a060fdbcee2dbefee430d9d880e1f8da0628502d3a6eeb39b2363372", func := "futtock/futtocklaw09.RecordCounts", spec := "recordCounts", unfollowed := true, recurses := true, plainKeys := false, apart := false, narrowed := true }
def RecordCountsUptoSaid : Prop := recordCountsUptoRow.holds Try.pinned (OpenSpec.upto recordCountsSpec)

/-- 'futtocklaw09.RecordPlays', WHERE WHAT IT READS IS OF BULK AT MOST 1048576: true; the input reads as it did. -/
def recordPlaysUptoRow : OpenClaim := { program := "ytgcgbcdgbfeaaaa", sum := "25584d38a060fdbcee2dbefee430d9d880e1f8da0628502d3a6eeb39b2363372", func := "futtock/futtocklaw09.RecordPlays", spec := "recordPlays", unfollowed := true, recurses := true, plainKeys := false, apart := false, narrowed := true }
def RecordPlaysUptoSaid : Prop := recordPlaysUptoRow.holds Try.pinned (OpenSpec.upto recordPlaysSpec)

/-- 'futtocklaw09.RecordNobody', WHERE WHAT IT READS IS OF BULK AT MOST 1048576: true; the input reads as it did. -/
def recordNobodyUptoRow : OpenClaim := { program := "ytgcgbcdgbfeaaaa", sum := "25584d38a060fdbcee2dbefee430d9d880e1f8da0628502d3a6eeb39b2363372", func := "futtock/futtocklaw09.RecordNobody", spec := "recordNobody", unfollowed := true, recurses := true, plainKeys := false, apart := false, narrowed := true }
def RecordNobodyUptoSaid : Prop := recordNobodyUptoRow.holds Try.pinned (OpenSpec.upto recordNobodySpec)

/-- 'futtocklaw14.ModelOwners', WHERE WHAT IT READS IS OF BULK AT MOST 1048576: true; the input reads as it did. -/
def modelOwnersUptoRow : OpenClaim := { program := "ytgcgbcdgbfeaaaa", sum := "25584d38a060fdbcee2dbefee430d9d880e1f8da0628502d3a6eeb39b2363372", func := "futtock/futtocklaw14.ModelOwners", spec := "modelOwners", unfollowed := true, recurses := true, plainKeys := false, apart := false, narrowed := true }
def ModelOwnersUptoSaid : Prop := modelOwnersUptoRow.holds Try.pinned (OpenSpec.upto modelOwnersSpec)

/-- 'futtocklaw14.ModelPlays', WHERE WHAT IT READS IS OF BULK AT MOST 1048576: true; the input reads as it did. -/
def modelPlaysUptoRow : OpenClaim := { program := "ytgcgbcdgbfeaaaa", sum := "25584d38a060fdbcee2dbefee430d9d880e1f8da0628502d3a6eeb39b2363372", func := "futtock/futtocklaw14.ModelPlays", spec := "modelPlays", unfollowed := true, recurses := true, plainKeys := false, apart := false, narrowed := true }
def ModelPlaysUptoSaid : Prop := modelPlaysUptoRow.holds Try.pinned (OpenSpec.upto modelPlaysSpec)

/-- 'futtocklaw14.ModelErrors', WHERE WHAT IT READS IS OF BULK AT MOST 1048576: true; the input reads as it did. -/
def modelErrorsUptoRow : OpenClaim := { program := "ytgcgbcdgbfeaaaa", sum := "25584d38a060fdbcee2dbefee430d9d880e1f8da0628502d3a6eeb39b2363372", func := "futtock/futtocklaw14.ModelErrors", spec := "modelErrors", inPlace := ["maps.clone"], unfollowed := true, recurses := true, plainKeys := false, apart := false, narrowed := true }
def ModelErrorsUptoSaid : Prop := modelErrorsUptoRow.holds Try.pinned (OpenSpec.upto modelErrorsSpec)

/-- 'futtocklaw14.ModelClones', WHERE WHAT IT READS IS OF BULK AT MOST 1048576: true; the input reads as it did. -/
def modelClonesUptoRow : OpenClaim := { program := "ytgcgbcdgbfeaaaa", sum := "25584d38a060fdbcee2dbefee430d9d880e1f8da0628502d3a6eeb39b2363372", func := "futtock/futtocklaw14.ModelClones", spec := "modelClones", inPlace := ["maps.clone"], unfollowed := true, recurses := true, plainKeys := false, apart := false, narrowed := true }
def ModelClonesUptoSaid : Prop := modelClonesUptoRow.holds Try.pinned (OpenSpec.upto modelClonesSpec)

end Rows
end Go.Proofs.Ytgcgbcdgbfeaaaa
