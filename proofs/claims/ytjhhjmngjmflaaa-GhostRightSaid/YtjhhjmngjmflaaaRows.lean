/-
  No cell of these rows narrows 'for every input' (looked for: loops, veiled, ifaces, maps, wideKeys, modest, calm, conditions, laid).
  DERIVED. THE GIVEN ROWS OF THIS SEAT. 6 by the template 'for every input the law returns true; each argument reads behind the call as it read before'; 0 by the template 'total and deterministic' (their statements: YtjhhjmngjmflaaaTotals.lean).
  GIVEN WITH THE SEED: the statements are not yours to turn. If you find one false, say at which input.
  Laid BY PROGRAM, IN A SANDBOX (cutbox-rows.mjs): the forced cells as the released guide's own fill.sh prints them over the translation e6f886274c93091b… (all of the seat's roots in one cut). By AI agents, Wed Nov 11 2026. No macro, syntax, notation, axiom, sorry.
-/
import Derived.Test.YtjhhjmngjmflaaaChecked
import GoSem.Claim
import GoSem.ClaimJoined
import GoSem.ClaimMapViews
import Derived.JoinedTies
import Derived.KernelRfl
namespace Go.Proofs.Ytjhhjmngjmflaaa
/- THE CELL 'sum', in the pinned program and in every row, IS THE sha256 OF THE DUMP (.gsa) THAT YtjhhjmngjmflaaaProg.lean LOADS. Nothing in Lean hashes anything: it is a label: what it is worth is what the hold of that sum in a sandbox is worth. -/
noncomputable def Try.pinned : Pinned := { name := "ytjhhjmngjmflaaa", sum := "e6f886274c93091bad7a5a06b53462ba0ea32365021251047b97475a48b2d547", checked := Try.checked }
namespace Rows
def none {H : Type} : Left H := { results := [], args := [] }

/-- 'futtocklaw15.GhostRight': WHATEVER THE INPUT: true; the input reads as it did. -/
def ghostRightSpec : ChangeSpec := { name := "ghostRight", fn := fun _ => fun
  | [d1, d2, d3] => { results := [.lit (.bool true)], args := [d1, d2, d3] }
  | _ => none }
def ghostRightRow : OpenClaim := { program := "ytjhhjmngjmflaaa", sum := "e6f886274c93091bad7a5a06b53462ba0ea32365021251047b97475a48b2d547", func := "futtock/futtocklaw15.GhostRight", spec := "ghostRight", unfollowed := true, recurses := true, plainKeys := false, apart := false }
def GhostRightSaid : Prop := ghostRightRow.holds Try.pinned (OpenSpec.ofChange ghostRightSpec)

/-- ITS FALSE NEIGHBOUR: 'it returns false'. Refute it at one input. -/
def ghostRightWrong : ChangeSpec := { name := "ghostRight", fn := fun _ => fun
  | [d1, d2, d3] => { results := [.lit (.bool false)], args := [d1, d2, d3] }
  | _ => none }
def GhostRightWrongFalsely : Prop := ghostRightRow.holds Try.pinned (OpenSpec.ofChange ghostRightWrong)

/-- 'futtocklaw15.GhostTurns': WHATEVER THE INPUT: true; the input reads as it did. -/
def ghostTurnsSpec : ChangeSpec := { name := "ghostTurns", fn := fun _ => fun
  | [d] => { results := [.lit (.bool true)], args := [d] }
  | _ => none }
def ghostTurnsRow : OpenClaim := { program := "ytjhhjmngjmflaaa", sum := "e6f886274c93091bad7a5a06b53462ba0ea32365021251047b97475a48b2d547", func := "futtock/futtocklaw15.GhostTurns", spec := "ghostTurns", unfollowed := true, recurses := true, plainKeys := false, apart := false }
def GhostTurnsSaid : Prop := ghostTurnsRow.holds Try.pinned (OpenSpec.ofChange ghostTurnsSpec)

/-- ITS FALSE NEIGHBOUR: 'it returns false'. Refute it at one input. -/
def ghostTurnsWrong : ChangeSpec := { name := "ghostTurns", fn := fun _ => fun
  | [d] => { results := [.lit (.bool false)], args := [d] }
  | _ => none }
def GhostTurnsWrongFalsely : Prop := ghostTurnsRow.holds Try.pinned (OpenSpec.ofChange ghostTurnsWrong)

/-- 'futtocklaw15.GhostNobody': WHATEVER THE INPUT: true; the input reads as it did. -/
def ghostNobodySpec : ChangeSpec := { name := "ghostNobody", fn := fun _ => fun
  | [d] => { results := [.lit (.bool true)], args := [d] }
  | _ => none }
def ghostNobodyRow : OpenClaim := { program := "ytjhhjmngjmflaaa", sum := "e6f886274c93091bad7a5a06b53462ba0ea32365021251047b97475a48b2d547", func := "futtock/futtocklaw15.GhostNobody", spec := "ghostNobody", inPlace := ["maps.clone"], unfollowed := true, recurses := true, plainKeys := false, apart := false }
def GhostNobodySaid : Prop := ghostNobodyRow.holds Try.pinned (OpenSpec.ofChange ghostNobodySpec)

/-- ITS FALSE NEIGHBOUR: 'it returns false'. Refute it at one input. -/
def ghostNobodyWrong : ChangeSpec := { name := "ghostNobody", fn := fun _ => fun
  | [d] => { results := [.lit (.bool false)], args := [d] }
  | _ => none }
def GhostNobodyWrongFalsely : Prop := ghostNobodyRow.holds Try.pinned (OpenSpec.ofChange ghostNobodyWrong)

/-- 'futtocklaw23.CheckOrders': WHATEVER THE INPUT: true; the input reads as it did. -/
def checkOrdersSpec : ChangeSpec := { name := "checkOrders", fn := fun _ => fun
  | [d1, d2] => { results := [.lit (.bool true)], args := [d1, d2] }
  | _ => none }
def checkOrdersRow : OpenClaim := { program := "ytjhhjmngjmflaaa", sum := "e6f886274c93091bad7a5a06b53462ba0ea32365021251047b97475a48b2d547", func := "futtock/futtocklaw23.CheckOrders", spec := "checkOrders", inPlace := ["maps.clone"], unfollowed := true, recurses := true, plainKeys := false, apart := false }
def CheckOrdersSaid : Prop := checkOrdersRow.holds Try.pinned (OpenSpec.ofChange checkOrdersSpec)

/-- ITS FALSE NEIGHBOUR: 'it returns false'. Refute it at one input. -/
def checkOrdersWrong : ChangeSpec := { name := "checkOrders", fn := fun _ => fun
  | [d1, d2] => { results := [.lit (.bool false)], args := [d1, d2] }
  | _ => none }
def CheckOrdersWrongFalsely : Prop := checkOrdersRow.holds Try.pinned (OpenSpec.ofChange checkOrdersWrong)

/-- 'futtocklaw23.CheckSerial': WHATEVER THE INPUT: true; the input reads as it did. -/
def checkSerialSpec : ChangeSpec := { name := "checkSerial", fn := fun _ => fun
  | [d1, d2] => { results := [.lit (.bool true)], args := [d1, d2] }
  | _ => none }
def checkSerialRow : OpenClaim := { program := "ytjhhjmngjmflaaa", sum := "e6f886274c93091bad7a5a06b53462ba0ea32365021251047b97475a48b2d547", func := "futtock/futtocklaw23.CheckSerial", spec := "checkSerial", inPlace := ["maps.clone"], unfollowed := true, recurses := true, plainKeys := false, apart := false }
def CheckSerialSaid : Prop := checkSerialRow.holds Try.pinned (OpenSpec.ofChange checkSerialSpec)

/-- ITS FALSE NEIGHBOUR: 'it returns false'. Refute it at one input. -/
def checkSerialWrong : ChangeSpec := { name := "checkSerial", fn := fun _ => fun
  | [d1, d2] => { results := [.lit (.bool false)], args := [d1, d2] }
  | _ => none }
def CheckSerialWrongFalsely : Prop := checkSerialRow.holds Try.pinned (OpenSpec.ofChange checkSerialWrong)

/-- 'futtocklaw23.CheckEarlier': WHATEVER THE INPUT: true; the input reads as it did. -/
def checkEarlierSpec : ChangeSpec := { name := "checkEarlier", fn := fun _ => fun
  | [d] => { results := [.lit (.bool true)], args := [d] }
  | _ => none }
def checkEarlierRow : OpenClaim := { program := "ytjhhjmngjmflaaa", sum := "e6f886274c93091bad7a5a06b53462ba0ea32365021251047b97475a48b2d547", func := "futtock/futtocklaw23.CheckEarlier", spec := "checkEarlier", inPlace := ["maps.clone"], unfollowed := true, recurses := true, plainKeys := false, apart := false }
def CheckEarlierSaid : Prop := checkEarlierRow.holds Try.pinned (OpenSpec.ofChange checkEarlierSpec)

/-- ITS FALSE NEIGHBOUR: 'it returns false'. Refute it at one input. -/
def checkEarlierWrong : ChangeSpec := { name := "checkEarlier", fn := fun _ => fun
  | [d] => { results := [.lit (.bool false)], args := [d] }
  | _ => none }
def CheckEarlierWrongFalsely : Prop := checkEarlierRow.holds Try.pinned (OpenSpec.ofChange checkEarlierWrong)

/- THE SECOND FORM. 'bulk': how many values and letters a reading holds, each counted each time it is reached (what is shared counts as often as it is met; a slice's spare places count too). A statement '..UptoSaid' is the law's where the arguments, and the package variables that the reading takes, are together of bulk at most 1048576: NARROWER than '..Said'. Prove '..Said' where nothing that the law and all that it calls make is longer than what came in: it says more and counts as full. Else prove '..UptoSaid'. A law counts once. -/
mutual
def uptoBulk {H : Type} : DataW H → Nat
  | .lit (.string bytes) => bytes.length + 1
  | .lit _ => 1
  | .nil => 1
  | .ptr d => uptoBulk d + 1
  | .slice elems spare => uptoBulkAll elems + uptoBulkAll spare + 1
  | .agg parts => uptoBulkAll parts + 1
  | .iface _ d => uptoBulk d + 1
  | .map entries => uptoBulkEntries entries + 1
  | .held _ => 1
def uptoBulkAll {H : Type} : List (DataW H) → Nat
  | [] => 0
  | d :: r => uptoBulk d + uptoBulkAll r
def uptoBulkEntries {H : Type} : List (Lit × DataW H) → Nat
  | [] => 0
  | x :: r => uptoBulkEntry x + uptoBulkEntries r
def uptoBulkEntry {H : Type} : Lit × DataW H → Nat
  | (.string bytes, d) => bytes.length + uptoBulk d + 1
  | (_, d) => uptoBulk d + 1
 end
def uptoSmall : (H : Type) → List (DataW H) → Bool := fun _ ds => decide (uptoBulkAll ds ≤ 1048576)
def OpenSpec.upto (s : _root_.Go.ChangeSpec) : _root_.Go.OpenSpec := { _root_.Go.OpenSpec.ofChange s with cond := some uptoSmall }

/-- 'futtocklaw15.GhostRight', WHERE WHAT IT READS IS OF BULK AT MOST 1048576: true; the input reads as it did. -/
def ghostRightUptoRow : OpenClaim := { program := "ytjhhjmngjmflaaa", sum := "e6f886274c93091bad7a5a06b53462ba0ea32365021251047b97475a48b2d547", func := "futtock/futtocklaw15.GhostRight", spec := "ghostRight", unfollowed := true, recurses := true, plainKeys := false, apart := false, narrowed := true }
def GhostRightUptoSaid : Prop := ghostRightUptoRow.holds Try.pinned (OpenSpec.upto ghostRightSpec)

/-- 'futtocklaw15.GhostTurns', WHERE WHAT IT READS IS OF BULK AT MOST 1048576: true; the input reads as it did. -/
def ghostTurnsUptoRow : OpenClaim := { program := "ytjhhjmngjmflaaa", sum := "e6f886274c93091bad7a5a06b53462ba0ea32365021251047b97475a48b2d547", func := "futtock/futtocklaw15.GhostTurns", spec := "ghostTurns", unfollowed := true, recurses := true, plainKeys := false, apart := false, narrowed := true }
def GhostTurnsUptoSaid : Prop := ghostTurnsUptoRow.holds Try.pinned (OpenSpec.upto ghostTurnsSpec)

/-- 'futtocklaw15.GhostNobody', WHERE WHAT IT READS IS OF BULK AT MOST 1048576: true; the input reads as it did. -/
def ghostNobodyUptoRow : OpenClaim := { program := "ytjhhjmngjmflaaa", sum := "e6f886274c93091bad7a5a06b53462ba0ea32365021251047b97475a48b2d547", func := "futtock/futtocklaw15.GhostNobody", spec := "ghostNobody", inPlace := ["maps.clone"], unfollowed := true, recurses := true, plainKeys := false, apart := false, narrowed := true }
def GhostNobodyUptoSaid : Prop := ghostNobodyUptoRow.holds Try.pinned (OpenSpec.upto ghostNobodySpec)

/-- 'futtocklaw23.CheckOrders', WHERE WHAT IT READS IS OF BULK AT MOST 1048576: true; the input reads as it did. -/
def checkOrdersUptoRow : OpenClaim := { program := "ytjhhjmngjmflaaa", sum := "e6f886274c93091bad7a5a06b53462ba0ea32365021251047b97475a48b2d547", func := "futtock/futtocklaw23.CheckOrders", spec := "checkOrders", inPlace := ["maps.clone"], unfollowed := true, recurses := true, plainKeys := false, apart := false, narrowed := true }
def CheckOrdersUptoSaid : Prop := checkOrdersUptoRow.holds Try.pinned (OpenSpec.upto checkOrdersSpec)

/-- 'futtocklaw23.CheckSerial', WHERE WHAT IT READS IS OF BULK AT MOST 1048576: true; the input reads as it did. -/
def checkSerialUptoRow : OpenClaim := { program := "ytjhhjmngjmflaaa", sum := "e6f886274c93091bad7a5a06b53462ba0ea32365021251047b97475a48b2d547", func := "futtock/futtocklaw23.CheckSerial", spec := "checkSerial", inPlace := ["maps.clone"], unfollowed := true, recurses := true, plainKeys := false, apart := false, narrowed := true }
def CheckSerialUptoSaid : Prop := checkSerialUptoRow.holds Try.pinned (OpenSpec.upto checkSerialSpec)

/-- 'futtocklaw23.CheckEarlier', WHERE WHAT IT READS IS OF BULK AT MOST 1048576: true; the input reads as it did. -/
def checkEarlierUptoRow : OpenClaim := { program := "ytjhhjmngjmflaaa", sum := "e6f886274c93091bad7a5a06b53462ba0ea32365021251047b97475a48b2d547", func := "futtock/futtocklaw23.CheckEarlier", spec := "checkEarlier", inPlace := ["maps.clone"], unfollowed := true, recurses := true, plainKeys := false, apart := false, narrowed := true }
def CheckEarlierUptoSaid : Prop := checkEarlierUptoRow.holds Try.pinned (OpenSpec.upto checkEarlierSpec)

end Rows
end Go.Proofs.Ytjhhjmngjmflaaa
