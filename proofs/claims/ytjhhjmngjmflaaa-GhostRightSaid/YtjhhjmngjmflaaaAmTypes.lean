/- Facts on the translation's types, printed by a program of this session. Conditions: none. -/
import Derived.Test.YtjhhjmngjmflaaaProg
import Derived.Test.YtjhhjmngjmflaaaAmSimp
namespace Go.AM
open Go.Proofs
set_option maxRecDepth 100000
theorem sz3 {P : Program} (hP : P = Try.prog)  : szT P 3 = some 1 := by subst hP; kernel_rfl
theorem ag3 {P : Program} (hP : P = Try.prog)  : aggT P 3 = some false := by subst hP; kernel_rfl
theorem ze3 {P : Program} (hP : P = Try.prog)  : zeroL P 3 = some [.int .i64 0] := by subst hP; kernel_rfl
theorem sz4 {P : Program} (hP : P = Try.prog)  : szT P 4 = some 1 := by subst hP; kernel_rfl
theorem ag4 {P : Program} (hP : P = Try.prog)  : aggT P 4 = some false := by subst hP; kernel_rfl
theorem ze4 {P : Program} (hP : P = Try.prog)  : zeroL P 4 = some [.bool false] := by subst hP; kernel_rfl
theorem by4 {P : Program} (hP : P = Try.prog)  : bytesT P 4 = some 1 := by subst hP; kernel_rfl
theorem sz25 {P : Program} (hP : P = Try.prog)  : szT P 25 = some 1 := by subst hP; kernel_rfl
theorem ag25 {P : Program} (hP : P = Try.prog)  : aggT P 25 = some false := by subst hP; kernel_rfl
theorem sz27 {P : Program} (hP : P = Try.prog)  : szT P 27 = some 3 := by subst hP; kernel_rfl
theorem ag27 {P : Program} (hP : P = Try.prog)  : aggT P 27 = some true := by subst hP; kernel_rfl
theorem sz29 {P : Program} (hP : P = Try.prog)  : szT P 29 = some 5 := by subst hP; kernel_rfl
theorem ag29 {P : Program} (hP : P = Try.prog)  : aggT P 29 = some true := by subst hP; kernel_rfl
theorem ze29 {P : Program} (hP : P = Try.prog)  : zeroL P 29 = some [.int .i64 0, .int .i64 0, .int .i64 0, .int .i64 0, .int .i64 0] := by subst hP; kernel_rfl
theorem by29 {P : Program} (hP : P = Try.prog)  : bytesT P 29 = some 40 := by subst hP; kernel_rfl
theorem sz31 {P : Program} (hP : P = Try.prog)  : szT P 31 = some 13 := by subst hP; kernel_rfl
theorem ag31 {P : Program} (hP : P = Try.prog)  : aggT P 31 = some true := by subst hP; kernel_rfl
theorem ze31 {P : Program} (hP : P = Try.prog)  : zeroL P 31 = some [.int .i64 0, .int .i64 0, .int .i64 0, .int .i64 0, .int .i64 0, .int .i64 0, .int .i64 0, .int .i64 0, .int .i64 0, .int .i64 0, .int .i64 0, .int .i64 0, .int .i64 0] := by subst hP; kernel_rfl
theorem sz32 {P : Program} (hP : P = Try.prog)  : szT P 32 = some 1 := by subst hP; kernel_rfl
theorem ag32 {P : Program} (hP : P = Try.prog)  : aggT P 32 = some false := by subst hP; kernel_rfl
theorem sz34 {P : Program} (hP : P = Try.prog)  : szT P 34 = some 5 := by subst hP; kernel_rfl
theorem ag34 {P : Program} (hP : P = Try.prog)  : aggT P 34 = some true := by subst hP; kernel_rfl
theorem sz36 {P : Program} (hP : P = Try.prog)  : szT P 36 = some 13 := by subst hP; kernel_rfl
theorem ag36 {P : Program} (hP : P = Try.prog)  : aggT P 36 = some true := by subst hP; kernel_rfl
theorem ze36 {P : Program} (hP : P = Try.prog)  : zeroL P 36 = some [.int .i64 0, .int .i64 0, .int .i64 0, .int .i64 0, .int .i64 0, .int .i64 0, .int .i64 0, .int .i64 0, .int .i64 0, .int .i64 0, .int .i64 0, .int .i64 0, .int .i64 0] := by subst hP; kernel_rfl
theorem by36 {P : Program} (hP : P = Try.prog)  : bytesT P 36 = some 104 := by subst hP; kernel_rfl
theorem sz43 {P : Program} (hP : P = Try.prog)  : szT P 43 = some 3 := by subst hP; kernel_rfl
theorem ag43 {P : Program} (hP : P = Try.prog)  : aggT P 43 = some true := by subst hP; kernel_rfl
theorem ze43 {P : Program} (hP : P = Try.prog)  : zeroL P 43 = some [.int .i64 0, .int .i64 0, .int .i64 0] := by subst hP; kernel_rfl
theorem sz44 {P : Program} (hP : P = Try.prog)  : szT P 44 = some 24 := by subst hP; kernel_rfl
theorem sz47 {P : Program} (hP : P = Try.prog)  : szT P 47 = some 227 := by subst hP; kernel_rfl
theorem ag47 {P : Program} (hP : P = Try.prog)  : aggT P 47 = some true := by subst hP; kernel_rfl
theorem ze47 {P : Program} (hP : P = Try.prog)  : zeroL P 47 = some [.int .i64 0, .int .i64 0, .int .i64 0, .int .i64 0, .int .i64 0, .int .i64 0, .int .i64 0, .int .i64 0, .int .i64 0, .int .i64 0, .int .i64 0, .int .i64 0, .int .i64 0, .int .i64 0, .int .i64 0, .int .i64 0, .int .i64 0, .int .i64 0, .int .i64 0, .int .i64 0, .int .i64 0, .int .i64 0, .int .i64 0, .int .i64 0, .int .i64 0, .int .i64 0, .int .i64 0, .bool false, .bool false, .bool false, .bool false, .bool false, .bool false, .bool false, .bool false, .int .i64 0, .int .i64 0, .int .i64 0, .int .i64 0, .int .i64 0, .int .i64 0, .int .i64 0, .int .i64 0, .int .i64 0, .int .i64 0, .int .i64 0, .int .i64 0, .int .i64 0, .int .i64 0, .int .i64 0, .int .i64 0, .int .i64 0, .int .i64 0, .int .i64 0, .int .i64 0, .int .i64 0, .int .i64 0, .int .i64 0, .int .i64 0, .int .i64 0, .int .i64 0, .int .i64 0, .int .i64 0, .int .i64 0, .int .i64 0, .int .i64 0, .int .i64 0, .int .i64 0, .int .i64 0, .int .i64 0, .int .i64 0, .int .i64 0, .int .i64 0, .int .i64 0, .int .i64 0, .int .i64 0, .int .i64 0, .int .i64 0, .int .i64 0, .int .i64 0, .int .i64 0, .int .i64 0, .int .i64 0, .int .i64 0, .int .i64 0, .int .i64 0, .int .i64 0, .int .i64 0, .int .i64 0, .int .i64 0, .int .i64 0, .int .i64 0, .int .i64 0, .int .i64 0, .int .i64 0, .int .i64 0, .int .i64 0, .int .i64 0, .int .i64 0, .int .i64 0, .int .i64 0, .int .i64 0, .int .i64 0, .int .i64 0, .int .i64 0, .int .i64 0, .int .i64 0, .int .i64 0, .int .i64 0, .int .i64 0, .int .i64 0, .int .i64 0, .int .i64 0, .int .i64 0, .int .i64 0, .int .i64 0, .int .i64 0, .int .i64 0, .int .i64 0, .int .i64 0, .int .i64 0, .int .i64 0, .int .i64 0, .int .i64 0, .int .i64 0, .int .i64 0, .int .i64 0, .int .i64 0, .int .i64 0, .int .i64 0, .int .i64 0, .int .i64 0, .int .i64 0, .int .i64 0, .int .i64 0, .int .i64 0, .int .i64 0, .int .i64 0, .int .i64 0, .int .i64 0, .int .i64 0, .int .i64 0, .int .i64 0, .int .i64 0, .int .i64 0, .int .i64 0, .int .i64 0, .int .i64 0, .int .i64 0, .int .i64 0, .int .i64 0, .int .i64 0, .int .i64 0, .int .i64 0, .int .i64 0, .int .i64 0, .int .i64 0, .int .i64 0, .int .i64 0, .int .i64 0, .int .i64 0, .int .i64 0, .int .i64 0, .int .i64 0, .int .i64 0, .int .i64 0, .int .i64 0, .int .i64 0, .int .i64 0, .int .i64 0, .int .i64 0, .int .i64 0, .int .i64 0, .int .i64 0, .int .i64 0, .int .i64 0, .int .i64 0, .int .i64 0, .int .i64 0, .int .i64 0, .int .i64 0, .int .i64 0, .int .i64 0, .int .i64 0, .int .i64 0, .int .i64 0, .int .i64 0, .int .i64 0, .int .i64 0, .int .i64 0, .int .i64 0, .int .i64 0, .int .i64 0, .int .i64 0, .int .i64 0, .int .i64 0, .int .i64 0, .int .i64 0, .int .i64 0, .int .i64 0, .int .i64 0, .int .i64 0, .int .i64 0, .int .i64 0, .int .i64 0, .int .i64 0, .int .i64 0, .int .i64 0, .int .i64 0, .int .i64 0, .int .i64 0, .int .i64 0, .int .i64 0, .int .i64 0, .int .i64 0, .int .i64 0, .int .i64 0, .int .i64 0, .int .i64 0, .int .i64 0, .int .i64 0, .int .i64 0, .int .i64 0, .int .i64 0, .int .i64 0, .int .i64 0, .int .i64 0] := by subst hP; kernel_rfl
theorem sz48 {P : Program} (hP : P = Try.prog)  : szT P 48 = some 1 := by subst hP; kernel_rfl
theorem ag48 {P : Program} (hP : P = Try.prog)  : aggT P 48 = some false := by subst hP; kernel_rfl
theorem sz50 {P : Program} (hP : P = Try.prog)  : szT P 50 = some 6 := by subst hP; kernel_rfl
theorem ag50 {P : Program} (hP : P = Try.prog)  : aggT P 50 = some true := by subst hP; kernel_rfl
theorem ze50 {P : Program} (hP : P = Try.prog)  : zeroL P 50 = some [.int .i64 0, .bool false, .int .i64 0, .int .i64 0, .int .i64 0, .nils] := by subst hP; kernel_rfl
theorem sz51 {P : Program} (hP : P = Try.prog)  : szT P 51 = some 48 := by subst hP; kernel_rfl
theorem ag51 {P : Program} (hP : P = Try.prog)  : aggT P 51 = some true := by subst hP; kernel_rfl
theorem ze51 {P : Program} (hP : P = Try.prog)  : zeroL P 51 = some [.int .i64 0, .bool false, .int .i64 0, .int .i64 0, .int .i64 0, .nils, .int .i64 0, .bool false, .int .i64 0, .int .i64 0, .int .i64 0, .nils, .int .i64 0, .bool false, .int .i64 0, .int .i64 0, .int .i64 0, .nils, .int .i64 0, .bool false, .int .i64 0, .int .i64 0, .int .i64 0, .nils, .int .i64 0, .bool false, .int .i64 0, .int .i64 0, .int .i64 0, .nils, .int .i64 0, .bool false, .int .i64 0, .int .i64 0, .int .i64 0, .nils, .int .i64 0, .bool false, .int .i64 0, .int .i64 0, .int .i64 0, .nils, .int .i64 0, .bool false, .int .i64 0, .int .i64 0, .int .i64 0, .nils] := by subst hP; kernel_rfl
theorem ag64 {P : Program} (hP : P = Try.prog)  : aggT P 64 = some false := by subst hP; kernel_rfl
theorem ag65 {P : Program} (hP : P = Try.prog)  : aggT P 65 = some false := by subst hP; kernel_rfl
theorem sz109 {P : Program} (hP : P = Try.prog)  : szT P 109 = some 11 := by subst hP; kernel_rfl
theorem ag109 {P : Program} (hP : P = Try.prog)  : aggT P 109 = some true := by subst hP; kernel_rfl
theorem ze109 {P : Program} (hP : P = Try.prog)  : zeroL P 109 = some [.int .i64 0, .int .i64 0, .int .i64 0, .int .i64 0, .bool false, .int .i64 0, .int .i64 0, .int .i64 0, .int .i64 0, .int .i64 0, .int .i64 0] := by subst hP; kernel_rfl
theorem by109 {P : Program} (hP : P = Try.prog)  : bytesT P 109 = some 88 := by subst hP; kernel_rfl
theorem sz116 {P : Program} (hP : P = Try.prog)  : szT P 116 = some 3 := by subst hP; kernel_rfl
theorem ze116 {P : Program} (hP : P = Try.prog)  : zeroL P 116 = some [.int .i64 0, .int .i64 0, .int .i64 0] := by subst hP; kernel_rfl
theorem by116 {P : Program} (hP : P = Try.prog)  : bytesT P 116 = some 24 := by subst hP; kernel_rfl
theorem ag121 {P : Program} (hP : P = Try.prog)  : aggT P 121 = some false := by subst hP; kernel_rfl
theorem ag129 {P : Program} (hP : P = Try.prog)  : aggT P 129 = some false := by subst hP; kernel_rfl
theorem ag130 {P : Program} (hP : P = Try.prog)  : aggT P 130 = some false := by subst hP; kernel_rfl
theorem sz131 {P : Program} (hP : P = Try.prog)  : szT P 131 = some 1 := by subst hP; kernel_rfl
theorem ag131 {P : Program} (hP : P = Try.prog)  : aggT P 131 = some false := by subst hP; kernel_rfl
theorem sz138 {P : Program} (hP : P = Try.prog)  : szT P 138 = some 2 := by subst hP; kernel_rfl
theorem ag138 {P : Program} (hP : P = Try.prog)  : aggT P 138 = some true := by subst hP; kernel_rfl
theorem ze138 {P : Program} (hP : P = Try.prog)  : zeroL P 138 = some [.int .i64 0, .int .i64 0] := by subst hP; kernel_rfl
theorem sz141 {P : Program} (hP : P = Try.prog)  : szT P 141 = some 2 := by subst hP; kernel_rfl
theorem ze141 {P : Program} (hP : P = Try.prog)  : zeroL P 141 = some [.int .i64 0, .int .i64 0] := by subst hP; kernel_rfl
theorem zc3 {P : Program} (hP : P = Try.prog)  : zeroC P 3 = some (.sc (.int .i64 0)) := by subst hP; kernel_rfl
theorem un3 {P : Program} (hP : P = Try.prog)  : P.underlying 3 = some (.int .i64) := by subst hP; kernel_rfl
theorem un4 {P : Program} (hP : P = Try.prog)  : P.underlying 4 = some .bool := by subst hP; kernel_rfl
theorem un5 {P : Program} (hP : P = Try.prog)  : P.underlying 5 = some (.int .u8) := by subst hP; kernel_rfl
theorem un22 {P : Program} (hP : P = Try.prog)  : P.underlying 22 = some (.array 3 3) := by subst hP; kernel_rfl
theorem un23 {P : Program} (hP : P = Try.prog)  : P.underlying 23 = some (.slice 31) := by subst hP; kernel_rfl
theorem un25 {P : Program} (hP : P = Try.prog)  : P.underlying 25 = some (.slice 36) := by subst hP; kernel_rfl
theorem fa27_0 {P : Program} (hP : P = Try.prog) (l o : Nat) : fieldAddrA P 27 (.v (.sc (.ptr l o))) 0 = some (.v (.sc (.ptr l (o + 0)))) := by subst hP; kernel_rfl
theorem fa27_1 {P : Program} (hP : P = Try.prog) (l o : Nat) : fieldAddrA P 27 (.v (.sc (.ptr l o))) 1 = some (.v (.sc (.ptr l (o + 1)))) := by subst hP; kernel_rfl
theorem fa27_2 {P : Program} (hP : P = Try.prog) (l o : Nat) : fieldAddrA P 27 (.v (.sc (.ptr l o))) 2 = some (.v (.sc (.ptr l (o + 2)))) := by subst hP; kernel_rfl
theorem bu27 {P : Program} (hP : P = Try.prog) (ps : List (Nat × AV)) : buildA P 27 ps = (fillA (fun i => ([(0, 1), (1, 1), (2, 1)] : List (Nat × Nat))[i]?) [.int .i64 0, .int .i64 0, .int .i64 0] ps).map fun cs => .v (.ag cs) := by subst hP; kernel_rfl
theorem fa29_0 {P : Program} (hP : P = Try.prog) (l o : Nat) : fieldAddrA P 29 (.v (.sc (.ptr l o))) 0 = some (.v (.sc (.ptr l (o + 0)))) := by subst hP; kernel_rfl
theorem fa29_1 {P : Program} (hP : P = Try.prog) (l o : Nat) : fieldAddrA P 29 (.v (.sc (.ptr l o))) 1 = some (.v (.sc (.ptr l (o + 1)))) := by subst hP; kernel_rfl
theorem fa29_2 {P : Program} (hP : P = Try.prog) (l o : Nat) : fieldAddrA P 29 (.v (.sc (.ptr l o))) 2 = some (.v (.sc (.ptr l (o + 2)))) := by subst hP; kernel_rfl
theorem fa29_3 {P : Program} (hP : P = Try.prog) (l o : Nat) : fieldAddrA P 29 (.v (.sc (.ptr l o))) 3 = some (.v (.sc (.ptr l (o + 3)))) := by subst hP; kernel_rfl
theorem fa29_4 {P : Program} (hP : P = Try.prog) (l o : Nat) : fieldAddrA P 29 (.v (.sc (.ptr l o))) 4 = some (.v (.sc (.ptr l (o + 4)))) := by subst hP; kernel_rfl
theorem fa31_0 {P : Program} (hP : P = Try.prog) (l o : Nat) : fieldAddrA P 31 (.v (.sc (.ptr l o))) 0 = some (.v (.sc (.ptr l (o + 0)))) := by subst hP; kernel_rfl
theorem fa31_1 {P : Program} (hP : P = Try.prog) (l o : Nat) : fieldAddrA P 31 (.v (.sc (.ptr l o))) 1 = some (.v (.sc (.ptr l (o + 1)))) := by subst hP; kernel_rfl
theorem fa31_2 {P : Program} (hP : P = Try.prog) (l o : Nat) : fieldAddrA P 31 (.v (.sc (.ptr l o))) 2 = some (.v (.sc (.ptr l (o + 2)))) := by subst hP; kernel_rfl
theorem fa31_3 {P : Program} (hP : P = Try.prog) (l o : Nat) : fieldAddrA P 31 (.v (.sc (.ptr l o))) 3 = some (.v (.sc (.ptr l (o + 3)))) := by subst hP; kernel_rfl
theorem fa31_4 {P : Program} (hP : P = Try.prog) (l o : Nat) : fieldAddrA P 31 (.v (.sc (.ptr l o))) 4 = some (.v (.sc (.ptr l (o + 6)))) := by subst hP; kernel_rfl
theorem fa31_5 {P : Program} (hP : P = Try.prog) (l o : Nat) : fieldAddrA P 31 (.v (.sc (.ptr l o))) 5 = some (.v (.sc (.ptr l (o + 11)))) := by subst hP; kernel_rfl
theorem fa31_6 {P : Program} (hP : P = Try.prog) (l o : Nat) : fieldAddrA P 31 (.v (.sc (.ptr l o))) 6 = some (.v (.sc (.ptr l (o + 12)))) := by subst hP; kernel_rfl
theorem bu31 {P : Program} (hP : P = Try.prog) (ps : List (Nat × AV)) : buildA P 31 ps = (fillA (fun i => ([(0, 1), (1, 1), (2, 1), (3, 3), (6, 5), (11, 1), (12, 1)] : List (Nat × Nat))[i]?) [.int .i64 0, .int .i64 0, .int .i64 0, .int .i64 0, .int .i64 0, .int .i64 0, .int .i64 0, .int .i64 0, .int .i64 0, .int .i64 0, .int .i64 0, .int .i64 0, .int .i64 0] ps).map fun cs => .v (.ag cs) := by subst hP; kernel_rfl
theorem eq31 {P : Program} (hP : P = Try.prog) (xs ys : List SV) : eqA P 31 (.v (.ag xs)) (.v (.ag ys)) = eqL [1, 1, 1, 1, 1, 1, 1, 1, 1, 1, 1, 1, 1] xs ys := by subst hP; kernel_rfl
theorem fa34_0 {P : Program} (hP : P = Try.prog) (l o : Nat) : fieldAddrA P 34 (.v (.sc (.ptr l o))) 0 = some (.v (.sc (.ptr l (o + 0)))) := by subst hP; kernel_rfl
theorem fa34_1 {P : Program} (hP : P = Try.prog) (l o : Nat) : fieldAddrA P 34 (.v (.sc (.ptr l o))) 1 = some (.v (.sc (.ptr l (o + 1)))) := by subst hP; kernel_rfl
theorem fa34_2 {P : Program} (hP : P = Try.prog) (l o : Nat) : fieldAddrA P 34 (.v (.sc (.ptr l o))) 2 = some (.v (.sc (.ptr l (o + 2)))) := by subst hP; kernel_rfl
theorem fa34_3 {P : Program} (hP : P = Try.prog) (l o : Nat) : fieldAddrA P 34 (.v (.sc (.ptr l o))) 3 = some (.v (.sc (.ptr l (o + 3)))) := by subst hP; kernel_rfl
theorem fa34_4 {P : Program} (hP : P = Try.prog) (l o : Nat) : fieldAddrA P 34 (.v (.sc (.ptr l o))) 4 = some (.v (.sc (.ptr l (o + 4)))) := by subst hP; kernel_rfl
theorem bu34 {P : Program} (hP : P = Try.prog) (ps : List (Nat × AV)) : buildA P 34 ps = (fillA (fun i => ([(0, 1), (1, 1), (2, 1), (3, 1), (4, 1)] : List (Nat × Nat))[i]?) [.int .i64 0, .int .i64 0, .int .i64 0, .int .i64 0, .int .i64 0] ps).map fun cs => .v (.ag cs) := by subst hP; kernel_rfl
theorem fa36_0 {P : Program} (hP : P = Try.prog) (l o : Nat) : fieldAddrA P 36 (.v (.sc (.ptr l o))) 0 = some (.v (.sc (.ptr l (o + 0)))) := by subst hP; kernel_rfl
theorem fa36_1 {P : Program} (hP : P = Try.prog) (l o : Nat) : fieldAddrA P 36 (.v (.sc (.ptr l o))) 1 = some (.v (.sc (.ptr l (o + 1)))) := by subst hP; kernel_rfl
theorem fa36_2 {P : Program} (hP : P = Try.prog) (l o : Nat) : fieldAddrA P 36 (.v (.sc (.ptr l o))) 2 = some (.v (.sc (.ptr l (o + 2)))) := by subst hP; kernel_rfl
theorem fa36_3 {P : Program} (hP : P = Try.prog) (l o : Nat) : fieldAddrA P 36 (.v (.sc (.ptr l o))) 3 = some (.v (.sc (.ptr l (o + 3)))) := by subst hP; kernel_rfl
theorem fa36_4 {P : Program} (hP : P = Try.prog) (l o : Nat) : fieldAddrA P 36 (.v (.sc (.ptr l o))) 4 = some (.v (.sc (.ptr l (o + 6)))) := by subst hP; kernel_rfl
theorem fa36_5 {P : Program} (hP : P = Try.prog) (l o : Nat) : fieldAddrA P 36 (.v (.sc (.ptr l o))) 5 = some (.v (.sc (.ptr l (o + 11)))) := by subst hP; kernel_rfl
theorem fa36_6 {P : Program} (hP : P = Try.prog) (l o : Nat) : fieldAddrA P 36 (.v (.sc (.ptr l o))) 6 = some (.v (.sc (.ptr l (o + 12)))) := by subst hP; kernel_rfl
theorem bu36 {P : Program} (hP : P = Try.prog) (ps : List (Nat × AV)) : buildA P 36 ps = (fillA (fun i => ([(0, 1), (1, 1), (2, 1), (3, 3), (6, 5), (11, 1), (12, 1)] : List (Nat × Nat))[i]?) [.int .i64 0, .int .i64 0, .int .i64 0, .int .i64 0, .int .i64 0, .int .i64 0, .int .i64 0, .int .i64 0, .int .i64 0, .int .i64 0, .int .i64 0, .int .i64 0, .int .i64 0] ps).map fun cs => .v (.ag cs) := by subst hP; kernel_rfl
theorem eq36 {P : Program} (hP : P = Try.prog) (xs ys : List SV) : eqA P 36 (.v (.ag xs)) (.v (.ag ys)) = eqL [1, 1, 1, 1, 1, 1, 1, 1, 1, 1, 1, 1, 1] xs ys := by subst hP; kernel_rfl
theorem un40 {P : Program} (hP : P = Try.prog)  : P.underlying 40 = some (.array 8 3) := by subst hP; kernel_rfl
theorem un41 {P : Program} (hP : P = Try.prog)  : P.underlying 41 = some (.array 8 4) := by subst hP; kernel_rfl
theorem fa43_0 {P : Program} (hP : P = Try.prog) (l o : Nat) : fieldAddrA P 43 (.v (.sc (.ptr l o))) 0 = some (.v (.sc (.ptr l (o + 0)))) := by subst hP; kernel_rfl
theorem fa43_1 {P : Program} (hP : P = Try.prog) (l o : Nat) : fieldAddrA P 43 (.v (.sc (.ptr l o))) 1 = some (.v (.sc (.ptr l (o + 1)))) := by subst hP; kernel_rfl
theorem fa43_2 {P : Program} (hP : P = Try.prog) (l o : Nat) : fieldAddrA P 43 (.v (.sc (.ptr l o))) 2 = some (.v (.sc (.ptr l (o + 2)))) := by subst hP; kernel_rfl
theorem bu43 {P : Program} (hP : P = Try.prog) (ps : List (Nat × AV)) : buildA P 43 ps = (fillA (fun i => ([(0, 1), (1, 1), (2, 1)] : List (Nat × Nat))[i]?) [.int .i64 0, .int .i64 0, .int .i64 0] ps).map fun cs => .v (.ag cs) := by subst hP; kernel_rfl
theorem un44 {P : Program} (hP : P = Try.prog)  : P.underlying 44 = some (.array 8 43) := by subst hP; kernel_rfl
theorem un45 {P : Program} (hP : P = Try.prog)  : P.underlying 45 = some (.array 8 44) := by subst hP; kernel_rfl
theorem fa47_0 {P : Program} (hP : P = Try.prog) (l o : Nat) : fieldAddrA P 47 (.v (.sc (.ptr l o))) 0 = some (.v (.sc (.ptr l (o + 0)))) := by subst hP; kernel_rfl
theorem fa47_1 {P : Program} (hP : P = Try.prog) (l o : Nat) : fieldAddrA P 47 (.v (.sc (.ptr l o))) 1 = some (.v (.sc (.ptr l (o + 1)))) := by subst hP; kernel_rfl
theorem fa47_2 {P : Program} (hP : P = Try.prog) (l o : Nat) : fieldAddrA P 47 (.v (.sc (.ptr l o))) 2 = some (.v (.sc (.ptr l (o + 2)))) := by subst hP; kernel_rfl
theorem fa47_3 {P : Program} (hP : P = Try.prog) (l o : Nat) : fieldAddrA P 47 (.v (.sc (.ptr l o))) 3 = some (.v (.sc (.ptr l (o + 3)))) := by subst hP; kernel_rfl
theorem fa47_4 {P : Program} (hP : P = Try.prog) (l o : Nat) : fieldAddrA P 47 (.v (.sc (.ptr l o))) 4 = some (.v (.sc (.ptr l (o + 11)))) := by subst hP; kernel_rfl
theorem fa47_5 {P : Program} (hP : P = Try.prog) (l o : Nat) : fieldAddrA P 47 (.v (.sc (.ptr l o))) 5 = some (.v (.sc (.ptr l (o + 19)))) := by subst hP; kernel_rfl
theorem fa47_6 {P : Program} (hP : P = Try.prog) (l o : Nat) : fieldAddrA P 47 (.v (.sc (.ptr l o))) 6 = some (.v (.sc (.ptr l (o + 27)))) := by subst hP; kernel_rfl
theorem fa47_7 {P : Program} (hP : P = Try.prog) (l o : Nat) : fieldAddrA P 47 (.v (.sc (.ptr l o))) 7 = some (.v (.sc (.ptr l (o + 35)))) := by subst hP; kernel_rfl
theorem bu47 {P : Program} (hP : P = Try.prog) (ps : List (Nat × AV)) : buildA P 47 ps = (fillA (fun i => ([(0, 1), (1, 1), (2, 1), (3, 8), (11, 8), (19, 8), (27, 8), (35, 192)] : List (Nat × Nat))[i]?) [.int .i64 0, .int .i64 0, .int .i64 0, .int .i64 0, .int .i64 0, .int .i64 0, .int .i64 0, .int .i64 0, .int .i64 0, .int .i64 0, .int .i64 0, .int .i64 0, .int .i64 0, .int .i64 0, .int .i64 0, .int .i64 0, .int .i64 0, .int .i64 0, .int .i64 0, .int .i64 0, .int .i64 0, .int .i64 0, .int .i64 0, .int .i64 0, .int .i64 0, .int .i64 0, .int .i64 0, .bool false, .bool false, .bool false, .bool false, .bool false, .bool false, .bool false, .bool false, .int .i64 0, .int .i64 0, .int .i64 0, .int .i64 0, .int .i64 0, .int .i64 0, .int .i64 0, .int .i64 0, .int .i64 0, .int .i64 0, .int .i64 0, .int .i64 0, .int .i64 0, .int .i64 0, .int .i64 0, .int .i64 0, .int .i64 0, .int .i64 0, .int .i64 0, .int .i64 0, .int .i64 0, .int .i64 0, .int .i64 0, .int .i64 0, .int .i64 0, .int .i64 0, .int .i64 0, .int .i64 0, .int .i64 0, .int .i64 0, .int .i64 0, .int .i64 0, .int .i64 0, .int .i64 0, .int .i64 0, .int .i64 0, .int .i64 0, .int .i64 0, .int .i64 0, .int .i64 0, .int .i64 0, .int .i64 0, .int .i64 0, .int .i64 0, .int .i64 0, .int .i64 0, .int .i64 0, .int .i64 0, .int .i64 0, .int .i64 0, .int .i64 0, .int .i64 0, .int .i64 0, .int .i64 0, .int .i64 0, .int .i64 0, .int .i64 0, .int .i64 0, .int .i64 0, .int .i64 0, .int .i64 0, .int .i64 0, .int .i64 0, .int .i64 0, .int .i64 0, .int .i64 0, .int .i64 0, .int .i64 0, .int .i64 0, .int .i64 0, .int .i64 0, .int .i64 0, .int .i64 0, .int .i64 0, .int .i64 0, .int .i64 0, .int .i64 0, .int .i64 0, .int .i64 0, .int .i64 0, .int .i64 0, .int .i64 0, .int .i64 0, .int .i64 0, .int .i64 0, .int .i64 0, .int .i64 0, .int .i64 0, .int .i64 0, .int .i64 0, .int .i64 0, .int .i64 0, .int .i64 0, .int .i64 0, .int .i64 0, .int .i64 0, .int .i64 0, .int .i64 0, .int .i64 0, .int .i64 0, .int .i64 0, .int .i64 0, .int .i64 0, .int .i64 0, .int .i64 0, .int .i64 0, .int .i64 0, .int .i64 0, .int .i64 0, .int .i64 0, .int .i64 0, .int .i64 0, .int .i64 0, .int .i64 0, .int .i64 0, .int .i64 0, .int .i64 0, .int .i64 0, .int .i64 0, .int .i64 0, .int .i64 0, .int .i64 0, .int .i64 0, .int .i64 0, .int .i64 0, .int .i64 0, .int .i64 0, .int .i64 0, .int .i64 0, .int .i64 0, .int .i64 0, .int .i64 0, .int .i64 0, .int .i64 0, .int .i64 0, .int .i64 0, .int .i64 0, .int .i64 0, .int .i64 0, .int .i64 0, .int .i64 0, .int .i64 0, .int .i64 0, .int .i64 0, .int .i64 0, .int .i64 0, .int .i64 0, .int .i64 0, .int .i64 0, .int .i64 0, .int .i64 0, .int .i64 0, .int .i64 0, .int .i64 0, .int .i64 0, .int .i64 0, .int .i64 0, .int .i64 0, .int .i64 0, .int .i64 0, .int .i64 0, .int .i64 0, .int .i64 0, .int .i64 0, .int .i64 0, .int .i64 0, .int .i64 0, .int .i64 0, .int .i64 0, .int .i64 0, .int .i64 0, .int .i64 0, .int .i64 0, .int .i64 0, .int .i64 0, .int .i64 0, .int .i64 0, .int .i64 0, .int .i64 0, .int .i64 0, .int .i64 0, .int .i64 0, .int .i64 0, .int .i64 0, .int .i64 0, .int .i64 0, .int .i64 0, .int .i64 0, .int .i64 0, .int .i64 0, .int .i64 0, .int .i64 0] ps).map fun cs => .v (.ag cs) := by subst hP; kernel_rfl
theorem un48 {P : Program} (hP : P = Try.prog)  : P.underlying 48 = some (.slice 29) := by subst hP; kernel_rfl
theorem fa50_0 {P : Program} (hP : P = Try.prog) (l o : Nat) : fieldAddrA P 50 (.v (.sc (.ptr l o))) 0 = some (.v (.sc (.ptr l (o + 0)))) := by subst hP; kernel_rfl
theorem fa50_1 {P : Program} (hP : P = Try.prog) (l o : Nat) : fieldAddrA P 50 (.v (.sc (.ptr l o))) 1 = some (.v (.sc (.ptr l (o + 1)))) := by subst hP; kernel_rfl
theorem fa50_2 {P : Program} (hP : P = Try.prog) (l o : Nat) : fieldAddrA P 50 (.v (.sc (.ptr l o))) 2 = some (.v (.sc (.ptr l (o + 2)))) := by subst hP; kernel_rfl
theorem fa50_3 {P : Program} (hP : P = Try.prog) (l o : Nat) : fieldAddrA P 50 (.v (.sc (.ptr l o))) 3 = some (.v (.sc (.ptr l (o + 5)))) := by subst hP; kernel_rfl
theorem bu50 {P : Program} (hP : P = Try.prog) (ps : List (Nat × AV)) : buildA P 50 ps = (fillA (fun i => ([(0, 1), (1, 1), (2, 3), (5, 1)] : List (Nat × Nat))[i]?) [.int .i64 0, .bool false, .int .i64 0, .int .i64 0, .int .i64 0, .nils] ps).map fun cs => .v (.ag cs) := by subst hP; kernel_rfl
theorem un51 {P : Program} (hP : P = Try.prog)  : P.underlying 51 = some (.array 8 50) := by subst hP; kernel_rfl
theorem un56 {P : Program} (hP : P = Try.prog)  : P.underlying 56 = some (.pointer 67) := by subst hP; kernel_rfl
theorem un64 {P : Program} (hP : P = Try.prog)  : P.underlying 64 = some (.pointer 133) := by subst hP; kernel_rfl
theorem un65 {P : Program} (hP : P = Try.prog)  : P.underlying 65 = some (.slice 109) := by subst hP; kernel_rfl
theorem fa67_0 {P : Program} (hP : P = Try.prog) (l o : Nat) : fieldAddrA P 67 (.v (.sc (.ptr l o))) 0 = some (.v (.sc (.ptr l (o + 0)))) := by subst hP; kernel_rfl
theorem fa67_1 {P : Program} (hP : P = Try.prog) (l o : Nat) : fieldAddrA P 67 (.v (.sc (.ptr l o))) 1 = some (.v (.sc (.ptr l (o + 1)))) := by subst hP; kernel_rfl
theorem fa67_2 {P : Program} (hP : P = Try.prog) (l o : Nat) : fieldAddrA P 67 (.v (.sc (.ptr l o))) 2 = some (.v (.sc (.ptr l (o + 2)))) := by subst hP; kernel_rfl
theorem fa67_3 {P : Program} (hP : P = Try.prog) (l o : Nat) : fieldAddrA P 67 (.v (.sc (.ptr l o))) 3 = some (.v (.sc (.ptr l (o + 3)))) := by subst hP; kernel_rfl
theorem bu67 {P : Program} (hP : P = Try.prog) (ps : List (Nat × AV)) : buildA P 67 ps = (fillA (fun i => ([(0, 1), (1, 1), (2, 1), (3, 1)] : List (Nat × Nat))[i]?) [.int .i64 0, .nilp, .nils, .nils] ps).map fun cs => .v (.ag cs) := by subst hP; kernel_rfl
theorem un81 {P : Program} (hP : P = Try.prog)  : P.underlying 81 = some (.slice 3) := by subst hP; kernel_rfl
theorem fa109_0 {P : Program} (hP : P = Try.prog) (l o : Nat) : fieldAddrA P 109 (.v (.sc (.ptr l o))) 0 = some (.v (.sc (.ptr l (o + 0)))) := by subst hP; kernel_rfl
theorem fa109_1 {P : Program} (hP : P = Try.prog) (l o : Nat) : fieldAddrA P 109 (.v (.sc (.ptr l o))) 1 = some (.v (.sc (.ptr l (o + 3)))) := by subst hP; kernel_rfl
theorem fa109_2 {P : Program} (hP : P = Try.prog) (l o : Nat) : fieldAddrA P 109 (.v (.sc (.ptr l o))) 2 = some (.v (.sc (.ptr l (o + 4)))) := by subst hP; kernel_rfl
theorem fa109_3 {P : Program} (hP : P = Try.prog) (l o : Nat) : fieldAddrA P 109 (.v (.sc (.ptr l o))) 3 = some (.v (.sc (.ptr l (o + 5)))) := by subst hP; kernel_rfl
theorem fa109_4 {P : Program} (hP : P = Try.prog) (l o : Nat) : fieldAddrA P 109 (.v (.sc (.ptr l o))) 4 = some (.v (.sc (.ptr l (o + 6)))) := by subst hP; kernel_rfl
theorem bu109 {P : Program} (hP : P = Try.prog) (ps : List (Nat × AV)) : buildA P 109 ps = (fillA (fun i => ([(0, 3), (3, 1), (4, 1), (5, 1), (6, 5)] : List (Nat × Nat))[i]?) [.int .i64 0, .int .i64 0, .int .i64 0, .int .i64 0, .bool false, .int .i64 0, .int .i64 0, .int .i64 0, .int .i64 0, .int .i64 0, .int .i64 0] ps).map fun cs => .v (.ag cs) := by subst hP; kernel_rfl
theorem fa116_0 {P : Program} (hP : P = Try.prog) (l o : Nat) : fieldAddrA P 116 (.v (.sc (.ptr l o))) 0 = some (.v (.sc (.ptr l (o + 0)))) := by subst hP; kernel_rfl
theorem fa116_1 {P : Program} (hP : P = Try.prog) (l o : Nat) : fieldAddrA P 116 (.v (.sc (.ptr l o))) 1 = some (.v (.sc (.ptr l (o + 1)))) := by subst hP; kernel_rfl
theorem fa116_2 {P : Program} (hP : P = Try.prog) (l o : Nat) : fieldAddrA P 116 (.v (.sc (.ptr l o))) 2 = some (.v (.sc (.ptr l (o + 2)))) := by subst hP; kernel_rfl
theorem bu116 {P : Program} (hP : P = Try.prog) (ps : List (Nat × AV)) : buildA P 116 ps = (fillA (fun i => ([(0, 1), (1, 1), (2, 1)] : List (Nat × Nat))[i]?) [.int .i64 0, .int .i64 0, .int .i64 0] ps).map fun cs => .v (.ag cs) := by subst hP; kernel_rfl
theorem un121 {P : Program} (hP : P = Try.prog)  : P.underlying 121 = some (.slice 4) := by subst hP; kernel_rfl
theorem un129 {P : Program} (hP : P = Try.prog)  : P.underlying 129 = some (.map 138 3) := by subst hP; kernel_rfl
theorem un130 {P : Program} (hP : P = Try.prog)  : P.underlying 130 = some (.map 138 141) := by subst hP; kernel_rfl
theorem un131 {P : Program} (hP : P = Try.prog)  : P.underlying 131 = some (.slice 116) := by subst hP; kernel_rfl
theorem fa133_0 {P : Program} (hP : P = Try.prog) (l o : Nat) : fieldAddrA P 133 (.v (.sc (.ptr l o))) 0 = some (.v (.sc (.ptr l (o + 0)))) := by subst hP; kernel_rfl
theorem fa133_1 {P : Program} (hP : P = Try.prog) (l o : Nat) : fieldAddrA P 133 (.v (.sc (.ptr l o))) 1 = some (.v (.sc (.ptr l (o + 1)))) := by subst hP; kernel_rfl
theorem fa133_2 {P : Program} (hP : P = Try.prog) (l o : Nat) : fieldAddrA P 133 (.v (.sc (.ptr l o))) 2 = some (.v (.sc (.ptr l (o + 2)))) := by subst hP; kernel_rfl
theorem fa133_3 {P : Program} (hP : P = Try.prog) (l o : Nat) : fieldAddrA P 133 (.v (.sc (.ptr l o))) 3 = some (.v (.sc (.ptr l (o + 3)))) := by subst hP; kernel_rfl
theorem fa133_4 {P : Program} (hP : P = Try.prog) (l o : Nat) : fieldAddrA P 133 (.v (.sc (.ptr l o))) 4 = some (.v (.sc (.ptr l (o + 4)))) := by subst hP; kernel_rfl
theorem bu133 {P : Program} (hP : P = Try.prog) (ps : List (Nat × AV)) : buildA P 133 ps = (fillA (fun i => ([(0, 1), (1, 1), (2, 1), (3, 1), (4, 1)] : List (Nat × Nat))[i]?) [.int .i64 0, .nils, .nils, .nilm, .nilm] ps).map fun cs => .v (.ag cs) := by subst hP; kernel_rfl
theorem bu138 {P : Program} (hP : P = Try.prog) (ps : List (Nat × AV)) : buildA P 138 ps = (fillA (fun i => ([(0, 1), (1, 1)] : List (Nat × Nat))[i]?) [.int .i64 0, .int .i64 0] ps).map fun cs => .v (.ag cs) := by subst hP; kernel_rfl
theorem eq138 {P : Program} (hP : P = Try.prog) (xs ys : List SV) : eqA P 138 (.v (.ag xs)) (.v (.ag ys)) = eqL [1, 1] xs ys := by subst hP; kernel_rfl
theorem zc141 {P : Program} (hP : P = Try.prog)  : zeroC P 141 = some (.ag [.int .i64 0, .int .i64 0]) := by subst hP; kernel_rfl
theorem fa141_0 {P : Program} (hP : P = Try.prog) (l o : Nat) : fieldAddrA P 141 (.v (.sc (.ptr l o))) 0 = some (.v (.sc (.ptr l (o + 0)))) := by subst hP; kernel_rfl
theorem fa141_1 {P : Program} (hP : P = Try.prog) (l o : Nat) : fieldAddrA P 141 (.v (.sc (.ptr l o))) 1 = some (.v (.sc (.ptr l (o + 1)))) := by subst hP; kernel_rfl
theorem bu141 {P : Program} (hP : P = Try.prog) (ps : List (Nat × AV)) : buildA P 141 ps = (fillA (fun i => ([(0, 1), (1, 1)] : List (Nat × Nat))[i]?) [.int .i64 0, .int .i64 0] ps).map fun cs => .v (.ag cs) := by subst hP; kernel_rfl
theorem eq141 {P : Program} (hP : P = Try.prog) (xs ys : List SV) : eqA P 141 (.v (.ag xs)) (.v (.ag ys)) = eqL [1, 1] xs ys := by subst hP; kernel_rfl
end Go.AM
