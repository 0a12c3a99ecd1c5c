/- Facts on the translation's types, printed by a program of this session. Conditions: none. -/
import Derived.Test.YtdokijbheholdaaDoorProg
import Derived.Test.YtdokijbheholdaaDoorAmSimp
namespace Go.AM
open Go.Proofs
set_option maxRecDepth 100000
theorem sz2 {P : Program} (hP : P = Tryd.prog)  : szT P 2 = some 1 := by subst hP; kernel_rfl
theorem ag2 {P : Program} (hP : P = Tryd.prog)  : aggT P 2 = some false := by subst hP; kernel_rfl
theorem ze2 {P : Program} (hP : P = Tryd.prog)  : zeroL P 2 = some [.int .i64 0] := by subst hP; kernel_rfl
theorem by2 {P : Program} (hP : P = Tryd.prog)  : bytesT P 2 = some 8 := by subst hP; kernel_rfl
theorem sz3 {P : Program} (hP : P = Tryd.prog)  : szT P 3 = some 1 := by subst hP; kernel_rfl
theorem ag3 {P : Program} (hP : P = Tryd.prog)  : aggT P 3 = some false := by subst hP; kernel_rfl
theorem ze3 {P : Program} (hP : P = Tryd.prog)  : zeroL P 3 = some [.int .i64 0] := by subst hP; kernel_rfl
theorem by3 {P : Program} (hP : P = Tryd.prog)  : bytesT P 3 = some 8 := by subst hP; kernel_rfl
theorem sz4 {P : Program} (hP : P = Tryd.prog)  : szT P 4 = some 1 := by subst hP; kernel_rfl
theorem ag4 {P : Program} (hP : P = Tryd.prog)  : aggT P 4 = some false := by subst hP; kernel_rfl
theorem ze4 {P : Program} (hP : P = Tryd.prog)  : zeroL P 4 = some [.bool false] := by subst hP; kernel_rfl
theorem by4 {P : Program} (hP : P = Tryd.prog)  : bytesT P 4 = some 1 := by subst hP; kernel_rfl
theorem sz5 {P : Program} (hP : P = Tryd.prog)  : szT P 5 = some 1 := by subst hP; kernel_rfl
theorem ag5 {P : Program} (hP : P = Tryd.prog)  : aggT P 5 = some false := by subst hP; kernel_rfl
theorem ze5 {P : Program} (hP : P = Tryd.prog)  : zeroL P 5 = some [.int .u8 0] := by subst hP; kernel_rfl
theorem by5 {P : Program} (hP : P = Tryd.prog)  : bytesT P 5 = some 1 := by subst hP; kernel_rfl
theorem sz6 {P : Program} (hP : P = Tryd.prog)  : szT P 6 = some 1 := by subst hP; kernel_rfl
theorem ag6 {P : Program} (hP : P = Tryd.prog)  : aggT P 6 = some false := by subst hP; kernel_rfl
theorem ze6 {P : Program} (hP : P = Tryd.prog)  : zeroL P 6 = some [.int .u8 0] := by subst hP; kernel_rfl
theorem by6 {P : Program} (hP : P = Tryd.prog)  : bytesT P 6 = some 1 := by subst hP; kernel_rfl
theorem sz7 {P : Program} (hP : P = Tryd.prog)  : szT P 7 = some 4 := by subst hP; kernel_rfl
theorem ag7 {P : Program} (hP : P = Tryd.prog)  : aggT P 7 = some true := by subst hP; kernel_rfl
theorem ze7 {P : Program} (hP : P = Tryd.prog)  : zeroL P 7 = some [.int .i64 0, .int .i64 0, .bool false, .int .u8 0] := by subst hP; kernel_rfl
theorem by7 {P : Program} (hP : P = Tryd.prog)  : bytesT P 7 = some 24 := by subst hP; kernel_rfl
theorem sz8 {P : Program} (hP : P = Tryd.prog)  : szT P 8 = some 4 := by subst hP; kernel_rfl
theorem ag8 {P : Program} (hP : P = Tryd.prog)  : aggT P 8 = some true := by subst hP; kernel_rfl
theorem ze8 {P : Program} (hP : P = Tryd.prog)  : zeroL P 8 = some [.int .i64 0, .int .i64 0, .bool false, .int .u8 0] := by subst hP; kernel_rfl
theorem by8 {P : Program} (hP : P = Tryd.prog)  : bytesT P 8 = some 24 := by subst hP; kernel_rfl
theorem sz9 {P : Program} (hP : P = Tryd.prog)  : szT P 9 = some 1 := by subst hP; kernel_rfl
theorem ag9 {P : Program} (hP : P = Tryd.prog)  : aggT P 9 = some false := by subst hP; kernel_rfl
theorem ze9 {P : Program} (hP : P = Tryd.prog)  : zeroL P 9 = some [.str ⟨#[]⟩] := by subst hP; kernel_rfl
theorem by9 {P : Program} (hP : P = Tryd.prog)  : bytesT P 9 = some 16 := by subst hP; kernel_rfl
theorem sz10 {P : Program} (hP : P = Tryd.prog)  : szT P 10 = some 1 := by subst hP; kernel_rfl
theorem ag10 {P : Program} (hP : P = Tryd.prog)  : aggT P 10 = some false := by subst hP; kernel_rfl
theorem ze10 {P : Program} (hP : P = Tryd.prog)  : zeroL P 10 = some [.str ⟨#[]⟩] := by subst hP; kernel_rfl
theorem by10 {P : Program} (hP : P = Tryd.prog)  : bytesT P 10 = some 16 := by subst hP; kernel_rfl
theorem sz11 {P : Program} (hP : P = Tryd.prog)  : szT P 11 = some 1 := by subst hP; kernel_rfl
theorem ag11 {P : Program} (hP : P = Tryd.prog)  : aggT P 11 = some false := by subst hP; kernel_rfl
theorem ze11 {P : Program} (hP : P = Tryd.prog)  : zeroL P 11 = some [.str ⟨#[]⟩] := by subst hP; kernel_rfl
theorem by11 {P : Program} (hP : P = Tryd.prog)  : bytesT P 11 = some 16 := by subst hP; kernel_rfl
theorem sz12 {P : Program} (hP : P = Tryd.prog)  : szT P 12 = some 1 := by subst hP; kernel_rfl
theorem ag12 {P : Program} (hP : P = Tryd.prog)  : aggT P 12 = some false := by subst hP; kernel_rfl
theorem ze12 {P : Program} (hP : P = Tryd.prog)  : zeroL P 12 = some [.int .u64 0] := by subst hP; kernel_rfl
theorem by12 {P : Program} (hP : P = Tryd.prog)  : bytesT P 12 = some 8 := by subst hP; kernel_rfl
theorem sz13 {P : Program} (hP : P = Tryd.prog)  : szT P 13 = some 2 := by subst hP; kernel_rfl
theorem ag13 {P : Program} (hP : P = Tryd.prog)  : aggT P 13 = some true := by subst hP; kernel_rfl
theorem ze13 {P : Program} (hP : P = Tryd.prog)  : zeroL P 13 = some [.str ⟨#[]⟩, .int .u64 0] := by subst hP; kernel_rfl
theorem by13 {P : Program} (hP : P = Tryd.prog)  : bytesT P 13 = some 24 := by subst hP; kernel_rfl
theorem sz14 {P : Program} (hP : P = Tryd.prog)  : szT P 14 = some 2 := by subst hP; kernel_rfl
theorem ag14 {P : Program} (hP : P = Tryd.prog)  : aggT P 14 = some true := by subst hP; kernel_rfl
theorem ze14 {P : Program} (hP : P = Tryd.prog)  : zeroL P 14 = some [.str ⟨#[]⟩, .int .u64 0] := by subst hP; kernel_rfl
theorem by14 {P : Program} (hP : P = Tryd.prog)  : bytesT P 14 = some 24 := by subst hP; kernel_rfl
theorem sz15 {P : Program} (hP : P = Tryd.prog)  : szT P 15 = some 1 := by subst hP; kernel_rfl
theorem ag15 {P : Program} (hP : P = Tryd.prog)  : aggT P 15 = some false := by subst hP; kernel_rfl
theorem ze15 {P : Program} (hP : P = Tryd.prog)  : zeroL P 15 = some [.nilp] := by subst hP; kernel_rfl
theorem by15 {P : Program} (hP : P = Tryd.prog)  : bytesT P 15 = some 8 := by subst hP; kernel_rfl
theorem sz16 {P : Program} (hP : P = Tryd.prog)  : szT P 16 = some 1 := by subst hP; kernel_rfl
theorem ag16 {P : Program} (hP : P = Tryd.prog)  : aggT P 16 = some false := by subst hP; kernel_rfl
theorem ze16 {P : Program} (hP : P = Tryd.prog)  : zeroL P 16 = some [.nilp] := by subst hP; kernel_rfl
theorem by16 {P : Program} (hP : P = Tryd.prog)  : bytesT P 16 = some 8 := by subst hP; kernel_rfl
theorem sz17 {P : Program} (hP : P = Tryd.prog)  : szT P 17 = some 1 := by subst hP; kernel_rfl
theorem ag17 {P : Program} (hP : P = Tryd.prog)  : aggT P 17 = some false := by subst hP; kernel_rfl
theorem ze17 {P : Program} (hP : P = Tryd.prog)  : zeroL P 17 = some [.nilp] := by subst hP; kernel_rfl
theorem by17 {P : Program} (hP : P = Tryd.prog)  : bytesT P 17 = some 8 := by subst hP; kernel_rfl
theorem sz18 {P : Program} (hP : P = Tryd.prog)  : szT P 18 = some 1 := by subst hP; kernel_rfl
theorem ag18 {P : Program} (hP : P = Tryd.prog)  : aggT P 18 = some true := by subst hP; kernel_rfl
theorem ze18 {P : Program} (hP : P = Tryd.prog)  : zeroL P 18 = some [.nilp] := by subst hP; kernel_rfl
theorem by18 {P : Program} (hP : P = Tryd.prog)  : bytesT P 18 = some 8 := by subst hP; kernel_rfl
theorem sz19 {P : Program} (hP : P = Tryd.prog)  : szT P 19 = some 1 := by subst hP; kernel_rfl
theorem ag19 {P : Program} (hP : P = Tryd.prog)  : aggT P 19 = some true := by subst hP; kernel_rfl
theorem ze19 {P : Program} (hP : P = Tryd.prog)  : zeroL P 19 = some [.nilp] := by subst hP; kernel_rfl
theorem by19 {P : Program} (hP : P = Tryd.prog)  : bytesT P 19 = some 8 := by subst hP; kernel_rfl
theorem sz21 {P : Program} (hP : P = Tryd.prog)  : szT P 21 = some 1 := by subst hP; kernel_rfl
theorem ag21 {P : Program} (hP : P = Tryd.prog)  : aggT P 21 = some false := by subst hP; kernel_rfl
theorem ze21 {P : Program} (hP : P = Tryd.prog)  : zeroL P 21 = some [.int .i32 0] := by subst hP; kernel_rfl
theorem by21 {P : Program} (hP : P = Tryd.prog)  : bytesT P 21 = some 4 := by subst hP; kernel_rfl
theorem sz22 {P : Program} (hP : P = Tryd.prog)  : szT P 22 = some 1 := by subst hP; kernel_rfl
theorem ag22 {P : Program} (hP : P = Tryd.prog)  : aggT P 22 = some false := by subst hP; kernel_rfl
theorem ze22 {P : Program} (hP : P = Tryd.prog)  : zeroL P 22 = some [.nils] := by subst hP; kernel_rfl
theorem by22 {P : Program} (hP : P = Tryd.prog)  : bytesT P 22 = some 24 := by subst hP; kernel_rfl
theorem sz25 {P : Program} (hP : P = Tryd.prog)  : szT P 25 = some 1 := by subst hP; kernel_rfl
theorem ag25 {P : Program} (hP : P = Tryd.prog)  : aggT P 25 = some true := by subst hP; kernel_rfl
theorem ze25 {P : Program} (hP : P = Tryd.prog)  : zeroL P 25 = some [.nils] := by subst hP; kernel_rfl
theorem by25 {P : Program} (hP : P = Tryd.prog)  : bytesT P 25 = some 24 := by subst hP; kernel_rfl
theorem sz26 {P : Program} (hP : P = Tryd.prog)  : szT P 26 = some 1 := by subst hP; kernel_rfl
theorem ag26 {P : Program} (hP : P = Tryd.prog)  : aggT P 26 = some true := by subst hP; kernel_rfl
theorem ze26 {P : Program} (hP : P = Tryd.prog)  : zeroL P 26 = some [.nils] := by subst hP; kernel_rfl
theorem by26 {P : Program} (hP : P = Tryd.prog)  : bytesT P 26 = some 24 := by subst hP; kernel_rfl
theorem sz27 {P : Program} (hP : P = Tryd.prog)  : szT P 27 = some 2 := by subst hP; kernel_rfl
theorem ag27 {P : Program} (hP : P = Tryd.prog)  : aggT P 27 = some true := by subst hP; kernel_rfl
theorem ze27 {P : Program} (hP : P = Tryd.prog)  : zeroL P 27 = some [.int .i64 0, .int .i64 0] := by subst hP; kernel_rfl
theorem by27 {P : Program} (hP : P = Tryd.prog)  : bytesT P 27 = some 16 := by subst hP; kernel_rfl
theorem sz28 {P : Program} (hP : P = Tryd.prog)  : szT P 28 = some 2 := by subst hP; kernel_rfl
theorem ag28 {P : Program} (hP : P = Tryd.prog)  : aggT P 28 = some true := by subst hP; kernel_rfl
theorem ze28 {P : Program} (hP : P = Tryd.prog)  : zeroL P 28 = some [.int .i64 0, .int .i64 0] := by subst hP; kernel_rfl
theorem by28 {P : Program} (hP : P = Tryd.prog)  : bytesT P 28 = some 16 := by subst hP; kernel_rfl
theorem sz30 {P : Program} (hP : P = Tryd.prog)  : szT P 30 = some 1 := by subst hP; kernel_rfl
theorem ag30 {P : Program} (hP : P = Tryd.prog)  : aggT P 30 = some false := by subst hP; kernel_rfl
theorem ze30 {P : Program} (hP : P = Tryd.prog)  : zeroL P 30 = some [.int .u64 0] := by subst hP; kernel_rfl
theorem by30 {P : Program} (hP : P = Tryd.prog)  : bytesT P 30 = some 8 := by subst hP; kernel_rfl
theorem sz31 {P : Program} (hP : P = Tryd.prog)  : szT P 31 = some 64 := by subst hP; kernel_rfl
theorem ag31 {P : Program} (hP : P = Tryd.prog)  : aggT P 31 = some true := by subst hP; kernel_rfl
theorem ze31 {P : Program} (hP : P = Tryd.prog)  : zeroL P 31 = some [.int .u64 0, .int .u64 0, .int .u64 0, .int .u64 0, .int .u64 0, .int .u64 0, .int .u64 0, .int .u64 0, .int .u64 0, .int .u64 0, .int .u64 0, .int .u64 0, .int .u64 0, .int .u64 0, .int .u64 0, .int .u64 0, .int .u64 0, .int .u64 0, .int .u64 0, .int .u64 0, .int .u64 0, .int .u64 0, .int .u64 0, .int .u64 0, .int .u64 0, .int .u64 0, .int .u64 0, .int .u64 0, .int .u64 0, .int .u64 0, .int .u64 0, .int .u64 0, .int .u64 0, .int .u64 0, .int .u64 0, .int .u64 0, .int .u64 0, .int .u64 0, .int .u64 0, .int .u64 0, .int .u64 0, .int .u64 0, .int .u64 0, .int .u64 0, .int .u64 0, .int .u64 0, .int .u64 0, .int .u64 0, .int .u64 0, .int .u64 0, .int .u64 0, .int .u64 0, .int .u64 0, .int .u64 0, .int .u64 0, .int .u64 0, .int .u64 0, .int .u64 0, .int .u64 0, .int .u64 0, .int .u64 0, .int .u64 0, .int .u64 0, .int .u64 0] := by subst hP; kernel_rfl
theorem by31 {P : Program} (hP : P = Tryd.prog)  : bytesT P 31 = some 512 := by subst hP; kernel_rfl
theorem sz32 {P : Program} (hP : P = Tryd.prog)  : szT P 32 = some 64 := by subst hP; kernel_rfl
theorem ag32 {P : Program} (hP : P = Tryd.prog)  : aggT P 32 = some true := by subst hP; kernel_rfl
theorem ze32 {P : Program} (hP : P = Tryd.prog)  : zeroL P 32 = some [.int .u64 0, .int .u64 0, .int .u64 0, .int .u64 0, .int .u64 0, .int .u64 0, .int .u64 0, .int .u64 0, .int .u64 0, .int .u64 0, .int .u64 0, .int .u64 0, .int .u64 0, .int .u64 0, .int .u64 0, .int .u64 0, .int .u64 0, .int .u64 0, .int .u64 0, .int .u64 0, .int .u64 0, .int .u64 0, .int .u64 0, .int .u64 0, .int .u64 0, .int .u64 0, .int .u64 0, .int .u64 0, .int .u64 0, .int .u64 0, .int .u64 0, .int .u64 0, .int .u64 0, .int .u64 0, .int .u64 0, .int .u64 0, .int .u64 0, .int .u64 0, .int .u64 0, .int .u64 0, .int .u64 0, .int .u64 0, .int .u64 0, .int .u64 0, .int .u64 0, .int .u64 0, .int .u64 0, .int .u64 0, .int .u64 0, .int .u64 0, .int .u64 0, .int .u64 0, .int .u64 0, .int .u64 0, .int .u64 0, .int .u64 0, .int .u64 0, .int .u64 0, .int .u64 0, .int .u64 0, .int .u64 0, .int .u64 0, .int .u64 0, .int .u64 0] := by subst hP; kernel_rfl
theorem by32 {P : Program} (hP : P = Tryd.prog)  : bytesT P 32 = some 512 := by subst hP; kernel_rfl
theorem sz33 {P : Program} (hP : P = Tryd.prog)  : szT P 33 = some 64 := by subst hP; kernel_rfl
theorem ag33 {P : Program} (hP : P = Tryd.prog)  : aggT P 33 = some true := by subst hP; kernel_rfl
theorem ze33 {P : Program} (hP : P = Tryd.prog)  : zeroL P 33 = some [.int .u64 0, .int .u64 0, .int .u64 0, .int .u64 0, .int .u64 0, .int .u64 0, .int .u64 0, .int .u64 0, .int .u64 0, .int .u64 0, .int .u64 0, .int .u64 0, .int .u64 0, .int .u64 0, .int .u64 0, .int .u64 0, .int .u64 0, .int .u64 0, .int .u64 0, .int .u64 0, .int .u64 0, .int .u64 0, .int .u64 0, .int .u64 0, .int .u64 0, .int .u64 0, .int .u64 0, .int .u64 0, .int .u64 0, .int .u64 0, .int .u64 0, .int .u64 0, .int .u64 0, .int .u64 0, .int .u64 0, .int .u64 0, .int .u64 0, .int .u64 0, .int .u64 0, .int .u64 0, .int .u64 0, .int .u64 0, .int .u64 0, .int .u64 0, .int .u64 0, .int .u64 0, .int .u64 0, .int .u64 0, .int .u64 0, .int .u64 0, .int .u64 0, .int .u64 0, .int .u64 0, .int .u64 0, .int .u64 0, .int .u64 0, .int .u64 0, .int .u64 0, .int .u64 0, .int .u64 0, .int .u64 0, .int .u64 0, .int .u64 0, .int .u64 0] := by subst hP; kernel_rfl
theorem by33 {P : Program} (hP : P = Tryd.prog)  : bytesT P 33 = some 512 := by subst hP; kernel_rfl
theorem sz35 {P : Program} (hP : P = Tryd.prog)  : szT P 35 = some 1 := by subst hP; kernel_rfl
theorem ag35 {P : Program} (hP : P = Tryd.prog)  : aggT P 35 = some false := by subst hP; kernel_rfl
theorem ze35 {P : Program} (hP : P = Tryd.prog)  : zeroL P 35 = some [.nils] := by subst hP; kernel_rfl
theorem by35 {P : Program} (hP : P = Tryd.prog)  : bytesT P 35 = some 24 := by subst hP; kernel_rfl
theorem sz40 {P : Program} (hP : P = Tryd.prog)  : szT P 40 = some 1 := by subst hP; kernel_rfl
theorem ag40 {P : Program} (hP : P = Tryd.prog)  : aggT P 40 = some false := by subst hP; kernel_rfl
theorem ze40 {P : Program} (hP : P = Tryd.prog)  : zeroL P 40 = some [.int .i64 0] := by subst hP; kernel_rfl
theorem by40 {P : Program} (hP : P = Tryd.prog)  : bytesT P 40 = some 8 := by subst hP; kernel_rfl
theorem sz47 {P : Program} (hP : P = Tryd.prog)  : szT P 47 = some 1 := by subst hP; kernel_rfl
theorem ag47 {P : Program} (hP : P = Tryd.prog)  : aggT P 47 = some false := by subst hP; kernel_rfl
theorem ze47 {P : Program} (hP : P = Tryd.prog)  : zeroL P 47 = some [.nilm] := by subst hP; kernel_rfl
theorem by47 {P : Program} (hP : P = Tryd.prog)  : bytesT P 47 = some 8 := by subst hP; kernel_rfl
theorem sz48 {P : Program} (hP : P = Tryd.prog)  : szT P 48 = some 1 := by subst hP; kernel_rfl
theorem ag48 {P : Program} (hP : P = Tryd.prog)  : aggT P 48 = some false := by subst hP; kernel_rfl
theorem ze48 {P : Program} (hP : P = Tryd.prog)  : zeroL P 48 = some [.nilp] := by subst hP; kernel_rfl
theorem by48 {P : Program} (hP : P = Tryd.prog)  : bytesT P 48 = some 8 := by subst hP; kernel_rfl
theorem sz55 {P : Program} (hP : P = Tryd.prog)  : szT P 55 = some 64 := by subst hP; kernel_rfl
theorem ag55 {P : Program} (hP : P = Tryd.prog)  : aggT P 55 = some true := by subst hP; kernel_rfl
theorem ze55 {P : Program} (hP : P = Tryd.prog)  : zeroL P 55 = some [.int .i64 0, .int .i64 0, .int .i64 0, .int .i64 0, .int .i64 0, .int .i64 0, .int .i64 0, .int .i64 0, .int .i64 0, .int .i64 0, .int .i64 0, .int .i64 0, .int .i64 0, .int .i64 0, .int .i64 0, .int .i64 0, .int .i64 0, .int .i64 0, .int .i64 0, .int .i64 0, .int .i64 0, .int .i64 0, .int .i64 0, .int .i64 0, .int .i64 0, .int .i64 0, .int .i64 0, .int .i64 0, .int .i64 0, .int .i64 0, .int .i64 0, .int .i64 0, .int .i64 0, .int .i64 0, .int .i64 0, .int .i64 0, .int .i64 0, .int .i64 0, .int .i64 0, .int .i64 0, .int .i64 0, .int .i64 0, .int .i64 0, .int .i64 0, .int .i64 0, .int .i64 0, .int .i64 0, .int .i64 0, .int .i64 0, .int .i64 0, .int .i64 0, .int .i64 0, .int .i64 0, .int .i64 0, .int .i64 0, .int .i64 0, .int .i64 0, .int .i64 0, .int .i64 0, .int .i64 0, .int .i64 0, .int .i64 0, .int .i64 0, .int .i64 0] := by subst hP; kernel_rfl
theorem by55 {P : Program} (hP : P = Tryd.prog)  : bytesT P 55 = some 512 := by subst hP; kernel_rfl
theorem sz59 {P : Program} (hP : P = Tryd.prog)  : szT P 59 = some 64 := by subst hP; kernel_rfl
theorem ag59 {P : Program} (hP : P = Tryd.prog)  : aggT P 59 = some true := by subst hP; kernel_rfl
theorem ze59 {P : Program} (hP : P = Tryd.prog)  : zeroL P 59 = some [.bool false, .bool false, .bool false, .bool false, .bool false, .bool false, .bool false, .bool false, .bool false, .bool false, .bool false, .bool false, .bool false, .bool false, .bool false, .bool false, .bool false, .bool false, .bool false, .bool false, .bool false, .bool false, .bool false, .bool false, .bool false, .bool false, .bool false, .bool false, .bool false, .bool false, .bool false, .bool false, .bool false, .bool false, .bool false, .bool false, .bool false, .bool false, .bool false, .bool false, .bool false, .bool false, .bool false, .bool false, .bool false, .bool false, .bool false, .bool false, .bool false, .bool false, .bool false, .bool false, .bool false, .bool false, .bool false, .bool false, .bool false, .bool false, .bool false, .bool false, .bool false, .bool false, .bool false, .bool false] := by subst hP; kernel_rfl
theorem by59 {P : Program} (hP : P = Tryd.prog)  : bytesT P 59 = some 64 := by subst hP; kernel_rfl
theorem sz61 {P : Program} (hP : P = Tryd.prog)  : szT P 61 = some 1 := by subst hP; kernel_rfl
theorem ag61 {P : Program} (hP : P = Tryd.prog)  : aggT P 61 = some false := by subst hP; kernel_rfl
theorem ze61 {P : Program} (hP : P = Tryd.prog)  : zeroL P 61 = some [.int .u64 0] := by subst hP; kernel_rfl
theorem by61 {P : Program} (hP : P = Tryd.prog)  : bytesT P 61 = some 8 := by subst hP; kernel_rfl
theorem sz62 {P : Program} (hP : P = Tryd.prog)  : szT P 62 = some 64 := by subst hP; kernel_rfl
theorem ag62 {P : Program} (hP : P = Tryd.prog)  : aggT P 62 = some true := by subst hP; kernel_rfl
theorem ze62 {P : Program} (hP : P = Tryd.prog)  : zeroL P 62 = some [.int .u8 0, .int .u8 0, .int .u8 0, .int .u8 0, .int .u8 0, .int .u8 0, .int .u8 0, .int .u8 0, .int .u8 0, .int .u8 0, .int .u8 0, .int .u8 0, .int .u8 0, .int .u8 0, .int .u8 0, .int .u8 0, .int .u8 0, .int .u8 0, .int .u8 0, .int .u8 0, .int .u8 0, .int .u8 0, .int .u8 0, .int .u8 0, .int .u8 0, .int .u8 0, .int .u8 0, .int .u8 0, .int .u8 0, .int .u8 0, .int .u8 0, .int .u8 0, .int .u8 0, .int .u8 0, .int .u8 0, .int .u8 0, .int .u8 0, .int .u8 0, .int .u8 0, .int .u8 0, .int .u8 0, .int .u8 0, .int .u8 0, .int .u8 0, .int .u8 0, .int .u8 0, .int .u8 0, .int .u8 0, .int .u8 0, .int .u8 0, .int .u8 0, .int .u8 0, .int .u8 0, .int .u8 0, .int .u8 0, .int .u8 0, .int .u8 0, .int .u8 0, .int .u8 0, .int .u8 0, .int .u8 0, .int .u8 0, .int .u8 0, .int .u8 0] := by subst hP; kernel_rfl
theorem by62 {P : Program} (hP : P = Tryd.prog)  : bytesT P 62 = some 64 := by subst hP; kernel_rfl
theorem sz64 {P : Program} (hP : P = Tryd.prog)  : szT P 64 = some 4 := by subst hP; kernel_rfl
theorem ag64 {P : Program} (hP : P = Tryd.prog)  : aggT P 64 = some true := by subst hP; kernel_rfl
theorem ze64 {P : Program} (hP : P = Tryd.prog)  : zeroL P 64 = some [.nilp, .nilp, .nilp, .str ⟨#[]⟩] := by subst hP; kernel_rfl
theorem by64 {P : Program} (hP : P = Tryd.prog)  : bytesT P 64 = some 40 := by subst hP; kernel_rfl
theorem sz65 {P : Program} (hP : P = Tryd.prog)  : szT P 65 = some 4 := by subst hP; kernel_rfl
theorem ag65 {P : Program} (hP : P = Tryd.prog)  : aggT P 65 = some true := by subst hP; kernel_rfl
theorem ze65 {P : Program} (hP : P = Tryd.prog)  : zeroL P 65 = some [.nilp, .nilp, .nilp, .str ⟨#[]⟩] := by subst hP; kernel_rfl
theorem by65 {P : Program} (hP : P = Tryd.prog)  : bytesT P 65 = some 40 := by subst hP; kernel_rfl
theorem sz66 {P : Program} (hP : P = Tryd.prog)  : szT P 66 = some 0 := by subst hP; kernel_rfl
theorem ag66 {P : Program} (hP : P = Tryd.prog)  : aggT P 66 = some true := by subst hP; kernel_rfl
theorem ze66 {P : Program} (hP : P = Tryd.prog)  : zeroL P 66 = some [] := by subst hP; kernel_rfl
theorem by66 {P : Program} (hP : P = Tryd.prog)  : bytesT P 66 = some 0 := by subst hP; kernel_rfl
theorem sz67 {P : Program} (hP : P = Tryd.prog)  : szT P 67 = some 0 := by subst hP; kernel_rfl
theorem ag67 {P : Program} (hP : P = Tryd.prog)  : aggT P 67 = some true := by subst hP; kernel_rfl
theorem ze67 {P : Program} (hP : P = Tryd.prog)  : zeroL P 67 = some [] := by subst hP; kernel_rfl
theorem by67 {P : Program} (hP : P = Tryd.prog)  : bytesT P 67 = some 0 := by subst hP; kernel_rfl
theorem sz68 {P : Program} (hP : P = Tryd.prog)  : szT P 68 = some 0 := by subst hP; kernel_rfl
theorem ag68 {P : Program} (hP : P = Tryd.prog)  : aggT P 68 = some true := by subst hP; kernel_rfl
theorem ze68 {P : Program} (hP : P = Tryd.prog)  : zeroL P 68 = some [] := by subst hP; kernel_rfl
theorem by68 {P : Program} (hP : P = Tryd.prog)  : bytesT P 68 = some 0 := by subst hP; kernel_rfl
theorem sz69 {P : Program} (hP : P = Tryd.prog)  : szT P 69 = some 1 := by subst hP; kernel_rfl
theorem ag69 {P : Program} (hP : P = Tryd.prog)  : aggT P 69 = some false := by subst hP; kernel_rfl
theorem ze69 {P : Program} (hP : P = Tryd.prog)  : zeroL P 69 = some [.int .u32 0] := by subst hP; kernel_rfl
theorem by69 {P : Program} (hP : P = Tryd.prog)  : bytesT P 69 = some 4 := by subst hP; kernel_rfl
theorem sz70 {P : Program} (hP : P = Tryd.prog)  : szT P 70 = some 1 := by subst hP; kernel_rfl
theorem ag70 {P : Program} (hP : P = Tryd.prog)  : aggT P 70 = some false := by subst hP; kernel_rfl
theorem ze70 {P : Program} (hP : P = Tryd.prog)  : zeroL P 70 = some [.int .u8 0] := by subst hP; kernel_rfl
theorem by70 {P : Program} (hP : P = Tryd.prog)  : bytesT P 70 = some 1 := by subst hP; kernel_rfl
theorem sz71 {P : Program} (hP : P = Tryd.prog)  : szT P 71 = some 1 := by subst hP; kernel_rfl
theorem ag71 {P : Program} (hP : P = Tryd.prog)  : aggT P 71 = some false := by subst hP; kernel_rfl
theorem ze71 {P : Program} (hP : P = Tryd.prog)  : zeroL P 71 = some [.int .u8 0] := by subst hP; kernel_rfl
theorem by71 {P : Program} (hP : P = Tryd.prog)  : bytesT P 71 = some 1 := by subst hP; kernel_rfl
theorem sz73 {P : Program} (hP : P = Tryd.prog)  : szT P 73 = some 1 := by subst hP; kernel_rfl
theorem ag73 {P : Program} (hP : P = Tryd.prog)  : aggT P 73 = some false := by subst hP; kernel_rfl
theorem ze73 {P : Program} (hP : P = Tryd.prog)  : zeroL P 73 = some [.nilp] := by subst hP; kernel_rfl
theorem by73 {P : Program} (hP : P = Tryd.prog)  : bytesT P 73 = some 8 := by subst hP; kernel_rfl
theorem sz74 {P : Program} (hP : P = Tryd.prog)  : szT P 74 = some 1 := by subst hP; kernel_rfl
theorem ag74 {P : Program} (hP : P = Tryd.prog)  : aggT P 74 = some false := by subst hP; kernel_rfl
theorem ze74 {P : Program} (hP : P = Tryd.prog)  : zeroL P 74 = some [.int .i32 0] := by subst hP; kernel_rfl
theorem by74 {P : Program} (hP : P = Tryd.prog)  : bytesT P 74 = some 4 := by subst hP; kernel_rfl
theorem sz75 {P : Program} (hP : P = Tryd.prog)  : szT P 75 = some 1 := by subst hP; kernel_rfl
theorem ag75 {P : Program} (hP : P = Tryd.prog)  : aggT P 75 = some false := by subst hP; kernel_rfl
theorem ze75 {P : Program} (hP : P = Tryd.prog)  : zeroL P 75 = some [.int .i32 0] := by subst hP; kernel_rfl
theorem by75 {P : Program} (hP : P = Tryd.prog)  : bytesT P 75 = some 4 := by subst hP; kernel_rfl
theorem sz76 {P : Program} (hP : P = Tryd.prog)  : szT P 76 = some 11 := by subst hP; kernel_rfl
theorem ag76 {P : Program} (hP : P = Tryd.prog)  : aggT P 76 = some true := by subst hP; kernel_rfl
theorem ze76 {P : Program} (hP : P = Tryd.prog)  : zeroL P 76 = some [.int .u64 0, .int .u64 0, .int .u32 0, .int .u8 0, .int .u8 0, .int .u8 0, .int .u8 0, .nilf, .nilp, .int .i32 0, .int .i32 0] := by subst hP; kernel_rfl
theorem by76 {P : Program} (hP : P = Tryd.prog)  : bytesT P 76 = some 48 := by subst hP; kernel_rfl
theorem sz77 {P : Program} (hP : P = Tryd.prog)  : szT P 77 = some 11 := by subst hP; kernel_rfl
theorem ag77 {P : Program} (hP : P = Tryd.prog)  : aggT P 77 = some true := by subst hP; kernel_rfl
theorem ze77 {P : Program} (hP : P = Tryd.prog)  : zeroL P 77 = some [.int .u64 0, .int .u64 0, .int .u32 0, .int .u8 0, .int .u8 0, .int .u8 0, .int .u8 0, .nilf, .nilp, .int .i32 0, .int .i32 0] := by subst hP; kernel_rfl
theorem by77 {P : Program} (hP : P = Tryd.prog)  : bytesT P 77 = some 48 := by subst hP; kernel_rfl
theorem sz78 {P : Program} (hP : P = Tryd.prog)  : szT P 78 = some 1 := by subst hP; kernel_rfl
theorem ag78 {P : Program} (hP : P = Tryd.prog)  : aggT P 78 = some false := by subst hP; kernel_rfl
theorem ze78 {P : Program} (hP : P = Tryd.prog)  : zeroL P 78 = some [.nilp] := by subst hP; kernel_rfl
theorem by78 {P : Program} (hP : P = Tryd.prog)  : bytesT P 78 = some 8 := by subst hP; kernel_rfl
theorem un2 {P : Program} (hP : P = Tryd.prog)  : P.underlying 2 = some (.int .i64) := by subst hP; kernel_rfl
theorem zc3 {P : Program} (hP : P = Tryd.prog)  : zeroC P 3 = some (.sc (.int .i64 0)) := by subst hP; kernel_rfl
theorem un3 {P : Program} (hP : P = Tryd.prog)  : P.underlying 3 = some (.int .i64) := by subst hP; kernel_rfl
theorem un4 {P : Program} (hP : P = Tryd.prog)  : P.underlying 4 = some .bool := by subst hP; kernel_rfl
theorem un5 {P : Program} (hP : P = Tryd.prog)  : P.underlying 5 = some (.int .u8) := by subst hP; kernel_rfl
theorem un6 {P : Program} (hP : P = Tryd.prog)  : P.underlying 6 = some (.int .u8) := by subst hP; kernel_rfl
theorem fa7_0 {P : Program} (hP : P = Tryd.prog) (l o : Nat) : fieldAddrA P 7 (.v (.sc (.ptr l o))) 0 = some (.v (.sc (.ptr l (o + 0)))) := by subst hP; kernel_rfl
theorem fd7_0 {P : Program} (hP : P = Tryd.prog) (cs : List SV) : fieldA P 7 (.v (.ag cs)) 0 = (partA P 2 cs 0).map .v := by subst hP; kernel_rfl
theorem fa7_1 {P : Program} (hP : P = Tryd.prog) (l o : Nat) : fieldAddrA P 7 (.v (.sc (.ptr l o))) 1 = some (.v (.sc (.ptr l (o + 1)))) := by subst hP; kernel_rfl
theorem fd7_1 {P : Program} (hP : P = Tryd.prog) (cs : List SV) : fieldA P 7 (.v (.ag cs)) 1 = (partA P 3 cs 1).map .v := by subst hP; kernel_rfl
theorem fa7_2 {P : Program} (hP : P = Tryd.prog) (l o : Nat) : fieldAddrA P 7 (.v (.sc (.ptr l o))) 2 = some (.v (.sc (.ptr l (o + 2)))) := by subst hP; kernel_rfl
theorem fd7_2 {P : Program} (hP : P = Tryd.prog) (cs : List SV) : fieldA P 7 (.v (.ag cs)) 2 = (partA P 4 cs 2).map .v := by subst hP; kernel_rfl
theorem fa7_3 {P : Program} (hP : P = Tryd.prog) (l o : Nat) : fieldAddrA P 7 (.v (.sc (.ptr l o))) 3 = some (.v (.sc (.ptr l (o + 3)))) := by subst hP; kernel_rfl
theorem fd7_3 {P : Program} (hP : P = Tryd.prog) (cs : List SV) : fieldA P 7 (.v (.ag cs)) 3 = (partA P 6 cs 3).map .v := by subst hP; kernel_rfl
theorem bu7 {P : Program} (hP : P = Tryd.prog) (ps : List (Nat × AV)) : buildA P 7 ps = (fillA (fun i => ([(0, 1), (1, 1), (2, 1), (3, 1)] : List (Nat × Nat))[i]?) [.int .i64 0, .int .i64 0, .bool false, .int .u8 0] ps).map fun cs => .v (.ag cs) := by subst hP; kernel_rfl
theorem eq7 {P : Program} (hP : P = Tryd.prog) (xs ys : List SV) : eqA P 7 (.v (.ag xs)) (.v (.ag ys)) = eqL [1, 1, 0, 1] xs ys := by subst hP; kernel_rfl
theorem fa8_0 {P : Program} (hP : P = Tryd.prog) (l o : Nat) : fieldAddrA P 8 (.v (.sc (.ptr l o))) 0 = some (.v (.sc (.ptr l (o + 0)))) := by subst hP; kernel_rfl
theorem fd8_0 {P : Program} (hP : P = Tryd.prog) (cs : List SV) : fieldA P 8 (.v (.ag cs)) 0 = (partA P 2 cs 0).map .v := by subst hP; kernel_rfl
theorem fa8_1 {P : Program} (hP : P = Tryd.prog) (l o : Nat) : fieldAddrA P 8 (.v (.sc (.ptr l o))) 1 = some (.v (.sc (.ptr l (o + 1)))) := by subst hP; kernel_rfl
theorem fd8_1 {P : Program} (hP : P = Tryd.prog) (cs : List SV) : fieldA P 8 (.v (.ag cs)) 1 = (partA P 3 cs 1).map .v := by subst hP; kernel_rfl
theorem fa8_2 {P : Program} (hP : P = Tryd.prog) (l o : Nat) : fieldAddrA P 8 (.v (.sc (.ptr l o))) 2 = some (.v (.sc (.ptr l (o + 2)))) := by subst hP; kernel_rfl
theorem fd8_2 {P : Program} (hP : P = Tryd.prog) (cs : List SV) : fieldA P 8 (.v (.ag cs)) 2 = (partA P 4 cs 2).map .v := by subst hP; kernel_rfl
theorem fa8_3 {P : Program} (hP : P = Tryd.prog) (l o : Nat) : fieldAddrA P 8 (.v (.sc (.ptr l o))) 3 = some (.v (.sc (.ptr l (o + 3)))) := by subst hP; kernel_rfl
theorem fd8_3 {P : Program} (hP : P = Tryd.prog) (cs : List SV) : fieldA P 8 (.v (.ag cs)) 3 = (partA P 6 cs 3).map .v := by subst hP; kernel_rfl
theorem bu8 {P : Program} (hP : P = Tryd.prog) (ps : List (Nat × AV)) : buildA P 8 ps = (fillA (fun i => ([(0, 1), (1, 1), (2, 1), (3, 1)] : List (Nat × Nat))[i]?) [.int .i64 0, .int .i64 0, .bool false, .int .u8 0] ps).map fun cs => .v (.ag cs) := by subst hP; kernel_rfl
theorem eq8 {P : Program} (hP : P = Tryd.prog) (xs ys : List SV) : eqA P 8 (.v (.ag xs)) (.v (.ag ys)) = eqL [1, 1, 0, 1] xs ys := by subst hP; kernel_rfl
theorem un9 {P : Program} (hP : P = Tryd.prog)  : P.underlying 9 = some .string := by subst hP; kernel_rfl
theorem un10 {P : Program} (hP : P = Tryd.prog)  : P.underlying 10 = some .string := by subst hP; kernel_rfl
theorem un11 {P : Program} (hP : P = Tryd.prog)  : P.underlying 11 = some .string := by subst hP; kernel_rfl
theorem un12 {P : Program} (hP : P = Tryd.prog)  : P.underlying 12 = some (.int .u64) := by subst hP; kernel_rfl
theorem fa13_0 {P : Program} (hP : P = Tryd.prog) (l o : Nat) : fieldAddrA P 13 (.v (.sc (.ptr l o))) 0 = some (.v (.sc (.ptr l (o + 0)))) := by subst hP; kernel_rfl
theorem fd13_0 {P : Program} (hP : P = Tryd.prog) (cs : List SV) : fieldA P 13 (.v (.ag cs)) 0 = (partA P 9 cs 0).map .v := by subst hP; kernel_rfl
theorem fa13_1 {P : Program} (hP : P = Tryd.prog) (l o : Nat) : fieldAddrA P 13 (.v (.sc (.ptr l o))) 1 = some (.v (.sc (.ptr l (o + 1)))) := by subst hP; kernel_rfl
theorem fd13_1 {P : Program} (hP : P = Tryd.prog) (cs : List SV) : fieldA P 13 (.v (.ag cs)) 1 = (partA P 12 cs 1).map .v := by subst hP; kernel_rfl
theorem bu13 {P : Program} (hP : P = Tryd.prog) (ps : List (Nat × AV)) : buildA P 13 ps = (fillA (fun i => ([(0, 1), (1, 1)] : List (Nat × Nat))[i]?) [.str ⟨#[]⟩, .int .u64 0] ps).map fun cs => .v (.ag cs) := by subst hP; kernel_rfl
theorem fa14_0 {P : Program} (hP : P = Tryd.prog) (l o : Nat) : fieldAddrA P 14 (.v (.sc (.ptr l o))) 0 = some (.v (.sc (.ptr l (o + 0)))) := by subst hP; kernel_rfl
theorem fd14_0 {P : Program} (hP : P = Tryd.prog) (cs : List SV) : fieldA P 14 (.v (.ag cs)) 0 = (partA P 9 cs 0).map .v := by subst hP; kernel_rfl
theorem fa14_1 {P : Program} (hP : P = Tryd.prog) (l o : Nat) : fieldAddrA P 14 (.v (.sc (.ptr l o))) 1 = some (.v (.sc (.ptr l (o + 1)))) := by subst hP; kernel_rfl
theorem fd14_1 {P : Program} (hP : P = Tryd.prog) (cs : List SV) : fieldA P 14 (.v (.ag cs)) 1 = (partA P 12 cs 1).map .v := by subst hP; kernel_rfl
theorem bu14 {P : Program} (hP : P = Tryd.prog) (ps : List (Nat × AV)) : buildA P 14 ps = (fillA (fun i => ([(0, 1), (1, 1)] : List (Nat × Nat))[i]?) [.str ⟨#[]⟩, .int .u64 0] ps).map fun cs => .v (.ag cs) := by subst hP; kernel_rfl
theorem un15 {P : Program} (hP : P = Tryd.prog)  : P.underlying 15 = some (.pointer 65) := by subst hP; kernel_rfl
theorem un16 {P : Program} (hP : P = Tryd.prog)  : P.underlying 16 = some (.pointer 68) := by subst hP; kernel_rfl
theorem un17 {P : Program} (hP : P = Tryd.prog)  : P.underlying 17 = some (.pointer 77) := by subst hP; kernel_rfl
theorem fa18_0 {P : Program} (hP : P = Tryd.prog) (l o : Nat) : fieldAddrA P 18 (.v (.sc (.ptr l o))) 0 = some (.v (.sc (.ptr l (o + 0)))) := by subst hP; kernel_rfl
theorem fd18_0 {P : Program} (hP : P = Tryd.prog) (cs : List SV) : fieldA P 18 (.v (.ag cs)) 0 = (partA P 17 cs 0).map .v := by subst hP; kernel_rfl
theorem bu18 {P : Program} (hP : P = Tryd.prog) (ps : List (Nat × AV)) : buildA P 18 ps = (fillA (fun i => ([(0, 1)] : List (Nat × Nat))[i]?) [.nilp] ps).map fun cs => .v (.ag cs) := by subst hP; kernel_rfl
theorem fa19_0 {P : Program} (hP : P = Tryd.prog) (l o : Nat) : fieldAddrA P 19 (.v (.sc (.ptr l o))) 0 = some (.v (.sc (.ptr l (o + 0)))) := by subst hP; kernel_rfl
theorem fd19_0 {P : Program} (hP : P = Tryd.prog) (cs : List SV) : fieldA P 19 (.v (.ag cs)) 0 = (partA P 17 cs 0).map .v := by subst hP; kernel_rfl
theorem bu19 {P : Program} (hP : P = Tryd.prog) (ps : List (Nat × AV)) : buildA P 19 ps = (fillA (fun i => ([(0, 1)] : List (Nat × Nat))[i]?) [.nilp] ps).map fun cs => .v (.ag cs) := by subst hP; kernel_rfl
theorem un21 {P : Program} (hP : P = Tryd.prog)  : P.underlying 21 = some (.int .i32) := by subst hP; kernel_rfl
theorem un22 {P : Program} (hP : P = Tryd.prog)  : P.underlying 22 = some (.slice 28) := by subst hP; kernel_rfl
theorem fa25_0 {P : Program} (hP : P = Tryd.prog) (l o : Nat) : fieldAddrA P 25 (.v (.sc (.ptr l o))) 0 = some (.v (.sc (.ptr l (o + 0)))) := by subst hP; kernel_rfl
theorem fd25_0 {P : Program} (hP : P = Tryd.prog) (cs : List SV) : fieldA P 25 (.v (.ag cs)) 0 = (partA P 22 cs 0).map .v := by subst hP; kernel_rfl
theorem bu25 {P : Program} (hP : P = Tryd.prog) (ps : List (Nat × AV)) : buildA P 25 ps = (fillA (fun i => ([(0, 1)] : List (Nat × Nat))[i]?) [.nils] ps).map fun cs => .v (.ag cs) := by subst hP; kernel_rfl
theorem fa26_0 {P : Program} (hP : P = Tryd.prog) (l o : Nat) : fieldAddrA P 26 (.v (.sc (.ptr l o))) 0 = some (.v (.sc (.ptr l (o + 0)))) := by subst hP; kernel_rfl
theorem fd26_0 {P : Program} (hP : P = Tryd.prog) (cs : List SV) : fieldA P 26 (.v (.ag cs)) 0 = (partA P 22 cs 0).map .v := by subst hP; kernel_rfl
theorem bu26 {P : Program} (hP : P = Tryd.prog) (ps : List (Nat × AV)) : buildA P 26 ps = (fillA (fun i => ([(0, 1)] : List (Nat × Nat))[i]?) [.nils] ps).map fun cs => .v (.ag cs) := by subst hP; kernel_rfl
theorem fa27_0 {P : Program} (hP : P = Tryd.prog) (l o : Nat) : fieldAddrA P 27 (.v (.sc (.ptr l o))) 0 = some (.v (.sc (.ptr l (o + 0)))) := by subst hP; kernel_rfl
theorem fd27_0 {P : Program} (hP : P = Tryd.prog) (cs : List SV) : fieldA P 27 (.v (.ag cs)) 0 = (partA P 3 cs 0).map .v := by subst hP; kernel_rfl
theorem fa27_1 {P : Program} (hP : P = Tryd.prog) (l o : Nat) : fieldAddrA P 27 (.v (.sc (.ptr l o))) 1 = some (.v (.sc (.ptr l (o + 1)))) := by subst hP; kernel_rfl
theorem fd27_1 {P : Program} (hP : P = Tryd.prog) (cs : List SV) : fieldA P 27 (.v (.ag cs)) 1 = (partA P 3 cs 1).map .v := by subst hP; kernel_rfl
theorem bu27 {P : Program} (hP : P = Tryd.prog) (ps : List (Nat × AV)) : buildA P 27 ps = (fillA (fun i => ([(0, 1), (1, 1)] : List (Nat × Nat))[i]?) [.int .i64 0, .int .i64 0] ps).map fun cs => .v (.ag cs) := by subst hP; kernel_rfl
theorem eq27 {P : Program} (hP : P = Tryd.prog) (xs ys : List SV) : eqA P 27 (.v (.ag xs)) (.v (.ag ys)) = eqL [1, 1] xs ys := by subst hP; kernel_rfl
theorem fa28_0 {P : Program} (hP : P = Tryd.prog) (l o : Nat) : fieldAddrA P 28 (.v (.sc (.ptr l o))) 0 = some (.v (.sc (.ptr l (o + 0)))) := by subst hP; kernel_rfl
theorem fd28_0 {P : Program} (hP : P = Tryd.prog) (cs : List SV) : fieldA P 28 (.v (.ag cs)) 0 = (partA P 3 cs 0).map .v := by subst hP; kernel_rfl
theorem fa28_1 {P : Program} (hP : P = Tryd.prog) (l o : Nat) : fieldAddrA P 28 (.v (.sc (.ptr l o))) 1 = some (.v (.sc (.ptr l (o + 1)))) := by subst hP; kernel_rfl
theorem fd28_1 {P : Program} (hP : P = Tryd.prog) (cs : List SV) : fieldA P 28 (.v (.ag cs)) 1 = (partA P 3 cs 1).map .v := by subst hP; kernel_rfl
theorem bu28 {P : Program} (hP : P = Tryd.prog) (ps : List (Nat × AV)) : buildA P 28 ps = (fillA (fun i => ([(0, 1), (1, 1)] : List (Nat × Nat))[i]?) [.int .i64 0, .int .i64 0] ps).map fun cs => .v (.ag cs) := by subst hP; kernel_rfl
theorem eq28 {P : Program} (hP : P = Tryd.prog) (xs ys : List SV) : eqA P 28 (.v (.ag xs)) (.v (.ag ys)) = eqL [1, 1] xs ys := by subst hP; kernel_rfl
theorem un30 {P : Program} (hP : P = Tryd.prog)  : P.underlying 30 = some (.int .u64) := by subst hP; kernel_rfl
theorem un31 {P : Program} (hP : P = Tryd.prog)  : P.underlying 31 = some (.array 64 30) := by subst hP; kernel_rfl
theorem eq31 {P : Program} (hP : P = Tryd.prog) (xs ys : List SV) : eqA P 31 (.v (.ag xs)) (.v (.ag ys)) = eqL [1, 1, 1, 1, 1, 1, 1, 1, 1, 1, 1, 1, 1, 1, 1, 1, 1, 1, 1, 1, 1, 1, 1, 1, 1, 1, 1, 1, 1, 1, 1, 1, 1, 1, 1, 1, 1, 1, 1, 1, 1, 1, 1, 1, 1, 1, 1, 1, 1, 1, 1, 1, 1, 1, 1, 1, 1, 1, 1, 1, 1, 1, 1, 1] xs ys := by subst hP; kernel_rfl
theorem bu31 {P : Program} (hP : P = Tryd.prog) (ps : List (Nat × AV)) : buildA P 31 ps = (fillA (fun i => some (i * 1, 1)) [.int .u64 0, .int .u64 0, .int .u64 0, .int .u64 0, .int .u64 0, .int .u64 0, .int .u64 0, .int .u64 0, .int .u64 0, .int .u64 0, .int .u64 0, .int .u64 0, .int .u64 0, .int .u64 0, .int .u64 0, .int .u64 0, .int .u64 0, .int .u64 0, .int .u64 0, .int .u64 0, .int .u64 0, .int .u64 0, .int .u64 0, .int .u64 0, .int .u64 0, .int .u64 0, .int .u64 0, .int .u64 0, .int .u64 0, .int .u64 0, .int .u64 0, .int .u64 0, .int .u64 0, .int .u64 0, .int .u64 0, .int .u64 0, .int .u64 0, .int .u64 0, .int .u64 0, .int .u64 0, .int .u64 0, .int .u64 0, .int .u64 0, .int .u64 0, .int .u64 0, .int .u64 0, .int .u64 0, .int .u64 0, .int .u64 0, .int .u64 0, .int .u64 0, .int .u64 0, .int .u64 0, .int .u64 0, .int .u64 0, .int .u64 0, .int .u64 0, .int .u64 0, .int .u64 0, .int .u64 0, .int .u64 0, .int .u64 0, .int .u64 0, .int .u64 0] ps).map fun cs => .v (.ag cs) := by subst hP; kernel_rfl
theorem fa32_0 {P : Program} (hP : P = Tryd.prog) (l o : Nat) : fieldAddrA P 32 (.v (.sc (.ptr l o))) 0 = some (.v (.sc (.ptr l (o + 0)))) := by subst hP; kernel_rfl
theorem fd32_0 {P : Program} (hP : P = Tryd.prog) (cs : List SV) : fieldA P 32 (.v (.ag cs)) 0 = (partA P 31 cs 0).map .v := by subst hP; kernel_rfl
theorem bu32 {P : Program} (hP : P = Tryd.prog) (ps : List (Nat × AV)) : buildA P 32 ps = (fillA (fun i => ([(0, 64)] : List (Nat × Nat))[i]?) [.int .u64 0, .int .u64 0, .int .u64 0, .int .u64 0, .int .u64 0, .int .u64 0, .int .u64 0, .int .u64 0, .int .u64 0, .int .u64 0, .int .u64 0, .int .u64 0, .int .u64 0, .int .u64 0, .int .u64 0, .int .u64 0, .int .u64 0, .int .u64 0, .int .u64 0, .int .u64 0, .int .u64 0, .int .u64 0, .int .u64 0, .int .u64 0, .int .u64 0, .int .u64 0, .int .u64 0, .int .u64 0, .int .u64 0, .int .u64 0, .int .u64 0, .int .u64 0, .int .u64 0, .int .u64 0, .int .u64 0, .int .u64 0, .int .u64 0, .int .u64 0, .int .u64 0, .int .u64 0, .int .u64 0, .int .u64 0, .int .u64 0, .int .u64 0, .int .u64 0, .int .u64 0, .int .u64 0, .int .u64 0, .int .u64 0, .int .u64 0, .int .u64 0, .int .u64 0, .int .u64 0, .int .u64 0, .int .u64 0, .int .u64 0, .int .u64 0, .int .u64 0, .int .u64 0, .int .u64 0, .int .u64 0, .int .u64 0, .int .u64 0, .int .u64 0] ps).map fun cs => .v (.ag cs) := by subst hP; kernel_rfl
theorem eq32 {P : Program} (hP : P = Tryd.prog) (xs ys : List SV) : eqA P 32 (.v (.ag xs)) (.v (.ag ys)) = eqL [1, 1, 1, 1, 1, 1, 1, 1, 1, 1, 1, 1, 1, 1, 1, 1, 1, 1, 1, 1, 1, 1, 1, 1, 1, 1, 1, 1, 1, 1, 1, 1, 1, 1, 1, 1, 1, 1, 1, 1, 1, 1, 1, 1, 1, 1, 1, 1, 1, 1, 1, 1, 1, 1, 1, 1, 1, 1, 1, 1, 1, 1, 1, 1] xs ys := by subst hP; kernel_rfl
theorem fa33_0 {P : Program} (hP : P = Tryd.prog) (l o : Nat) : fieldAddrA P 33 (.v (.sc (.ptr l o))) 0 = some (.v (.sc (.ptr l (o + 0)))) := by subst hP; kernel_rfl
theorem fd33_0 {P : Program} (hP : P = Tryd.prog) (cs : List SV) : fieldA P 33 (.v (.ag cs)) 0 = (partA P 31 cs 0).map .v := by subst hP; kernel_rfl
theorem bu33 {P : Program} (hP : P = Tryd.prog) (ps : List (Nat × AV)) : buildA P 33 ps = (fillA (fun i => ([(0, 64)] : List (Nat × Nat))[i]?) [.int .u64 0, .int .u64 0, .int .u64 0, .int .u64 0, .int .u64 0, .int .u64 0, .int .u64 0, .int .u64 0, .int .u64 0, .int .u64 0, .int .u64 0, .int .u64 0, .int .u64 0, .int .u64 0, .int .u64 0, .int .u64 0, .int .u64 0, .int .u64 0, .int .u64 0, .int .u64 0, .int .u64 0, .int .u64 0, .int .u64 0, .int .u64 0, .int .u64 0, .int .u64 0, .int .u64 0, .int .u64 0, .int .u64 0, .int .u64 0, .int .u64 0, .int .u64 0, .int .u64 0, .int .u64 0, .int .u64 0, .int .u64 0, .int .u64 0, .int .u64 0, .int .u64 0, .int .u64 0, .int .u64 0, .int .u64 0, .int .u64 0, .int .u64 0, .int .u64 0, .int .u64 0, .int .u64 0, .int .u64 0, .int .u64 0, .int .u64 0, .int .u64 0, .int .u64 0, .int .u64 0, .int .u64 0, .int .u64 0, .int .u64 0, .int .u64 0, .int .u64 0, .int .u64 0, .int .u64 0, .int .u64 0, .int .u64 0, .int .u64 0, .int .u64 0] ps).map fun cs => .v (.ag cs) := by subst hP; kernel_rfl
theorem eq33 {P : Program} (hP : P = Tryd.prog) (xs ys : List SV) : eqA P 33 (.v (.ag xs)) (.v (.ag ys)) = eqL [1, 1, 1, 1, 1, 1, 1, 1, 1, 1, 1, 1, 1, 1, 1, 1, 1, 1, 1, 1, 1, 1, 1, 1, 1, 1, 1, 1, 1, 1, 1, 1, 1, 1, 1, 1, 1, 1, 1, 1, 1, 1, 1, 1, 1, 1, 1, 1, 1, 1, 1, 1, 1, 1, 1, 1, 1, 1, 1, 1, 1, 1, 1, 1] xs ys := by subst hP; kernel_rfl
theorem un35 {P : Program} (hP : P = Tryd.prog)  : P.underlying 35 = some (.slice 3) := by subst hP; kernel_rfl
theorem un40 {P : Program} (hP : P = Tryd.prog)  : P.underlying 40 = some (.int .i64) := by subst hP; kernel_rfl
theorem un47 {P : Program} (hP : P = Tryd.prog)  : P.underlying 47 = some (.map 3 3) := by subst hP; kernel_rfl
theorem un48 {P : Program} (hP : P = Tryd.prog)  : P.underlying 48 = some (.pointer 26) := by subst hP; kernel_rfl
theorem un55 {P : Program} (hP : P = Tryd.prog)  : P.underlying 55 = some (.array 64 3) := by subst hP; kernel_rfl
theorem eq55 {P : Program} (hP : P = Tryd.prog) (xs ys : List SV) : eqA P 55 (.v (.ag xs)) (.v (.ag ys)) = eqL [1, 1, 1, 1, 1, 1, 1, 1, 1, 1, 1, 1, 1, 1, 1, 1, 1, 1, 1, 1, 1, 1, 1, 1, 1, 1, 1, 1, 1, 1, 1, 1, 1, 1, 1, 1, 1, 1, 1, 1, 1, 1, 1, 1, 1, 1, 1, 1, 1, 1, 1, 1, 1, 1, 1, 1, 1, 1, 1, 1, 1, 1, 1, 1] xs ys := by subst hP; kernel_rfl
theorem bu55 {P : Program} (hP : P = Tryd.prog) (ps : List (Nat × AV)) : buildA P 55 ps = (fillA (fun i => some (i * 1, 1)) [.int .i64 0, .int .i64 0, .int .i64 0, .int .i64 0, .int .i64 0, .int .i64 0, .int .i64 0, .int .i64 0, .int .i64 0, .int .i64 0, .int .i64 0, .int .i64 0, .int .i64 0, .int .i64 0, .int .i64 0, .int .i64 0, .int .i64 0, .int .i64 0, .int .i64 0, .int .i64 0, .int .i64 0, .int .i64 0, .int .i64 0, .int .i64 0, .int .i64 0, .int .i64 0, .int .i64 0, .int .i64 0, .int .i64 0, .int .i64 0, .int .i64 0, .int .i64 0, .int .i64 0, .int .i64 0, .int .i64 0, .int .i64 0, .int .i64 0, .int .i64 0, .int .i64 0, .int .i64 0, .int .i64 0, .int .i64 0, .int .i64 0, .int .i64 0, .int .i64 0, .int .i64 0, .int .i64 0, .int .i64 0, .int .i64 0, .int .i64 0, .int .i64 0, .int .i64 0, .int .i64 0, .int .i64 0, .int .i64 0, .int .i64 0, .int .i64 0, .int .i64 0, .int .i64 0, .int .i64 0, .int .i64 0, .int .i64 0, .int .i64 0, .int .i64 0] ps).map fun cs => .v (.ag cs) := by subst hP; kernel_rfl
theorem un59 {P : Program} (hP : P = Tryd.prog)  : P.underlying 59 = some (.array 64 4) := by subst hP; kernel_rfl
theorem eq59 {P : Program} (hP : P = Tryd.prog) (xs ys : List SV) : eqA P 59 (.v (.ag xs)) (.v (.ag ys)) = eqL [0, 0, 0, 0, 0, 0, 0, 0, 0, 0, 0, 0, 0, 0, 0, 0, 0, 0, 0, 0, 0, 0, 0, 0, 0, 0, 0, 0, 0, 0, 0, 0, 0, 0, 0, 0, 0, 0, 0, 0, 0, 0, 0, 0, 0, 0, 0, 0, 0, 0, 0, 0, 0, 0, 0, 0, 0, 0, 0, 0, 0, 0, 0, 0] xs ys := by subst hP; kernel_rfl
theorem bu59 {P : Program} (hP : P = Tryd.prog) (ps : List (Nat × AV)) : buildA P 59 ps = (fillA (fun i => some (i * 1, 1)) [.bool false, .bool false, .bool false, .bool false, .bool false, .bool false, .bool false, .bool false, .bool false, .bool false, .bool false, .bool false, .bool false, .bool false, .bool false, .bool false, .bool false, .bool false, .bool false, .bool false, .bool false, .bool false, .bool false, .bool false, .bool false, .bool false, .bool false, .bool false, .bool false, .bool false, .bool false, .bool false, .bool false, .bool false, .bool false, .bool false, .bool false, .bool false, .bool false, .bool false, .bool false, .bool false, .bool false, .bool false, .bool false, .bool false, .bool false, .bool false, .bool false, .bool false, .bool false, .bool false, .bool false, .bool false, .bool false, .bool false, .bool false, .bool false, .bool false, .bool false, .bool false, .bool false, .bool false, .bool false] ps).map fun cs => .v (.ag cs) := by subst hP; kernel_rfl
theorem un61 {P : Program} (hP : P = Tryd.prog)  : P.underlying 61 = some (.int .u64) := by subst hP; kernel_rfl
theorem un62 {P : Program} (hP : P = Tryd.prog)  : P.underlying 62 = some (.array 64 5) := by subst hP; kernel_rfl
theorem eq62 {P : Program} (hP : P = Tryd.prog) (xs ys : List SV) : eqA P 62 (.v (.ag xs)) (.v (.ag ys)) = eqL [1, 1, 1, 1, 1, 1, 1, 1, 1, 1, 1, 1, 1, 1, 1, 1, 1, 1, 1, 1, 1, 1, 1, 1, 1, 1, 1, 1, 1, 1, 1, 1, 1, 1, 1, 1, 1, 1, 1, 1, 1, 1, 1, 1, 1, 1, 1, 1, 1, 1, 1, 1, 1, 1, 1, 1, 1, 1, 1, 1, 1, 1, 1, 1] xs ys := by subst hP; kernel_rfl
theorem bu62 {P : Program} (hP : P = Tryd.prog) (ps : List (Nat × AV)) : buildA P 62 ps = (fillA (fun i => some (i * 1, 1)) [.int .u8 0, .int .u8 0, .int .u8 0, .int .u8 0, .int .u8 0, .int .u8 0, .int .u8 0, .int .u8 0, .int .u8 0, .int .u8 0, .int .u8 0, .int .u8 0, .int .u8 0, .int .u8 0, .int .u8 0, .int .u8 0, .int .u8 0, .int .u8 0, .int .u8 0, .int .u8 0, .int .u8 0, .int .u8 0, .int .u8 0, .int .u8 0, .int .u8 0, .int .u8 0, .int .u8 0, .int .u8 0, .int .u8 0, .int .u8 0, .int .u8 0, .int .u8 0, .int .u8 0, .int .u8 0, .int .u8 0, .int .u8 0, .int .u8 0, .int .u8 0, .int .u8 0, .int .u8 0, .int .u8 0, .int .u8 0, .int .u8 0, .int .u8 0, .int .u8 0, .int .u8 0, .int .u8 0, .int .u8 0, .int .u8 0, .int .u8 0, .int .u8 0, .int .u8 0, .int .u8 0, .int .u8 0, .int .u8 0, .int .u8 0, .int .u8 0, .int .u8 0, .int .u8 0, .int .u8 0, .int .u8 0, .int .u8 0, .int .u8 0, .int .u8 0] ps).map fun cs => .v (.ag cs) := by subst hP; kernel_rfl
theorem fa64_0 {P : Program} (hP : P = Tryd.prog) (l o : Nat) : fieldAddrA P 64 (.v (.sc (.ptr l o))) 0 = some (.v (.sc (.ptr l (o + 0)))) := by subst hP; kernel_rfl
theorem fd64_0 {P : Program} (hP : P = Tryd.prog) (cs : List SV) : fieldA P 64 (.v (.ag cs)) 0 = (partA P 17 cs 0).map .v := by subst hP; kernel_rfl
theorem fa64_1 {P : Program} (hP : P = Tryd.prog) (l o : Nat) : fieldAddrA P 64 (.v (.sc (.ptr l o))) 1 = some (.v (.sc (.ptr l (o + 1)))) := by subst hP; kernel_rfl
theorem fd64_1 {P : Program} (hP : P = Tryd.prog) (cs : List SV) : fieldA P 64 (.v (.ag cs)) 1 = (partA P 17 cs 1).map .v := by subst hP; kernel_rfl
theorem fa64_2 {P : Program} (hP : P = Tryd.prog) (l o : Nat) : fieldAddrA P 64 (.v (.sc (.ptr l o))) 2 = some (.v (.sc (.ptr l (o + 2)))) := by subst hP; kernel_rfl
theorem fd64_2 {P : Program} (hP : P = Tryd.prog) (cs : List SV) : fieldA P 64 (.v (.ag cs)) 2 = (partA P 17 cs 2).map .v := by subst hP; kernel_rfl
theorem fa64_3 {P : Program} (hP : P = Tryd.prog) (l o : Nat) : fieldAddrA P 64 (.v (.sc (.ptr l o))) 3 = some (.v (.sc (.ptr l (o + 3)))) := by subst hP; kernel_rfl
theorem fd64_3 {P : Program} (hP : P = Tryd.prog) (cs : List SV) : fieldA P 64 (.v (.ag cs)) 3 = (partA P 9 cs 3).map .v := by subst hP; kernel_rfl
theorem bu64 {P : Program} (hP : P = Tryd.prog) (ps : List (Nat × AV)) : buildA P 64 ps = (fillA (fun i => ([(0, 1), (1, 1), (2, 1), (3, 1)] : List (Nat × Nat))[i]?) [.nilp, .nilp, .nilp, .str ⟨#[]⟩] ps).map fun cs => .v (.ag cs) := by subst hP; kernel_rfl
theorem fa65_0 {P : Program} (hP : P = Tryd.prog) (l o : Nat) : fieldAddrA P 65 (.v (.sc (.ptr l o))) 0 = some (.v (.sc (.ptr l (o + 0)))) := by subst hP; kernel_rfl
theorem fd65_0 {P : Program} (hP : P = Tryd.prog) (cs : List SV) : fieldA P 65 (.v (.ag cs)) 0 = (partA P 17 cs 0).map .v := by subst hP; kernel_rfl
theorem fa65_1 {P : Program} (hP : P = Tryd.prog) (l o : Nat) : fieldAddrA P 65 (.v (.sc (.ptr l o))) 1 = some (.v (.sc (.ptr l (o + 1)))) := by subst hP; kernel_rfl
theorem fd65_1 {P : Program} (hP : P = Tryd.prog) (cs : List SV) : fieldA P 65 (.v (.ag cs)) 1 = (partA P 17 cs 1).map .v := by subst hP; kernel_rfl
theorem fa65_2 {P : Program} (hP : P = Tryd.prog) (l o : Nat) : fieldAddrA P 65 (.v (.sc (.ptr l o))) 2 = some (.v (.sc (.ptr l (o + 2)))) := by subst hP; kernel_rfl
theorem fd65_2 {P : Program} (hP : P = Tryd.prog) (cs : List SV) : fieldA P 65 (.v (.ag cs)) 2 = (partA P 17 cs 2).map .v := by subst hP; kernel_rfl
theorem fa65_3 {P : Program} (hP : P = Tryd.prog) (l o : Nat) : fieldAddrA P 65 (.v (.sc (.ptr l o))) 3 = some (.v (.sc (.ptr l (o + 3)))) := by subst hP; kernel_rfl
theorem fd65_3 {P : Program} (hP : P = Tryd.prog) (cs : List SV) : fieldA P 65 (.v (.ag cs)) 3 = (partA P 9 cs 3).map .v := by subst hP; kernel_rfl
theorem bu65 {P : Program} (hP : P = Tryd.prog) (ps : List (Nat × AV)) : buildA P 65 ps = (fillA (fun i => ([(0, 1), (1, 1), (2, 1), (3, 1)] : List (Nat × Nat))[i]?) [.nilp, .nilp, .nilp, .str ⟨#[]⟩] ps).map fun cs => .v (.ag cs) := by subst hP; kernel_rfl
theorem un66 {P : Program} (hP : P = Tryd.prog)  : P.underlying 66 = some (.array 0 16) := by subst hP; kernel_rfl
theorem bu66 {P : Program} (hP : P = Tryd.prog) (ps : List (Nat × AV)) : buildA P 66 ps = (fillA (fun i => some (i * 1, 1)) [] ps).map fun cs => .v (.ag cs) := by subst hP; kernel_rfl
theorem fd67_0 {P : Program} (hP : P = Tryd.prog) (cs : List SV) : fieldA P 67 (.v (.ag cs)) 0 = (partA P 66 cs 0).map .v := by subst hP; kernel_rfl
theorem bu67 {P : Program} (hP : P = Tryd.prog) (ps : List (Nat × AV)) : buildA P 67 ps = (fillA (fun i => ([(0, 0)] : List (Nat × Nat))[i]?) [] ps).map fun cs => .v (.ag cs) := by subst hP; kernel_rfl
theorem fd68_0 {P : Program} (hP : P = Tryd.prog) (cs : List SV) : fieldA P 68 (.v (.ag cs)) 0 = (partA P 66 cs 0).map .v := by subst hP; kernel_rfl
theorem bu68 {P : Program} (hP : P = Tryd.prog) (ps : List (Nat × AV)) : buildA P 68 ps = (fillA (fun i => ([(0, 0)] : List (Nat × Nat))[i]?) [] ps).map fun cs => .v (.ag cs) := by subst hP; kernel_rfl
theorem un69 {P : Program} (hP : P = Tryd.prog)  : P.underlying 69 = some (.int .u32) := by subst hP; kernel_rfl
theorem un70 {P : Program} (hP : P = Tryd.prog)  : P.underlying 70 = some (.int .u8) := by subst hP; kernel_rfl
theorem un71 {P : Program} (hP : P = Tryd.prog)  : P.underlying 71 = some (.int .u8) := by subst hP; kernel_rfl
theorem un73 {P : Program} (hP : P = Tryd.prog)  : P.underlying 73 = some (.pointer 5) := by subst hP; kernel_rfl
theorem un74 {P : Program} (hP : P = Tryd.prog)  : P.underlying 74 = some (.int .i32) := by subst hP; kernel_rfl
theorem un75 {P : Program} (hP : P = Tryd.prog)  : P.underlying 75 = some (.int .i32) := by subst hP; kernel_rfl
theorem fa76_0 {P : Program} (hP : P = Tryd.prog) (l o : Nat) : fieldAddrA P 76 (.v (.sc (.ptr l o))) 0 = some (.v (.sc (.ptr l (o + 0)))) := by subst hP; kernel_rfl
theorem fd76_0 {P : Program} (hP : P = Tryd.prog) (cs : List SV) : fieldA P 76 (.v (.ag cs)) 0 = (partA P 12 cs 0).map .v := by subst hP; kernel_rfl
theorem fa76_1 {P : Program} (hP : P = Tryd.prog) (l o : Nat) : fieldAddrA P 76 (.v (.sc (.ptr l o))) 1 = some (.v (.sc (.ptr l (o + 1)))) := by subst hP; kernel_rfl
theorem fd76_1 {P : Program} (hP : P = Tryd.prog) (cs : List SV) : fieldA P 76 (.v (.ag cs)) 1 = (partA P 12 cs 1).map .v := by subst hP; kernel_rfl
theorem fa76_2 {P : Program} (hP : P = Tryd.prog) (l o : Nat) : fieldAddrA P 76 (.v (.sc (.ptr l o))) 2 = some (.v (.sc (.ptr l (o + 2)))) := by subst hP; kernel_rfl
theorem fd76_2 {P : Program} (hP : P = Tryd.prog) (cs : List SV) : fieldA P 76 (.v (.ag cs)) 2 = (partA P 69 cs 2).map .v := by subst hP; kernel_rfl
theorem fa76_3 {P : Program} (hP : P = Tryd.prog) (l o : Nat) : fieldAddrA P 76 (.v (.sc (.ptr l o))) 3 = some (.v (.sc (.ptr l (o + 3)))) := by subst hP; kernel_rfl
theorem fd76_3 {P : Program} (hP : P = Tryd.prog) (cs : List SV) : fieldA P 76 (.v (.ag cs)) 3 = (partA P 70 cs 3).map .v := by subst hP; kernel_rfl
theorem fa76_4 {P : Program} (hP : P = Tryd.prog) (l o : Nat) : fieldAddrA P 76 (.v (.sc (.ptr l o))) 4 = some (.v (.sc (.ptr l (o + 4)))) := by subst hP; kernel_rfl
theorem fd76_4 {P : Program} (hP : P = Tryd.prog) (cs : List SV) : fieldA P 76 (.v (.ag cs)) 4 = (partA P 5 cs 4).map .v := by subst hP; kernel_rfl
theorem fa76_5 {P : Program} (hP : P = Tryd.prog) (l o : Nat) : fieldAddrA P 76 (.v (.sc (.ptr l o))) 5 = some (.v (.sc (.ptr l (o + 5)))) := by subst hP; kernel_rfl
theorem fd76_5 {P : Program} (hP : P = Tryd.prog) (cs : List SV) : fieldA P 76 (.v (.ag cs)) 5 = (partA P 5 cs 5).map .v := by subst hP; kernel_rfl
theorem fa76_6 {P : Program} (hP : P = Tryd.prog) (l o : Nat) : fieldAddrA P 76 (.v (.sc (.ptr l o))) 6 = some (.v (.sc (.ptr l (o + 6)))) := by subst hP; kernel_rfl
theorem fd76_6 {P : Program} (hP : P = Tryd.prog) (cs : List SV) : fieldA P 76 (.v (.ag cs)) 6 = (partA P 71 cs 6).map .v := by subst hP; kernel_rfl
theorem fa76_7 {P : Program} (hP : P = Tryd.prog) (l o : Nat) : fieldAddrA P 76 (.v (.sc (.ptr l o))) 7 = some (.v (.sc (.ptr l (o + 7)))) := by subst hP; kernel_rfl
theorem fd76_7 {P : Program} (hP : P = Tryd.prog) (cs : List SV) : fieldA P 76 (.v (.ag cs)) 7 = (partA P 72 cs 7).map .v := by subst hP; kernel_rfl
theorem fa76_8 {P : Program} (hP : P = Tryd.prog) (l o : Nat) : fieldAddrA P 76 (.v (.sc (.ptr l o))) 8 = some (.v (.sc (.ptr l (o + 8)))) := by subst hP; kernel_rfl
theorem fd76_8 {P : Program} (hP : P = Tryd.prog) (cs : List SV) : fieldA P 76 (.v (.ag cs)) 8 = (partA P 73 cs 8).map .v := by subst hP; kernel_rfl
theorem fa76_9 {P : Program} (hP : P = Tryd.prog) (l o : Nat) : fieldAddrA P 76 (.v (.sc (.ptr l o))) 9 = some (.v (.sc (.ptr l (o + 9)))) := by subst hP; kernel_rfl
theorem fd76_9 {P : Program} (hP : P = Tryd.prog) (cs : List SV) : fieldA P 76 (.v (.ag cs)) 9 = (partA P 74 cs 9).map .v := by subst hP; kernel_rfl
theorem fa76_10 {P : Program} (hP : P = Tryd.prog) (l o : Nat) : fieldAddrA P 76 (.v (.sc (.ptr l o))) 10 = some (.v (.sc (.ptr l (o + 10)))) := by subst hP; kernel_rfl
theorem fd76_10 {P : Program} (hP : P = Tryd.prog) (cs : List SV) : fieldA P 76 (.v (.ag cs)) 10 = (partA P 75 cs 10).map .v := by subst hP; kernel_rfl
theorem bu76 {P : Program} (hP : P = Tryd.prog) (ps : List (Nat × AV)) : buildA P 76 ps = (fillA (fun i => ([(0, 1), (1, 1), (2, 1), (3, 1), (4, 1), (5, 1), (6, 1), (7, 1), (8, 1), (9, 1), (10, 1)] : List (Nat × Nat))[i]?) [.int .u64 0, .int .u64 0, .int .u32 0, .int .u8 0, .int .u8 0, .int .u8 0, .int .u8 0, .nilf, .nilp, .int .i32 0, .int .i32 0] ps).map fun cs => .v (.ag cs) := by subst hP; kernel_rfl
theorem fa77_0 {P : Program} (hP : P = Tryd.prog) (l o : Nat) : fieldAddrA P 77 (.v (.sc (.ptr l o))) 0 = some (.v (.sc (.ptr l (o + 0)))) := by subst hP; kernel_rfl
theorem fd77_0 {P : Program} (hP : P = Tryd.prog) (cs : List SV) : fieldA P 77 (.v (.ag cs)) 0 = (partA P 12 cs 0).map .v := by subst hP; kernel_rfl
theorem fa77_1 {P : Program} (hP : P = Tryd.prog) (l o : Nat) : fieldAddrA P 77 (.v (.sc (.ptr l o))) 1 = some (.v (.sc (.ptr l (o + 1)))) := by subst hP; kernel_rfl
theorem fd77_1 {P : Program} (hP : P = Tryd.prog) (cs : List SV) : fieldA P 77 (.v (.ag cs)) 1 = (partA P 12 cs 1).map .v := by subst hP; kernel_rfl
theorem fa77_2 {P : Program} (hP : P = Tryd.prog) (l o : Nat) : fieldAddrA P 77 (.v (.sc (.ptr l o))) 2 = some (.v (.sc (.ptr l (o + 2)))) := by subst hP; kernel_rfl
theorem fd77_2 {P : Program} (hP : P = Tryd.prog) (cs : List SV) : fieldA P 77 (.v (.ag cs)) 2 = (partA P 69 cs 2).map .v := by subst hP; kernel_rfl
theorem fa77_3 {P : Program} (hP : P = Tryd.prog) (l o : Nat) : fieldAddrA P 77 (.v (.sc (.ptr l o))) 3 = some (.v (.sc (.ptr l (o + 3)))) := by subst hP; kernel_rfl
theorem fd77_3 {P : Program} (hP : P = Tryd.prog) (cs : List SV) : fieldA P 77 (.v (.ag cs)) 3 = (partA P 70 cs 3).map .v := by subst hP; kernel_rfl
theorem fa77_4 {P : Program} (hP : P = Tryd.prog) (l o : Nat) : fieldAddrA P 77 (.v (.sc (.ptr l o))) 4 = some (.v (.sc (.ptr l (o + 4)))) := by subst hP; kernel_rfl
theorem fd77_4 {P : Program} (hP : P = Tryd.prog) (cs : List SV) : fieldA P 77 (.v (.ag cs)) 4 = (partA P 5 cs 4).map .v := by subst hP; kernel_rfl
theorem fa77_5 {P : Program} (hP : P = Tryd.prog) (l o : Nat) : fieldAddrA P 77 (.v (.sc (.ptr l o))) 5 = some (.v (.sc (.ptr l (o + 5)))) := by subst hP; kernel_rfl
theorem fd77_5 {P : Program} (hP : P = Tryd.prog) (cs : List SV) : fieldA P 77 (.v (.ag cs)) 5 = (partA P 5 cs 5).map .v := by subst hP; kernel_rfl
theorem fa77_6 {P : Program} (hP : P = Tryd.prog) (l o : Nat) : fieldAddrA P 77 (.v (.sc (.ptr l o))) 6 = some (.v (.sc (.ptr l (o + 6)))) := by subst hP; kernel_rfl
theorem fd77_6 {P : Program} (hP : P = Tryd.prog) (cs : List SV) : fieldA P 77 (.v (.ag cs)) 6 = (partA P 71 cs 6).map .v := by subst hP; kernel_rfl
theorem fa77_7 {P : Program} (hP : P = Tryd.prog) (l o : Nat) : fieldAddrA P 77 (.v (.sc (.ptr l o))) 7 = some (.v (.sc (.ptr l (o + 7)))) := by subst hP; kernel_rfl
theorem fd77_7 {P : Program} (hP : P = Tryd.prog) (cs : List SV) : fieldA P 77 (.v (.ag cs)) 7 = (partA P 72 cs 7).map .v := by subst hP; kernel_rfl
theorem fa77_8 {P : Program} (hP : P = Tryd.prog) (l o : Nat) : fieldAddrA P 77 (.v (.sc (.ptr l o))) 8 = some (.v (.sc (.ptr l (o + 8)))) := by subst hP; kernel_rfl
theorem fd77_8 {P : Program} (hP : P = Tryd.prog) (cs : List SV) : fieldA P 77 (.v (.ag cs)) 8 = (partA P 73 cs 8).map .v := by subst hP; kernel_rfl
theorem fa77_9 {P : Program} (hP : P = Tryd.prog) (l o : Nat) : fieldAddrA P 77 (.v (.sc (.ptr l o))) 9 = some (.v (.sc (.ptr l (o + 9)))) := by subst hP; kernel_rfl
theorem fd77_9 {P : Program} (hP : P = Tryd.prog) (cs : List SV) : fieldA P 77 (.v (.ag cs)) 9 = (partA P 74 cs 9).map .v := by subst hP; kernel_rfl
theorem fa77_10 {P : Program} (hP : P = Tryd.prog) (l o : Nat) : fieldAddrA P 77 (.v (.sc (.ptr l o))) 10 = some (.v (.sc (.ptr l (o + 10)))) := by subst hP; kernel_rfl
theorem fd77_10 {P : Program} (hP : P = Tryd.prog) (cs : List SV) : fieldA P 77 (.v (.ag cs)) 10 = (partA P 75 cs 10).map .v := by subst hP; kernel_rfl
theorem bu77 {P : Program} (hP : P = Tryd.prog) (ps : List (Nat × AV)) : buildA P 77 ps = (fillA (fun i => ([(0, 1), (1, 1), (2, 1), (3, 1), (4, 1), (5, 1), (6, 1), (7, 1), (8, 1), (9, 1), (10, 1)] : List (Nat × Nat))[i]?) [.int .u64 0, .int .u64 0, .int .u32 0, .int .u8 0, .int .u8 0, .int .u8 0, .int .u8 0, .nilf, .nilp, .int .i32 0, .int .i32 0] ps).map fun cs => .v (.ag cs) := by subst hP; kernel_rfl
end Go.AM
