/- Facts on the translation's types, printed by a program of this session. Conditions: none. -/
import Derived.Test.YtdokijbheholdaaProg
import Derived.Test.YtdokijbheholdaaAmSimp
namespace Go.AM
open Go.Proofs
set_option maxRecDepth 100000
theorem sz2 {P : Program} (hP : P = Try.prog)  : szT P 2 = some 1 := by subst hP; kernel_rfl
theorem ag2 {P : Program} (hP : P = Try.prog)  : aggT P 2 = some false := by subst hP; kernel_rfl
theorem ze2 {P : Program} (hP : P = Try.prog)  : zeroL P 2 = some [.int .i64 0] := by subst hP; kernel_rfl
theorem by2 {P : Program} (hP : P = Try.prog)  : bytesT P 2 = some 8 := by subst hP; kernel_rfl
theorem sz3 {P : Program} (hP : P = Try.prog)  : szT P 3 = some 1 := by subst hP; kernel_rfl
theorem ag3 {P : Program} (hP : P = Try.prog)  : aggT P 3 = some false := by subst hP; kernel_rfl
theorem ze3 {P : Program} (hP : P = Try.prog)  : zeroL P 3 = some [.int .i64 0] := by subst hP; kernel_rfl
theorem by3 {P : Program} (hP : P = Try.prog)  : bytesT P 3 = some 8 := by subst hP; kernel_rfl
theorem sz4 {P : Program} (hP : P = Try.prog)  : szT P 4 = some 1 := by subst hP; kernel_rfl
theorem ag4 {P : Program} (hP : P = Try.prog)  : aggT P 4 = some false := by subst hP; kernel_rfl
theorem ze4 {P : Program} (hP : P = Try.prog)  : zeroL P 4 = some [.bool false] := by subst hP; kernel_rfl
theorem by4 {P : Program} (hP : P = Try.prog)  : bytesT P 4 = some 1 := by subst hP; kernel_rfl
theorem sz5 {P : Program} (hP : P = Try.prog)  : szT P 5 = some 1 := by subst hP; kernel_rfl
theorem ag5 {P : Program} (hP : P = Try.prog)  : aggT P 5 = some false := by subst hP; kernel_rfl
theorem ze5 {P : Program} (hP : P = Try.prog)  : zeroL P 5 = some [.int .u8 0] := by subst hP; kernel_rfl
theorem by5 {P : Program} (hP : P = Try.prog)  : bytesT P 5 = some 1 := by subst hP; kernel_rfl
theorem sz6 {P : Program} (hP : P = Try.prog)  : szT P 6 = some 1 := by subst hP; kernel_rfl
theorem ag6 {P : Program} (hP : P = Try.prog)  : aggT P 6 = some false := by subst hP; kernel_rfl
theorem ze6 {P : Program} (hP : P = Try.prog)  : zeroL P 6 = some [.int .u8 0] := by subst hP; kernel_rfl
theorem by6 {P : Program} (hP : P = Try.prog)  : bytesT P 6 = some 1 := by subst hP; kernel_rfl
theorem sz7 {P : Program} (hP : P = Try.prog)  : szT P 7 = some 4 := by subst hP; kernel_rfl
theorem ag7 {P : Program} (hP : P = Try.prog)  : aggT P 7 = some true := by subst hP; kernel_rfl
theorem ze7 {P : Program} (hP : P = Try.prog)  : zeroL P 7 = some [.int .i64 0, .int .i64 0, .bool false, .int .u8 0] := by subst hP; kernel_rfl
theorem by7 {P : Program} (hP : P = Try.prog)  : bytesT P 7 = some 24 := by subst hP; kernel_rfl
theorem sz8 {P : Program} (hP : P = Try.prog)  : szT P 8 = some 4 := by subst hP; kernel_rfl
theorem ag8 {P : Program} (hP : P = Try.prog)  : aggT P 8 = some true := by subst hP; kernel_rfl
theorem ze8 {P : Program} (hP : P = Try.prog)  : zeroL P 8 = some [.int .i64 0, .int .i64 0, .bool false, .int .u8 0] := by subst hP; kernel_rfl
theorem by8 {P : Program} (hP : P = Try.prog)  : bytesT P 8 = some 24 := by subst hP; kernel_rfl
theorem sz9 {P : Program} (hP : P = Try.prog)  : szT P 9 = some 1 := by subst hP; kernel_rfl
theorem ag9 {P : Program} (hP : P = Try.prog)  : aggT P 9 = some false := by subst hP; kernel_rfl
theorem ze9 {P : Program} (hP : P = Try.prog)  : zeroL P 9 = some [.str ⟨#[]⟩] := by subst hP; kernel_rfl
theorem by9 {P : Program} (hP : P = Try.prog)  : bytesT P 9 = some 16 := by subst hP; kernel_rfl
theorem sz10 {P : Program} (hP : P = Try.prog)  : szT P 10 = some 1 := by subst hP; kernel_rfl
theorem ag10 {P : Program} (hP : P = Try.prog)  : aggT P 10 = some false := by subst hP; kernel_rfl
theorem ze10 {P : Program} (hP : P = Try.prog)  : zeroL P 10 = some [.str ⟨#[]⟩] := by subst hP; kernel_rfl
theorem by10 {P : Program} (hP : P = Try.prog)  : bytesT P 10 = some 16 := by subst hP; kernel_rfl
theorem sz11 {P : Program} (hP : P = Try.prog)  : szT P 11 = some 1 := by subst hP; kernel_rfl
theorem ag11 {P : Program} (hP : P = Try.prog)  : aggT P 11 = some false := by subst hP; kernel_rfl
theorem ze11 {P : Program} (hP : P = Try.prog)  : zeroL P 11 = some [.str ⟨#[]⟩] := by subst hP; kernel_rfl
theorem by11 {P : Program} (hP : P = Try.prog)  : bytesT P 11 = some 16 := by subst hP; kernel_rfl
theorem sz12 {P : Program} (hP : P = Try.prog)  : szT P 12 = some 1 := by subst hP; kernel_rfl
theorem ag12 {P : Program} (hP : P = Try.prog)  : aggT P 12 = some false := by subst hP; kernel_rfl
theorem ze12 {P : Program} (hP : P = Try.prog)  : zeroL P 12 = some [.int .u64 0] := by subst hP; kernel_rfl
theorem by12 {P : Program} (hP : P = Try.prog)  : bytesT P 12 = some 8 := by subst hP; kernel_rfl
theorem sz13 {P : Program} (hP : P = Try.prog)  : szT P 13 = some 2 := by subst hP; kernel_rfl
theorem ag13 {P : Program} (hP : P = Try.prog)  : aggT P 13 = some true := by subst hP; kernel_rfl
theorem ze13 {P : Program} (hP : P = Try.prog)  : zeroL P 13 = some [.str ⟨#[]⟩, .int .u64 0] := by subst hP; kernel_rfl
theorem by13 {P : Program} (hP : P = Try.prog)  : bytesT P 13 = some 24 := by subst hP; kernel_rfl
theorem sz14 {P : Program} (hP : P = Try.prog)  : szT P 14 = some 2 := by subst hP; kernel_rfl
theorem ag14 {P : Program} (hP : P = Try.prog)  : aggT P 14 = some true := by subst hP; kernel_rfl
theorem ze14 {P : Program} (hP : P = Try.prog)  : zeroL P 14 = some [.str ⟨#[]⟩, .int .u64 0] := by subst hP; kernel_rfl
theorem by14 {P : Program} (hP : P = Try.prog)  : bytesT P 14 = some 24 := by subst hP; kernel_rfl
theorem sz15 {P : Program} (hP : P = Try.prog)  : szT P 15 = some 1 := by subst hP; kernel_rfl
theorem ag15 {P : Program} (hP : P = Try.prog)  : aggT P 15 = some false := by subst hP; kernel_rfl
theorem ze15 {P : Program} (hP : P = Try.prog)  : zeroL P 15 = some [.nilp] := by subst hP; kernel_rfl
theorem by15 {P : Program} (hP : P = Try.prog)  : bytesT P 15 = some 8 := by subst hP; kernel_rfl
theorem sz16 {P : Program} (hP : P = Try.prog)  : szT P 16 = some 1 := by subst hP; kernel_rfl
theorem ag16 {P : Program} (hP : P = Try.prog)  : aggT P 16 = some false := by subst hP; kernel_rfl
theorem ze16 {P : Program} (hP : P = Try.prog)  : zeroL P 16 = some [.nilp] := by subst hP; kernel_rfl
theorem by16 {P : Program} (hP : P = Try.prog)  : bytesT P 16 = some 8 := by subst hP; kernel_rfl
theorem sz17 {P : Program} (hP : P = Try.prog)  : szT P 17 = some 1 := by subst hP; kernel_rfl
theorem ag17 {P : Program} (hP : P = Try.prog)  : aggT P 17 = some false := by subst hP; kernel_rfl
theorem ze17 {P : Program} (hP : P = Try.prog)  : zeroL P 17 = some [.nilp] := by subst hP; kernel_rfl
theorem by17 {P : Program} (hP : P = Try.prog)  : bytesT P 17 = some 8 := by subst hP; kernel_rfl
theorem sz18 {P : Program} (hP : P = Try.prog)  : szT P 18 = some 1 := by subst hP; kernel_rfl
theorem ag18 {P : Program} (hP : P = Try.prog)  : aggT P 18 = some true := by subst hP; kernel_rfl
theorem ze18 {P : Program} (hP : P = Try.prog)  : zeroL P 18 = some [.nilp] := by subst hP; kernel_rfl
theorem by18 {P : Program} (hP : P = Try.prog)  : bytesT P 18 = some 8 := by subst hP; kernel_rfl
theorem sz19 {P : Program} (hP : P = Try.prog)  : szT P 19 = some 1 := by subst hP; kernel_rfl
theorem ag19 {P : Program} (hP : P = Try.prog)  : aggT P 19 = some true := by subst hP; kernel_rfl
theorem ze19 {P : Program} (hP : P = Try.prog)  : zeroL P 19 = some [.nilp] := by subst hP; kernel_rfl
theorem by19 {P : Program} (hP : P = Try.prog)  : bytesT P 19 = some 8 := by subst hP; kernel_rfl
theorem sz21 {P : Program} (hP : P = Try.prog)  : szT P 21 = some 1 := by subst hP; kernel_rfl
theorem ag21 {P : Program} (hP : P = Try.prog)  : aggT P 21 = some false := by subst hP; kernel_rfl
theorem ze21 {P : Program} (hP : P = Try.prog)  : zeroL P 21 = some [.int .i32 0] := by subst hP; kernel_rfl
theorem by21 {P : Program} (hP : P = Try.prog)  : bytesT P 21 = some 4 := by subst hP; kernel_rfl
theorem sz22 {P : Program} (hP : P = Try.prog)  : szT P 22 = some 1 := by subst hP; kernel_rfl
theorem ag22 {P : Program} (hP : P = Try.prog)  : aggT P 22 = some false := by subst hP; kernel_rfl
theorem ze22 {P : Program} (hP : P = Try.prog)  : zeroL P 22 = some [.int .u32 0] := by subst hP; kernel_rfl
theorem by22 {P : Program} (hP : P = Try.prog)  : bytesT P 22 = some 4 := by subst hP; kernel_rfl
theorem sz23 {P : Program} (hP : P = Try.prog)  : szT P 23 = some 8 := by subst hP; kernel_rfl
theorem ag23 {P : Program} (hP : P = Try.prog)  : aggT P 23 = some true := by subst hP; kernel_rfl
theorem ze23 {P : Program} (hP : P = Try.prog)  : zeroL P 23 = some [.int .u32 0, .int .u32 0, .int .u32 0, .int .u32 0, .int .u32 0, .int .u32 0, .int .u32 0, .int .u32 0] := by subst hP; kernel_rfl
theorem by23 {P : Program} (hP : P = Try.prog)  : bytesT P 23 = some 32 := by subst hP; kernel_rfl
theorem sz24 {P : Program} (hP : P = Try.prog)  : szT P 24 = some 8 := by subst hP; kernel_rfl
theorem ag24 {P : Program} (hP : P = Try.prog)  : aggT P 24 = some true := by subst hP; kernel_rfl
theorem ze24 {P : Program} (hP : P = Try.prog)  : zeroL P 24 = some [.int .u32 0, .int .u32 0, .int .u32 0, .int .u32 0, .int .u32 0, .int .u32 0, .int .u32 0, .int .u32 0] := by subst hP; kernel_rfl
theorem by24 {P : Program} (hP : P = Try.prog)  : bytesT P 24 = some 32 := by subst hP; kernel_rfl
theorem sz26 {P : Program} (hP : P = Try.prog)  : szT P 26 = some 8 := by subst hP; kernel_rfl
theorem ag26 {P : Program} (hP : P = Try.prog)  : aggT P 26 = some true := by subst hP; kernel_rfl
theorem ze26 {P : Program} (hP : P = Try.prog)  : zeroL P 26 = some [.int .u32 0, .int .u32 0, .int .u32 0, .int .u32 0, .int .u32 0, .int .u32 0, .int .u32 0, .int .u32 0] := by subst hP; kernel_rfl
theorem by26 {P : Program} (hP : P = Try.prog)  : bytesT P 26 = some 32 := by subst hP; kernel_rfl
theorem sz35 {P : Program} (hP : P = Try.prog)  : szT P 35 = some 1 := by subst hP; kernel_rfl
theorem ag35 {P : Program} (hP : P = Try.prog)  : aggT P 35 = some false := by subst hP; kernel_rfl
theorem ze35 {P : Program} (hP : P = Try.prog)  : zeroL P 35 = some [.nils] := by subst hP; kernel_rfl
theorem by35 {P : Program} (hP : P = Try.prog)  : bytesT P 35 = some 24 := by subst hP; kernel_rfl
theorem sz36 {P : Program} (hP : P = Try.prog)  : szT P 36 = some 1 := by subst hP; kernel_rfl
theorem ag36 {P : Program} (hP : P = Try.prog)  : aggT P 36 = some false := by subst hP; kernel_rfl
theorem ze36 {P : Program} (hP : P = Try.prog)  : zeroL P 36 = some [.int .u64 0] := by subst hP; kernel_rfl
theorem by36 {P : Program} (hP : P = Try.prog)  : bytesT P 36 = some 8 := by subst hP; kernel_rfl
theorem sz37 {P : Program} (hP : P = Try.prog)  : szT P 37 = some 1 := by subst hP; kernel_rfl
theorem ag37 {P : Program} (hP : P = Try.prog)  : aggT P 37 = some false := by subst hP; kernel_rfl
theorem ze37 {P : Program} (hP : P = Try.prog)  : zeroL P 37 = some [.int .i64 0] := by subst hP; kernel_rfl
theorem by37 {P : Program} (hP : P = Try.prog)  : bytesT P 37 = some 8 := by subst hP; kernel_rfl
theorem sz58 {P : Program} (hP : P = Try.prog)  : szT P 58 = some 16 := by subst hP; kernel_rfl
theorem ag58 {P : Program} (hP : P = Try.prog)  : aggT P 58 = some true := by subst hP; kernel_rfl
theorem ze58 {P : Program} (hP : P = Try.prog)  : zeroL P 58 = some [.int .i64 0, .int .i64 0, .int .i64 0, .int .i64 0, .int .i64 0, .int .i64 0, .int .i64 0, .int .i64 0, .int .i64 0, .int .i64 0, .int .i64 0, .int .i64 0, .int .i64 0, .int .i64 0, .int .i64 0, .int .i64 0] := by subst hP; kernel_rfl
theorem by58 {P : Program} (hP : P = Try.prog)  : bytesT P 58 = some 128 := by subst hP; kernel_rfl
theorem sz61 {P : Program} (hP : P = Try.prog)  : szT P 61 = some 1 := by subst hP; kernel_rfl
theorem ag61 {P : Program} (hP : P = Try.prog)  : aggT P 61 = some false := by subst hP; kernel_rfl
theorem ze61 {P : Program} (hP : P = Try.prog)  : zeroL P 61 = some [.nils] := by subst hP; kernel_rfl
theorem by61 {P : Program} (hP : P = Try.prog)  : bytesT P 61 = some 24 := by subst hP; kernel_rfl
theorem sz62 {P : Program} (hP : P = Try.prog)  : szT P 62 = some 1 := by subst hP; kernel_rfl
theorem ag62 {P : Program} (hP : P = Try.prog)  : aggT P 62 = some false := by subst hP; kernel_rfl
theorem ze62 {P : Program} (hP : P = Try.prog)  : zeroL P 62 = some [.nils] := by subst hP; kernel_rfl
theorem by62 {P : Program} (hP : P = Try.prog)  : bytesT P 62 = some 24 := by subst hP; kernel_rfl
theorem sz65 {P : Program} (hP : P = Try.prog)  : szT P 65 = some 1 := by subst hP; kernel_rfl
theorem ag65 {P : Program} (hP : P = Try.prog)  : aggT P 65 = some false := by subst hP; kernel_rfl
theorem ze65 {P : Program} (hP : P = Try.prog)  : zeroL P 65 = some [.nils] := by subst hP; kernel_rfl
theorem by65 {P : Program} (hP : P = Try.prog)  : bytesT P 65 = some 24 := by subst hP; kernel_rfl
theorem sz67 {P : Program} (hP : P = Try.prog)  : szT P 67 = some 2 := by subst hP; kernel_rfl
theorem ag67 {P : Program} (hP : P = Try.prog)  : aggT P 67 = some true := by subst hP; kernel_rfl
theorem ze67 {P : Program} (hP : P = Try.prog)  : zeroL P 67 = some [.int .i64 0, .int .i64 0] := by subst hP; kernel_rfl
theorem by67 {P : Program} (hP : P = Try.prog)  : bytesT P 67 = some 16 := by subst hP; kernel_rfl
theorem sz68 {P : Program} (hP : P = Try.prog)  : szT P 68 = some 2 := by subst hP; kernel_rfl
theorem ag68 {P : Program} (hP : P = Try.prog)  : aggT P 68 = some true := by subst hP; kernel_rfl
theorem ze68 {P : Program} (hP : P = Try.prog)  : zeroL P 68 = some [.int .i64 0, .int .i64 0] := by subst hP; kernel_rfl
theorem by68 {P : Program} (hP : P = Try.prog)  : bytesT P 68 = some 16 := by subst hP; kernel_rfl
theorem sz73 {P : Program} (hP : P = Try.prog)  : szT P 73 = some 5 := by subst hP; kernel_rfl
theorem ag73 {P : Program} (hP : P = Try.prog)  : aggT P 73 = some true := by subst hP; kernel_rfl
theorem ze73 {P : Program} (hP : P = Try.prog)  : zeroL P 73 = some [.int .i64 0, .int .i64 0, .int .i64 0, .int .i64 0, .int .i64 0] := by subst hP; kernel_rfl
theorem by73 {P : Program} (hP : P = Try.prog)  : bytesT P 73 = some 40 := by subst hP; kernel_rfl
theorem sz74 {P : Program} (hP : P = Try.prog)  : szT P 74 = some 5 := by subst hP; kernel_rfl
theorem ag74 {P : Program} (hP : P = Try.prog)  : aggT P 74 = some true := by subst hP; kernel_rfl
theorem ze74 {P : Program} (hP : P = Try.prog)  : zeroL P 74 = some [.int .i64 0, .int .i64 0, .int .i64 0, .int .i64 0, .int .i64 0] := by subst hP; kernel_rfl
theorem by74 {P : Program} (hP : P = Try.prog)  : bytesT P 74 = some 40 := by subst hP; kernel_rfl
theorem sz75 {P : Program} (hP : P = Try.prog)  : szT P 75 = some 3 := by subst hP; kernel_rfl
theorem ag75 {P : Program} (hP : P = Try.prog)  : aggT P 75 = some true := by subst hP; kernel_rfl
theorem ze75 {P : Program} (hP : P = Try.prog)  : zeroL P 75 = some [.int .i64 0, .int .i64 0, .int .i64 0] := by subst hP; kernel_rfl
theorem by75 {P : Program} (hP : P = Try.prog)  : bytesT P 75 = some 24 := by subst hP; kernel_rfl
theorem sz76 {P : Program} (hP : P = Try.prog)  : szT P 76 = some 3 := by subst hP; kernel_rfl
theorem ag76 {P : Program} (hP : P = Try.prog)  : aggT P 76 = some true := by subst hP; kernel_rfl
theorem ze76 {P : Program} (hP : P = Try.prog)  : zeroL P 76 = some [.int .i64 0, .int .i64 0, .int .i64 0] := by subst hP; kernel_rfl
theorem by76 {P : Program} (hP : P = Try.prog)  : bytesT P 76 = some 24 := by subst hP; kernel_rfl
theorem sz77 {P : Program} (hP : P = Try.prog)  : szT P 77 = some 13 := by subst hP; kernel_rfl
theorem ag77 {P : Program} (hP : P = Try.prog)  : aggT P 77 = some true := by subst hP; kernel_rfl
theorem ze77 {P : Program} (hP : P = Try.prog)  : zeroL P 77 = some [.int .i64 0, .int .i64 0, .int .i64 0, .int .i64 0, .int .i64 0, .int .i64 0, .int .i64 0, .int .i64 0, .int .i64 0, .int .i64 0, .int .i64 0, .int .i64 0, .int .i64 0] := by subst hP; kernel_rfl
theorem by77 {P : Program} (hP : P = Try.prog)  : bytesT P 77 = some 104 := by subst hP; kernel_rfl
theorem sz78 {P : Program} (hP : P = Try.prog)  : szT P 78 = some 13 := by subst hP; kernel_rfl
theorem ag78 {P : Program} (hP : P = Try.prog)  : aggT P 78 = some true := by subst hP; kernel_rfl
theorem ze78 {P : Program} (hP : P = Try.prog)  : zeroL P 78 = some [.int .i64 0, .int .i64 0, .int .i64 0, .int .i64 0, .int .i64 0, .int .i64 0, .int .i64 0, .int .i64 0, .int .i64 0, .int .i64 0, .int .i64 0, .int .i64 0, .int .i64 0] := by subst hP; kernel_rfl
theorem by78 {P : Program} (hP : P = Try.prog)  : bytesT P 78 = some 104 := by subst hP; kernel_rfl
theorem sz88 {P : Program} (hP : P = Try.prog)  : szT P 88 = some 11 := by subst hP; kernel_rfl
theorem ag88 {P : Program} (hP : P = Try.prog)  : aggT P 88 = some true := by subst hP; kernel_rfl
theorem ze88 {P : Program} (hP : P = Try.prog)  : zeroL P 88 = some [.int .i64 0, .int .i64 0, .int .i64 0, .int .i64 0, .int .i64 0, .int .i64 0, .int .i64 0, .int .i64 0, .int .i64 0, .int .i64 0, .int .i64 0] := by subst hP; kernel_rfl
theorem by88 {P : Program} (hP : P = Try.prog)  : bytesT P 88 = some 88 := by subst hP; kernel_rfl
theorem sz89 {P : Program} (hP : P = Try.prog)  : szT P 89 = some 11 := by subst hP; kernel_rfl
theorem ag89 {P : Program} (hP : P = Try.prog)  : aggT P 89 = some true := by subst hP; kernel_rfl
theorem ze89 {P : Program} (hP : P = Try.prog)  : zeroL P 89 = some [.int .i64 0, .int .i64 0, .int .i64 0, .int .i64 0, .int .i64 0, .int .i64 0, .int .i64 0, .int .i64 0, .int .i64 0, .int .i64 0, .int .i64 0] := by subst hP; kernel_rfl
theorem by89 {P : Program} (hP : P = Try.prog)  : bytesT P 89 = some 88 := by subst hP; kernel_rfl
theorem sz93 {P : Program} (hP : P = Try.prog)  : szT P 93 = some 1 := by subst hP; kernel_rfl
theorem ag93 {P : Program} (hP : P = Try.prog)  : aggT P 93 = some false := by subst hP; kernel_rfl
theorem ze93 {P : Program} (hP : P = Try.prog)  : zeroL P 93 = some [.int .u64 0] := by subst hP; kernel_rfl
theorem by93 {P : Program} (hP : P = Try.prog)  : bytesT P 93 = some 8 := by subst hP; kernel_rfl
theorem sz94 {P : Program} (hP : P = Try.prog)  : szT P 94 = some 1 := by subst hP; kernel_rfl
theorem ag94 {P : Program} (hP : P = Try.prog)  : aggT P 94 = some false := by subst hP; kernel_rfl
theorem ze94 {P : Program} (hP : P = Try.prog)  : zeroL P 94 = some [.nils] := by subst hP; kernel_rfl
theorem by94 {P : Program} (hP : P = Try.prog)  : bytesT P 94 = some 24 := by subst hP; kernel_rfl
theorem sz96 {P : Program} (hP : P = Try.prog)  : szT P 96 = some 2 := by subst hP; kernel_rfl
theorem ag96 {P : Program} (hP : P = Try.prog)  : aggT P 96 = some true := by subst hP; kernel_rfl
theorem ze96 {P : Program} (hP : P = Try.prog)  : zeroL P 96 = some [.int .i64 0, .int .i64 0] := by subst hP; kernel_rfl
theorem by96 {P : Program} (hP : P = Try.prog)  : bytesT P 96 = some 16 := by subst hP; kernel_rfl
theorem sz97 {P : Program} (hP : P = Try.prog)  : szT P 97 = some 2 := by subst hP; kernel_rfl
theorem ag97 {P : Program} (hP : P = Try.prog)  : aggT P 97 = some true := by subst hP; kernel_rfl
theorem ze97 {P : Program} (hP : P = Try.prog)  : zeroL P 97 = some [.int .i64 0, .int .i64 0] := by subst hP; kernel_rfl
theorem by97 {P : Program} (hP : P = Try.prog)  : bytesT P 97 = some 16 := by subst hP; kernel_rfl
theorem sz98 {P : Program} (hP : P = Try.prog)  : szT P 98 = some 5 := by subst hP; kernel_rfl
theorem ag98 {P : Program} (hP : P = Try.prog)  : aggT P 98 = some true := by subst hP; kernel_rfl
theorem ze98 {P : Program} (hP : P = Try.prog)  : zeroL P 98 = some [.int .i64 0, .int .i64 0, .int .i64 0, .int .i64 0, .int .i64 0] := by subst hP; kernel_rfl
theorem by98 {P : Program} (hP : P = Try.prog)  : bytesT P 98 = some 40 := by subst hP; kernel_rfl
theorem sz99 {P : Program} (hP : P = Try.prog)  : szT P 99 = some 5 := by subst hP; kernel_rfl
theorem ag99 {P : Program} (hP : P = Try.prog)  : aggT P 99 = some true := by subst hP; kernel_rfl
theorem ze99 {P : Program} (hP : P = Try.prog)  : zeroL P 99 = some [.int .i64 0, .int .i64 0, .int .i64 0, .int .i64 0, .int .i64 0] := by subst hP; kernel_rfl
theorem by99 {P : Program} (hP : P = Try.prog)  : bytesT P 99 = some 40 := by subst hP; kernel_rfl
theorem sz100 {P : Program} (hP : P = Try.prog)  : szT P 100 = some 13 := by subst hP; kernel_rfl
theorem ag100 {P : Program} (hP : P = Try.prog)  : aggT P 100 = some true := by subst hP; kernel_rfl
theorem ze100 {P : Program} (hP : P = Try.prog)  : zeroL P 100 = some [.int .i64 0, .int .i64 0, .int .i64 0, .int .i64 0, .int .i64 0, .int .i64 0, .int .i64 0, .int .i64 0, .int .i64 0, .int .i64 0, .int .i64 0, .int .i64 0, .int .i64 0] := by subst hP; kernel_rfl
theorem by100 {P : Program} (hP : P = Try.prog)  : bytesT P 100 = some 104 := by subst hP; kernel_rfl
theorem sz101 {P : Program} (hP : P = Try.prog)  : szT P 101 = some 13 := by subst hP; kernel_rfl
theorem ag101 {P : Program} (hP : P = Try.prog)  : aggT P 101 = some true := by subst hP; kernel_rfl
theorem ze101 {P : Program} (hP : P = Try.prog)  : zeroL P 101 = some [.int .i64 0, .int .i64 0, .int .i64 0, .int .i64 0, .int .i64 0, .int .i64 0, .int .i64 0, .int .i64 0, .int .i64 0, .int .i64 0, .int .i64 0, .int .i64 0, .int .i64 0] := by subst hP; kernel_rfl
theorem by101 {P : Program} (hP : P = Try.prog)  : bytesT P 101 = some 104 := by subst hP; kernel_rfl
theorem sz102 {P : Program} (hP : P = Try.prog)  : szT P 102 = some 1 := by subst hP; kernel_rfl
theorem ag102 {P : Program} (hP : P = Try.prog)  : aggT P 102 = some false := by subst hP; kernel_rfl
theorem ze102 {P : Program} (hP : P = Try.prog)  : zeroL P 102 = some [.nils] := by subst hP; kernel_rfl
theorem by102 {P : Program} (hP : P = Try.prog)  : bytesT P 102 = some 24 := by subst hP; kernel_rfl
theorem sz104 {P : Program} (hP : P = Try.prog)  : szT P 104 = some 1 := by subst hP; kernel_rfl
theorem ag104 {P : Program} (hP : P = Try.prog)  : aggT P 104 = some false := by subst hP; kernel_rfl
theorem ze104 {P : Program} (hP : P = Try.prog)  : zeroL P 104 = some [.nils] := by subst hP; kernel_rfl
theorem by104 {P : Program} (hP : P = Try.prog)  : bytesT P 104 = some 24 := by subst hP; kernel_rfl
theorem sz105 {P : Program} (hP : P = Try.prog)  : szT P 105 = some 1 := by subst hP; kernel_rfl
theorem ag105 {P : Program} (hP : P = Try.prog)  : aggT P 105 = some false := by subst hP; kernel_rfl
theorem ze105 {P : Program} (hP : P = Try.prog)  : zeroL P 105 = some [.nilp] := by subst hP; kernel_rfl
theorem by105 {P : Program} (hP : P = Try.prog)  : bytesT P 105 = some 8 := by subst hP; kernel_rfl
theorem sz106 {P : Program} (hP : P = Try.prog)  : szT P 106 = some 1 := by subst hP; kernel_rfl
theorem ag106 {P : Program} (hP : P = Try.prog)  : aggT P 106 = some false := by subst hP; kernel_rfl
theorem ze106 {P : Program} (hP : P = Try.prog)  : zeroL P 106 = some [.nilm] := by subst hP; kernel_rfl
theorem by106 {P : Program} (hP : P = Try.prog)  : bytesT P 106 = some 8 := by subst hP; kernel_rfl
theorem sz107 {P : Program} (hP : P = Try.prog)  : szT P 107 = some 13 := by subst hP; kernel_rfl
theorem ag107 {P : Program} (hP : P = Try.prog)  : aggT P 107 = some true := by subst hP; kernel_rfl
theorem ze107 {P : Program} (hP : P = Try.prog)  : zeroL P 107 = some [.int .i64 0, .int .i64 0, .int .i64 0, .int .i64 0, .int .i64 0, .int .i64 0, .int .i64 0, .int .i64 0, .int .i64 0, .int .i64 0, .int .i64 0, .int .i64 0, .nilm] := by subst hP; kernel_rfl
theorem by107 {P : Program} (hP : P = Try.prog)  : bytesT P 107 = some 104 := by subst hP; kernel_rfl
theorem sz108 {P : Program} (hP : P = Try.prog)  : szT P 108 = some 13 := by subst hP; kernel_rfl
theorem ag108 {P : Program} (hP : P = Try.prog)  : aggT P 108 = some true := by subst hP; kernel_rfl
theorem ze108 {P : Program} (hP : P = Try.prog)  : zeroL P 108 = some [.int .i64 0, .int .i64 0, .int .i64 0, .int .i64 0, .int .i64 0, .int .i64 0, .int .i64 0, .int .i64 0, .int .i64 0, .int .i64 0, .int .i64 0, .int .i64 0, .nilm] := by subst hP; kernel_rfl
theorem by108 {P : Program} (hP : P = Try.prog)  : bytesT P 108 = some 104 := by subst hP; kernel_rfl
theorem sz112 {P : Program} (hP : P = Try.prog)  : szT P 112 = some 1 := by subst hP; kernel_rfl
theorem ag112 {P : Program} (hP : P = Try.prog)  : aggT P 112 = some false := by subst hP; kernel_rfl
theorem ze112 {P : Program} (hP : P = Try.prog)  : zeroL P 112 = some [.nilp] := by subst hP; kernel_rfl
theorem by112 {P : Program} (hP : P = Try.prog)  : bytesT P 112 = some 8 := by subst hP; kernel_rfl
theorem sz113 {P : Program} (hP : P = Try.prog)  : szT P 113 = some 1 := by subst hP; kernel_rfl
theorem ag113 {P : Program} (hP : P = Try.prog)  : aggT P 113 = some false := by subst hP; kernel_rfl
theorem ze113 {P : Program} (hP : P = Try.prog)  : zeroL P 113 = some [.nilm] := by subst hP; kernel_rfl
theorem by113 {P : Program} (hP : P = Try.prog)  : bytesT P 113 = some 8 := by subst hP; kernel_rfl
theorem sz114 {P : Program} (hP : P = Try.prog)  : szT P 114 = some 64 := by subst hP; kernel_rfl
theorem ag114 {P : Program} (hP : P = Try.prog)  : aggT P 114 = some true := by subst hP; kernel_rfl
theorem ze114 {P : Program} (hP : P = Try.prog)  : zeroL P 114 = some [.int .u32 0, .int .u32 0, .int .u32 0, .int .u32 0, .int .u32 0, .int .u32 0, .int .u32 0, .int .u32 0, .int .u32 0, .int .u32 0, .int .u32 0, .int .u32 0, .int .u32 0, .int .u32 0, .int .u32 0, .int .u32 0, .int .u32 0, .int .u32 0, .int .u32 0, .int .u32 0, .int .u32 0, .int .u32 0, .int .u32 0, .int .u32 0, .int .u32 0, .int .u32 0, .int .u32 0, .int .u32 0, .int .u32 0, .int .u32 0, .int .u32 0, .int .u32 0, .int .u32 0, .int .u32 0, .int .u32 0, .int .u32 0, .int .u32 0, .int .u32 0, .int .u32 0, .int .u32 0, .int .u32 0, .int .u32 0, .int .u32 0, .int .u32 0, .int .u32 0, .int .u32 0, .int .u32 0, .int .u32 0, .int .u32 0, .int .u32 0, .int .u32 0, .int .u32 0, .int .u32 0, .int .u32 0, .int .u32 0, .int .u32 0, .int .u32 0, .int .u32 0, .int .u32 0, .int .u32 0, .int .u32 0, .int .u32 0, .int .u32 0, .int .u32 0] := by subst hP; kernel_rfl
theorem by114 {P : Program} (hP : P = Try.prog)  : bytesT P 114 = some 256 := by subst hP; kernel_rfl
theorem sz115 {P : Program} (hP : P = Try.prog)  : szT P 115 = some 129 := by subst hP; kernel_rfl
theorem ag115 {P : Program} (hP : P = Try.prog)  : aggT P 115 = some true := by subst hP; kernel_rfl
theorem ze115 {P : Program} (hP : P = Try.prog)  : zeroL P 115 = some [.int .u32 0, .int .u32 0, .int .u32 0, .int .u32 0, .int .u32 0, .int .u32 0, .int .u32 0, .int .u32 0, .int .u32 0, .int .u32 0, .int .u32 0, .int .u32 0, .int .u32 0, .int .u32 0, .int .u32 0, .int .u32 0, .int .u32 0, .int .u32 0, .int .u32 0, .int .u32 0, .int .u32 0, .int .u32 0, .int .u32 0, .int .u32 0, .int .u32 0, .int .u32 0, .int .u32 0, .int .u32 0, .int .u32 0, .int .u32 0, .int .u32 0, .int .u32 0, .int .u32 0, .int .u32 0, .int .u32 0, .int .u32 0, .int .u32 0, .int .u32 0, .int .u32 0, .int .u32 0, .int .u32 0, .int .u32 0, .int .u32 0, .int .u32 0, .int .u32 0, .int .u32 0, .int .u32 0, .int .u32 0, .int .u32 0, .int .u32 0, .int .u32 0, .int .u32 0, .int .u32 0, .int .u32 0, .int .u32 0, .int .u32 0, .int .u32 0, .int .u32 0, .int .u32 0, .int .u32 0, .int .u32 0, .int .u32 0, .int .u32 0, .int .u32 0, .int .u32 0, .int .u32 0, .int .u32 0, .int .u32 0, .int .u32 0, .int .u32 0, .int .u32 0, .int .u32 0, .int .u32 0, .int .u32 0, .int .u32 0, .int .u32 0, .int .u32 0, .int .u32 0, .int .u32 0, .int .u32 0, .int .u32 0, .int .u32 0, .int .u32 0, .int .u32 0, .int .u32 0, .int .u32 0, .int .u32 0, .int .u32 0, .int .u32 0, .int .u32 0, .int .u32 0, .int .u32 0, .int .u32 0, .int .u32 0, .int .u32 0, .int .u32 0, .int .u32 0, .int .u32 0, .int .u32 0, .int .u32 0, .int .u32 0, .int .u32 0, .int .u32 0, .int .u32 0, .int .u32 0, .int .u32 0, .int .u32 0, .int .u32 0, .int .u32 0, .int .u32 0, .int .u32 0, .int .u32 0, .int .u32 0, .int .u32 0, .int .u32 0, .int .u32 0, .int .u32 0, .int .u32 0, .int .u32 0, .int .u32 0, .int .u32 0, .int .u32 0, .int .u32 0, .int .u32 0, .int .u32 0, .int .u32 0, .int .u32 0, .int .u32 0, .nilm] := by subst hP; kernel_rfl
theorem by115 {P : Program} (hP : P = Try.prog)  : bytesT P 115 = some 520 := by subst hP; kernel_rfl
theorem sz116 {P : Program} (hP : P = Try.prog)  : szT P 116 = some 129 := by subst hP; kernel_rfl
theorem ag116 {P : Program} (hP : P = Try.prog)  : aggT P 116 = some true := by subst hP; kernel_rfl
theorem ze116 {P : Program} (hP : P = Try.prog)  : zeroL P 116 = some [.int .u32 0, .int .u32 0, .int .u32 0, .int .u32 0, .int .u32 0, .int .u32 0, .int .u32 0, .int .u32 0, .int .u32 0, .int .u32 0, .int .u32 0, .int .u32 0, .int .u32 0, .int .u32 0, .int .u32 0, .int .u32 0, .int .u32 0, .int .u32 0, .int .u32 0, .int .u32 0, .int .u32 0, .int .u32 0, .int .u32 0, .int .u32 0, .int .u32 0, .int .u32 0, .int .u32 0, .int .u32 0, .int .u32 0, .int .u32 0, .int .u32 0, .int .u32 0, .int .u32 0, .int .u32 0, .int .u32 0, .int .u32 0, .int .u32 0, .int .u32 0, .int .u32 0, .int .u32 0, .int .u32 0, .int .u32 0, .int .u32 0, .int .u32 0, .int .u32 0, .int .u32 0, .int .u32 0, .int .u32 0, .int .u32 0, .int .u32 0, .int .u32 0, .int .u32 0, .int .u32 0, .int .u32 0, .int .u32 0, .int .u32 0, .int .u32 0, .int .u32 0, .int .u32 0, .int .u32 0, .int .u32 0, .int .u32 0, .int .u32 0, .int .u32 0, .int .u32 0, .int .u32 0, .int .u32 0, .int .u32 0, .int .u32 0, .int .u32 0, .int .u32 0, .int .u32 0, .int .u32 0, .int .u32 0, .int .u32 0, .int .u32 0, .int .u32 0, .int .u32 0, .int .u32 0, .int .u32 0, .int .u32 0, .int .u32 0, .int .u32 0, .int .u32 0, .int .u32 0, .int .u32 0, .int .u32 0, .int .u32 0, .int .u32 0, .int .u32 0, .int .u32 0, .int .u32 0, .int .u32 0, .int .u32 0, .int .u32 0, .int .u32 0, .int .u32 0, .int .u32 0, .int .u32 0, .int .u32 0, .int .u32 0, .int .u32 0, .int .u32 0, .int .u32 0, .int .u32 0, .int .u32 0, .int .u32 0, .int .u32 0, .int .u32 0, .int .u32 0, .int .u32 0, .int .u32 0, .int .u32 0, .int .u32 0, .int .u32 0, .int .u32 0, .int .u32 0, .int .u32 0, .int .u32 0, .int .u32 0, .int .u32 0, .int .u32 0, .int .u32 0, .int .u32 0, .int .u32 0, .int .u32 0, .int .u32 0, .int .u32 0, .nilm] := by subst hP; kernel_rfl
theorem by116 {P : Program} (hP : P = Try.prog)  : bytesT P 116 = some 520 := by subst hP; kernel_rfl
theorem sz119 {P : Program} (hP : P = Try.prog)  : szT P 119 = some 1 := by subst hP; kernel_rfl
theorem ag119 {P : Program} (hP : P = Try.prog)  : aggT P 119 = some false := by subst hP; kernel_rfl
theorem ze119 {P : Program} (hP : P = Try.prog)  : zeroL P 119 = some [.nilp] := by subst hP; kernel_rfl
theorem by119 {P : Program} (hP : P = Try.prog)  : bytesT P 119 = some 8 := by subst hP; kernel_rfl
theorem sz121 {P : Program} (hP : P = Try.prog)  : szT P 121 = some 2 := by subst hP; kernel_rfl
theorem ag121 {P : Program} (hP : P = Try.prog)  : aggT P 121 = some true := by subst hP; kernel_rfl
theorem ze121 {P : Program} (hP : P = Try.prog)  : zeroL P 121 = some [.int .i64 0, .int .i64 0] := by subst hP; kernel_rfl
theorem by121 {P : Program} (hP : P = Try.prog)  : bytesT P 121 = some 16 := by subst hP; kernel_rfl
theorem sz122 {P : Program} (hP : P = Try.prog)  : szT P 122 = some 2 := by subst hP; kernel_rfl
theorem ag122 {P : Program} (hP : P = Try.prog)  : aggT P 122 = some true := by subst hP; kernel_rfl
theorem ze122 {P : Program} (hP : P = Try.prog)  : zeroL P 122 = some [.int .i64 0, .int .i64 0] := by subst hP; kernel_rfl
theorem by122 {P : Program} (hP : P = Try.prog)  : bytesT P 122 = some 16 := by subst hP; kernel_rfl
theorem sz124 {P : Program} (hP : P = Try.prog)  : szT P 124 = some 4 := by subst hP; kernel_rfl
theorem ag124 {P : Program} (hP : P = Try.prog)  : aggT P 124 = some true := by subst hP; kernel_rfl
theorem ze124 {P : Program} (hP : P = Try.prog)  : zeroL P 124 = some [.nilp, .nilp, .nilp, .str ⟨#[]⟩] := by subst hP; kernel_rfl
theorem by124 {P : Program} (hP : P = Try.prog)  : bytesT P 124 = some 40 := by subst hP; kernel_rfl
theorem sz125 {P : Program} (hP : P = Try.prog)  : szT P 125 = some 4 := by subst hP; kernel_rfl
theorem ag125 {P : Program} (hP : P = Try.prog)  : aggT P 125 = some true := by subst hP; kernel_rfl
theorem ze125 {P : Program} (hP : P = Try.prog)  : zeroL P 125 = some [.nilp, .nilp, .nilp, .str ⟨#[]⟩] := by subst hP; kernel_rfl
theorem by125 {P : Program} (hP : P = Try.prog)  : bytesT P 125 = some 40 := by subst hP; kernel_rfl
theorem sz126 {P : Program} (hP : P = Try.prog)  : szT P 126 = some 0 := by subst hP; kernel_rfl
theorem ag126 {P : Program} (hP : P = Try.prog)  : aggT P 126 = some true := by subst hP; kernel_rfl
theorem ze126 {P : Program} (hP : P = Try.prog)  : zeroL P 126 = some [] := by subst hP; kernel_rfl
theorem by126 {P : Program} (hP : P = Try.prog)  : bytesT P 126 = some 0 := by subst hP; kernel_rfl
theorem sz127 {P : Program} (hP : P = Try.prog)  : szT P 127 = some 0 := by subst hP; kernel_rfl
theorem ag127 {P : Program} (hP : P = Try.prog)  : aggT P 127 = some true := by subst hP; kernel_rfl
theorem ze127 {P : Program} (hP : P = Try.prog)  : zeroL P 127 = some [] := by subst hP; kernel_rfl
theorem by127 {P : Program} (hP : P = Try.prog)  : bytesT P 127 = some 0 := by subst hP; kernel_rfl
theorem sz128 {P : Program} (hP : P = Try.prog)  : szT P 128 = some 0 := by subst hP; kernel_rfl
theorem ag128 {P : Program} (hP : P = Try.prog)  : aggT P 128 = some true := by subst hP; kernel_rfl
theorem ze128 {P : Program} (hP : P = Try.prog)  : zeroL P 128 = some [] := by subst hP; kernel_rfl
theorem by128 {P : Program} (hP : P = Try.prog)  : bytesT P 128 = some 0 := by subst hP; kernel_rfl
theorem sz130 {P : Program} (hP : P = Try.prog)  : szT P 130 = some 1 := by subst hP; kernel_rfl
theorem ag130 {P : Program} (hP : P = Try.prog)  : aggT P 130 = some false := by subst hP; kernel_rfl
theorem ze130 {P : Program} (hP : P = Try.prog)  : zeroL P 130 = some [.int .u8 0] := by subst hP; kernel_rfl
theorem by130 {P : Program} (hP : P = Try.prog)  : bytesT P 130 = some 1 := by subst hP; kernel_rfl
theorem sz131 {P : Program} (hP : P = Try.prog)  : szT P 131 = some 1 := by subst hP; kernel_rfl
theorem ag131 {P : Program} (hP : P = Try.prog)  : aggT P 131 = some false := by subst hP; kernel_rfl
theorem ze131 {P : Program} (hP : P = Try.prog)  : zeroL P 131 = some [.int .u8 0] := by subst hP; kernel_rfl
theorem by131 {P : Program} (hP : P = Try.prog)  : bytesT P 131 = some 1 := by subst hP; kernel_rfl
theorem sz133 {P : Program} (hP : P = Try.prog)  : szT P 133 = some 1 := by subst hP; kernel_rfl
theorem ag133 {P : Program} (hP : P = Try.prog)  : aggT P 133 = some false := by subst hP; kernel_rfl
theorem ze133 {P : Program} (hP : P = Try.prog)  : zeroL P 133 = some [.nilp] := by subst hP; kernel_rfl
theorem by133 {P : Program} (hP : P = Try.prog)  : bytesT P 133 = some 8 := by subst hP; kernel_rfl
theorem sz134 {P : Program} (hP : P = Try.prog)  : szT P 134 = some 1 := by subst hP; kernel_rfl
theorem ag134 {P : Program} (hP : P = Try.prog)  : aggT P 134 = some false := by subst hP; kernel_rfl
theorem ze134 {P : Program} (hP : P = Try.prog)  : zeroL P 134 = some [.int .i32 0] := by subst hP; kernel_rfl
theorem by134 {P : Program} (hP : P = Try.prog)  : bytesT P 134 = some 4 := by subst hP; kernel_rfl
theorem sz135 {P : Program} (hP : P = Try.prog)  : szT P 135 = some 1 := by subst hP; kernel_rfl
theorem ag135 {P : Program} (hP : P = Try.prog)  : aggT P 135 = some false := by subst hP; kernel_rfl
theorem ze135 {P : Program} (hP : P = Try.prog)  : zeroL P 135 = some [.int .i32 0] := by subst hP; kernel_rfl
theorem by135 {P : Program} (hP : P = Try.prog)  : bytesT P 135 = some 4 := by subst hP; kernel_rfl
theorem sz136 {P : Program} (hP : P = Try.prog)  : szT P 136 = some 11 := by subst hP; kernel_rfl
theorem ag136 {P : Program} (hP : P = Try.prog)  : aggT P 136 = some true := by subst hP; kernel_rfl
theorem ze136 {P : Program} (hP : P = Try.prog)  : zeroL P 136 = some [.int .u64 0, .int .u64 0, .int .u32 0, .int .u8 0, .int .u8 0, .int .u8 0, .int .u8 0, .nilf, .nilp, .int .i32 0, .int .i32 0] := by subst hP; kernel_rfl
theorem by136 {P : Program} (hP : P = Try.prog)  : bytesT P 136 = some 48 := by subst hP; kernel_rfl
theorem sz137 {P : Program} (hP : P = Try.prog)  : szT P 137 = some 11 := by subst hP; kernel_rfl
theorem ag137 {P : Program} (hP : P = Try.prog)  : aggT P 137 = some true := by subst hP; kernel_rfl
theorem ze137 {P : Program} (hP : P = Try.prog)  : zeroL P 137 = some [.int .u64 0, .int .u64 0, .int .u32 0, .int .u8 0, .int .u8 0, .int .u8 0, .int .u8 0, .nilf, .nilp, .int .i32 0, .int .i32 0] := by subst hP; kernel_rfl
theorem by137 {P : Program} (hP : P = Try.prog)  : bytesT P 137 = some 48 := by subst hP; kernel_rfl
theorem sz138 {P : Program} (hP : P = Try.prog)  : szT P 138 = some 1 := by subst hP; kernel_rfl
theorem ag138 {P : Program} (hP : P = Try.prog)  : aggT P 138 = some false := by subst hP; kernel_rfl
theorem ze138 {P : Program} (hP : P = Try.prog)  : zeroL P 138 = some [.nilp] := by subst hP; kernel_rfl
theorem by138 {P : Program} (hP : P = Try.prog)  : bytesT P 138 = some 8 := by subst hP; kernel_rfl
theorem un2 {P : Program} (hP : P = Try.prog)  : P.underlying 2 = some (.int .i64) := by subst hP; kernel_rfl
theorem zc3 {P : Program} (hP : P = Try.prog)  : zeroC P 3 = some (.sc (.int .i64 0)) := by subst hP; kernel_rfl
theorem un3 {P : Program} (hP : P = Try.prog)  : P.underlying 3 = some (.int .i64) := by subst hP; kernel_rfl
theorem un4 {P : Program} (hP : P = Try.prog)  : P.underlying 4 = some .bool := by subst hP; kernel_rfl
theorem un5 {P : Program} (hP : P = Try.prog)  : P.underlying 5 = some (.int .u8) := by subst hP; kernel_rfl
theorem un6 {P : Program} (hP : P = Try.prog)  : P.underlying 6 = some (.int .u8) := by subst hP; kernel_rfl
theorem fa7_0 {P : Program} (hP : P = Try.prog) (l o : Nat) : fieldAddrA P 7 (.v (.sc (.ptr l o))) 0 = some (.v (.sc (.ptr l (o + 0)))) := by subst hP; kernel_rfl
theorem fd7_0 {P : Program} (hP : P = Try.prog) (cs : List SV) : fieldA P 7 (.v (.ag cs)) 0 = (partA P 2 cs 0).map .v := by subst hP; kernel_rfl
theorem fa7_1 {P : Program} (hP : P = Try.prog) (l o : Nat) : fieldAddrA P 7 (.v (.sc (.ptr l o))) 1 = some (.v (.sc (.ptr l (o + 1)))) := by subst hP; kernel_rfl
theorem fd7_1 {P : Program} (hP : P = Try.prog) (cs : List SV) : fieldA P 7 (.v (.ag cs)) 1 = (partA P 3 cs 1).map .v := by subst hP; kernel_rfl
theorem fa7_2 {P : Program} (hP : P = Try.prog) (l o : Nat) : fieldAddrA P 7 (.v (.sc (.ptr l o))) 2 = some (.v (.sc (.ptr l (o + 2)))) := by subst hP; kernel_rfl
theorem fd7_2 {P : Program} (hP : P = Try.prog) (cs : List SV) : fieldA P 7 (.v (.ag cs)) 2 = (partA P 4 cs 2).map .v := by subst hP; kernel_rfl
theorem fa7_3 {P : Program} (hP : P = Try.prog) (l o : Nat) : fieldAddrA P 7 (.v (.sc (.ptr l o))) 3 = some (.v (.sc (.ptr l (o + 3)))) := by subst hP; kernel_rfl
theorem fd7_3 {P : Program} (hP : P = Try.prog) (cs : List SV) : fieldA P 7 (.v (.ag cs)) 3 = (partA P 6 cs 3).map .v := by subst hP; kernel_rfl
theorem bu7 {P : Program} (hP : P = Try.prog) (ps : List (Nat × AV)) : buildA P 7 ps = (fillA (fun i => ([(0, 1), (1, 1), (2, 1), (3, 1)] : List (Nat × Nat))[i]?) [.int .i64 0, .int .i64 0, .bool false, .int .u8 0] ps).map fun cs => .v (.ag cs) := by subst hP; kernel_rfl
theorem eq7 {P : Program} (hP : P = Try.prog) (xs ys : List SV) : eqA P 7 (.v (.ag xs)) (.v (.ag ys)) = eqL [1, 1, 0, 1] xs ys := by subst hP; kernel_rfl
theorem fa8_0 {P : Program} (hP : P = Try.prog) (l o : Nat) : fieldAddrA P 8 (.v (.sc (.ptr l o))) 0 = some (.v (.sc (.ptr l (o + 0)))) := by subst hP; kernel_rfl
theorem fd8_0 {P : Program} (hP : P = Try.prog) (cs : List SV) : fieldA P 8 (.v (.ag cs)) 0 = (partA P 2 cs 0).map .v := by subst hP; kernel_rfl
theorem fa8_1 {P : Program} (hP : P = Try.prog) (l o : Nat) : fieldAddrA P 8 (.v (.sc (.ptr l o))) 1 = some (.v (.sc (.ptr l (o + 1)))) := by subst hP; kernel_rfl
theorem fd8_1 {P : Program} (hP : P = Try.prog) (cs : List SV) : fieldA P 8 (.v (.ag cs)) 1 = (partA P 3 cs 1).map .v := by subst hP; kernel_rfl
theorem fa8_2 {P : Program} (hP : P = Try.prog) (l o : Nat) : fieldAddrA P 8 (.v (.sc (.ptr l o))) 2 = some (.v (.sc (.ptr l (o + 2)))) := by subst hP; kernel_rfl
theorem fd8_2 {P : Program} (hP : P = Try.prog) (cs : List SV) : fieldA P 8 (.v (.ag cs)) 2 = (partA P 4 cs 2).map .v := by subst hP; kernel_rfl
theorem fa8_3 {P : Program} (hP : P = Try.prog) (l o : Nat) : fieldAddrA P 8 (.v (.sc (.ptr l o))) 3 = some (.v (.sc (.ptr l (o + 3)))) := by subst hP; kernel_rfl
theorem fd8_3 {P : Program} (hP : P = Try.prog) (cs : List SV) : fieldA P 8 (.v (.ag cs)) 3 = (partA P 6 cs 3).map .v := by subst hP; kernel_rfl
theorem bu8 {P : Program} (hP : P = Try.prog) (ps : List (Nat × AV)) : buildA P 8 ps = (fillA (fun i => ([(0, 1), (1, 1), (2, 1), (3, 1)] : List (Nat × Nat))[i]?) [.int .i64 0, .int .i64 0, .bool false, .int .u8 0] ps).map fun cs => .v (.ag cs) := by subst hP; kernel_rfl
theorem eq8 {P : Program} (hP : P = Try.prog) (xs ys : List SV) : eqA P 8 (.v (.ag xs)) (.v (.ag ys)) = eqL [1, 1, 0, 1] xs ys := by subst hP; kernel_rfl
theorem un9 {P : Program} (hP : P = Try.prog)  : P.underlying 9 = some .string := by subst hP; kernel_rfl
theorem un10 {P : Program} (hP : P = Try.prog)  : P.underlying 10 = some .string := by subst hP; kernel_rfl
theorem un11 {P : Program} (hP : P = Try.prog)  : P.underlying 11 = some .string := by subst hP; kernel_rfl
theorem un12 {P : Program} (hP : P = Try.prog)  : P.underlying 12 = some (.int .u64) := by subst hP; kernel_rfl
theorem fa13_0 {P : Program} (hP : P = Try.prog) (l o : Nat) : fieldAddrA P 13 (.v (.sc (.ptr l o))) 0 = some (.v (.sc (.ptr l (o + 0)))) := by subst hP; kernel_rfl
theorem fd13_0 {P : Program} (hP : P = Try.prog) (cs : List SV) : fieldA P 13 (.v (.ag cs)) 0 = (partA P 9 cs 0).map .v := by subst hP; kernel_rfl
theorem fa13_1 {P : Program} (hP : P = Try.prog) (l o : Nat) : fieldAddrA P 13 (.v (.sc (.ptr l o))) 1 = some (.v (.sc (.ptr l (o + 1)))) := by subst hP; kernel_rfl
theorem fd13_1 {P : Program} (hP : P = Try.prog) (cs : List SV) : fieldA P 13 (.v (.ag cs)) 1 = (partA P 12 cs 1).map .v := by subst hP; kernel_rfl
theorem bu13 {P : Program} (hP : P = Try.prog) (ps : List (Nat × AV)) : buildA P 13 ps = (fillA (fun i => ([(0, 1), (1, 1)] : List (Nat × Nat))[i]?) [.str ⟨#[]⟩, .int .u64 0] ps).map fun cs => .v (.ag cs) := by subst hP; kernel_rfl
theorem fa14_0 {P : Program} (hP : P = Try.prog) (l o : Nat) : fieldAddrA P 14 (.v (.sc (.ptr l o))) 0 = some (.v (.sc (.ptr l (o + 0)))) := by subst hP; kernel_rfl
theorem fd14_0 {P : Program} (hP : P = Try.prog) (cs : List SV) : fieldA P 14 (.v (.ag cs)) 0 = (partA P 9 cs 0).map .v := by subst hP; kernel_rfl
theorem fa14_1 {P : Program} (hP : P = Try.prog) (l o : Nat) : fieldAddrA P 14 (.v (.sc (.ptr l o))) 1 = some (.v (.sc (.ptr l (o + 1)))) := by subst hP; kernel_rfl
theorem fd14_1 {P : Program} (hP : P = Try.prog) (cs : List SV) : fieldA P 14 (.v (.ag cs)) 1 = (partA P 12 cs 1).map .v := by subst hP; kernel_rfl
theorem bu14 {P : Program} (hP : P = Try.prog) (ps : List (Nat × AV)) : buildA P 14 ps = (fillA (fun i => ([(0, 1), (1, 1)] : List (Nat × Nat))[i]?) [.str ⟨#[]⟩, .int .u64 0] ps).map fun cs => .v (.ag cs) := by subst hP; kernel_rfl
theorem un15 {P : Program} (hP : P = Try.prog)  : P.underlying 15 = some (.pointer 125) := by subst hP; kernel_rfl
theorem un16 {P : Program} (hP : P = Try.prog)  : P.underlying 16 = some (.pointer 128) := by subst hP; kernel_rfl
theorem un17 {P : Program} (hP : P = Try.prog)  : P.underlying 17 = some (.pointer 137) := by subst hP; kernel_rfl
theorem fa18_0 {P : Program} (hP : P = Try.prog) (l o : Nat) : fieldAddrA P 18 (.v (.sc (.ptr l o))) 0 = some (.v (.sc (.ptr l (o + 0)))) := by subst hP; kernel_rfl
theorem fd18_0 {P : Program} (hP : P = Try.prog) (cs : List SV) : fieldA P 18 (.v (.ag cs)) 0 = (partA P 17 cs 0).map .v := by subst hP; kernel_rfl
theorem bu18 {P : Program} (hP : P = Try.prog) (ps : List (Nat × AV)) : buildA P 18 ps = (fillA (fun i => ([(0, 1)] : List (Nat × Nat))[i]?) [.nilp] ps).map fun cs => .v (.ag cs) := by subst hP; kernel_rfl
theorem fa19_0 {P : Program} (hP : P = Try.prog) (l o : Nat) : fieldAddrA P 19 (.v (.sc (.ptr l o))) 0 = some (.v (.sc (.ptr l (o + 0)))) := by subst hP; kernel_rfl
theorem fd19_0 {P : Program} (hP : P = Try.prog) (cs : List SV) : fieldA P 19 (.v (.ag cs)) 0 = (partA P 17 cs 0).map .v := by subst hP; kernel_rfl
theorem bu19 {P : Program} (hP : P = Try.prog) (ps : List (Nat × AV)) : buildA P 19 ps = (fillA (fun i => ([(0, 1)] : List (Nat × Nat))[i]?) [.nilp] ps).map fun cs => .v (.ag cs) := by subst hP; kernel_rfl
theorem un21 {P : Program} (hP : P = Try.prog)  : P.underlying 21 = some (.int .i32) := by subst hP; kernel_rfl
theorem un22 {P : Program} (hP : P = Try.prog)  : P.underlying 22 = some (.int .u32) := by subst hP; kernel_rfl
theorem un23 {P : Program} (hP : P = Try.prog)  : P.underlying 23 = some (.array 8 22) := by subst hP; kernel_rfl
theorem eq23 {P : Program} (hP : P = Try.prog) (xs ys : List SV) : eqA P 23 (.v (.ag xs)) (.v (.ag ys)) = eqL [1, 1, 1, 1, 1, 1, 1, 1] xs ys := by subst hP; kernel_rfl
theorem bu23 {P : Program} (hP : P = Try.prog) (ps : List (Nat × AV)) : buildA P 23 ps = (fillA (fun i => some (i * 1, 1)) [.int .u32 0, .int .u32 0, .int .u32 0, .int .u32 0, .int .u32 0, .int .u32 0, .int .u32 0, .int .u32 0] ps).map fun cs => .v (.ag cs) := by subst hP; kernel_rfl
theorem un24 {P : Program} (hP : P = Try.prog)  : P.underlying 24 = some (.array 8 22) := by subst hP; kernel_rfl
theorem zc24 {P : Program} (hP : P = Try.prog)  : zeroC P 24 = some (.ag [.int .u32 0, .int .u32 0, .int .u32 0, .int .u32 0, .int .u32 0, .int .u32 0, .int .u32 0, .int .u32 0]) := by subst hP; kernel_rfl
theorem eq24 {P : Program} (hP : P = Try.prog) (xs ys : List SV) : eqA P 24 (.v (.ag xs)) (.v (.ag ys)) = eqL [1, 1, 1, 1, 1, 1, 1, 1] xs ys := by subst hP; kernel_rfl
theorem bu24 {P : Program} (hP : P = Try.prog) (ps : List (Nat × AV)) : buildA P 24 ps = (fillA (fun i => some (i * 1, 1)) [.int .u32 0, .int .u32 0, .int .u32 0, .int .u32 0, .int .u32 0, .int .u32 0, .int .u32 0, .int .u32 0] ps).map fun cs => .v (.ag cs) := by subst hP; kernel_rfl
theorem un26 {P : Program} (hP : P = Try.prog)  : P.underlying 26 = some (.array 8 22) := by subst hP; kernel_rfl
theorem eq26 {P : Program} (hP : P = Try.prog) (xs ys : List SV) : eqA P 26 (.v (.ag xs)) (.v (.ag ys)) = eqL [1, 1, 1, 1, 1, 1, 1, 1] xs ys := by subst hP; kernel_rfl
theorem bu26 {P : Program} (hP : P = Try.prog) (ps : List (Nat × AV)) : buildA P 26 ps = (fillA (fun i => some (i * 1, 1)) [.int .u32 0, .int .u32 0, .int .u32 0, .int .u32 0, .int .u32 0, .int .u32 0, .int .u32 0, .int .u32 0] ps).map fun cs => .v (.ag cs) := by subst hP; kernel_rfl
theorem un35 {P : Program} (hP : P = Try.prog)  : P.underlying 35 = some (.slice 3) := by subst hP; kernel_rfl
theorem un36 {P : Program} (hP : P = Try.prog)  : P.underlying 36 = some (.int .u64) := by subst hP; kernel_rfl
theorem un37 {P : Program} (hP : P = Try.prog)  : P.underlying 37 = some (.int .i64) := by subst hP; kernel_rfl
theorem un58 {P : Program} (hP : P = Try.prog)  : P.underlying 58 = some (.array 16 3) := by subst hP; kernel_rfl
theorem eq58 {P : Program} (hP : P = Try.prog) (xs ys : List SV) : eqA P 58 (.v (.ag xs)) (.v (.ag ys)) = eqL [1, 1, 1, 1, 1, 1, 1, 1, 1, 1, 1, 1, 1, 1, 1, 1] xs ys := by subst hP; kernel_rfl
theorem bu58 {P : Program} (hP : P = Try.prog) (ps : List (Nat × AV)) : buildA P 58 ps = (fillA (fun i => some (i * 1, 1)) [.int .i64 0, .int .i64 0, .int .i64 0, .int .i64 0, .int .i64 0, .int .i64 0, .int .i64 0, .int .i64 0, .int .i64 0, .int .i64 0, .int .i64 0, .int .i64 0, .int .i64 0, .int .i64 0, .int .i64 0, .int .i64 0] ps).map fun cs => .v (.ag cs) := by subst hP; kernel_rfl
theorem un61 {P : Program} (hP : P = Try.prog)  : P.underlying 61 = some (.slice 78) := by subst hP; kernel_rfl
theorem un62 {P : Program} (hP : P = Try.prog)  : P.underlying 62 = some (.slice 68) := by subst hP; kernel_rfl
theorem un65 {P : Program} (hP : P = Try.prog)  : P.underlying 65 = some (.slice 101) := by subst hP; kernel_rfl
theorem fa67_0 {P : Program} (hP : P = Try.prog) (l o : Nat) : fieldAddrA P 67 (.v (.sc (.ptr l o))) 0 = some (.v (.sc (.ptr l (o + 0)))) := by subst hP; kernel_rfl
theorem fd67_0 {P : Program} (hP : P = Try.prog) (cs : List SV) : fieldA P 67 (.v (.ag cs)) 0 = (partA P 3 cs 0).map .v := by subst hP; kernel_rfl
theorem fa67_1 {P : Program} (hP : P = Try.prog) (l o : Nat) : fieldAddrA P 67 (.v (.sc (.ptr l o))) 1 = some (.v (.sc (.ptr l (o + 1)))) := by subst hP; kernel_rfl
theorem fd67_1 {P : Program} (hP : P = Try.prog) (cs : List SV) : fieldA P 67 (.v (.ag cs)) 1 = (partA P 3 cs 1).map .v := by subst hP; kernel_rfl
theorem bu67 {P : Program} (hP : P = Try.prog) (ps : List (Nat × AV)) : buildA P 67 ps = (fillA (fun i => ([(0, 1), (1, 1)] : List (Nat × Nat))[i]?) [.int .i64 0, .int .i64 0] ps).map fun cs => .v (.ag cs) := by subst hP; kernel_rfl
theorem eq67 {P : Program} (hP : P = Try.prog) (xs ys : List SV) : eqA P 67 (.v (.ag xs)) (.v (.ag ys)) = eqL [1, 1] xs ys := by subst hP; kernel_rfl
theorem fa68_0 {P : Program} (hP : P = Try.prog) (l o : Nat) : fieldAddrA P 68 (.v (.sc (.ptr l o))) 0 = some (.v (.sc (.ptr l (o + 0)))) := by subst hP; kernel_rfl
theorem fd68_0 {P : Program} (hP : P = Try.prog) (cs : List SV) : fieldA P 68 (.v (.ag cs)) 0 = (partA P 3 cs 0).map .v := by subst hP; kernel_rfl
theorem fa68_1 {P : Program} (hP : P = Try.prog) (l o : Nat) : fieldAddrA P 68 (.v (.sc (.ptr l o))) 1 = some (.v (.sc (.ptr l (o + 1)))) := by subst hP; kernel_rfl
theorem fd68_1 {P : Program} (hP : P = Try.prog) (cs : List SV) : fieldA P 68 (.v (.ag cs)) 1 = (partA P 3 cs 1).map .v := by subst hP; kernel_rfl
theorem bu68 {P : Program} (hP : P = Try.prog) (ps : List (Nat × AV)) : buildA P 68 ps = (fillA (fun i => ([(0, 1), (1, 1)] : List (Nat × Nat))[i]?) [.int .i64 0, .int .i64 0] ps).map fun cs => .v (.ag cs) := by subst hP; kernel_rfl
theorem eq68 {P : Program} (hP : P = Try.prog) (xs ys : List SV) : eqA P 68 (.v (.ag xs)) (.v (.ag ys)) = eqL [1, 1] xs ys := by subst hP; kernel_rfl
theorem fa73_0 {P : Program} (hP : P = Try.prog) (l o : Nat) : fieldAddrA P 73 (.v (.sc (.ptr l o))) 0 = some (.v (.sc (.ptr l (o + 0)))) := by subst hP; kernel_rfl
theorem fd73_0 {P : Program} (hP : P = Try.prog) (cs : List SV) : fieldA P 73 (.v (.ag cs)) 0 = (partA P 3 cs 0).map .v := by subst hP; kernel_rfl
theorem fa73_1 {P : Program} (hP : P = Try.prog) (l o : Nat) : fieldAddrA P 73 (.v (.sc (.ptr l o))) 1 = some (.v (.sc (.ptr l (o + 1)))) := by subst hP; kernel_rfl
theorem fd73_1 {P : Program} (hP : P = Try.prog) (cs : List SV) : fieldA P 73 (.v (.ag cs)) 1 = (partA P 3 cs 1).map .v := by subst hP; kernel_rfl
theorem fa73_2 {P : Program} (hP : P = Try.prog) (l o : Nat) : fieldAddrA P 73 (.v (.sc (.ptr l o))) 2 = some (.v (.sc (.ptr l (o + 2)))) := by subst hP; kernel_rfl
theorem fd73_2 {P : Program} (hP : P = Try.prog) (cs : List SV) : fieldA P 73 (.v (.ag cs)) 2 = (partA P 3 cs 2).map .v := by subst hP; kernel_rfl
theorem fa73_3 {P : Program} (hP : P = Try.prog) (l o : Nat) : fieldAddrA P 73 (.v (.sc (.ptr l o))) 3 = some (.v (.sc (.ptr l (o + 3)))) := by subst hP; kernel_rfl
theorem fd73_3 {P : Program} (hP : P = Try.prog) (cs : List SV) : fieldA P 73 (.v (.ag cs)) 3 = (partA P 3 cs 3).map .v := by subst hP; kernel_rfl
theorem fa73_4 {P : Program} (hP : P = Try.prog) (l o : Nat) : fieldAddrA P 73 (.v (.sc (.ptr l o))) 4 = some (.v (.sc (.ptr l (o + 4)))) := by subst hP; kernel_rfl
theorem fd73_4 {P : Program} (hP : P = Try.prog) (cs : List SV) : fieldA P 73 (.v (.ag cs)) 4 = (partA P 3 cs 4).map .v := by subst hP; kernel_rfl
theorem bu73 {P : Program} (hP : P = Try.prog) (ps : List (Nat × AV)) : buildA P 73 ps = (fillA (fun i => ([(0, 1), (1, 1), (2, 1), (3, 1), (4, 1)] : List (Nat × Nat))[i]?) [.int .i64 0, .int .i64 0, .int .i64 0, .int .i64 0, .int .i64 0] ps).map fun cs => .v (.ag cs) := by subst hP; kernel_rfl
theorem eq73 {P : Program} (hP : P = Try.prog) (xs ys : List SV) : eqA P 73 (.v (.ag xs)) (.v (.ag ys)) = eqL [1, 1, 1, 1, 1] xs ys := by subst hP; kernel_rfl
theorem fa74_0 {P : Program} (hP : P = Try.prog) (l o : Nat) : fieldAddrA P 74 (.v (.sc (.ptr l o))) 0 = some (.v (.sc (.ptr l (o + 0)))) := by subst hP; kernel_rfl
theorem fd74_0 {P : Program} (hP : P = Try.prog) (cs : List SV) : fieldA P 74 (.v (.ag cs)) 0 = (partA P 3 cs 0).map .v := by subst hP; kernel_rfl
theorem fa74_1 {P : Program} (hP : P = Try.prog) (l o : Nat) : fieldAddrA P 74 (.v (.sc (.ptr l o))) 1 = some (.v (.sc (.ptr l (o + 1)))) := by subst hP; kernel_rfl
theorem fd74_1 {P : Program} (hP : P = Try.prog) (cs : List SV) : fieldA P 74 (.v (.ag cs)) 1 = (partA P 3 cs 1).map .v := by subst hP; kernel_rfl
theorem fa74_2 {P : Program} (hP : P = Try.prog) (l o : Nat) : fieldAddrA P 74 (.v (.sc (.ptr l o))) 2 = some (.v (.sc (.ptr l (o + 2)))) := by subst hP; kernel_rfl
theorem fd74_2 {P : Program} (hP : P = Try.prog) (cs : List SV) : fieldA P 74 (.v (.ag cs)) 2 = (partA P 3 cs 2).map .v := by subst hP; kernel_rfl
theorem fa74_3 {P : Program} (hP : P = Try.prog) (l o : Nat) : fieldAddrA P 74 (.v (.sc (.ptr l o))) 3 = some (.v (.sc (.ptr l (o + 3)))) := by subst hP; kernel_rfl
theorem fd74_3 {P : Program} (hP : P = Try.prog) (cs : List SV) : fieldA P 74 (.v (.ag cs)) 3 = (partA P 3 cs 3).map .v := by subst hP; kernel_rfl
theorem fa74_4 {P : Program} (hP : P = Try.prog) (l o : Nat) : fieldAddrA P 74 (.v (.sc (.ptr l o))) 4 = some (.v (.sc (.ptr l (o + 4)))) := by subst hP; kernel_rfl
theorem fd74_4 {P : Program} (hP : P = Try.prog) (cs : List SV) : fieldA P 74 (.v (.ag cs)) 4 = (partA P 3 cs 4).map .v := by subst hP; kernel_rfl
theorem bu74 {P : Program} (hP : P = Try.prog) (ps : List (Nat × AV)) : buildA P 74 ps = (fillA (fun i => ([(0, 1), (1, 1), (2, 1), (3, 1), (4, 1)] : List (Nat × Nat))[i]?) [.int .i64 0, .int .i64 0, .int .i64 0, .int .i64 0, .int .i64 0] ps).map fun cs => .v (.ag cs) := by subst hP; kernel_rfl
theorem eq74 {P : Program} (hP : P = Try.prog) (xs ys : List SV) : eqA P 74 (.v (.ag xs)) (.v (.ag ys)) = eqL [1, 1, 1, 1, 1] xs ys := by subst hP; kernel_rfl
theorem fa75_0 {P : Program} (hP : P = Try.prog) (l o : Nat) : fieldAddrA P 75 (.v (.sc (.ptr l o))) 0 = some (.v (.sc (.ptr l (o + 0)))) := by subst hP; kernel_rfl
theorem fd75_0 {P : Program} (hP : P = Try.prog) (cs : List SV) : fieldA P 75 (.v (.ag cs)) 0 = (partA P 3 cs 0).map .v := by subst hP; kernel_rfl
theorem fa75_1 {P : Program} (hP : P = Try.prog) (l o : Nat) : fieldAddrA P 75 (.v (.sc (.ptr l o))) 1 = some (.v (.sc (.ptr l (o + 1)))) := by subst hP; kernel_rfl
theorem fd75_1 {P : Program} (hP : P = Try.prog) (cs : List SV) : fieldA P 75 (.v (.ag cs)) 1 = (partA P 3 cs 1).map .v := by subst hP; kernel_rfl
theorem fa75_2 {P : Program} (hP : P = Try.prog) (l o : Nat) : fieldAddrA P 75 (.v (.sc (.ptr l o))) 2 = some (.v (.sc (.ptr l (o + 2)))) := by subst hP; kernel_rfl
theorem fd75_2 {P : Program} (hP : P = Try.prog) (cs : List SV) : fieldA P 75 (.v (.ag cs)) 2 = (partA P 3 cs 2).map .v := by subst hP; kernel_rfl
theorem bu75 {P : Program} (hP : P = Try.prog) (ps : List (Nat × AV)) : buildA P 75 ps = (fillA (fun i => ([(0, 1), (1, 1), (2, 1)] : List (Nat × Nat))[i]?) [.int .i64 0, .int .i64 0, .int .i64 0] ps).map fun cs => .v (.ag cs) := by subst hP; kernel_rfl
theorem eq75 {P : Program} (hP : P = Try.prog) (xs ys : List SV) : eqA P 75 (.v (.ag xs)) (.v (.ag ys)) = eqL [1, 1, 1] xs ys := by subst hP; kernel_rfl
theorem fa76_0 {P : Program} (hP : P = Try.prog) (l o : Nat) : fieldAddrA P 76 (.v (.sc (.ptr l o))) 0 = some (.v (.sc (.ptr l (o + 0)))) := by subst hP; kernel_rfl
theorem fd76_0 {P : Program} (hP : P = Try.prog) (cs : List SV) : fieldA P 76 (.v (.ag cs)) 0 = (partA P 3 cs 0).map .v := by subst hP; kernel_rfl
theorem fa76_1 {P : Program} (hP : P = Try.prog) (l o : Nat) : fieldAddrA P 76 (.v (.sc (.ptr l o))) 1 = some (.v (.sc (.ptr l (o + 1)))) := by subst hP; kernel_rfl
theorem fd76_1 {P : Program} (hP : P = Try.prog) (cs : List SV) : fieldA P 76 (.v (.ag cs)) 1 = (partA P 3 cs 1).map .v := by subst hP; kernel_rfl
theorem fa76_2 {P : Program} (hP : P = Try.prog) (l o : Nat) : fieldAddrA P 76 (.v (.sc (.ptr l o))) 2 = some (.v (.sc (.ptr l (o + 2)))) := by subst hP; kernel_rfl
theorem fd76_2 {P : Program} (hP : P = Try.prog) (cs : List SV) : fieldA P 76 (.v (.ag cs)) 2 = (partA P 3 cs 2).map .v := by subst hP; kernel_rfl
theorem bu76 {P : Program} (hP : P = Try.prog) (ps : List (Nat × AV)) : buildA P 76 ps = (fillA (fun i => ([(0, 1), (1, 1), (2, 1)] : List (Nat × Nat))[i]?) [.int .i64 0, .int .i64 0, .int .i64 0] ps).map fun cs => .v (.ag cs) := by subst hP; kernel_rfl
theorem eq76 {P : Program} (hP : P = Try.prog) (xs ys : List SV) : eqA P 76 (.v (.ag xs)) (.v (.ag ys)) = eqL [1, 1, 1] xs ys := by subst hP; kernel_rfl
theorem fa77_0 {P : Program} (hP : P = Try.prog) (l o : Nat) : fieldAddrA P 77 (.v (.sc (.ptr l o))) 0 = some (.v (.sc (.ptr l (o + 0)))) := by subst hP; kernel_rfl
theorem fd77_0 {P : Program} (hP : P = Try.prog) (cs : List SV) : fieldA P 77 (.v (.ag cs)) 0 = (partA P 3 cs 0).map .v := by subst hP; kernel_rfl
theorem fa77_1 {P : Program} (hP : P = Try.prog) (l o : Nat) : fieldAddrA P 77 (.v (.sc (.ptr l o))) 1 = some (.v (.sc (.ptr l (o + 1)))) := by subst hP; kernel_rfl
theorem fd77_1 {P : Program} (hP : P = Try.prog) (cs : List SV) : fieldA P 77 (.v (.ag cs)) 1 = (partA P 3 cs 1).map .v := by subst hP; kernel_rfl
theorem fa77_2 {P : Program} (hP : P = Try.prog) (l o : Nat) : fieldAddrA P 77 (.v (.sc (.ptr l o))) 2 = some (.v (.sc (.ptr l (o + 2)))) := by subst hP; kernel_rfl
theorem fd77_2 {P : Program} (hP : P = Try.prog) (cs : List SV) : fieldA P 77 (.v (.ag cs)) 2 = (partA P 3 cs 2).map .v := by subst hP; kernel_rfl
theorem fa77_3 {P : Program} (hP : P = Try.prog) (l o : Nat) : fieldAddrA P 77 (.v (.sc (.ptr l o))) 3 = some (.v (.sc (.ptr l (o + 3)))) := by subst hP; kernel_rfl
theorem fd77_3 {P : Program} (hP : P = Try.prog) (cs : List SV) : fieldA P 77 (.v (.ag cs)) 3 = (partA P 76 cs 3).map .v := by subst hP; kernel_rfl
theorem fa77_4 {P : Program} (hP : P = Try.prog) (l o : Nat) : fieldAddrA P 77 (.v (.sc (.ptr l o))) 4 = some (.v (.sc (.ptr l (o + 6)))) := by subst hP; kernel_rfl
theorem fd77_4 {P : Program} (hP : P = Try.prog) (cs : List SV) : fieldA P 77 (.v (.ag cs)) 4 = (partA P 74 cs 6).map .v := by subst hP; kernel_rfl
theorem fa77_5 {P : Program} (hP : P = Try.prog) (l o : Nat) : fieldAddrA P 77 (.v (.sc (.ptr l o))) 5 = some (.v (.sc (.ptr l (o + 11)))) := by subst hP; kernel_rfl
theorem fd77_5 {P : Program} (hP : P = Try.prog) (cs : List SV) : fieldA P 77 (.v (.ag cs)) 5 = (partA P 3 cs 11).map .v := by subst hP; kernel_rfl
theorem fa77_6 {P : Program} (hP : P = Try.prog) (l o : Nat) : fieldAddrA P 77 (.v (.sc (.ptr l o))) 6 = some (.v (.sc (.ptr l (o + 12)))) := by subst hP; kernel_rfl
theorem fd77_6 {P : Program} (hP : P = Try.prog) (cs : List SV) : fieldA P 77 (.v (.ag cs)) 6 = (partA P 3 cs 12).map .v := by subst hP; kernel_rfl
theorem bu77 {P : Program} (hP : P = Try.prog) (ps : List (Nat × AV)) : buildA P 77 ps = (fillA (fun i => ([(0, 1), (1, 1), (2, 1), (3, 3), (6, 5), (11, 1), (12, 1)] : List (Nat × Nat))[i]?) [.int .i64 0, .int .i64 0, .int .i64 0, .int .i64 0, .int .i64 0, .int .i64 0, .int .i64 0, .int .i64 0, .int .i64 0, .int .i64 0, .int .i64 0, .int .i64 0, .int .i64 0] ps).map fun cs => .v (.ag cs) := by subst hP; kernel_rfl
theorem eq77 {P : Program} (hP : P = Try.prog) (xs ys : List SV) : eqA P 77 (.v (.ag xs)) (.v (.ag ys)) = eqL [1, 1, 1, 1, 1, 1, 1, 1, 1, 1, 1, 1, 1] xs ys := by subst hP; kernel_rfl
theorem fa78_0 {P : Program} (hP : P = Try.prog) (l o : Nat) : fieldAddrA P 78 (.v (.sc (.ptr l o))) 0 = some (.v (.sc (.ptr l (o + 0)))) := by subst hP; kernel_rfl
theorem fd78_0 {P : Program} (hP : P = Try.prog) (cs : List SV) : fieldA P 78 (.v (.ag cs)) 0 = (partA P 3 cs 0).map .v := by subst hP; kernel_rfl
theorem fa78_1 {P : Program} (hP : P = Try.prog) (l o : Nat) : fieldAddrA P 78 (.v (.sc (.ptr l o))) 1 = some (.v (.sc (.ptr l (o + 1)))) := by subst hP; kernel_rfl
theorem fd78_1 {P : Program} (hP : P = Try.prog) (cs : List SV) : fieldA P 78 (.v (.ag cs)) 1 = (partA P 3 cs 1).map .v := by subst hP; kernel_rfl
theorem fa78_2 {P : Program} (hP : P = Try.prog) (l o : Nat) : fieldAddrA P 78 (.v (.sc (.ptr l o))) 2 = some (.v (.sc (.ptr l (o + 2)))) := by subst hP; kernel_rfl
theorem fd78_2 {P : Program} (hP : P = Try.prog) (cs : List SV) : fieldA P 78 (.v (.ag cs)) 2 = (partA P 3 cs 2).map .v := by subst hP; kernel_rfl
theorem fa78_3 {P : Program} (hP : P = Try.prog) (l o : Nat) : fieldAddrA P 78 (.v (.sc (.ptr l o))) 3 = some (.v (.sc (.ptr l (o + 3)))) := by subst hP; kernel_rfl
theorem fd78_3 {P : Program} (hP : P = Try.prog) (cs : List SV) : fieldA P 78 (.v (.ag cs)) 3 = (partA P 76 cs 3).map .v := by subst hP; kernel_rfl
theorem fa78_4 {P : Program} (hP : P = Try.prog) (l o : Nat) : fieldAddrA P 78 (.v (.sc (.ptr l o))) 4 = some (.v (.sc (.ptr l (o + 6)))) := by subst hP; kernel_rfl
theorem fd78_4 {P : Program} (hP : P = Try.prog) (cs : List SV) : fieldA P 78 (.v (.ag cs)) 4 = (partA P 74 cs 6).map .v := by subst hP; kernel_rfl
theorem fa78_5 {P : Program} (hP : P = Try.prog) (l o : Nat) : fieldAddrA P 78 (.v (.sc (.ptr l o))) 5 = some (.v (.sc (.ptr l (o + 11)))) := by subst hP; kernel_rfl
theorem fd78_5 {P : Program} (hP : P = Try.prog) (cs : List SV) : fieldA P 78 (.v (.ag cs)) 5 = (partA P 3 cs 11).map .v := by subst hP; kernel_rfl
theorem fa78_6 {P : Program} (hP : P = Try.prog) (l o : Nat) : fieldAddrA P 78 (.v (.sc (.ptr l o))) 6 = some (.v (.sc (.ptr l (o + 12)))) := by subst hP; kernel_rfl
theorem fd78_6 {P : Program} (hP : P = Try.prog) (cs : List SV) : fieldA P 78 (.v (.ag cs)) 6 = (partA P 3 cs 12).map .v := by subst hP; kernel_rfl
theorem bu78 {P : Program} (hP : P = Try.prog) (ps : List (Nat × AV)) : buildA P 78 ps = (fillA (fun i => ([(0, 1), (1, 1), (2, 1), (3, 3), (6, 5), (11, 1), (12, 1)] : List (Nat × Nat))[i]?) [.int .i64 0, .int .i64 0, .int .i64 0, .int .i64 0, .int .i64 0, .int .i64 0, .int .i64 0, .int .i64 0, .int .i64 0, .int .i64 0, .int .i64 0, .int .i64 0, .int .i64 0] ps).map fun cs => .v (.ag cs) := by subst hP; kernel_rfl
theorem eq78 {P : Program} (hP : P = Try.prog) (xs ys : List SV) : eqA P 78 (.v (.ag xs)) (.v (.ag ys)) = eqL [1, 1, 1, 1, 1, 1, 1, 1, 1, 1, 1, 1, 1] xs ys := by subst hP; kernel_rfl
theorem fa88_0 {P : Program} (hP : P = Try.prog) (l o : Nat) : fieldAddrA P 88 (.v (.sc (.ptr l o))) 0 = some (.v (.sc (.ptr l (o + 0)))) := by subst hP; kernel_rfl
theorem fd88_0 {P : Program} (hP : P = Try.prog) (cs : List SV) : fieldA P 88 (.v (.ag cs)) 0 = (partA P 3 cs 0).map .v := by subst hP; kernel_rfl
theorem fa88_1 {P : Program} (hP : P = Try.prog) (l o : Nat) : fieldAddrA P 88 (.v (.sc (.ptr l o))) 1 = some (.v (.sc (.ptr l (o + 1)))) := by subst hP; kernel_rfl
theorem fd88_1 {P : Program} (hP : P = Try.prog) (cs : List SV) : fieldA P 88 (.v (.ag cs)) 1 = (partA P 3 cs 1).map .v := by subst hP; kernel_rfl
theorem fa88_2 {P : Program} (hP : P = Try.prog) (l o : Nat) : fieldAddrA P 88 (.v (.sc (.ptr l o))) 2 = some (.v (.sc (.ptr l (o + 2)))) := by subst hP; kernel_rfl
theorem fd88_2 {P : Program} (hP : P = Try.prog) (cs : List SV) : fieldA P 88 (.v (.ag cs)) 2 = (partA P 3 cs 2).map .v := by subst hP; kernel_rfl
theorem fa88_3 {P : Program} (hP : P = Try.prog) (l o : Nat) : fieldAddrA P 88 (.v (.sc (.ptr l o))) 3 = some (.v (.sc (.ptr l (o + 3)))) := by subst hP; kernel_rfl
theorem fd88_3 {P : Program} (hP : P = Try.prog) (cs : List SV) : fieldA P 88 (.v (.ag cs)) 3 = (partA P 3 cs 3).map .v := by subst hP; kernel_rfl
theorem fa88_4 {P : Program} (hP : P = Try.prog) (l o : Nat) : fieldAddrA P 88 (.v (.sc (.ptr l o))) 4 = some (.v (.sc (.ptr l (o + 4)))) := by subst hP; kernel_rfl
theorem fd88_4 {P : Program} (hP : P = Try.prog) (cs : List SV) : fieldA P 88 (.v (.ag cs)) 4 = (partA P 3 cs 4).map .v := by subst hP; kernel_rfl
theorem fa88_5 {P : Program} (hP : P = Try.prog) (l o : Nat) : fieldAddrA P 88 (.v (.sc (.ptr l o))) 5 = some (.v (.sc (.ptr l (o + 5)))) := by subst hP; kernel_rfl
theorem fd88_5 {P : Program} (hP : P = Try.prog) (cs : List SV) : fieldA P 88 (.v (.ag cs)) 5 = (partA P 3 cs 5).map .v := by subst hP; kernel_rfl
theorem fa88_6 {P : Program} (hP : P = Try.prog) (l o : Nat) : fieldAddrA P 88 (.v (.sc (.ptr l o))) 6 = some (.v (.sc (.ptr l (o + 6)))) := by subst hP; kernel_rfl
theorem fd88_6 {P : Program} (hP : P = Try.prog) (cs : List SV) : fieldA P 88 (.v (.ag cs)) 6 = (partA P 3 cs 6).map .v := by subst hP; kernel_rfl
theorem fa88_7 {P : Program} (hP : P = Try.prog) (l o : Nat) : fieldAddrA P 88 (.v (.sc (.ptr l o))) 7 = some (.v (.sc (.ptr l (o + 7)))) := by subst hP; kernel_rfl
theorem fd88_7 {P : Program} (hP : P = Try.prog) (cs : List SV) : fieldA P 88 (.v (.ag cs)) 7 = (partA P 3 cs 7).map .v := by subst hP; kernel_rfl
theorem fa88_8 {P : Program} (hP : P = Try.prog) (l o : Nat) : fieldAddrA P 88 (.v (.sc (.ptr l o))) 8 = some (.v (.sc (.ptr l (o + 8)))) := by subst hP; kernel_rfl
theorem fd88_8 {P : Program} (hP : P = Try.prog) (cs : List SV) : fieldA P 88 (.v (.ag cs)) 8 = (partA P 3 cs 8).map .v := by subst hP; kernel_rfl
theorem fa88_9 {P : Program} (hP : P = Try.prog) (l o : Nat) : fieldAddrA P 88 (.v (.sc (.ptr l o))) 9 = some (.v (.sc (.ptr l (o + 9)))) := by subst hP; kernel_rfl
theorem fd88_9 {P : Program} (hP : P = Try.prog) (cs : List SV) : fieldA P 88 (.v (.ag cs)) 9 = (partA P 3 cs 9).map .v := by subst hP; kernel_rfl
theorem fa88_10 {P : Program} (hP : P = Try.prog) (l o : Nat) : fieldAddrA P 88 (.v (.sc (.ptr l o))) 10 = some (.v (.sc (.ptr l (o + 10)))) := by subst hP; kernel_rfl
theorem fd88_10 {P : Program} (hP : P = Try.prog) (cs : List SV) : fieldA P 88 (.v (.ag cs)) 10 = (partA P 3 cs 10).map .v := by subst hP; kernel_rfl
theorem bu88 {P : Program} (hP : P = Try.prog) (ps : List (Nat × AV)) : buildA P 88 ps = (fillA (fun i => ([(0, 1), (1, 1), (2, 1), (3, 1), (4, 1), (5, 1), (6, 1), (7, 1), (8, 1), (9, 1), (10, 1)] : List (Nat × Nat))[i]?) [.int .i64 0, .int .i64 0, .int .i64 0, .int .i64 0, .int .i64 0, .int .i64 0, .int .i64 0, .int .i64 0, .int .i64 0, .int .i64 0, .int .i64 0] ps).map fun cs => .v (.ag cs) := by subst hP; kernel_rfl
theorem eq88 {P : Program} (hP : P = Try.prog) (xs ys : List SV) : eqA P 88 (.v (.ag xs)) (.v (.ag ys)) = eqL [1, 1, 1, 1, 1, 1, 1, 1, 1, 1, 1] xs ys := by subst hP; kernel_rfl
theorem fa89_0 {P : Program} (hP : P = Try.prog) (l o : Nat) : fieldAddrA P 89 (.v (.sc (.ptr l o))) 0 = some (.v (.sc (.ptr l (o + 0)))) := by subst hP; kernel_rfl
theorem fd89_0 {P : Program} (hP : P = Try.prog) (cs : List SV) : fieldA P 89 (.v (.ag cs)) 0 = (partA P 3 cs 0).map .v := by subst hP; kernel_rfl
theorem fa89_1 {P : Program} (hP : P = Try.prog) (l o : Nat) : fieldAddrA P 89 (.v (.sc (.ptr l o))) 1 = some (.v (.sc (.ptr l (o + 1)))) := by subst hP; kernel_rfl
theorem fd89_1 {P : Program} (hP : P = Try.prog) (cs : List SV) : fieldA P 89 (.v (.ag cs)) 1 = (partA P 3 cs 1).map .v := by subst hP; kernel_rfl
theorem fa89_2 {P : Program} (hP : P = Try.prog) (l o : Nat) : fieldAddrA P 89 (.v (.sc (.ptr l o))) 2 = some (.v (.sc (.ptr l (o + 2)))) := by subst hP; kernel_rfl
theorem fd89_2 {P : Program} (hP : P = Try.prog) (cs : List SV) : fieldA P 89 (.v (.ag cs)) 2 = (partA P 3 cs 2).map .v := by subst hP; kernel_rfl
theorem fa89_3 {P : Program} (hP : P = Try.prog) (l o : Nat) : fieldAddrA P 89 (.v (.sc (.ptr l o))) 3 = some (.v (.sc (.ptr l (o + 3)))) := by subst hP; kernel_rfl
theorem fd89_3 {P : Program} (hP : P = Try.prog) (cs : List SV) : fieldA P 89 (.v (.ag cs)) 3 = (partA P 3 cs 3).map .v := by subst hP; kernel_rfl
theorem fa89_4 {P : Program} (hP : P = Try.prog) (l o : Nat) : fieldAddrA P 89 (.v (.sc (.ptr l o))) 4 = some (.v (.sc (.ptr l (o + 4)))) := by subst hP; kernel_rfl
theorem fd89_4 {P : Program} (hP : P = Try.prog) (cs : List SV) : fieldA P 89 (.v (.ag cs)) 4 = (partA P 3 cs 4).map .v := by subst hP; kernel_rfl
theorem fa89_5 {P : Program} (hP : P = Try.prog) (l o : Nat) : fieldAddrA P 89 (.v (.sc (.ptr l o))) 5 = some (.v (.sc (.ptr l (o + 5)))) := by subst hP; kernel_rfl
theorem fd89_5 {P : Program} (hP : P = Try.prog) (cs : List SV) : fieldA P 89 (.v (.ag cs)) 5 = (partA P 3 cs 5).map .v := by subst hP; kernel_rfl
theorem fa89_6 {P : Program} (hP : P = Try.prog) (l o : Nat) : fieldAddrA P 89 (.v (.sc (.ptr l o))) 6 = some (.v (.sc (.ptr l (o + 6)))) := by subst hP; kernel_rfl
theorem fd89_6 {P : Program} (hP : P = Try.prog) (cs : List SV) : fieldA P 89 (.v (.ag cs)) 6 = (partA P 3 cs 6).map .v := by subst hP; kernel_rfl
theorem fa89_7 {P : Program} (hP : P = Try.prog) (l o : Nat) : fieldAddrA P 89 (.v (.sc (.ptr l o))) 7 = some (.v (.sc (.ptr l (o + 7)))) := by subst hP; kernel_rfl
theorem fd89_7 {P : Program} (hP : P = Try.prog) (cs : List SV) : fieldA P 89 (.v (.ag cs)) 7 = (partA P 3 cs 7).map .v := by subst hP; kernel_rfl
theorem fa89_8 {P : Program} (hP : P = Try.prog) (l o : Nat) : fieldAddrA P 89 (.v (.sc (.ptr l o))) 8 = some (.v (.sc (.ptr l (o + 8)))) := by subst hP; kernel_rfl
theorem fd89_8 {P : Program} (hP : P = Try.prog) (cs : List SV) : fieldA P 89 (.v (.ag cs)) 8 = (partA P 3 cs 8).map .v := by subst hP; kernel_rfl
theorem fa89_9 {P : Program} (hP : P = Try.prog) (l o : Nat) : fieldAddrA P 89 (.v (.sc (.ptr l o))) 9 = some (.v (.sc (.ptr l (o + 9)))) := by subst hP; kernel_rfl
theorem fd89_9 {P : Program} (hP : P = Try.prog) (cs : List SV) : fieldA P 89 (.v (.ag cs)) 9 = (partA P 3 cs 9).map .v := by subst hP; kernel_rfl
theorem fa89_10 {P : Program} (hP : P = Try.prog) (l o : Nat) : fieldAddrA P 89 (.v (.sc (.ptr l o))) 10 = some (.v (.sc (.ptr l (o + 10)))) := by subst hP; kernel_rfl
theorem fd89_10 {P : Program} (hP : P = Try.prog) (cs : List SV) : fieldA P 89 (.v (.ag cs)) 10 = (partA P 3 cs 10).map .v := by subst hP; kernel_rfl
theorem bu89 {P : Program} (hP : P = Try.prog) (ps : List (Nat × AV)) : buildA P 89 ps = (fillA (fun i => ([(0, 1), (1, 1), (2, 1), (3, 1), (4, 1), (5, 1), (6, 1), (7, 1), (8, 1), (9, 1), (10, 1)] : List (Nat × Nat))[i]?) [.int .i64 0, .int .i64 0, .int .i64 0, .int .i64 0, .int .i64 0, .int .i64 0, .int .i64 0, .int .i64 0, .int .i64 0, .int .i64 0, .int .i64 0] ps).map fun cs => .v (.ag cs) := by subst hP; kernel_rfl
theorem eq89 {P : Program} (hP : P = Try.prog) (xs ys : List SV) : eqA P 89 (.v (.ag xs)) (.v (.ag ys)) = eqL [1, 1, 1, 1, 1, 1, 1, 1, 1, 1, 1] xs ys := by subst hP; kernel_rfl
theorem un93 {P : Program} (hP : P = Try.prog)  : P.underlying 93 = some (.int .u64) := by subst hP; kernel_rfl
theorem un94 {P : Program} (hP : P = Try.prog)  : P.underlying 94 = some (.slice 97) := by subst hP; kernel_rfl
theorem fa96_0 {P : Program} (hP : P = Try.prog) (l o : Nat) : fieldAddrA P 96 (.v (.sc (.ptr l o))) 0 = some (.v (.sc (.ptr l (o + 0)))) := by subst hP; kernel_rfl
theorem fd96_0 {P : Program} (hP : P = Try.prog) (cs : List SV) : fieldA P 96 (.v (.ag cs)) 0 = (partA P 3 cs 0).map .v := by subst hP; kernel_rfl
theorem fa96_1 {P : Program} (hP : P = Try.prog) (l o : Nat) : fieldAddrA P 96 (.v (.sc (.ptr l o))) 1 = some (.v (.sc (.ptr l (o + 1)))) := by subst hP; kernel_rfl
theorem fd96_1 {P : Program} (hP : P = Try.prog) (cs : List SV) : fieldA P 96 (.v (.ag cs)) 1 = (partA P 3 cs 1).map .v := by subst hP; kernel_rfl
theorem bu96 {P : Program} (hP : P = Try.prog) (ps : List (Nat × AV)) : buildA P 96 ps = (fillA (fun i => ([(0, 1), (1, 1)] : List (Nat × Nat))[i]?) [.int .i64 0, .int .i64 0] ps).map fun cs => .v (.ag cs) := by subst hP; kernel_rfl
theorem eq96 {P : Program} (hP : P = Try.prog) (xs ys : List SV) : eqA P 96 (.v (.ag xs)) (.v (.ag ys)) = eqL [1, 1] xs ys := by subst hP; kernel_rfl
theorem fa97_0 {P : Program} (hP : P = Try.prog) (l o : Nat) : fieldAddrA P 97 (.v (.sc (.ptr l o))) 0 = some (.v (.sc (.ptr l (o + 0)))) := by subst hP; kernel_rfl
theorem fd97_0 {P : Program} (hP : P = Try.prog) (cs : List SV) : fieldA P 97 (.v (.ag cs)) 0 = (partA P 3 cs 0).map .v := by subst hP; kernel_rfl
theorem fa97_1 {P : Program} (hP : P = Try.prog) (l o : Nat) : fieldAddrA P 97 (.v (.sc (.ptr l o))) 1 = some (.v (.sc (.ptr l (o + 1)))) := by subst hP; kernel_rfl
theorem fd97_1 {P : Program} (hP : P = Try.prog) (cs : List SV) : fieldA P 97 (.v (.ag cs)) 1 = (partA P 3 cs 1).map .v := by subst hP; kernel_rfl
theorem bu97 {P : Program} (hP : P = Try.prog) (ps : List (Nat × AV)) : buildA P 97 ps = (fillA (fun i => ([(0, 1), (1, 1)] : List (Nat × Nat))[i]?) [.int .i64 0, .int .i64 0] ps).map fun cs => .v (.ag cs) := by subst hP; kernel_rfl
theorem eq97 {P : Program} (hP : P = Try.prog) (xs ys : List SV) : eqA P 97 (.v (.ag xs)) (.v (.ag ys)) = eqL [1, 1] xs ys := by subst hP; kernel_rfl
theorem fa98_0 {P : Program} (hP : P = Try.prog) (l o : Nat) : fieldAddrA P 98 (.v (.sc (.ptr l o))) 0 = some (.v (.sc (.ptr l (o + 0)))) := by subst hP; kernel_rfl
theorem fd98_0 {P : Program} (hP : P = Try.prog) (cs : List SV) : fieldA P 98 (.v (.ag cs)) 0 = (partA P 3 cs 0).map .v := by subst hP; kernel_rfl
theorem fa98_1 {P : Program} (hP : P = Try.prog) (l o : Nat) : fieldAddrA P 98 (.v (.sc (.ptr l o))) 1 = some (.v (.sc (.ptr l (o + 1)))) := by subst hP; kernel_rfl
theorem fd98_1 {P : Program} (hP : P = Try.prog) (cs : List SV) : fieldA P 98 (.v (.ag cs)) 1 = (partA P 3 cs 1).map .v := by subst hP; kernel_rfl
theorem fa98_2 {P : Program} (hP : P = Try.prog) (l o : Nat) : fieldAddrA P 98 (.v (.sc (.ptr l o))) 2 = some (.v (.sc (.ptr l (o + 2)))) := by subst hP; kernel_rfl
theorem fd98_2 {P : Program} (hP : P = Try.prog) (cs : List SV) : fieldA P 98 (.v (.ag cs)) 2 = (partA P 3 cs 2).map .v := by subst hP; kernel_rfl
theorem fa98_3 {P : Program} (hP : P = Try.prog) (l o : Nat) : fieldAddrA P 98 (.v (.sc (.ptr l o))) 3 = some (.v (.sc (.ptr l (o + 3)))) := by subst hP; kernel_rfl
theorem fd98_3 {P : Program} (hP : P = Try.prog) (cs : List SV) : fieldA P 98 (.v (.ag cs)) 3 = (partA P 3 cs 3).map .v := by subst hP; kernel_rfl
theorem fa98_4 {P : Program} (hP : P = Try.prog) (l o : Nat) : fieldAddrA P 98 (.v (.sc (.ptr l o))) 4 = some (.v (.sc (.ptr l (o + 4)))) := by subst hP; kernel_rfl
theorem fd98_4 {P : Program} (hP : P = Try.prog) (cs : List SV) : fieldA P 98 (.v (.ag cs)) 4 = (partA P 37 cs 4).map .v := by subst hP; kernel_rfl
theorem bu98 {P : Program} (hP : P = Try.prog) (ps : List (Nat × AV)) : buildA P 98 ps = (fillA (fun i => ([(0, 1), (1, 1), (2, 1), (3, 1), (4, 1)] : List (Nat × Nat))[i]?) [.int .i64 0, .int .i64 0, .int .i64 0, .int .i64 0, .int .i64 0] ps).map fun cs => .v (.ag cs) := by subst hP; kernel_rfl
theorem eq98 {P : Program} (hP : P = Try.prog) (xs ys : List SV) : eqA P 98 (.v (.ag xs)) (.v (.ag ys)) = eqL [1, 1, 1, 1, 1] xs ys := by subst hP; kernel_rfl
theorem fa99_0 {P : Program} (hP : P = Try.prog) (l o : Nat) : fieldAddrA P 99 (.v (.sc (.ptr l o))) 0 = some (.v (.sc (.ptr l (o + 0)))) := by subst hP; kernel_rfl
theorem fd99_0 {P : Program} (hP : P = Try.prog) (cs : List SV) : fieldA P 99 (.v (.ag cs)) 0 = (partA P 3 cs 0).map .v := by subst hP; kernel_rfl
theorem fa99_1 {P : Program} (hP : P = Try.prog) (l o : Nat) : fieldAddrA P 99 (.v (.sc (.ptr l o))) 1 = some (.v (.sc (.ptr l (o + 1)))) := by subst hP; kernel_rfl
theorem fd99_1 {P : Program} (hP : P = Try.prog) (cs : List SV) : fieldA P 99 (.v (.ag cs)) 1 = (partA P 3 cs 1).map .v := by subst hP; kernel_rfl
theorem fa99_2 {P : Program} (hP : P = Try.prog) (l o : Nat) : fieldAddrA P 99 (.v (.sc (.ptr l o))) 2 = some (.v (.sc (.ptr l (o + 2)))) := by subst hP; kernel_rfl
theorem fd99_2 {P : Program} (hP : P = Try.prog) (cs : List SV) : fieldA P 99 (.v (.ag cs)) 2 = (partA P 3 cs 2).map .v := by subst hP; kernel_rfl
theorem fa99_3 {P : Program} (hP : P = Try.prog) (l o : Nat) : fieldAddrA P 99 (.v (.sc (.ptr l o))) 3 = some (.v (.sc (.ptr l (o + 3)))) := by subst hP; kernel_rfl
theorem fd99_3 {P : Program} (hP : P = Try.prog) (cs : List SV) : fieldA P 99 (.v (.ag cs)) 3 = (partA P 3 cs 3).map .v := by subst hP; kernel_rfl
theorem fa99_4 {P : Program} (hP : P = Try.prog) (l o : Nat) : fieldAddrA P 99 (.v (.sc (.ptr l o))) 4 = some (.v (.sc (.ptr l (o + 4)))) := by subst hP; kernel_rfl
theorem fd99_4 {P : Program} (hP : P = Try.prog) (cs : List SV) : fieldA P 99 (.v (.ag cs)) 4 = (partA P 37 cs 4).map .v := by subst hP; kernel_rfl
theorem bu99 {P : Program} (hP : P = Try.prog) (ps : List (Nat × AV)) : buildA P 99 ps = (fillA (fun i => ([(0, 1), (1, 1), (2, 1), (3, 1), (4, 1)] : List (Nat × Nat))[i]?) [.int .i64 0, .int .i64 0, .int .i64 0, .int .i64 0, .int .i64 0] ps).map fun cs => .v (.ag cs) := by subst hP; kernel_rfl
theorem eq99 {P : Program} (hP : P = Try.prog) (xs ys : List SV) : eqA P 99 (.v (.ag xs)) (.v (.ag ys)) = eqL [1, 1, 1, 1, 1] xs ys := by subst hP; kernel_rfl
theorem fa100_0 {P : Program} (hP : P = Try.prog) (l o : Nat) : fieldAddrA P 100 (.v (.sc (.ptr l o))) 0 = some (.v (.sc (.ptr l (o + 0)))) := by subst hP; kernel_rfl
theorem fd100_0 {P : Program} (hP : P = Try.prog) (cs : List SV) : fieldA P 100 (.v (.ag cs)) 0 = (partA P 3 cs 0).map .v := by subst hP; kernel_rfl
theorem fa100_1 {P : Program} (hP : P = Try.prog) (l o : Nat) : fieldAddrA P 100 (.v (.sc (.ptr l o))) 1 = some (.v (.sc (.ptr l (o + 1)))) := by subst hP; kernel_rfl
theorem fd100_1 {P : Program} (hP : P = Try.prog) (cs : List SV) : fieldA P 100 (.v (.ag cs)) 1 = (partA P 3 cs 1).map .v := by subst hP; kernel_rfl
theorem fa100_2 {P : Program} (hP : P = Try.prog) (l o : Nat) : fieldAddrA P 100 (.v (.sc (.ptr l o))) 2 = some (.v (.sc (.ptr l (o + 2)))) := by subst hP; kernel_rfl
theorem fd100_2 {P : Program} (hP : P = Try.prog) (cs : List SV) : fieldA P 100 (.v (.ag cs)) 2 = (partA P 3 cs 2).map .v := by subst hP; kernel_rfl
theorem fa100_3 {P : Program} (hP : P = Try.prog) (l o : Nat) : fieldAddrA P 100 (.v (.sc (.ptr l o))) 3 = some (.v (.sc (.ptr l (o + 3)))) := by subst hP; kernel_rfl
theorem fd100_3 {P : Program} (hP : P = Try.prog) (cs : List SV) : fieldA P 100 (.v (.ag cs)) 3 = (partA P 76 cs 3).map .v := by subst hP; kernel_rfl
theorem fa100_4 {P : Program} (hP : P = Try.prog) (l o : Nat) : fieldAddrA P 100 (.v (.sc (.ptr l o))) 4 = some (.v (.sc (.ptr l (o + 6)))) := by subst hP; kernel_rfl
theorem fd100_4 {P : Program} (hP : P = Try.prog) (cs : List SV) : fieldA P 100 (.v (.ag cs)) 4 = (partA P 99 cs 6).map .v := by subst hP; kernel_rfl
theorem fa100_5 {P : Program} (hP : P = Try.prog) (l o : Nat) : fieldAddrA P 100 (.v (.sc (.ptr l o))) 5 = some (.v (.sc (.ptr l (o + 11)))) := by subst hP; kernel_rfl
theorem fd100_5 {P : Program} (hP : P = Try.prog) (cs : List SV) : fieldA P 100 (.v (.ag cs)) 5 = (partA P 3 cs 11).map .v := by subst hP; kernel_rfl
theorem fa100_6 {P : Program} (hP : P = Try.prog) (l o : Nat) : fieldAddrA P 100 (.v (.sc (.ptr l o))) 6 = some (.v (.sc (.ptr l (o + 12)))) := by subst hP; kernel_rfl
theorem fd100_6 {P : Program} (hP : P = Try.prog) (cs : List SV) : fieldA P 100 (.v (.ag cs)) 6 = (partA P 37 cs 12).map .v := by subst hP; kernel_rfl
theorem bu100 {P : Program} (hP : P = Try.prog) (ps : List (Nat × AV)) : buildA P 100 ps = (fillA (fun i => ([(0, 1), (1, 1), (2, 1), (3, 3), (6, 5), (11, 1), (12, 1)] : List (Nat × Nat))[i]?) [.int .i64 0, .int .i64 0, .int .i64 0, .int .i64 0, .int .i64 0, .int .i64 0, .int .i64 0, .int .i64 0, .int .i64 0, .int .i64 0, .int .i64 0, .int .i64 0, .int .i64 0] ps).map fun cs => .v (.ag cs) := by subst hP; kernel_rfl
theorem eq100 {P : Program} (hP : P = Try.prog) (xs ys : List SV) : eqA P 100 (.v (.ag xs)) (.v (.ag ys)) = eqL [1, 1, 1, 1, 1, 1, 1, 1, 1, 1, 1, 1, 1] xs ys := by subst hP; kernel_rfl
theorem fa101_0 {P : Program} (hP : P = Try.prog) (l o : Nat) : fieldAddrA P 101 (.v (.sc (.ptr l o))) 0 = some (.v (.sc (.ptr l (o + 0)))) := by subst hP; kernel_rfl
theorem fd101_0 {P : Program} (hP : P = Try.prog) (cs : List SV) : fieldA P 101 (.v (.ag cs)) 0 = (partA P 3 cs 0).map .v := by subst hP; kernel_rfl
theorem fa101_1 {P : Program} (hP : P = Try.prog) (l o : Nat) : fieldAddrA P 101 (.v (.sc (.ptr l o))) 1 = some (.v (.sc (.ptr l (o + 1)))) := by subst hP; kernel_rfl
theorem fd101_1 {P : Program} (hP : P = Try.prog) (cs : List SV) : fieldA P 101 (.v (.ag cs)) 1 = (partA P 3 cs 1).map .v := by subst hP; kernel_rfl
theorem fa101_2 {P : Program} (hP : P = Try.prog) (l o : Nat) : fieldAddrA P 101 (.v (.sc (.ptr l o))) 2 = some (.v (.sc (.ptr l (o + 2)))) := by subst hP; kernel_rfl
theorem fd101_2 {P : Program} (hP : P = Try.prog) (cs : List SV) : fieldA P 101 (.v (.ag cs)) 2 = (partA P 3 cs 2).map .v := by subst hP; kernel_rfl
theorem fa101_3 {P : Program} (hP : P = Try.prog) (l o : Nat) : fieldAddrA P 101 (.v (.sc (.ptr l o))) 3 = some (.v (.sc (.ptr l (o + 3)))) := by subst hP; kernel_rfl
theorem fd101_3 {P : Program} (hP : P = Try.prog) (cs : List SV) : fieldA P 101 (.v (.ag cs)) 3 = (partA P 76 cs 3).map .v := by subst hP; kernel_rfl
theorem fa101_4 {P : Program} (hP : P = Try.prog) (l o : Nat) : fieldAddrA P 101 (.v (.sc (.ptr l o))) 4 = some (.v (.sc (.ptr l (o + 6)))) := by subst hP; kernel_rfl
theorem fd101_4 {P : Program} (hP : P = Try.prog) (cs : List SV) : fieldA P 101 (.v (.ag cs)) 4 = (partA P 99 cs 6).map .v := by subst hP; kernel_rfl
theorem fa101_5 {P : Program} (hP : P = Try.prog) (l o : Nat) : fieldAddrA P 101 (.v (.sc (.ptr l o))) 5 = some (.v (.sc (.ptr l (o + 11)))) := by subst hP; kernel_rfl
theorem fd101_5 {P : Program} (hP : P = Try.prog) (cs : List SV) : fieldA P 101 (.v (.ag cs)) 5 = (partA P 3 cs 11).map .v := by subst hP; kernel_rfl
theorem fa101_6 {P : Program} (hP : P = Try.prog) (l o : Nat) : fieldAddrA P 101 (.v (.sc (.ptr l o))) 6 = some (.v (.sc (.ptr l (o + 12)))) := by subst hP; kernel_rfl
theorem fd101_6 {P : Program} (hP : P = Try.prog) (cs : List SV) : fieldA P 101 (.v (.ag cs)) 6 = (partA P 37 cs 12).map .v := by subst hP; kernel_rfl
theorem bu101 {P : Program} (hP : P = Try.prog) (ps : List (Nat × AV)) : buildA P 101 ps = (fillA (fun i => ([(0, 1), (1, 1), (2, 1), (3, 3), (6, 5), (11, 1), (12, 1)] : List (Nat × Nat))[i]?) [.int .i64 0, .int .i64 0, .int .i64 0, .int .i64 0, .int .i64 0, .int .i64 0, .int .i64 0, .int .i64 0, .int .i64 0, .int .i64 0, .int .i64 0, .int .i64 0, .int .i64 0] ps).map fun cs => .v (.ag cs) := by subst hP; kernel_rfl
theorem eq101 {P : Program} (hP : P = Try.prog) (xs ys : List SV) : eqA P 101 (.v (.ag xs)) (.v (.ag ys)) = eqL [1, 1, 1, 1, 1, 1, 1, 1, 1, 1, 1, 1, 1] xs ys := by subst hP; kernel_rfl
theorem un102 {P : Program} (hP : P = Try.prog)  : P.underlying 102 = some (.slice 24) := by subst hP; kernel_rfl
theorem un104 {P : Program} (hP : P = Try.prog)  : P.underlying 104 = some (.slice 36) := by subst hP; kernel_rfl
theorem un105 {P : Program} (hP : P = Try.prog)  : P.underlying 105 = some (.pointer 108) := by subst hP; kernel_rfl
theorem un106 {P : Program} (hP : P = Try.prog)  : P.underlying 106 = some (.map 3 3) := by subst hP; kernel_rfl
theorem fa107_0 {P : Program} (hP : P = Try.prog) (l o : Nat) : fieldAddrA P 107 (.v (.sc (.ptr l o))) 0 = some (.v (.sc (.ptr l (o + 0)))) := by subst hP; kernel_rfl
theorem fd107_0 {P : Program} (hP : P = Try.prog) (cs : List SV) : fieldA P 107 (.v (.ag cs)) 0 = (partA P 89 cs 0).map .v := by subst hP; kernel_rfl
theorem fa107_1 {P : Program} (hP : P = Try.prog) (l o : Nat) : fieldAddrA P 107 (.v (.sc (.ptr l o))) 1 = some (.v (.sc (.ptr l (o + 11)))) := by subst hP; kernel_rfl
theorem fd107_1 {P : Program} (hP : P = Try.prog) (cs : List SV) : fieldA P 107 (.v (.ag cs)) 1 = (partA P 3 cs 11).map .v := by subst hP; kernel_rfl
theorem fa107_2 {P : Program} (hP : P = Try.prog) (l o : Nat) : fieldAddrA P 107 (.v (.sc (.ptr l o))) 2 = some (.v (.sc (.ptr l (o + 12)))) := by subst hP; kernel_rfl
theorem fd107_2 {P : Program} (hP : P = Try.prog) (cs : List SV) : fieldA P 107 (.v (.ag cs)) 2 = (partA P 106 cs 12).map .v := by subst hP; kernel_rfl
theorem bu107 {P : Program} (hP : P = Try.prog) (ps : List (Nat × AV)) : buildA P 107 ps = (fillA (fun i => ([(0, 11), (11, 1), (12, 1)] : List (Nat × Nat))[i]?) [.int .i64 0, .int .i64 0, .int .i64 0, .int .i64 0, .int .i64 0, .int .i64 0, .int .i64 0, .int .i64 0, .int .i64 0, .int .i64 0, .int .i64 0, .int .i64 0, .nilm] ps).map fun cs => .v (.ag cs) := by subst hP; kernel_rfl
theorem fa108_0 {P : Program} (hP : P = Try.prog) (l o : Nat) : fieldAddrA P 108 (.v (.sc (.ptr l o))) 0 = some (.v (.sc (.ptr l (o + 0)))) := by subst hP; kernel_rfl
theorem fd108_0 {P : Program} (hP : P = Try.prog) (cs : List SV) : fieldA P 108 (.v (.ag cs)) 0 = (partA P 89 cs 0).map .v := by subst hP; kernel_rfl
theorem fa108_1 {P : Program} (hP : P = Try.prog) (l o : Nat) : fieldAddrA P 108 (.v (.sc (.ptr l o))) 1 = some (.v (.sc (.ptr l (o + 11)))) := by subst hP; kernel_rfl
theorem fd108_1 {P : Program} (hP : P = Try.prog) (cs : List SV) : fieldA P 108 (.v (.ag cs)) 1 = (partA P 3 cs 11).map .v := by subst hP; kernel_rfl
theorem fa108_2 {P : Program} (hP : P = Try.prog) (l o : Nat) : fieldAddrA P 108 (.v (.sc (.ptr l o))) 2 = some (.v (.sc (.ptr l (o + 12)))) := by subst hP; kernel_rfl
theorem fd108_2 {P : Program} (hP : P = Try.prog) (cs : List SV) : fieldA P 108 (.v (.ag cs)) 2 = (partA P 106 cs 12).map .v := by subst hP; kernel_rfl
theorem bu108 {P : Program} (hP : P = Try.prog) (ps : List (Nat × AV)) : buildA P 108 ps = (fillA (fun i => ([(0, 11), (11, 1), (12, 1)] : List (Nat × Nat))[i]?) [.int .i64 0, .int .i64 0, .int .i64 0, .int .i64 0, .int .i64 0, .int .i64 0, .int .i64 0, .int .i64 0, .int .i64 0, .int .i64 0, .int .i64 0, .int .i64 0, .nilm] ps).map fun cs => .v (.ag cs) := by subst hP; kernel_rfl
theorem un112 {P : Program} (hP : P = Try.prog)  : P.underlying 112 = some (.pointer 116) := by subst hP; kernel_rfl
theorem un113 {P : Program} (hP : P = Try.prog)  : P.underlying 113 = some (.map 122 24) := by subst hP; kernel_rfl
theorem un114 {P : Program} (hP : P = Try.prog)  : P.underlying 114 = some (.array 8 24) := by subst hP; kernel_rfl
theorem eq114 {P : Program} (hP : P = Try.prog) (xs ys : List SV) : eqA P 114 (.v (.ag xs)) (.v (.ag ys)) = eqL [1, 1, 1, 1, 1, 1, 1, 1, 1, 1, 1, 1, 1, 1, 1, 1, 1, 1, 1, 1, 1, 1, 1, 1, 1, 1, 1, 1, 1, 1, 1, 1, 1, 1, 1, 1, 1, 1, 1, 1, 1, 1, 1, 1, 1, 1, 1, 1, 1, 1, 1, 1, 1, 1, 1, 1, 1, 1, 1, 1, 1, 1, 1, 1] xs ys := by subst hP; kernel_rfl
theorem bu114 {P : Program} (hP : P = Try.prog) (ps : List (Nat × AV)) : buildA P 114 ps = (fillA (fun i => some (i * 8, 8)) [.int .u32 0, .int .u32 0, .int .u32 0, .int .u32 0, .int .u32 0, .int .u32 0, .int .u32 0, .int .u32 0, .int .u32 0, .int .u32 0, .int .u32 0, .int .u32 0, .int .u32 0, .int .u32 0, .int .u32 0, .int .u32 0, .int .u32 0, .int .u32 0, .int .u32 0, .int .u32 0, .int .u32 0, .int .u32 0, .int .u32 0, .int .u32 0, .int .u32 0, .int .u32 0, .int .u32 0, .int .u32 0, .int .u32 0, .int .u32 0, .int .u32 0, .int .u32 0, .int .u32 0, .int .u32 0, .int .u32 0, .int .u32 0, .int .u32 0, .int .u32 0, .int .u32 0, .int .u32 0, .int .u32 0, .int .u32 0, .int .u32 0, .int .u32 0, .int .u32 0, .int .u32 0, .int .u32 0, .int .u32 0, .int .u32 0, .int .u32 0, .int .u32 0, .int .u32 0, .int .u32 0, .int .u32 0, .int .u32 0, .int .u32 0, .int .u32 0, .int .u32 0, .int .u32 0, .int .u32 0, .int .u32 0, .int .u32 0, .int .u32 0, .int .u32 0] ps).map fun cs => .v (.ag cs) := by subst hP; kernel_rfl
theorem fa115_0 {P : Program} (hP : P = Try.prog) (l o : Nat) : fieldAddrA P 115 (.v (.sc (.ptr l o))) 0 = some (.v (.sc (.ptr l (o + 0)))) := by subst hP; kernel_rfl
theorem fd115_0 {P : Program} (hP : P = Try.prog) (cs : List SV) : fieldA P 115 (.v (.ag cs)) 0 = (partA P 114 cs 0).map .v := by subst hP; kernel_rfl
theorem fa115_1 {P : Program} (hP : P = Try.prog) (l o : Nat) : fieldAddrA P 115 (.v (.sc (.ptr l o))) 1 = some (.v (.sc (.ptr l (o + 64)))) := by subst hP; kernel_rfl
theorem fd115_1 {P : Program} (hP : P = Try.prog) (cs : List SV) : fieldA P 115 (.v (.ag cs)) 1 = (partA P 114 cs 64).map .v := by subst hP; kernel_rfl
theorem fa115_2 {P : Program} (hP : P = Try.prog) (l o : Nat) : fieldAddrA P 115 (.v (.sc (.ptr l o))) 2 = some (.v (.sc (.ptr l (o + 128)))) := by subst hP; kernel_rfl
theorem fd115_2 {P : Program} (hP : P = Try.prog) (cs : List SV) : fieldA P 115 (.v (.ag cs)) 2 = (partA P 113 cs 128).map .v := by subst hP; kernel_rfl
theorem bu115 {P : Program} (hP : P = Try.prog) (ps : List (Nat × AV)) : buildA P 115 ps = (fillA (fun i => ([(0, 64), (64, 64), (128, 1)] : List (Nat × Nat))[i]?) [.int .u32 0, .int .u32 0, .int .u32 0, .int .u32 0, .int .u32 0, .int .u32 0, .int .u32 0, .int .u32 0, .int .u32 0, .int .u32 0, .int .u32 0, .int .u32 0, .int .u32 0, .int .u32 0, .int .u32 0, .int .u32 0, .int .u32 0, .int .u32 0, .int .u32 0, .int .u32 0, .int .u32 0, .int .u32 0, .int .u32 0, .int .u32 0, .int .u32 0, .int .u32 0, .int .u32 0, .int .u32 0, .int .u32 0, .int .u32 0, .int .u32 0, .int .u32 0, .int .u32 0, .int .u32 0, .int .u32 0, .int .u32 0, .int .u32 0, .int .u32 0, .int .u32 0, .int .u32 0, .int .u32 0, .int .u32 0, .int .u32 0, .int .u32 0, .int .u32 0, .int .u32 0, .int .u32 0, .int .u32 0, .int .u32 0, .int .u32 0, .int .u32 0, .int .u32 0, .int .u32 0, .int .u32 0, .int .u32 0, .int .u32 0, .int .u32 0, .int .u32 0, .int .u32 0, .int .u32 0, .int .u32 0, .int .u32 0, .int .u32 0, .int .u32 0, .int .u32 0, .int .u32 0, .int .u32 0, .int .u32 0, .int .u32 0, .int .u32 0, .int .u32 0, .int .u32 0, .int .u32 0, .int .u32 0, .int .u32 0, .int .u32 0, .int .u32 0, .int .u32 0, .int .u32 0, .int .u32 0, .int .u32 0, .int .u32 0, .int .u32 0, .int .u32 0, .int .u32 0, .int .u32 0, .int .u32 0, .int .u32 0, .int .u32 0, .int .u32 0, .int .u32 0, .int .u32 0, .int .u32 0, .int .u32 0, .int .u32 0, .int .u32 0, .int .u32 0, .int .u32 0, .int .u32 0, .int .u32 0, .int .u32 0, .int .u32 0, .int .u32 0, .int .u32 0, .int .u32 0, .int .u32 0, .int .u32 0, .int .u32 0, .int .u32 0, .int .u32 0, .int .u32 0, .int .u32 0, .int .u32 0, .int .u32 0, .int .u32 0, .int .u32 0, .int .u32 0, .int .u32 0, .int .u32 0, .int .u32 0, .int .u32 0, .int .u32 0, .int .u32 0, .int .u32 0, .int .u32 0, .int .u32 0, .int .u32 0, .int .u32 0, .nilm] ps).map fun cs => .v (.ag cs) := by subst hP; kernel_rfl
theorem fa116_0 {P : Program} (hP : P = Try.prog) (l o : Nat) : fieldAddrA P 116 (.v (.sc (.ptr l o))) 0 = some (.v (.sc (.ptr l (o + 0)))) := by subst hP; kernel_rfl
theorem fd116_0 {P : Program} (hP : P = Try.prog) (cs : List SV) : fieldA P 116 (.v (.ag cs)) 0 = (partA P 114 cs 0).map .v := by subst hP; kernel_rfl
theorem fa116_1 {P : Program} (hP : P = Try.prog) (l o : Nat) : fieldAddrA P 116 (.v (.sc (.ptr l o))) 1 = some (.v (.sc (.ptr l (o + 64)))) := by subst hP; kernel_rfl
theorem fd116_1 {P : Program} (hP : P = Try.prog) (cs : List SV) : fieldA P 116 (.v (.ag cs)) 1 = (partA P 114 cs 64).map .v := by subst hP; kernel_rfl
theorem fa116_2 {P : Program} (hP : P = Try.prog) (l o : Nat) : fieldAddrA P 116 (.v (.sc (.ptr l o))) 2 = some (.v (.sc (.ptr l (o + 128)))) := by subst hP; kernel_rfl
theorem fd116_2 {P : Program} (hP : P = Try.prog) (cs : List SV) : fieldA P 116 (.v (.ag cs)) 2 = (partA P 113 cs 128).map .v := by subst hP; kernel_rfl
theorem bu116 {P : Program} (hP : P = Try.prog) (ps : List (Nat × AV)) : buildA P 116 ps = (fillA (fun i => ([(0, 64), (64, 64), (128, 1)] : List (Nat × Nat))[i]?) [.int .u32 0, .int .u32 0, .int .u32 0, .int .u32 0, .int .u32 0, .int .u32 0, .int .u32 0, .int .u32 0, .int .u32 0, .int .u32 0, .int .u32 0, .int .u32 0, .int .u32 0, .int .u32 0, .int .u32 0, .int .u32 0, .int .u32 0, .int .u32 0, .int .u32 0, .int .u32 0, .int .u32 0, .int .u32 0, .int .u32 0, .int .u32 0, .int .u32 0, .int .u32 0, .int .u32 0, .int .u32 0, .int .u32 0, .int .u32 0, .int .u32 0, .int .u32 0, .int .u32 0, .int .u32 0, .int .u32 0, .int .u32 0, .int .u32 0, .int .u32 0, .int .u32 0, .int .u32 0, .int .u32 0, .int .u32 0, .int .u32 0, .int .u32 0, .int .u32 0, .int .u32 0, .int .u32 0, .int .u32 0, .int .u32 0, .int .u32 0, .int .u32 0, .int .u32 0, .int .u32 0, .int .u32 0, .int .u32 0, .int .u32 0, .int .u32 0, .int .u32 0, .int .u32 0, .int .u32 0, .int .u32 0, .int .u32 0, .int .u32 0, .int .u32 0, .int .u32 0, .int .u32 0, .int .u32 0, .int .u32 0, .int .u32 0, .int .u32 0, .int .u32 0, .int .u32 0, .int .u32 0, .int .u32 0, .int .u32 0, .int .u32 0, .int .u32 0, .int .u32 0, .int .u32 0, .int .u32 0, .int .u32 0, .int .u32 0, .int .u32 0, .int .u32 0, .int .u32 0, .int .u32 0, .int .u32 0, .int .u32 0, .int .u32 0, .int .u32 0, .int .u32 0, .int .u32 0, .int .u32 0, .int .u32 0, .int .u32 0, .int .u32 0, .int .u32 0, .int .u32 0, .int .u32 0, .int .u32 0, .int .u32 0, .int .u32 0, .int .u32 0, .int .u32 0, .int .u32 0, .int .u32 0, .int .u32 0, .int .u32 0, .int .u32 0, .int .u32 0, .int .u32 0, .int .u32 0, .int .u32 0, .int .u32 0, .int .u32 0, .int .u32 0, .int .u32 0, .int .u32 0, .int .u32 0, .int .u32 0, .int .u32 0, .int .u32 0, .int .u32 0, .int .u32 0, .int .u32 0, .int .u32 0, .int .u32 0, .int .u32 0, .nilm] ps).map fun cs => .v (.ag cs) := by subst hP; kernel_rfl
theorem un119 {P : Program} (hP : P = Try.prog)  : P.underlying 119 = some (.pointer 24) := by subst hP; kernel_rfl
theorem fa121_0 {P : Program} (hP : P = Try.prog) (l o : Nat) : fieldAddrA P 121 (.v (.sc (.ptr l o))) 0 = some (.v (.sc (.ptr l (o + 0)))) := by subst hP; kernel_rfl
theorem fd121_0 {P : Program} (hP : P = Try.prog) (cs : List SV) : fieldA P 121 (.v (.ag cs)) 0 = (partA P 3 cs 0).map .v := by subst hP; kernel_rfl
theorem fa121_1 {P : Program} (hP : P = Try.prog) (l o : Nat) : fieldAddrA P 121 (.v (.sc (.ptr l o))) 1 = some (.v (.sc (.ptr l (o + 1)))) := by subst hP; kernel_rfl
theorem fd121_1 {P : Program} (hP : P = Try.prog) (cs : List SV) : fieldA P 121 (.v (.ag cs)) 1 = (partA P 3 cs 1).map .v := by subst hP; kernel_rfl
theorem bu121 {P : Program} (hP : P = Try.prog) (ps : List (Nat × AV)) : buildA P 121 ps = (fillA (fun i => ([(0, 1), (1, 1)] : List (Nat × Nat))[i]?) [.int .i64 0, .int .i64 0] ps).map fun cs => .v (.ag cs) := by subst hP; kernel_rfl
theorem eq121 {P : Program} (hP : P = Try.prog) (xs ys : List SV) : eqA P 121 (.v (.ag xs)) (.v (.ag ys)) = eqL [1, 1] xs ys := by subst hP; kernel_rfl
theorem fa122_0 {P : Program} (hP : P = Try.prog) (l o : Nat) : fieldAddrA P 122 (.v (.sc (.ptr l o))) 0 = some (.v (.sc (.ptr l (o + 0)))) := by subst hP; kernel_rfl
theorem fd122_0 {P : Program} (hP : P = Try.prog) (cs : List SV) : fieldA P 122 (.v (.ag cs)) 0 = (partA P 3 cs 0).map .v := by subst hP; kernel_rfl
theorem fa122_1 {P : Program} (hP : P = Try.prog) (l o : Nat) : fieldAddrA P 122 (.v (.sc (.ptr l o))) 1 = some (.v (.sc (.ptr l (o + 1)))) := by subst hP; kernel_rfl
theorem fd122_1 {P : Program} (hP : P = Try.prog) (cs : List SV) : fieldA P 122 (.v (.ag cs)) 1 = (partA P 3 cs 1).map .v := by subst hP; kernel_rfl
theorem bu122 {P : Program} (hP : P = Try.prog) (ps : List (Nat × AV)) : buildA P 122 ps = (fillA (fun i => ([(0, 1), (1, 1)] : List (Nat × Nat))[i]?) [.int .i64 0, .int .i64 0] ps).map fun cs => .v (.ag cs) := by subst hP; kernel_rfl
theorem eq122 {P : Program} (hP : P = Try.prog) (xs ys : List SV) : eqA P 122 (.v (.ag xs)) (.v (.ag ys)) = eqL [1, 1] xs ys := by subst hP; kernel_rfl
theorem fa124_0 {P : Program} (hP : P = Try.prog) (l o : Nat) : fieldAddrA P 124 (.v (.sc (.ptr l o))) 0 = some (.v (.sc (.ptr l (o + 0)))) := by subst hP; kernel_rfl
theorem fd124_0 {P : Program} (hP : P = Try.prog) (cs : List SV) : fieldA P 124 (.v (.ag cs)) 0 = (partA P 17 cs 0).map .v := by subst hP; kernel_rfl
theorem fa124_1 {P : Program} (hP : P = Try.prog) (l o : Nat) : fieldAddrA P 124 (.v (.sc (.ptr l o))) 1 = some (.v (.sc (.ptr l (o + 1)))) := by subst hP; kernel_rfl
theorem fd124_1 {P : Program} (hP : P = Try.prog) (cs : List SV) : fieldA P 124 (.v (.ag cs)) 1 = (partA P 17 cs 1).map .v := by subst hP; kernel_rfl
theorem fa124_2 {P : Program} (hP : P = Try.prog) (l o : Nat) : fieldAddrA P 124 (.v (.sc (.ptr l o))) 2 = some (.v (.sc (.ptr l (o + 2)))) := by subst hP; kernel_rfl
theorem fd124_2 {P : Program} (hP : P = Try.prog) (cs : List SV) : fieldA P 124 (.v (.ag cs)) 2 = (partA P 17 cs 2).map .v := by subst hP; kernel_rfl
theorem fa124_3 {P : Program} (hP : P = Try.prog) (l o : Nat) : fieldAddrA P 124 (.v (.sc (.ptr l o))) 3 = some (.v (.sc (.ptr l (o + 3)))) := by subst hP; kernel_rfl
theorem fd124_3 {P : Program} (hP : P = Try.prog) (cs : List SV) : fieldA P 124 (.v (.ag cs)) 3 = (partA P 9 cs 3).map .v := by subst hP; kernel_rfl
theorem bu124 {P : Program} (hP : P = Try.prog) (ps : List (Nat × AV)) : buildA P 124 ps = (fillA (fun i => ([(0, 1), (1, 1), (2, 1), (3, 1)] : List (Nat × Nat))[i]?) [.nilp, .nilp, .nilp, .str ⟨#[]⟩] ps).map fun cs => .v (.ag cs) := by subst hP; kernel_rfl
theorem fa125_0 {P : Program} (hP : P = Try.prog) (l o : Nat) : fieldAddrA P 125 (.v (.sc (.ptr l o))) 0 = some (.v (.sc (.ptr l (o + 0)))) := by subst hP; kernel_rfl
theorem fd125_0 {P : Program} (hP : P = Try.prog) (cs : List SV) : fieldA P 125 (.v (.ag cs)) 0 = (partA P 17 cs 0).map .v := by subst hP; kernel_rfl
theorem fa125_1 {P : Program} (hP : P = Try.prog) (l o : Nat) : fieldAddrA P 125 (.v (.sc (.ptr l o))) 1 = some (.v (.sc (.ptr l (o + 1)))) := by subst hP; kernel_rfl
theorem fd125_1 {P : Program} (hP : P = Try.prog) (cs : List SV) : fieldA P 125 (.v (.ag cs)) 1 = (partA P 17 cs 1).map .v := by subst hP; kernel_rfl
theorem fa125_2 {P : Program} (hP : P = Try.prog) (l o : Nat) : fieldAddrA P 125 (.v (.sc (.ptr l o))) 2 = some (.v (.sc (.ptr l (o + 2)))) := by subst hP; kernel_rfl
theorem fd125_2 {P : Program} (hP : P = Try.prog) (cs : List SV) : fieldA P 125 (.v (.ag cs)) 2 = (partA P 17 cs 2).map .v := by subst hP; kernel_rfl
theorem fa125_3 {P : Program} (hP : P = Try.prog) (l o : Nat) : fieldAddrA P 125 (.v (.sc (.ptr l o))) 3 = some (.v (.sc (.ptr l (o + 3)))) := by subst hP; kernel_rfl
theorem fd125_3 {P : Program} (hP : P = Try.prog) (cs : List SV) : fieldA P 125 (.v (.ag cs)) 3 = (partA P 9 cs 3).map .v := by subst hP; kernel_rfl
theorem bu125 {P : Program} (hP : P = Try.prog) (ps : List (Nat × AV)) : buildA P 125 ps = (fillA (fun i => ([(0, 1), (1, 1), (2, 1), (3, 1)] : List (Nat × Nat))[i]?) [.nilp, .nilp, .nilp, .str ⟨#[]⟩] ps).map fun cs => .v (.ag cs) := by subst hP; kernel_rfl
theorem un126 {P : Program} (hP : P = Try.prog)  : P.underlying 126 = some (.array 0 16) := by subst hP; kernel_rfl
theorem bu126 {P : Program} (hP : P = Try.prog) (ps : List (Nat × AV)) : buildA P 126 ps = (fillA (fun i => some (i * 1, 1)) [] ps).map fun cs => .v (.ag cs) := by subst hP; kernel_rfl
theorem fd127_0 {P : Program} (hP : P = Try.prog) (cs : List SV) : fieldA P 127 (.v (.ag cs)) 0 = (partA P 126 cs 0).map .v := by subst hP; kernel_rfl
theorem bu127 {P : Program} (hP : P = Try.prog) (ps : List (Nat × AV)) : buildA P 127 ps = (fillA (fun i => ([(0, 0)] : List (Nat × Nat))[i]?) [] ps).map fun cs => .v (.ag cs) := by subst hP; kernel_rfl
theorem fd128_0 {P : Program} (hP : P = Try.prog) (cs : List SV) : fieldA P 128 (.v (.ag cs)) 0 = (partA P 126 cs 0).map .v := by subst hP; kernel_rfl
theorem bu128 {P : Program} (hP : P = Try.prog) (ps : List (Nat × AV)) : buildA P 128 ps = (fillA (fun i => ([(0, 0)] : List (Nat × Nat))[i]?) [] ps).map fun cs => .v (.ag cs) := by subst hP; kernel_rfl
theorem un130 {P : Program} (hP : P = Try.prog)  : P.underlying 130 = some (.int .u8) := by subst hP; kernel_rfl
theorem un131 {P : Program} (hP : P = Try.prog)  : P.underlying 131 = some (.int .u8) := by subst hP; kernel_rfl
theorem un133 {P : Program} (hP : P = Try.prog)  : P.underlying 133 = some (.pointer 5) := by subst hP; kernel_rfl
theorem un134 {P : Program} (hP : P = Try.prog)  : P.underlying 134 = some (.int .i32) := by subst hP; kernel_rfl
theorem un135 {P : Program} (hP : P = Try.prog)  : P.underlying 135 = some (.int .i32) := by subst hP; kernel_rfl
theorem fa136_0 {P : Program} (hP : P = Try.prog) (l o : Nat) : fieldAddrA P 136 (.v (.sc (.ptr l o))) 0 = some (.v (.sc (.ptr l (o + 0)))) := by subst hP; kernel_rfl
theorem fd136_0 {P : Program} (hP : P = Try.prog) (cs : List SV) : fieldA P 136 (.v (.ag cs)) 0 = (partA P 12 cs 0).map .v := by subst hP; kernel_rfl
theorem fa136_1 {P : Program} (hP : P = Try.prog) (l o : Nat) : fieldAddrA P 136 (.v (.sc (.ptr l o))) 1 = some (.v (.sc (.ptr l (o + 1)))) := by subst hP; kernel_rfl
theorem fd136_1 {P : Program} (hP : P = Try.prog) (cs : List SV) : fieldA P 136 (.v (.ag cs)) 1 = (partA P 12 cs 1).map .v := by subst hP; kernel_rfl
theorem fa136_2 {P : Program} (hP : P = Try.prog) (l o : Nat) : fieldAddrA P 136 (.v (.sc (.ptr l o))) 2 = some (.v (.sc (.ptr l (o + 2)))) := by subst hP; kernel_rfl
theorem fd136_2 {P : Program} (hP : P = Try.prog) (cs : List SV) : fieldA P 136 (.v (.ag cs)) 2 = (partA P 22 cs 2).map .v := by subst hP; kernel_rfl
theorem fa136_3 {P : Program} (hP : P = Try.prog) (l o : Nat) : fieldAddrA P 136 (.v (.sc (.ptr l o))) 3 = some (.v (.sc (.ptr l (o + 3)))) := by subst hP; kernel_rfl
theorem fd136_3 {P : Program} (hP : P = Try.prog) (cs : List SV) : fieldA P 136 (.v (.ag cs)) 3 = (partA P 130 cs 3).map .v := by subst hP; kernel_rfl
theorem fa136_4 {P : Program} (hP : P = Try.prog) (l o : Nat) : fieldAddrA P 136 (.v (.sc (.ptr l o))) 4 = some (.v (.sc (.ptr l (o + 4)))) := by subst hP; kernel_rfl
theorem fd136_4 {P : Program} (hP : P = Try.prog) (cs : List SV) : fieldA P 136 (.v (.ag cs)) 4 = (partA P 5 cs 4).map .v := by subst hP; kernel_rfl
theorem fa136_5 {P : Program} (hP : P = Try.prog) (l o : Nat) : fieldAddrA P 136 (.v (.sc (.ptr l o))) 5 = some (.v (.sc (.ptr l (o + 5)))) := by subst hP; kernel_rfl
theorem fd136_5 {P : Program} (hP : P = Try.prog) (cs : List SV) : fieldA P 136 (.v (.ag cs)) 5 = (partA P 5 cs 5).map .v := by subst hP; kernel_rfl
theorem fa136_6 {P : Program} (hP : P = Try.prog) (l o : Nat) : fieldAddrA P 136 (.v (.sc (.ptr l o))) 6 = some (.v (.sc (.ptr l (o + 6)))) := by subst hP; kernel_rfl
theorem fd136_6 {P : Program} (hP : P = Try.prog) (cs : List SV) : fieldA P 136 (.v (.ag cs)) 6 = (partA P 131 cs 6).map .v := by subst hP; kernel_rfl
theorem fa136_7 {P : Program} (hP : P = Try.prog) (l o : Nat) : fieldAddrA P 136 (.v (.sc (.ptr l o))) 7 = some (.v (.sc (.ptr l (o + 7)))) := by subst hP; kernel_rfl
theorem fd136_7 {P : Program} (hP : P = Try.prog) (cs : List SV) : fieldA P 136 (.v (.ag cs)) 7 = (partA P 132 cs 7).map .v := by subst hP; kernel_rfl
theorem fa136_8 {P : Program} (hP : P = Try.prog) (l o : Nat) : fieldAddrA P 136 (.v (.sc (.ptr l o))) 8 = some (.v (.sc (.ptr l (o + 8)))) := by subst hP; kernel_rfl
theorem fd136_8 {P : Program} (hP : P = Try.prog) (cs : List SV) : fieldA P 136 (.v (.ag cs)) 8 = (partA P 133 cs 8).map .v := by subst hP; kernel_rfl
theorem fa136_9 {P : Program} (hP : P = Try.prog) (l o : Nat) : fieldAddrA P 136 (.v (.sc (.ptr l o))) 9 = some (.v (.sc (.ptr l (o + 9)))) := by subst hP; kernel_rfl
theorem fd136_9 {P : Program} (hP : P = Try.prog) (cs : List SV) : fieldA P 136 (.v (.ag cs)) 9 = (partA P 134 cs 9).map .v := by subst hP; kernel_rfl
theorem fa136_10 {P : Program} (hP : P = Try.prog) (l o : Nat) : fieldAddrA P 136 (.v (.sc (.ptr l o))) 10 = some (.v (.sc (.ptr l (o + 10)))) := by subst hP; kernel_rfl
theorem fd136_10 {P : Program} (hP : P = Try.prog) (cs : List SV) : fieldA P 136 (.v (.ag cs)) 10 = (partA P 135 cs 10).map .v := by subst hP; kernel_rfl
theorem bu136 {P : Program} (hP : P = Try.prog) (ps : List (Nat × AV)) : buildA P 136 ps = (fillA (fun i => ([(0, 1), (1, 1), (2, 1), (3, 1), (4, 1), (5, 1), (6, 1), (7, 1), (8, 1), (9, 1), (10, 1)] : List (Nat × Nat))[i]?) [.int .u64 0, .int .u64 0, .int .u32 0, .int .u8 0, .int .u8 0, .int .u8 0, .int .u8 0, .nilf, .nilp, .int .i32 0, .int .i32 0] ps).map fun cs => .v (.ag cs) := by subst hP; kernel_rfl
theorem fa137_0 {P : Program} (hP : P = Try.prog) (l o : Nat) : fieldAddrA P 137 (.v (.sc (.ptr l o))) 0 = some (.v (.sc (.ptr l (o + 0)))) := by subst hP; kernel_rfl
theorem fd137_0 {P : Program} (hP : P = Try.prog) (cs : List SV) : fieldA P 137 (.v (.ag cs)) 0 = (partA P 12 cs 0).map .v := by subst hP; kernel_rfl
theorem fa137_1 {P : Program} (hP : P = Try.prog) (l o : Nat) : fieldAddrA P 137 (.v (.sc (.ptr l o))) 1 = some (.v (.sc (.ptr l (o + 1)))) := by subst hP; kernel_rfl
theorem fd137_1 {P : Program} (hP : P = Try.prog) (cs : List SV) : fieldA P 137 (.v (.ag cs)) 1 = (partA P 12 cs 1).map .v := by subst hP; kernel_rfl
theorem fa137_2 {P : Program} (hP : P = Try.prog) (l o : Nat) : fieldAddrA P 137 (.v (.sc (.ptr l o))) 2 = some (.v (.sc (.ptr l (o + 2)))) := by subst hP; kernel_rfl
theorem fd137_2 {P : Program} (hP : P = Try.prog) (cs : List SV) : fieldA P 137 (.v (.ag cs)) 2 = (partA P 22 cs 2).map .v := by subst hP; kernel_rfl
theorem fa137_3 {P : Program} (hP : P = Try.prog) (l o : Nat) : fieldAddrA P 137 (.v (.sc (.ptr l o))) 3 = some (.v (.sc (.ptr l (o + 3)))) := by subst hP; kernel_rfl
theorem fd137_3 {P : Program} (hP : P = Try.prog) (cs : List SV) : fieldA P 137 (.v (.ag cs)) 3 = (partA P 130 cs 3).map .v := by subst hP; kernel_rfl
theorem fa137_4 {P : Program} (hP : P = Try.prog) (l o : Nat) : fieldAddrA P 137 (.v (.sc (.ptr l o))) 4 = some (.v (.sc (.ptr l (o + 4)))) := by subst hP; kernel_rfl
theorem fd137_4 {P : Program} (hP : P = Try.prog) (cs : List SV) : fieldA P 137 (.v (.ag cs)) 4 = (partA P 5 cs 4).map .v := by subst hP; kernel_rfl
theorem fa137_5 {P : Program} (hP : P = Try.prog) (l o : Nat) : fieldAddrA P 137 (.v (.sc (.ptr l o))) 5 = some (.v (.sc (.ptr l (o + 5)))) := by subst hP; kernel_rfl
theorem fd137_5 {P : Program} (hP : P = Try.prog) (cs : List SV) : fieldA P 137 (.v (.ag cs)) 5 = (partA P 5 cs 5).map .v := by subst hP; kernel_rfl
theorem fa137_6 {P : Program} (hP : P = Try.prog) (l o : Nat) : fieldAddrA P 137 (.v (.sc (.ptr l o))) 6 = some (.v (.sc (.ptr l (o + 6)))) := by subst hP; kernel_rfl
theorem fd137_6 {P : Program} (hP : P = Try.prog) (cs : List SV) : fieldA P 137 (.v (.ag cs)) 6 = (partA P 131 cs 6).map .v := by subst hP; kernel_rfl
theorem fa137_7 {P : Program} (hP : P = Try.prog) (l o : Nat) : fieldAddrA P 137 (.v (.sc (.ptr l o))) 7 = some (.v (.sc (.ptr l (o + 7)))) := by subst hP; kernel_rfl
theorem fd137_7 {P : Program} (hP : P = Try.prog) (cs : List SV) : fieldA P 137 (.v (.ag cs)) 7 = (partA P 132 cs 7).map .v := by subst hP; kernel_rfl
theorem fa137_8 {P : Program} (hP : P = Try.prog) (l o : Nat) : fieldAddrA P 137 (.v (.sc (.ptr l o))) 8 = some (.v (.sc (.ptr l (o + 8)))) := by subst hP; kernel_rfl
theorem fd137_8 {P : Program} (hP : P = Try.prog) (cs : List SV) : fieldA P 137 (.v (.ag cs)) 8 = (partA P 133 cs 8).map .v := by subst hP; kernel_rfl
theorem fa137_9 {P : Program} (hP : P = Try.prog) (l o : Nat) : fieldAddrA P 137 (.v (.sc (.ptr l o))) 9 = some (.v (.sc (.ptr l (o + 9)))) := by subst hP; kernel_rfl
theorem fd137_9 {P : Program} (hP : P = Try.prog) (cs : List SV) : fieldA P 137 (.v (.ag cs)) 9 = (partA P 134 cs 9).map .v := by subst hP; kernel_rfl
theorem fa137_10 {P : Program} (hP : P = Try.prog) (l o : Nat) : fieldAddrA P 137 (.v (.sc (.ptr l o))) 10 = some (.v (.sc (.ptr l (o + 10)))) := by subst hP; kernel_rfl
theorem fd137_10 {P : Program} (hP : P = Try.prog) (cs : List SV) : fieldA P 137 (.v (.ag cs)) 10 = (partA P 135 cs 10).map .v := by subst hP; kernel_rfl
theorem bu137 {P : Program} (hP : P = Try.prog) (ps : List (Nat × AV)) : buildA P 137 ps = (fillA (fun i => ([(0, 1), (1, 1), (2, 1), (3, 1), (4, 1), (5, 1), (6, 1), (7, 1), (8, 1), (9, 1), (10, 1)] : List (Nat × Nat))[i]?) [.int .u64 0, .int .u64 0, .int .u32 0, .int .u8 0, .int .u8 0, .int .u8 0, .int .u8 0, .nilf, .nilp, .int .i32 0, .int .i32 0] ps).map fun cs => .v (.ag cs) := by subst hP; kernel_rfl
end Go.AM
