/- Facts on the translation's types, printed by a program of this session. Conditions: none. -/
import Derived.Test.YtdokijbheholdabProg
import Derived.Test.YtdokijbheholdabAmSimp
namespace Go.AM
open Go.Proofs
set_option maxRecDepth 100000
theorem sz2 {P : Program} (hP : P = Try.prog)  : szT P 2 = some 1 := by subst hP; kernel_rfl
theorem ag2 {P : Program} (hP : P = Try.prog)  : aggT P 2 = some false := by subst hP; kernel_rfl
theorem ze2 {P : Program} (hP : P = Try.prog)  : zeroL P 2 = some [.int .i64 0] := by subst hP; kernel_rfl
theorem by2 {P : Program} (hP : P = Try.prog)  : bytesT P 2 = some 8 := by subst hP; kernel_rfl
theorem sz3 {P : Program} (hP : P = Try.prog)  : szT P 3 = some 1 := by subst hP; kernel_rfl
theorem ag3 {P : Program} (hP : P = Try.prog)  : aggT P 3 = some false := by subst hP; kernel_rfl
theorem ze3 {P : Program} (hP : P = Try.prog)  : zeroL P 3 = some [.int .i64 0] := by subst hP; kernel_rfl
theorem by3 {P : Program} (hP : P = Try.prog)  : bytesT P 3 = some 8 := by subst hP; kernel_rfl
theorem sz4 {P : Program} (hP : P = Try.prog)  : szT P 4 = some 1 := by subst hP; kernel_rfl
theorem ag4 {P : Program} (hP : P = Try.prog)  : aggT P 4 = some false := by subst hP; kernel_rfl
theorem ze4 {P : Program} (hP : P = Try.prog)  : zeroL P 4 = some [.bool false] := by subst hP; kernel_rfl
theorem by4 {P : Program} (hP : P = Try.prog)  : bytesT P 4 = some 1 := by subst hP; kernel_rfl
theorem sz5 {P : Program} (hP : P = Try.prog)  : szT P 5 = some 1 := by subst hP; kernel_rfl
theorem ag5 {P : Program} (hP : P = Try.prog)  : aggT P 5 = some false := by subst hP; kernel_rfl
theorem ze5 {P : Program} (hP : P = Try.prog)  : zeroL P 5 = some [.int .u8 0] := by subst hP; kernel_rfl
theorem by5 {P : Program} (hP : P = Try.prog)  : bytesT P 5 = some 1 := by subst hP; kernel_rfl
theorem sz6 {P : Program} (hP : P = Try.prog)  : szT P 6 = some 1 := by subst hP; kernel_rfl
theorem ag6 {P : Program} (hP : P = Try.prog)  : aggT P 6 = some false := by subst hP; kernel_rfl
theorem ze6 {P : Program} (hP : P = Try.prog)  : zeroL P 6 = some [.int .u8 0] := by subst hP; kernel_rfl
theorem by6 {P : Program} (hP : P = Try.prog)  : bytesT P 6 = some 1 := by subst hP; kernel_rfl
theorem sz7 {P : Program} (hP : P = Try.prog)  : szT P 7 = some 4 := by subst hP; kernel_rfl
theorem ag7 {P : Program} (hP : P = Try.prog)  : aggT P 7 = some true := by subst hP; kernel_rfl
theorem ze7 {P : Program} (hP : P = Try.prog)  : zeroL P 7 = some [.int .i64 0, .int .i64 0, .bool false, .int .u8 0] := by subst hP; kernel_rfl
theorem by7 {P : Program} (hP : P = Try.prog)  : bytesT P 7 = some 24 := by subst hP; kernel_rfl
theorem sz8 {P : Program} (hP : P = Try.prog)  : szT P 8 = some 4 := by subst hP; kernel_rfl
theorem ag8 {P : Program} (hP : P = Try.prog)  : aggT P 8 = some true := by subst hP; kernel_rfl
theorem ze8 {P : Program} (hP : P = Try.prog)  : zeroL P 8 = some [.int .i64 0, .int .i64 0, .bool false, .int .u8 0] := by subst hP; kernel_rfl
theorem by8 {P : Program} (hP : P = Try.prog)  : bytesT P 8 = some 24 := by subst hP; kernel_rfl
theorem sz9 {P : Program} (hP : P = Try.prog)  : szT P 9 = some 1 := by subst hP; kernel_rfl
theorem ag9 {P : Program} (hP : P = Try.prog)  : aggT P 9 = some false := by subst hP; kernel_rfl
theorem ze9 {P : Program} (hP : P = Try.prog)  : zeroL P 9 = some [.str ⟨#[]⟩] := by subst hP; kernel_rfl
theorem by9 {P : Program} (hP : P = Try.prog)  : bytesT P 9 = some 16 := by subst hP; kernel_rfl
theorem sz10 {P : Program} (hP : P = Try.prog)  : szT P 10 = some 1 := by subst hP; kernel_rfl
theorem ag10 {P : Program} (hP : P = Try.prog)  : aggT P 10 = some false := by subst hP; kernel_rfl
theorem ze10 {P : Program} (hP : P = Try.prog)  : zeroL P 10 = some [.str ⟨#[]⟩] := by subst hP; kernel_rfl
theorem by10 {P : Program} (hP : P = Try.prog)  : bytesT P 10 = some 16 := by subst hP; kernel_rfl
theorem sz11 {P : Program} (hP : P = Try.prog)  : szT P 11 = some 1 := by subst hP; kernel_rfl
theorem ag11 {P : Program} (hP : P = Try.prog)  : aggT P 11 = some false := by subst hP; kernel_rfl
theorem ze11 {P : Program} (hP : P = Try.prog)  : zeroL P 11 = some [.str ⟨#[]⟩] := by subst hP; kernel_rfl
theorem by11 {P : Program} (hP : P = Try.prog)  : bytesT P 11 = some 16 := by subst hP; kernel_rfl
theorem sz12 {P : Program} (hP : P = Try.prog)  : szT P 12 = some 1 := by subst hP; kernel_rfl
theorem ag12 {P : Program} (hP : P = Try.prog)  : aggT P 12 = some false := by subst hP; kernel_rfl
theorem ze12 {P : Program} (hP : P = Try.prog)  : zeroL P 12 = some [.int .u64 0] := by subst hP; kernel_rfl
theorem by12 {P : Program} (hP : P = Try.prog)  : bytesT P 12 = some 8 := by subst hP; kernel_rfl
theorem sz13 {P : Program} (hP : P = Try.prog)  : szT P 13 = some 2 := by subst hP; kernel_rfl
theorem ag13 {P : Program} (hP : P = Try.prog)  : aggT P 13 = some true := by subst hP; kernel_rfl
theorem ze13 {P : Program} (hP : P = Try.prog)  : zeroL P 13 = some [.str ⟨#[]⟩, .int .u64 0] := by subst hP; kernel_rfl
theorem by13 {P : Program} (hP : P = Try.prog)  : bytesT P 13 = some 24 := by subst hP; kernel_rfl
theorem sz14 {P : Program} (hP : P = Try.prog)  : szT P 14 = some 2 := by subst hP; kernel_rfl
theorem ag14 {P : Program} (hP : P = Try.prog)  : aggT P 14 = some true := by subst hP; kernel_rfl
theorem ze14 {P : Program} (hP : P = Try.prog)  : zeroL P 14 = some [.str ⟨#[]⟩, .int .u64 0] := by subst hP; kernel_rfl
theorem by14 {P : Program} (hP : P = Try.prog)  : bytesT P 14 = some 24 := by subst hP; kernel_rfl
theorem sz15 {P : Program} (hP : P = Try.prog)  : szT P 15 = some 1 := by subst hP; kernel_rfl
theorem ag15 {P : Program} (hP : P = Try.prog)  : aggT P 15 = some false := by subst hP; kernel_rfl
theorem ze15 {P : Program} (hP : P = Try.prog)  : zeroL P 15 = some [.nilp] := by subst hP; kernel_rfl
theorem by15 {P : Program} (hP : P = Try.prog)  : bytesT P 15 = some 8 := by subst hP; kernel_rfl
theorem sz16 {P : Program} (hP : P = Try.prog)  : szT P 16 = some 1 := by subst hP; kernel_rfl
theorem ag16 {P : Program} (hP : P = Try.prog)  : aggT P 16 = some false := by subst hP; kernel_rfl
theorem ze16 {P : Program} (hP : P = Try.prog)  : zeroL P 16 = some [.nilp] := by subst hP; kernel_rfl
theorem by16 {P : Program} (hP : P = Try.prog)  : bytesT P 16 = some 8 := by subst hP; kernel_rfl
theorem sz17 {P : Program} (hP : P = Try.prog)  : szT P 17 = some 1 := by subst hP; kernel_rfl
theorem ag17 {P : Program} (hP : P = Try.prog)  : aggT P 17 = some false := by subst hP; kernel_rfl
theorem ze17 {P : Program} (hP : P = Try.prog)  : zeroL P 17 = some [.nilp] := by subst hP; kernel_rfl
theorem by17 {P : Program} (hP : P = Try.prog)  : bytesT P 17 = some 8 := by subst hP; kernel_rfl
theorem sz18 {P : Program} (hP : P = Try.prog)  : szT P 18 = some 1 := by subst hP; kernel_rfl
theorem ag18 {P : Program} (hP : P = Try.prog)  : aggT P 18 = some true := by subst hP; kernel_rfl
theorem ze18 {P : Program} (hP : P = Try.prog)  : zeroL P 18 = some [.nilp] := by subst hP; kernel_rfl
theorem by18 {P : Program} (hP : P = Try.prog)  : bytesT P 18 = some 8 := by subst hP; kernel_rfl
theorem sz19 {P : Program} (hP : P = Try.prog)  : szT P 19 = some 1 := by subst hP; kernel_rfl
theorem ag19 {P : Program} (hP : P = Try.prog)  : aggT P 19 = some true := by subst hP; kernel_rfl
theorem ze19 {P : Program} (hP : P = Try.prog)  : zeroL P 19 = some [.nilp] := by subst hP; kernel_rfl
theorem by19 {P : Program} (hP : P = Try.prog)  : bytesT P 19 = some 8 := by subst hP; kernel_rfl
theorem sz21 {P : Program} (hP : P = Try.prog)  : szT P 21 = some 1 := by subst hP; kernel_rfl
theorem ag21 {P : Program} (hP : P = Try.prog)  : aggT P 21 = some false := by subst hP; kernel_rfl
theorem ze21 {P : Program} (hP : P = Try.prog)  : zeroL P 21 = some [.int .i32 0] := by subst hP; kernel_rfl
theorem by21 {P : Program} (hP : P = Try.prog)  : bytesT P 21 = some 4 := by subst hP; kernel_rfl
theorem sz22 {P : Program} (hP : P = Try.prog)  : szT P 22 = some 1 := by subst hP; kernel_rfl
theorem ag22 {P : Program} (hP : P = Try.prog)  : aggT P 22 = some false := by subst hP; kernel_rfl
theorem ze22 {P : Program} (hP : P = Try.prog)  : zeroL P 22 = some [.int .u32 0] := by subst hP; kernel_rfl
theorem by22 {P : Program} (hP : P = Try.prog)  : bytesT P 22 = some 4 := by subst hP; kernel_rfl
theorem sz23 {P : Program} (hP : P = Try.prog)  : szT P 23 = some 1 := by subst hP; kernel_rfl
theorem ag23 {P : Program} (hP : P = Try.prog)  : aggT P 23 = some false := by subst hP; kernel_rfl
theorem ze23 {P : Program} (hP : P = Try.prog)  : zeroL P 23 = some [.int .u16 0] := by subst hP; kernel_rfl
theorem by23 {P : Program} (hP : P = Try.prog)  : bytesT P 23 = some 2 := by subst hP; kernel_rfl
theorem sz24 {P : Program} (hP : P = Try.prog)  : szT P 24 = some 8 := by subst hP; kernel_rfl
theorem ag24 {P : Program} (hP : P = Try.prog)  : aggT P 24 = some true := by subst hP; kernel_rfl
theorem ze24 {P : Program} (hP : P = Try.prog)  : zeroL P 24 = some [.int .i64 0, .int .u8 0, .int .u8 0, .int .u32 0, .int .u16 0, .int .u16 0, .int .u16 0, .int .u32 0] := by subst hP; kernel_rfl
theorem by24 {P : Program} (hP : P = Try.prog)  : bytesT P 24 = some 32 := by subst hP; kernel_rfl
theorem sz25 {P : Program} (hP : P = Try.prog)  : szT P 25 = some 8 := by subst hP; kernel_rfl
theorem ag25 {P : Program} (hP : P = Try.prog)  : aggT P 25 = some true := by subst hP; kernel_rfl
theorem ze25 {P : Program} (hP : P = Try.prog)  : zeroL P 25 = some [.int .i64 0, .int .u8 0, .int .u8 0, .int .u32 0, .int .u16 0, .int .u16 0, .int .u16 0, .int .u32 0] := by subst hP; kernel_rfl
theorem by25 {P : Program} (hP : P = Try.prog)  : bytesT P 25 = some 32 := by subst hP; kernel_rfl
theorem sz26 {P : Program} (hP : P = Try.prog)  : szT P 26 = some 1 := by subst hP; kernel_rfl
theorem ag26 {P : Program} (hP : P = Try.prog)  : aggT P 26 = some false := by subst hP; kernel_rfl
theorem ze26 {P : Program} (hP : P = Try.prog)  : zeroL P 26 = some [.int .u64 0] := by subst hP; kernel_rfl
theorem by26 {P : Program} (hP : P = Try.prog)  : bytesT P 26 = some 8 := by subst hP; kernel_rfl
theorem sz27 {P : Program} (hP : P = Try.prog)  : szT P 27 = some 1 := by subst hP; kernel_rfl
theorem ag27 {P : Program} (hP : P = Try.prog)  : aggT P 27 = some false := by subst hP; kernel_rfl
theorem ze27 {P : Program} (hP : P = Try.prog)  : zeroL P 27 = some [.int .i64 0] := by subst hP; kernel_rfl
theorem by27 {P : Program} (hP : P = Try.prog)  : bytesT P 27 = some 8 := by subst hP; kernel_rfl
theorem sz30 {P : Program} (hP : P = Try.prog)  : szT P 30 = some 8 := by subst hP; kernel_rfl
theorem ag30 {P : Program} (hP : P = Try.prog)  : aggT P 30 = some true := by subst hP; kernel_rfl
theorem ze30 {P : Program} (hP : P = Try.prog)  : zeroL P 30 = some [.int .i64 0, .int .u8 0, .int .u8 0, .int .u32 0, .int .u16 0, .int .u16 0, .int .u16 0, .int .u32 0] := by subst hP; kernel_rfl
theorem by30 {P : Program} (hP : P = Try.prog)  : bytesT P 30 = some 32 := by subst hP; kernel_rfl
theorem sz46 {P : Program} (hP : P = Try.prog)  : szT P 46 = some 3 := by subst hP; kernel_rfl
theorem ag46 {P : Program} (hP : P = Try.prog)  : aggT P 46 = some true := by subst hP; kernel_rfl
theorem ze46 {P : Program} (hP : P = Try.prog)  : zeroL P 46 = some [.bool false, .int .u8 0, .int .i64 0] := by subst hP; kernel_rfl
theorem by46 {P : Program} (hP : P = Try.prog)  : bytesT P 46 = some 16 := by subst hP; kernel_rfl
theorem sz47 {P : Program} (hP : P = Try.prog)  : szT P 47 = some 3 := by subst hP; kernel_rfl
theorem ag47 {P : Program} (hP : P = Try.prog)  : aggT P 47 = some true := by subst hP; kernel_rfl
theorem ze47 {P : Program} (hP : P = Try.prog)  : zeroL P 47 = some [.bool false, .int .u8 0, .int .i64 0] := by subst hP; kernel_rfl
theorem by47 {P : Program} (hP : P = Try.prog)  : bytesT P 47 = some 16 := by subst hP; kernel_rfl
theorem sz50 {P : Program} (hP : P = Try.prog)  : szT P 50 = some 3 := by subst hP; kernel_rfl
theorem ag50 {P : Program} (hP : P = Try.prog)  : aggT P 50 = some true := by subst hP; kernel_rfl
theorem ze50 {P : Program} (hP : P = Try.prog)  : zeroL P 50 = some [.bool false, .int .u8 0, .int .i64 0] := by subst hP; kernel_rfl
theorem by50 {P : Program} (hP : P = Try.prog)  : bytesT P 50 = some 16 := by subst hP; kernel_rfl
theorem sz60 {P : Program} (hP : P = Try.prog)  : szT P 60 = some 1 := by subst hP; kernel_rfl
theorem ag60 {P : Program} (hP : P = Try.prog)  : aggT P 60 = some false := by subst hP; kernel_rfl
theorem ze60 {P : Program} (hP : P = Try.prog)  : zeroL P 60 = some [.nils] := by subst hP; kernel_rfl
theorem by60 {P : Program} (hP : P = Try.prog)  : bytesT P 60 = some 24 := by subst hP; kernel_rfl
theorem sz61 {P : Program} (hP : P = Try.prog)  : szT P 61 = some 3 := by subst hP; kernel_rfl
theorem ag61 {P : Program} (hP : P = Try.prog)  : aggT P 61 = some true := by subst hP; kernel_rfl
theorem ze61 {P : Program} (hP : P = Try.prog)  : zeroL P 61 = some [.int .u64 0, .int .i64 0, .nils] := by subst hP; kernel_rfl
theorem by61 {P : Program} (hP : P = Try.prog)  : bytesT P 61 = some 40 := by subst hP; kernel_rfl
theorem sz62 {P : Program} (hP : P = Try.prog)  : szT P 62 = some 3 := by subst hP; kernel_rfl
theorem ag62 {P : Program} (hP : P = Try.prog)  : aggT P 62 = some true := by subst hP; kernel_rfl
theorem ze62 {P : Program} (hP : P = Try.prog)  : zeroL P 62 = some [.int .u64 0, .int .i64 0, .nils] := by subst hP; kernel_rfl
theorem by62 {P : Program} (hP : P = Try.prog)  : bytesT P 62 = some 40 := by subst hP; kernel_rfl
theorem sz63 {P : Program} (hP : P = Try.prog)  : szT P 63 = some 4 := by subst hP; kernel_rfl
theorem ag63 {P : Program} (hP : P = Try.prog)  : aggT P 63 = some true := by subst hP; kernel_rfl
theorem ze63 {P : Program} (hP : P = Try.prog)  : zeroL P 63 = some [.int .i64 0, .int .u64 0, .int .i64 0, .int .u64 0] := by subst hP; kernel_rfl
theorem by63 {P : Program} (hP : P = Try.prog)  : bytesT P 63 = some 32 := by subst hP; kernel_rfl
theorem sz64 {P : Program} (hP : P = Try.prog)  : szT P 64 = some 4 := by subst hP; kernel_rfl
theorem ag64 {P : Program} (hP : P = Try.prog)  : aggT P 64 = some true := by subst hP; kernel_rfl
theorem ze64 {P : Program} (hP : P = Try.prog)  : zeroL P 64 = some [.int .i64 0, .int .u64 0, .int .i64 0, .int .u64 0] := by subst hP; kernel_rfl
theorem by64 {P : Program} (hP : P = Try.prog)  : bytesT P 64 = some 32 := by subst hP; kernel_rfl
theorem sz67 {P : Program} (hP : P = Try.prog)  : szT P 67 = some 3 := by subst hP; kernel_rfl
theorem ag67 {P : Program} (hP : P = Try.prog)  : aggT P 67 = some true := by subst hP; kernel_rfl
theorem ze67 {P : Program} (hP : P = Try.prog)  : zeroL P 67 = some [.int .u64 0, .int .i64 0, .nils] := by subst hP; kernel_rfl
theorem by67 {P : Program} (hP : P = Try.prog)  : bytesT P 67 = some 40 := by subst hP; kernel_rfl
theorem sz68 {P : Program} (hP : P = Try.prog)  : szT P 68 = some 4 := by subst hP; kernel_rfl
theorem ag68 {P : Program} (hP : P = Try.prog)  : aggT P 68 = some true := by subst hP; kernel_rfl
theorem ze68 {P : Program} (hP : P = Try.prog)  : zeroL P 68 = some [.int .i64 0, .int .u64 0, .int .i64 0, .int .u64 0] := by subst hP; kernel_rfl
theorem by68 {P : Program} (hP : P = Try.prog)  : bytesT P 68 = some 32 := by subst hP; kernel_rfl
theorem sz73 {P : Program} (hP : P = Try.prog)  : szT P 73 = some 1 := by subst hP; kernel_rfl
theorem ag73 {P : Program} (hP : P = Try.prog)  : aggT P 73 = some false := by subst hP; kernel_rfl
theorem ze73 {P : Program} (hP : P = Try.prog)  : zeroL P 73 = some [.nils] := by subst hP; kernel_rfl
theorem by73 {P : Program} (hP : P = Try.prog)  : bytesT P 73 = some 24 := by subst hP; kernel_rfl
theorem sz74 {P : Program} (hP : P = Try.prog)  : szT P 74 = some 1 := by subst hP; kernel_rfl
theorem ag74 {P : Program} (hP : P = Try.prog)  : aggT P 74 = some false := by subst hP; kernel_rfl
theorem ze74 {P : Program} (hP : P = Try.prog)  : zeroL P 74 = some [.nils] := by subst hP; kernel_rfl
theorem by74 {P : Program} (hP : P = Try.prog)  : bytesT P 74 = some 24 := by subst hP; kernel_rfl
theorem sz75 {P : Program} (hP : P = Try.prog)  : szT P 75 = some 3 := by subst hP; kernel_rfl
theorem ag75 {P : Program} (hP : P = Try.prog)  : aggT P 75 = some true := by subst hP; kernel_rfl
theorem ze75 {P : Program} (hP : P = Try.prog)  : zeroL P 75 = some [.int .i64 0, .int .i64 0, .int .i64 0] := by subst hP; kernel_rfl
theorem by75 {P : Program} (hP : P = Try.prog)  : bytesT P 75 = some 24 := by subst hP; kernel_rfl
theorem sz77 {P : Program} (hP : P = Try.prog)  : szT P 77 = some 1 := by subst hP; kernel_rfl
theorem ag77 {P : Program} (hP : P = Try.prog)  : aggT P 77 = some false := by subst hP; kernel_rfl
theorem ze77 {P : Program} (hP : P = Try.prog)  : zeroL P 77 = some [.nils] := by subst hP; kernel_rfl
theorem by77 {P : Program} (hP : P = Try.prog)  : bytesT P 77 = some 24 := by subst hP; kernel_rfl
theorem sz78 {P : Program} (hP : P = Try.prog)  : szT P 78 = some 1 := by subst hP; kernel_rfl
theorem ag78 {P : Program} (hP : P = Try.prog)  : aggT P 78 = some false := by subst hP; kernel_rfl
theorem ze78 {P : Program} (hP : P = Try.prog)  : zeroL P 78 = some [.nils] := by subst hP; kernel_rfl
theorem by78 {P : Program} (hP : P = Try.prog)  : bytesT P 78 = some 24 := by subst hP; kernel_rfl
theorem sz81 {P : Program} (hP : P = Try.prog)  : szT P 81 = some 1 := by subst hP; kernel_rfl
theorem ag81 {P : Program} (hP : P = Try.prog)  : aggT P 81 = some false := by subst hP; kernel_rfl
theorem ze81 {P : Program} (hP : P = Try.prog)  : zeroL P 81 = some [.nils] := by subst hP; kernel_rfl
theorem by81 {P : Program} (hP : P = Try.prog)  : bytesT P 81 = some 24 := by subst hP; kernel_rfl
theorem sz84 {P : Program} (hP : P = Try.prog)  : szT P 84 = some 1 := by subst hP; kernel_rfl
theorem ag84 {P : Program} (hP : P = Try.prog)  : aggT P 84 = some false := by subst hP; kernel_rfl
theorem ze84 {P : Program} (hP : P = Try.prog)  : zeroL P 84 = some [.nils] := by subst hP; kernel_rfl
theorem by84 {P : Program} (hP : P = Try.prog)  : bytesT P 84 = some 24 := by subst hP; kernel_rfl
theorem sz85 {P : Program} (hP : P = Try.prog)  : szT P 85 = some 4 := by subst hP; kernel_rfl
theorem ag85 {P : Program} (hP : P = Try.prog)  : aggT P 85 = some true := by subst hP; kernel_rfl
theorem ze85 {P : Program} (hP : P = Try.prog)  : zeroL P 85 = some [.int .i64 0, .nils, .nils, .int .i64 0] := by subst hP; kernel_rfl
theorem by85 {P : Program} (hP : P = Try.prog)  : bytesT P 85 = some 64 := by subst hP; kernel_rfl
theorem sz86 {P : Program} (hP : P = Try.prog)  : szT P 86 = some 4 := by subst hP; kernel_rfl
theorem ag86 {P : Program} (hP : P = Try.prog)  : aggT P 86 = some true := by subst hP; kernel_rfl
theorem ze86 {P : Program} (hP : P = Try.prog)  : zeroL P 86 = some [.int .i64 0, .nils, .nils, .int .i64 0] := by subst hP; kernel_rfl
theorem by86 {P : Program} (hP : P = Try.prog)  : bytesT P 86 = some 64 := by subst hP; kernel_rfl
theorem sz90 {P : Program} (hP : P = Try.prog)  : szT P 90 = some 1 := by subst hP; kernel_rfl
theorem ag90 {P : Program} (hP : P = Try.prog)  : aggT P 90 = some false := by subst hP; kernel_rfl
theorem ze90 {P : Program} (hP : P = Try.prog)  : zeroL P 90 = some [.nils] := by subst hP; kernel_rfl
theorem by90 {P : Program} (hP : P = Try.prog)  : bytesT P 90 = some 24 := by subst hP; kernel_rfl
theorem sz93 {P : Program} (hP : P = Try.prog)  : szT P 93 = some 2 := by subst hP; kernel_rfl
theorem ag93 {P : Program} (hP : P = Try.prog)  : aggT P 93 = some true := by subst hP; kernel_rfl
theorem ze93 {P : Program} (hP : P = Try.prog)  : zeroL P 93 = some [.int .u8 0, .int .u8 0] := by subst hP; kernel_rfl
theorem by93 {P : Program} (hP : P = Try.prog)  : bytesT P 93 = some 2 := by subst hP; kernel_rfl
theorem sz94 {P : Program} (hP : P = Try.prog)  : szT P 94 = some 2 := by subst hP; kernel_rfl
theorem ag94 {P : Program} (hP : P = Try.prog)  : aggT P 94 = some true := by subst hP; kernel_rfl
theorem ze94 {P : Program} (hP : P = Try.prog)  : zeroL P 94 = some [.int .u8 0, .int .u8 0] := by subst hP; kernel_rfl
theorem by94 {P : Program} (hP : P = Try.prog)  : bytesT P 94 = some 2 := by subst hP; kernel_rfl
theorem sz106 {P : Program} (hP : P = Try.prog)  : szT P 106 = some 1 := by subst hP; kernel_rfl
theorem ag106 {P : Program} (hP : P = Try.prog)  : aggT P 106 = some false := by subst hP; kernel_rfl
theorem ze106 {P : Program} (hP : P = Try.prog)  : zeroL P 106 = some [.nils] := by subst hP; kernel_rfl
theorem by106 {P : Program} (hP : P = Try.prog)  : bytesT P 106 = some 24 := by subst hP; kernel_rfl
theorem sz115 {P : Program} (hP : P = Try.prog)  : szT P 115 = some 4 := by subst hP; kernel_rfl
theorem ag115 {P : Program} (hP : P = Try.prog)  : aggT P 115 = some true := by subst hP; kernel_rfl
theorem ze115 {P : Program} (hP : P = Try.prog)  : zeroL P 115 = some [.nilp, .nilp, .nilp, .str ⟨#[]⟩] := by subst hP; kernel_rfl
theorem by115 {P : Program} (hP : P = Try.prog)  : bytesT P 115 = some 40 := by subst hP; kernel_rfl
theorem sz116 {P : Program} (hP : P = Try.prog)  : szT P 116 = some 4 := by subst hP; kernel_rfl
theorem ag116 {P : Program} (hP : P = Try.prog)  : aggT P 116 = some true := by subst hP; kernel_rfl
theorem ze116 {P : Program} (hP : P = Try.prog)  : zeroL P 116 = some [.nilp, .nilp, .nilp, .str ⟨#[]⟩] := by subst hP; kernel_rfl
theorem by116 {P : Program} (hP : P = Try.prog)  : bytesT P 116 = some 40 := by subst hP; kernel_rfl
theorem sz117 {P : Program} (hP : P = Try.prog)  : szT P 117 = some 0 := by subst hP; kernel_rfl
theorem ag117 {P : Program} (hP : P = Try.prog)  : aggT P 117 = some true := by subst hP; kernel_rfl
theorem ze117 {P : Program} (hP : P = Try.prog)  : zeroL P 117 = some [] := by subst hP; kernel_rfl
theorem by117 {P : Program} (hP : P = Try.prog)  : bytesT P 117 = some 0 := by subst hP; kernel_rfl
theorem sz118 {P : Program} (hP : P = Try.prog)  : szT P 118 = some 0 := by subst hP; kernel_rfl
theorem ag118 {P : Program} (hP : P = Try.prog)  : aggT P 118 = some true := by subst hP; kernel_rfl
theorem ze118 {P : Program} (hP : P = Try.prog)  : zeroL P 118 = some [] := by subst hP; kernel_rfl
theorem by118 {P : Program} (hP : P = Try.prog)  : bytesT P 118 = some 0 := by subst hP; kernel_rfl
theorem sz119 {P : Program} (hP : P = Try.prog)  : szT P 119 = some 0 := by subst hP; kernel_rfl
theorem ag119 {P : Program} (hP : P = Try.prog)  : aggT P 119 = some true := by subst hP; kernel_rfl
theorem ze119 {P : Program} (hP : P = Try.prog)  : zeroL P 119 = some [] := by subst hP; kernel_rfl
theorem by119 {P : Program} (hP : P = Try.prog)  : bytesT P 119 = some 0 := by subst hP; kernel_rfl
theorem sz120 {P : Program} (hP : P = Try.prog)  : szT P 120 = some 1 := by subst hP; kernel_rfl
theorem ag120 {P : Program} (hP : P = Try.prog)  : aggT P 120 = some false := by subst hP; kernel_rfl
theorem ze120 {P : Program} (hP : P = Try.prog)  : zeroL P 120 = some [.int .u8 0] := by subst hP; kernel_rfl
theorem by120 {P : Program} (hP : P = Try.prog)  : bytesT P 120 = some 1 := by subst hP; kernel_rfl
theorem sz121 {P : Program} (hP : P = Try.prog)  : szT P 121 = some 1 := by subst hP; kernel_rfl
theorem ag121 {P : Program} (hP : P = Try.prog)  : aggT P 121 = some false := by subst hP; kernel_rfl
theorem ze121 {P : Program} (hP : P = Try.prog)  : zeroL P 121 = some [.int .u8 0] := by subst hP; kernel_rfl
theorem by121 {P : Program} (hP : P = Try.prog)  : bytesT P 121 = some 1 := by subst hP; kernel_rfl
theorem sz123 {P : Program} (hP : P = Try.prog)  : szT P 123 = some 1 := by subst hP; kernel_rfl
theorem ag123 {P : Program} (hP : P = Try.prog)  : aggT P 123 = some false := by subst hP; kernel_rfl
theorem ze123 {P : Program} (hP : P = Try.prog)  : zeroL P 123 = some [.nilp] := by subst hP; kernel_rfl
theorem by123 {P : Program} (hP : P = Try.prog)  : bytesT P 123 = some 8 := by subst hP; kernel_rfl
theorem sz124 {P : Program} (hP : P = Try.prog)  : szT P 124 = some 1 := by subst hP; kernel_rfl
theorem ag124 {P : Program} (hP : P = Try.prog)  : aggT P 124 = some false := by subst hP; kernel_rfl
theorem ze124 {P : Program} (hP : P = Try.prog)  : zeroL P 124 = some [.int .i32 0] := by subst hP; kernel_rfl
theorem by124 {P : Program} (hP : P = Try.prog)  : bytesT P 124 = some 4 := by subst hP; kernel_rfl
theorem sz125 {P : Program} (hP : P = Try.prog)  : szT P 125 = some 1 := by subst hP; kernel_rfl
theorem ag125 {P : Program} (hP : P = Try.prog)  : aggT P 125 = some false := by subst hP; kernel_rfl
theorem ze125 {P : Program} (hP : P = Try.prog)  : zeroL P 125 = some [.int .i32 0] := by subst hP; kernel_rfl
theorem by125 {P : Program} (hP : P = Try.prog)  : bytesT P 125 = some 4 := by subst hP; kernel_rfl
theorem sz126 {P : Program} (hP : P = Try.prog)  : szT P 126 = some 11 := by subst hP; kernel_rfl
theorem ag126 {P : Program} (hP : P = Try.prog)  : aggT P 126 = some true := by subst hP; kernel_rfl
theorem ze126 {P : Program} (hP : P = Try.prog)  : zeroL P 126 = some [.int .u64 0, .int .u64 0, .int .u32 0, .int .u8 0, .int .u8 0, .int .u8 0, .int .u8 0, .nilf, .nilp, .int .i32 0, .int .i32 0] := by subst hP; kernel_rfl
theorem by126 {P : Program} (hP : P = Try.prog)  : bytesT P 126 = some 48 := by subst hP; kernel_rfl
theorem sz127 {P : Program} (hP : P = Try.prog)  : szT P 127 = some 11 := by subst hP; kernel_rfl
theorem ag127 {P : Program} (hP : P = Try.prog)  : aggT P 127 = some true := by subst hP; kernel_rfl
theorem ze127 {P : Program} (hP : P = Try.prog)  : zeroL P 127 = some [.int .u64 0, .int .u64 0, .int .u32 0, .int .u8 0, .int .u8 0, .int .u8 0, .int .u8 0, .nilf, .nilp, .int .i32 0, .int .i32 0] := by subst hP; kernel_rfl
theorem by127 {P : Program} (hP : P = Try.prog)  : bytesT P 127 = some 48 := by subst hP; kernel_rfl
theorem sz128 {P : Program} (hP : P = Try.prog)  : szT P 128 = some 1 := by subst hP; kernel_rfl
theorem ag128 {P : Program} (hP : P = Try.prog)  : aggT P 128 = some false := by subst hP; kernel_rfl
theorem ze128 {P : Program} (hP : P = Try.prog)  : zeroL P 128 = some [.nilp] := by subst hP; kernel_rfl
theorem by128 {P : Program} (hP : P = Try.prog)  : bytesT P 128 = some 8 := by subst hP; kernel_rfl
theorem un2 {P : Program} (hP : P = Try.prog)  : P.underlying 2 = some (.int .i64) := by subst hP; kernel_rfl
theorem un3 {P : Program} (hP : P = Try.prog)  : P.underlying 3 = some (.int .i64) := by subst hP; kernel_rfl
theorem un4 {P : Program} (hP : P = Try.prog)  : P.underlying 4 = some .bool := by subst hP; kernel_rfl
theorem un5 {P : Program} (hP : P = Try.prog)  : P.underlying 5 = some (.int .u8) := by subst hP; kernel_rfl
theorem un6 {P : Program} (hP : P = Try.prog)  : P.underlying 6 = some (.int .u8) := by subst hP; kernel_rfl
theorem fa7_0 {P : Program} (hP : P = Try.prog) (l o : Nat) : fieldAddrA P 7 (.v (.sc (.ptr l o))) 0 = some (.v (.sc (.ptr l (o + 0)))) := by subst hP; kernel_rfl
theorem fd7_0 {P : Program} (hP : P = Try.prog) (cs : List SV) : fieldA P 7 (.v (.ag cs)) 0 = (partA P 2 cs 0).map .v := by subst hP; kernel_rfl
theorem fa7_1 {P : Program} (hP : P = Try.prog) (l o : Nat) : fieldAddrA P 7 (.v (.sc (.ptr l o))) 1 = some (.v (.sc (.ptr l (o + 1)))) := by subst hP; kernel_rfl
theorem fd7_1 {P : Program} (hP : P = Try.prog) (cs : List SV) : fieldA P 7 (.v (.ag cs)) 1 = (partA P 3 cs 1).map .v := by subst hP; kernel_rfl
theorem fa7_2 {P : Program} (hP : P = Try.prog) (l o : Nat) : fieldAddrA P 7 (.v (.sc (.ptr l o))) 2 = some (.v (.sc (.ptr l (o + 2)))) := by subst hP; kernel_rfl
theorem fd7_2 {P : Program} (hP : P = Try.prog) (cs : List SV) : fieldA P 7 (.v (.ag cs)) 2 = (partA P 4 cs 2).map .v := by subst hP; kernel_rfl
theorem fa7_3 {P : Program} (hP : P = Try.prog) (l o : Nat) : fieldAddrA P 7 (.v (.sc (.ptr l o))) 3 = some (.v (.sc (.ptr l (o + 3)))) := by subst hP; kernel_rfl
theorem fd7_3 {P : Program} (hP : P = Try.prog) (cs : List SV) : fieldA P 7 (.v (.ag cs)) 3 = (partA P 6 cs 3).map .v := by subst hP; kernel_rfl
theorem bu7 {P : Program} (hP : P = Try.prog) (ps : List (Nat × AV)) : buildA P 7 ps = (fillA (fun i => ([(0, 1), (1, 1), (2, 1), (3, 1)] : List (Nat × Nat))[i]?) [.int .i64 0, .int .i64 0, .bool false, .int .u8 0] ps).map fun cs => .v (.ag cs) := by subst hP; kernel_rfl
theorem eq7 {P : Program} (hP : P = Try.prog) (xs ys : List SV) : eqA P 7 (.v (.ag xs)) (.v (.ag ys)) = eqL [1, 1, 0, 1] xs ys := by subst hP; kernel_rfl
theorem fa8_0 {P : Program} (hP : P = Try.prog) (l o : Nat) : fieldAddrA P 8 (.v (.sc (.ptr l o))) 0 = some (.v (.sc (.ptr l (o + 0)))) := by subst hP; kernel_rfl
theorem fd8_0 {P : Program} (hP : P = Try.prog) (cs : List SV) : fieldA P 8 (.v (.ag cs)) 0 = (partA P 2 cs 0).map .v := by subst hP; kernel_rfl
theorem fa8_1 {P : Program} (hP : P = Try.prog) (l o : Nat) : fieldAddrA P 8 (.v (.sc (.ptr l o))) 1 = some (.v (.sc (.ptr l (o + 1)))) := by subst hP; kernel_rfl
theorem fd8_1 {P : Program} (hP : P = Try.prog) (cs : List SV) : fieldA P 8 (.v (.ag cs)) 1 = (partA P 3 cs 1).map .v := by subst hP; kernel_rfl
theorem fa8_2 {P : Program} (hP : P = Try.prog) (l o : Nat) : fieldAddrA P 8 (.v (.sc (.ptr l o))) 2 = some (.v (.sc (.ptr l (o + 2)))) := by subst hP; kernel_rfl
theorem fd8_2 {P : Program} (hP : P = Try.prog) (cs : List SV) : fieldA P 8 (.v (.ag cs)) 2 = (partA P 4 cs 2).map .v := by subst hP; kernel_rfl
theorem fa8_3 {P : Program} (hP : P = Try.prog) (l o : Nat) : fieldAddrA P 8 (.v (.sc (.ptr l o))) 3 = some (.v (.sc (.ptr l (o + 3)))) := by subst hP; kernel_rfl
theorem fd8_3 {P : Program} (hP : P = Try.prog) (cs : List SV) : fieldA P 8 (.v (.ag cs)) 3 = (partA P 6 cs 3).map .v := by subst hP; kernel_rfl
theorem bu8 {P : Program} (hP : P = Try.prog) (ps : List (Nat × AV)) : buildA P 8 ps = (fillA (fun i => ([(0, 1), (1, 1), (2, 1), (3, 1)] : List (Nat × Nat))[i]?) [.int .i64 0, .int .i64 0, .bool false, .int .u8 0] ps).map fun cs => .v (.ag cs) := by subst hP; kernel_rfl
theorem eq8 {P : Program} (hP : P = Try.prog) (xs ys : List SV) : eqA P 8 (.v (.ag xs)) (.v (.ag ys)) = eqL [1, 1, 0, 1] xs ys := by subst hP; kernel_rfl
theorem un9 {P : Program} (hP : P = Try.prog)  : P.underlying 9 = some .string := by subst hP; kernel_rfl
theorem un10 {P : Program} (hP : P = Try.prog)  : P.underlying 10 = some .string := by subst hP; kernel_rfl
theorem un11 {P : Program} (hP : P = Try.prog)  : P.underlying 11 = some .string := by subst hP; kernel_rfl
theorem un12 {P : Program} (hP : P = Try.prog)  : P.underlying 12 = some (.int .u64) := by subst hP; kernel_rfl
theorem fa13_0 {P : Program} (hP : P = Try.prog) (l o : Nat) : fieldAddrA P 13 (.v (.sc (.ptr l o))) 0 = some (.v (.sc (.ptr l (o + 0)))) := by subst hP; kernel_rfl
theorem fd13_0 {P : Program} (hP : P = Try.prog) (cs : List SV) : fieldA P 13 (.v (.ag cs)) 0 = (partA P 9 cs 0).map .v := by subst hP; kernel_rfl
theorem fa13_1 {P : Program} (hP : P = Try.prog) (l o : Nat) : fieldAddrA P 13 (.v (.sc (.ptr l o))) 1 = some (.v (.sc (.ptr l (o + 1)))) := by subst hP; kernel_rfl
theorem fd13_1 {P : Program} (hP : P = Try.prog) (cs : List SV) : fieldA P 13 (.v (.ag cs)) 1 = (partA P 12 cs 1).map .v := by subst hP; kernel_rfl
theorem bu13 {P : Program} (hP : P = Try.prog) (ps : List (Nat × AV)) : buildA P 13 ps = (fillA (fun i => ([(0, 1), (1, 1)] : List (Nat × Nat))[i]?) [.str ⟨#[]⟩, .int .u64 0] ps).map fun cs => .v (.ag cs) := by subst hP; kernel_rfl
theorem fa14_0 {P : Program} (hP : P = Try.prog) (l o : Nat) : fieldAddrA P 14 (.v (.sc (.ptr l o))) 0 = some (.v (.sc (.ptr l (o + 0)))) := by subst hP; kernel_rfl
theorem fd14_0 {P : Program} (hP : P = Try.prog) (cs : List SV) : fieldA P 14 (.v (.ag cs)) 0 = (partA P 9 cs 0).map .v := by subst hP; kernel_rfl
theorem fa14_1 {P : Program} (hP : P = Try.prog) (l o : Nat) : fieldAddrA P 14 (.v (.sc (.ptr l o))) 1 = some (.v (.sc (.ptr l (o + 1)))) := by subst hP; kernel_rfl
theorem fd14_1 {P : Program} (hP : P = Try.prog) (cs : List SV) : fieldA P 14 (.v (.ag cs)) 1 = (partA P 12 cs 1).map .v := by subst hP; kernel_rfl
theorem bu14 {P : Program} (hP : P = Try.prog) (ps : List (Nat × AV)) : buildA P 14 ps = (fillA (fun i => ([(0, 1), (1, 1)] : List (Nat × Nat))[i]?) [.str ⟨#[]⟩, .int .u64 0] ps).map fun cs => .v (.ag cs) := by subst hP; kernel_rfl
theorem un15 {P : Program} (hP : P = Try.prog)  : P.underlying 15 = some (.pointer 116) := by subst hP; kernel_rfl
theorem un16 {P : Program} (hP : P = Try.prog)  : P.underlying 16 = some (.pointer 119) := by subst hP; kernel_rfl
theorem un17 {P : Program} (hP : P = Try.prog)  : P.underlying 17 = some (.pointer 127) := by subst hP; kernel_rfl
theorem fa18_0 {P : Program} (hP : P = Try.prog) (l o : Nat) : fieldAddrA P 18 (.v (.sc (.ptr l o))) 0 = some (.v (.sc (.ptr l (o + 0)))) := by subst hP; kernel_rfl
theorem fd18_0 {P : Program} (hP : P = Try.prog) (cs : List SV) : fieldA P 18 (.v (.ag cs)) 0 = (partA P 17 cs 0).map .v := by subst hP; kernel_rfl
theorem bu18 {P : Program} (hP : P = Try.prog) (ps : List (Nat × AV)) : buildA P 18 ps = (fillA (fun i => ([(0, 1)] : List (Nat × Nat))[i]?) [.nilp] ps).map fun cs => .v (.ag cs) := by subst hP; kernel_rfl
theorem fa19_0 {P : Program} (hP : P = Try.prog) (l o : Nat) : fieldAddrA P 19 (.v (.sc (.ptr l o))) 0 = some (.v (.sc (.ptr l (o + 0)))) := by subst hP; kernel_rfl
theorem fd19_0 {P : Program} (hP : P = Try.prog) (cs : List SV) : fieldA P 19 (.v (.ag cs)) 0 = (partA P 17 cs 0).map .v := by subst hP; kernel_rfl
theorem bu19 {P : Program} (hP : P = Try.prog) (ps : List (Nat × AV)) : buildA P 19 ps = (fillA (fun i => ([(0, 1)] : List (Nat × Nat))[i]?) [.nilp] ps).map fun cs => .v (.ag cs) := by subst hP; kernel_rfl
theorem un21 {P : Program} (hP : P = Try.prog)  : P.underlying 21 = some (.int .i32) := by subst hP; kernel_rfl
theorem un22 {P : Program} (hP : P = Try.prog)  : P.underlying 22 = some (.int .u32) := by subst hP; kernel_rfl
theorem un23 {P : Program} (hP : P = Try.prog)  : P.underlying 23 = some (.int .u16) := by subst hP; kernel_rfl
theorem fa24_0 {P : Program} (hP : P = Try.prog) (l o : Nat) : fieldAddrA P 24 (.v (.sc (.ptr l o))) 0 = some (.v (.sc (.ptr l (o + 0)))) := by subst hP; kernel_rfl
theorem fd24_0 {P : Program} (hP : P = Try.prog) (cs : List SV) : fieldA P 24 (.v (.ag cs)) 0 = (partA P 3 cs 0).map .v := by subst hP; kernel_rfl
theorem fa24_1 {P : Program} (hP : P = Try.prog) (l o : Nat) : fieldAddrA P 24 (.v (.sc (.ptr l o))) 1 = some (.v (.sc (.ptr l (o + 1)))) := by subst hP; kernel_rfl
theorem fd24_1 {P : Program} (hP : P = Try.prog) (cs : List SV) : fieldA P 24 (.v (.ag cs)) 1 = (partA P 5 cs 1).map .v := by subst hP; kernel_rfl
theorem fa24_2 {P : Program} (hP : P = Try.prog) (l o : Nat) : fieldAddrA P 24 (.v (.sc (.ptr l o))) 2 = some (.v (.sc (.ptr l (o + 2)))) := by subst hP; kernel_rfl
theorem fd24_2 {P : Program} (hP : P = Try.prog) (cs : List SV) : fieldA P 24 (.v (.ag cs)) 2 = (partA P 5 cs 2).map .v := by subst hP; kernel_rfl
theorem fa24_3 {P : Program} (hP : P = Try.prog) (l o : Nat) : fieldAddrA P 24 (.v (.sc (.ptr l o))) 3 = some (.v (.sc (.ptr l (o + 3)))) := by subst hP; kernel_rfl
theorem fd24_3 {P : Program} (hP : P = Try.prog) (cs : List SV) : fieldA P 24 (.v (.ag cs)) 3 = (partA P 22 cs 3).map .v := by subst hP; kernel_rfl
theorem fa24_4 {P : Program} (hP : P = Try.prog) (l o : Nat) : fieldAddrA P 24 (.v (.sc (.ptr l o))) 4 = some (.v (.sc (.ptr l (o + 4)))) := by subst hP; kernel_rfl
theorem fd24_4 {P : Program} (hP : P = Try.prog) (cs : List SV) : fieldA P 24 (.v (.ag cs)) 4 = (partA P 23 cs 4).map .v := by subst hP; kernel_rfl
theorem fa24_5 {P : Program} (hP : P = Try.prog) (l o : Nat) : fieldAddrA P 24 (.v (.sc (.ptr l o))) 5 = some (.v (.sc (.ptr l (o + 5)))) := by subst hP; kernel_rfl
theorem fd24_5 {P : Program} (hP : P = Try.prog) (cs : List SV) : fieldA P 24 (.v (.ag cs)) 5 = (partA P 23 cs 5).map .v := by subst hP; kernel_rfl
theorem fa24_6 {P : Program} (hP : P = Try.prog) (l o : Nat) : fieldAddrA P 24 (.v (.sc (.ptr l o))) 6 = some (.v (.sc (.ptr l (o + 6)))) := by subst hP; kernel_rfl
theorem fd24_6 {P : Program} (hP : P = Try.prog) (cs : List SV) : fieldA P 24 (.v (.ag cs)) 6 = (partA P 23 cs 6).map .v := by subst hP; kernel_rfl
theorem fa24_7 {P : Program} (hP : P = Try.prog) (l o : Nat) : fieldAddrA P 24 (.v (.sc (.ptr l o))) 7 = some (.v (.sc (.ptr l (o + 7)))) := by subst hP; kernel_rfl
theorem fd24_7 {P : Program} (hP : P = Try.prog) (cs : List SV) : fieldA P 24 (.v (.ag cs)) 7 = (partA P 22 cs 7).map .v := by subst hP; kernel_rfl
theorem bu24 {P : Program} (hP : P = Try.prog) (ps : List (Nat × AV)) : buildA P 24 ps = (fillA (fun i => ([(0, 1), (1, 1), (2, 1), (3, 1), (4, 1), (5, 1), (6, 1), (7, 1)] : List (Nat × Nat))[i]?) [.int .i64 0, .int .u8 0, .int .u8 0, .int .u32 0, .int .u16 0, .int .u16 0, .int .u16 0, .int .u32 0] ps).map fun cs => .v (.ag cs) := by subst hP; kernel_rfl
theorem eq24 {P : Program} (hP : P = Try.prog) (xs ys : List SV) : eqA P 24 (.v (.ag xs)) (.v (.ag ys)) = eqL [1, 1, 1, 1, 1, 1, 1, 1] xs ys := by subst hP; kernel_rfl
theorem fa25_0 {P : Program} (hP : P = Try.prog) (l o : Nat) : fieldAddrA P 25 (.v (.sc (.ptr l o))) 0 = some (.v (.sc (.ptr l (o + 0)))) := by subst hP; kernel_rfl
theorem fd25_0 {P : Program} (hP : P = Try.prog) (cs : List SV) : fieldA P 25 (.v (.ag cs)) 0 = (partA P 3 cs 0).map .v := by subst hP; kernel_rfl
theorem fa25_1 {P : Program} (hP : P = Try.prog) (l o : Nat) : fieldAddrA P 25 (.v (.sc (.ptr l o))) 1 = some (.v (.sc (.ptr l (o + 1)))) := by subst hP; kernel_rfl
theorem fd25_1 {P : Program} (hP : P = Try.prog) (cs : List SV) : fieldA P 25 (.v (.ag cs)) 1 = (partA P 5 cs 1).map .v := by subst hP; kernel_rfl
theorem fa25_2 {P : Program} (hP : P = Try.prog) (l o : Nat) : fieldAddrA P 25 (.v (.sc (.ptr l o))) 2 = some (.v (.sc (.ptr l (o + 2)))) := by subst hP; kernel_rfl
theorem fd25_2 {P : Program} (hP : P = Try.prog) (cs : List SV) : fieldA P 25 (.v (.ag cs)) 2 = (partA P 5 cs 2).map .v := by subst hP; kernel_rfl
theorem fa25_3 {P : Program} (hP : P = Try.prog) (l o : Nat) : fieldAddrA P 25 (.v (.sc (.ptr l o))) 3 = some (.v (.sc (.ptr l (o + 3)))) := by subst hP; kernel_rfl
theorem fd25_3 {P : Program} (hP : P = Try.prog) (cs : List SV) : fieldA P 25 (.v (.ag cs)) 3 = (partA P 22 cs 3).map .v := by subst hP; kernel_rfl
theorem fa25_4 {P : Program} (hP : P = Try.prog) (l o : Nat) : fieldAddrA P 25 (.v (.sc (.ptr l o))) 4 = some (.v (.sc (.ptr l (o + 4)))) := by subst hP; kernel_rfl
theorem fd25_4 {P : Program} (hP : P = Try.prog) (cs : List SV) : fieldA P 25 (.v (.ag cs)) 4 = (partA P 23 cs 4).map .v := by subst hP; kernel_rfl
theorem fa25_5 {P : Program} (hP : P = Try.prog) (l o : Nat) : fieldAddrA P 25 (.v (.sc (.ptr l o))) 5 = some (.v (.sc (.ptr l (o + 5)))) := by subst hP; kernel_rfl
theorem fd25_5 {P : Program} (hP : P = Try.prog) (cs : List SV) : fieldA P 25 (.v (.ag cs)) 5 = (partA P 23 cs 5).map .v := by subst hP; kernel_rfl
theorem fa25_6 {P : Program} (hP : P = Try.prog) (l o : Nat) : fieldAddrA P 25 (.v (.sc (.ptr l o))) 6 = some (.v (.sc (.ptr l (o + 6)))) := by subst hP; kernel_rfl
theorem fd25_6 {P : Program} (hP : P = Try.prog) (cs : List SV) : fieldA P 25 (.v (.ag cs)) 6 = (partA P 23 cs 6).map .v := by subst hP; kernel_rfl
theorem fa25_7 {P : Program} (hP : P = Try.prog) (l o : Nat) : fieldAddrA P 25 (.v (.sc (.ptr l o))) 7 = some (.v (.sc (.ptr l (o + 7)))) := by subst hP; kernel_rfl
theorem fd25_7 {P : Program} (hP : P = Try.prog) (cs : List SV) : fieldA P 25 (.v (.ag cs)) 7 = (partA P 22 cs 7).map .v := by subst hP; kernel_rfl
theorem bu25 {P : Program} (hP : P = Try.prog) (ps : List (Nat × AV)) : buildA P 25 ps = (fillA (fun i => ([(0, 1), (1, 1), (2, 1), (3, 1), (4, 1), (5, 1), (6, 1), (7, 1)] : List (Nat × Nat))[i]?) [.int .i64 0, .int .u8 0, .int .u8 0, .int .u32 0, .int .u16 0, .int .u16 0, .int .u16 0, .int .u32 0] ps).map fun cs => .v (.ag cs) := by subst hP; kernel_rfl
theorem eq25 {P : Program} (hP : P = Try.prog) (xs ys : List SV) : eqA P 25 (.v (.ag xs)) (.v (.ag ys)) = eqL [1, 1, 1, 1, 1, 1, 1, 1] xs ys := by subst hP; kernel_rfl
theorem un26 {P : Program} (hP : P = Try.prog)  : P.underlying 26 = some (.int .u64) := by subst hP; kernel_rfl
theorem un27 {P : Program} (hP : P = Try.prog)  : P.underlying 27 = some (.int .i64) := by subst hP; kernel_rfl
theorem fa30_0 {P : Program} (hP : P = Try.prog) (l o : Nat) : fieldAddrA P 30 (.v (.sc (.ptr l o))) 0 = some (.v (.sc (.ptr l (o + 0)))) := by subst hP; kernel_rfl
theorem fd30_0 {P : Program} (hP : P = Try.prog) (cs : List SV) : fieldA P 30 (.v (.ag cs)) 0 = (partA P 3 cs 0).map .v := by subst hP; kernel_rfl
theorem fa30_1 {P : Program} (hP : P = Try.prog) (l o : Nat) : fieldAddrA P 30 (.v (.sc (.ptr l o))) 1 = some (.v (.sc (.ptr l (o + 1)))) := by subst hP; kernel_rfl
theorem fd30_1 {P : Program} (hP : P = Try.prog) (cs : List SV) : fieldA P 30 (.v (.ag cs)) 1 = (partA P 5 cs 1).map .v := by subst hP; kernel_rfl
theorem fa30_2 {P : Program} (hP : P = Try.prog) (l o : Nat) : fieldAddrA P 30 (.v (.sc (.ptr l o))) 2 = some (.v (.sc (.ptr l (o + 2)))) := by subst hP; kernel_rfl
theorem fd30_2 {P : Program} (hP : P = Try.prog) (cs : List SV) : fieldA P 30 (.v (.ag cs)) 2 = (partA P 5 cs 2).map .v := by subst hP; kernel_rfl
theorem fa30_3 {P : Program} (hP : P = Try.prog) (l o : Nat) : fieldAddrA P 30 (.v (.sc (.ptr l o))) 3 = some (.v (.sc (.ptr l (o + 3)))) := by subst hP; kernel_rfl
theorem fd30_3 {P : Program} (hP : P = Try.prog) (cs : List SV) : fieldA P 30 (.v (.ag cs)) 3 = (partA P 22 cs 3).map .v := by subst hP; kernel_rfl
theorem fa30_4 {P : Program} (hP : P = Try.prog) (l o : Nat) : fieldAddrA P 30 (.v (.sc (.ptr l o))) 4 = some (.v (.sc (.ptr l (o + 4)))) := by subst hP; kernel_rfl
theorem fd30_4 {P : Program} (hP : P = Try.prog) (cs : List SV) : fieldA P 30 (.v (.ag cs)) 4 = (partA P 23 cs 4).map .v := by subst hP; kernel_rfl
theorem fa30_5 {P : Program} (hP : P = Try.prog) (l o : Nat) : fieldAddrA P 30 (.v (.sc (.ptr l o))) 5 = some (.v (.sc (.ptr l (o + 5)))) := by subst hP; kernel_rfl
theorem fd30_5 {P : Program} (hP : P = Try.prog) (cs : List SV) : fieldA P 30 (.v (.ag cs)) 5 = (partA P 23 cs 5).map .v := by subst hP; kernel_rfl
theorem fa30_6 {P : Program} (hP : P = Try.prog) (l o : Nat) : fieldAddrA P 30 (.v (.sc (.ptr l o))) 6 = some (.v (.sc (.ptr l (o + 6)))) := by subst hP; kernel_rfl
theorem fd30_6 {P : Program} (hP : P = Try.prog) (cs : List SV) : fieldA P 30 (.v (.ag cs)) 6 = (partA P 23 cs 6).map .v := by subst hP; kernel_rfl
theorem fa30_7 {P : Program} (hP : P = Try.prog) (l o : Nat) : fieldAddrA P 30 (.v (.sc (.ptr l o))) 7 = some (.v (.sc (.ptr l (o + 7)))) := by subst hP; kernel_rfl
theorem fd30_7 {P : Program} (hP : P = Try.prog) (cs : List SV) : fieldA P 30 (.v (.ag cs)) 7 = (partA P 22 cs 7).map .v := by subst hP; kernel_rfl
theorem bu30 {P : Program} (hP : P = Try.prog) (ps : List (Nat × AV)) : buildA P 30 ps = (fillA (fun i => ([(0, 1), (1, 1), (2, 1), (3, 1), (4, 1), (5, 1), (6, 1), (7, 1)] : List (Nat × Nat))[i]?) [.int .i64 0, .int .u8 0, .int .u8 0, .int .u32 0, .int .u16 0, .int .u16 0, .int .u16 0, .int .u32 0] ps).map fun cs => .v (.ag cs) := by subst hP; kernel_rfl
theorem eq30 {P : Program} (hP : P = Try.prog) (xs ys : List SV) : eqA P 30 (.v (.ag xs)) (.v (.ag ys)) = eqL [1, 1, 1, 1, 1, 1, 1, 1] xs ys := by subst hP; kernel_rfl
theorem fa46_0 {P : Program} (hP : P = Try.prog) (l o : Nat) : fieldAddrA P 46 (.v (.sc (.ptr l o))) 0 = some (.v (.sc (.ptr l (o + 0)))) := by subst hP; kernel_rfl
theorem fd46_0 {P : Program} (hP : P = Try.prog) (cs : List SV) : fieldA P 46 (.v (.ag cs)) 0 = (partA P 4 cs 0).map .v := by subst hP; kernel_rfl
theorem fa46_1 {P : Program} (hP : P = Try.prog) (l o : Nat) : fieldAddrA P 46 (.v (.sc (.ptr l o))) 1 = some (.v (.sc (.ptr l (o + 1)))) := by subst hP; kernel_rfl
theorem fd46_1 {P : Program} (hP : P = Try.prog) (cs : List SV) : fieldA P 46 (.v (.ag cs)) 1 = (partA P 5 cs 1).map .v := by subst hP; kernel_rfl
theorem fa46_2 {P : Program} (hP : P = Try.prog) (l o : Nat) : fieldAddrA P 46 (.v (.sc (.ptr l o))) 2 = some (.v (.sc (.ptr l (o + 2)))) := by subst hP; kernel_rfl
theorem fd46_2 {P : Program} (hP : P = Try.prog) (cs : List SV) : fieldA P 46 (.v (.ag cs)) 2 = (partA P 3 cs 2).map .v := by subst hP; kernel_rfl
theorem bu46 {P : Program} (hP : P = Try.prog) (ps : List (Nat × AV)) : buildA P 46 ps = (fillA (fun i => ([(0, 1), (1, 1), (2, 1)] : List (Nat × Nat))[i]?) [.bool false, .int .u8 0, .int .i64 0] ps).map fun cs => .v (.ag cs) := by subst hP; kernel_rfl
theorem eq46 {P : Program} (hP : P = Try.prog) (xs ys : List SV) : eqA P 46 (.v (.ag xs)) (.v (.ag ys)) = eqL [0, 1, 1] xs ys := by subst hP; kernel_rfl
theorem fa47_0 {P : Program} (hP : P = Try.prog) (l o : Nat) : fieldAddrA P 47 (.v (.sc (.ptr l o))) 0 = some (.v (.sc (.ptr l (o + 0)))) := by subst hP; kernel_rfl
theorem fd47_0 {P : Program} (hP : P = Try.prog) (cs : List SV) : fieldA P 47 (.v (.ag cs)) 0 = (partA P 4 cs 0).map .v := by subst hP; kernel_rfl
theorem fa47_1 {P : Program} (hP : P = Try.prog) (l o : Nat) : fieldAddrA P 47 (.v (.sc (.ptr l o))) 1 = some (.v (.sc (.ptr l (o + 1)))) := by subst hP; kernel_rfl
theorem fd47_1 {P : Program} (hP : P = Try.prog) (cs : List SV) : fieldA P 47 (.v (.ag cs)) 1 = (partA P 5 cs 1).map .v := by subst hP; kernel_rfl
theorem fa47_2 {P : Program} (hP : P = Try.prog) (l o : Nat) : fieldAddrA P 47 (.v (.sc (.ptr l o))) 2 = some (.v (.sc (.ptr l (o + 2)))) := by subst hP; kernel_rfl
theorem fd47_2 {P : Program} (hP : P = Try.prog) (cs : List SV) : fieldA P 47 (.v (.ag cs)) 2 = (partA P 3 cs 2).map .v := by subst hP; kernel_rfl
theorem bu47 {P : Program} (hP : P = Try.prog) (ps : List (Nat × AV)) : buildA P 47 ps = (fillA (fun i => ([(0, 1), (1, 1), (2, 1)] : List (Nat × Nat))[i]?) [.bool false, .int .u8 0, .int .i64 0] ps).map fun cs => .v (.ag cs) := by subst hP; kernel_rfl
theorem eq47 {P : Program} (hP : P = Try.prog) (xs ys : List SV) : eqA P 47 (.v (.ag xs)) (.v (.ag ys)) = eqL [0, 1, 1] xs ys := by subst hP; kernel_rfl
theorem fa50_0 {P : Program} (hP : P = Try.prog) (l o : Nat) : fieldAddrA P 50 (.v (.sc (.ptr l o))) 0 = some (.v (.sc (.ptr l (o + 0)))) := by subst hP; kernel_rfl
theorem fd50_0 {P : Program} (hP : P = Try.prog) (cs : List SV) : fieldA P 50 (.v (.ag cs)) 0 = (partA P 4 cs 0).map .v := by subst hP; kernel_rfl
theorem fa50_1 {P : Program} (hP : P = Try.prog) (l o : Nat) : fieldAddrA P 50 (.v (.sc (.ptr l o))) 1 = some (.v (.sc (.ptr l (o + 1)))) := by subst hP; kernel_rfl
theorem fd50_1 {P : Program} (hP : P = Try.prog) (cs : List SV) : fieldA P 50 (.v (.ag cs)) 1 = (partA P 5 cs 1).map .v := by subst hP; kernel_rfl
theorem fa50_2 {P : Program} (hP : P = Try.prog) (l o : Nat) : fieldAddrA P 50 (.v (.sc (.ptr l o))) 2 = some (.v (.sc (.ptr l (o + 2)))) := by subst hP; kernel_rfl
theorem fd50_2 {P : Program} (hP : P = Try.prog) (cs : List SV) : fieldA P 50 (.v (.ag cs)) 2 = (partA P 3 cs 2).map .v := by subst hP; kernel_rfl
theorem bu50 {P : Program} (hP : P = Try.prog) (ps : List (Nat × AV)) : buildA P 50 ps = (fillA (fun i => ([(0, 1), (1, 1), (2, 1)] : List (Nat × Nat))[i]?) [.bool false, .int .u8 0, .int .i64 0] ps).map fun cs => .v (.ag cs) := by subst hP; kernel_rfl
theorem eq50 {P : Program} (hP : P = Try.prog) (xs ys : List SV) : eqA P 50 (.v (.ag xs)) (.v (.ag ys)) = eqL [0, 1, 1] xs ys := by subst hP; kernel_rfl
theorem un60 {P : Program} (hP : P = Try.prog)  : P.underlying 60 = some (.slice 3) := by subst hP; kernel_rfl
theorem fa61_0 {P : Program} (hP : P = Try.prog) (l o : Nat) : fieldAddrA P 61 (.v (.sc (.ptr l o))) 0 = some (.v (.sc (.ptr l (o + 0)))) := by subst hP; kernel_rfl
theorem fd61_0 {P : Program} (hP : P = Try.prog) (cs : List SV) : fieldA P 61 (.v (.ag cs)) 0 = (partA P 26 cs 0).map .v := by subst hP; kernel_rfl
theorem fa61_1 {P : Program} (hP : P = Try.prog) (l o : Nat) : fieldAddrA P 61 (.v (.sc (.ptr l o))) 1 = some (.v (.sc (.ptr l (o + 1)))) := by subst hP; kernel_rfl
theorem fd61_1 {P : Program} (hP : P = Try.prog) (cs : List SV) : fieldA P 61 (.v (.ag cs)) 1 = (partA P 3 cs 1).map .v := by subst hP; kernel_rfl
theorem fa61_2 {P : Program} (hP : P = Try.prog) (l o : Nat) : fieldAddrA P 61 (.v (.sc (.ptr l o))) 2 = some (.v (.sc (.ptr l (o + 2)))) := by subst hP; kernel_rfl
theorem fd61_2 {P : Program} (hP : P = Try.prog) (cs : List SV) : fieldA P 61 (.v (.ag cs)) 2 = (partA P 60 cs 2).map .v := by subst hP; kernel_rfl
theorem bu61 {P : Program} (hP : P = Try.prog) (ps : List (Nat × AV)) : buildA P 61 ps = (fillA (fun i => ([(0, 1), (1, 1), (2, 1)] : List (Nat × Nat))[i]?) [.int .u64 0, .int .i64 0, .nils] ps).map fun cs => .v (.ag cs) := by subst hP; kernel_rfl
theorem fa62_0 {P : Program} (hP : P = Try.prog) (l o : Nat) : fieldAddrA P 62 (.v (.sc (.ptr l o))) 0 = some (.v (.sc (.ptr l (o + 0)))) := by subst hP; kernel_rfl
theorem fd62_0 {P : Program} (hP : P = Try.prog) (cs : List SV) : fieldA P 62 (.v (.ag cs)) 0 = (partA P 26 cs 0).map .v := by subst hP; kernel_rfl
theorem fa62_1 {P : Program} (hP : P = Try.prog) (l o : Nat) : fieldAddrA P 62 (.v (.sc (.ptr l o))) 1 = some (.v (.sc (.ptr l (o + 1)))) := by subst hP; kernel_rfl
theorem fd62_1 {P : Program} (hP : P = Try.prog) (cs : List SV) : fieldA P 62 (.v (.ag cs)) 1 = (partA P 3 cs 1).map .v := by subst hP; kernel_rfl
theorem fa62_2 {P : Program} (hP : P = Try.prog) (l o : Nat) : fieldAddrA P 62 (.v (.sc (.ptr l o))) 2 = some (.v (.sc (.ptr l (o + 2)))) := by subst hP; kernel_rfl
theorem fd62_2 {P : Program} (hP : P = Try.prog) (cs : List SV) : fieldA P 62 (.v (.ag cs)) 2 = (partA P 60 cs 2).map .v := by subst hP; kernel_rfl
theorem bu62 {P : Program} (hP : P = Try.prog) (ps : List (Nat × AV)) : buildA P 62 ps = (fillA (fun i => ([(0, 1), (1, 1), (2, 1)] : List (Nat × Nat))[i]?) [.int .u64 0, .int .i64 0, .nils] ps).map fun cs => .v (.ag cs) := by subst hP; kernel_rfl
theorem fa63_0 {P : Program} (hP : P = Try.prog) (l o : Nat) : fieldAddrA P 63 (.v (.sc (.ptr l o))) 0 = some (.v (.sc (.ptr l (o + 0)))) := by subst hP; kernel_rfl
theorem fd63_0 {P : Program} (hP : P = Try.prog) (cs : List SV) : fieldA P 63 (.v (.ag cs)) 0 = (partA P 3 cs 0).map .v := by subst hP; kernel_rfl
theorem fa63_1 {P : Program} (hP : P = Try.prog) (l o : Nat) : fieldAddrA P 63 (.v (.sc (.ptr l o))) 1 = some (.v (.sc (.ptr l (o + 1)))) := by subst hP; kernel_rfl
theorem fd63_1 {P : Program} (hP : P = Try.prog) (cs : List SV) : fieldA P 63 (.v (.ag cs)) 1 = (partA P 26 cs 1).map .v := by subst hP; kernel_rfl
theorem fa63_2 {P : Program} (hP : P = Try.prog) (l o : Nat) : fieldAddrA P 63 (.v (.sc (.ptr l o))) 2 = some (.v (.sc (.ptr l (o + 2)))) := by subst hP; kernel_rfl
theorem fd63_2 {P : Program} (hP : P = Try.prog) (cs : List SV) : fieldA P 63 (.v (.ag cs)) 2 = (partA P 3 cs 2).map .v := by subst hP; kernel_rfl
theorem fa63_3 {P : Program} (hP : P = Try.prog) (l o : Nat) : fieldAddrA P 63 (.v (.sc (.ptr l o))) 3 = some (.v (.sc (.ptr l (o + 3)))) := by subst hP; kernel_rfl
theorem fd63_3 {P : Program} (hP : P = Try.prog) (cs : List SV) : fieldA P 63 (.v (.ag cs)) 3 = (partA P 26 cs 3).map .v := by subst hP; kernel_rfl
theorem bu63 {P : Program} (hP : P = Try.prog) (ps : List (Nat × AV)) : buildA P 63 ps = (fillA (fun i => ([(0, 1), (1, 1), (2, 1), (3, 1)] : List (Nat × Nat))[i]?) [.int .i64 0, .int .u64 0, .int .i64 0, .int .u64 0] ps).map fun cs => .v (.ag cs) := by subst hP; kernel_rfl
theorem eq63 {P : Program} (hP : P = Try.prog) (xs ys : List SV) : eqA P 63 (.v (.ag xs)) (.v (.ag ys)) = eqL [1, 1, 1, 1] xs ys := by subst hP; kernel_rfl
theorem fa64_0 {P : Program} (hP : P = Try.prog) (l o : Nat) : fieldAddrA P 64 (.v (.sc (.ptr l o))) 0 = some (.v (.sc (.ptr l (o + 0)))) := by subst hP; kernel_rfl
theorem fd64_0 {P : Program} (hP : P = Try.prog) (cs : List SV) : fieldA P 64 (.v (.ag cs)) 0 = (partA P 3 cs 0).map .v := by subst hP; kernel_rfl
theorem fa64_1 {P : Program} (hP : P = Try.prog) (l o : Nat) : fieldAddrA P 64 (.v (.sc (.ptr l o))) 1 = some (.v (.sc (.ptr l (o + 1)))) := by subst hP; kernel_rfl
theorem fd64_1 {P : Program} (hP : P = Try.prog) (cs : List SV) : fieldA P 64 (.v (.ag cs)) 1 = (partA P 26 cs 1).map .v := by subst hP; kernel_rfl
theorem fa64_2 {P : Program} (hP : P = Try.prog) (l o : Nat) : fieldAddrA P 64 (.v (.sc (.ptr l o))) 2 = some (.v (.sc (.ptr l (o + 2)))) := by subst hP; kernel_rfl
theorem fd64_2 {P : Program} (hP : P = Try.prog) (cs : List SV) : fieldA P 64 (.v (.ag cs)) 2 = (partA P 3 cs 2).map .v := by subst hP; kernel_rfl
theorem fa64_3 {P : Program} (hP : P = Try.prog) (l o : Nat) : fieldAddrA P 64 (.v (.sc (.ptr l o))) 3 = some (.v (.sc (.ptr l (o + 3)))) := by subst hP; kernel_rfl
theorem fd64_3 {P : Program} (hP : P = Try.prog) (cs : List SV) : fieldA P 64 (.v (.ag cs)) 3 = (partA P 26 cs 3).map .v := by subst hP; kernel_rfl
theorem bu64 {P : Program} (hP : P = Try.prog) (ps : List (Nat × AV)) : buildA P 64 ps = (fillA (fun i => ([(0, 1), (1, 1), (2, 1), (3, 1)] : List (Nat × Nat))[i]?) [.int .i64 0, .int .u64 0, .int .i64 0, .int .u64 0] ps).map fun cs => .v (.ag cs) := by subst hP; kernel_rfl
theorem eq64 {P : Program} (hP : P = Try.prog) (xs ys : List SV) : eqA P 64 (.v (.ag xs)) (.v (.ag ys)) = eqL [1, 1, 1, 1] xs ys := by subst hP; kernel_rfl
theorem fa67_0 {P : Program} (hP : P = Try.prog) (l o : Nat) : fieldAddrA P 67 (.v (.sc (.ptr l o))) 0 = some (.v (.sc (.ptr l (o + 0)))) := by subst hP; kernel_rfl
theorem fd67_0 {P : Program} (hP : P = Try.prog) (cs : List SV) : fieldA P 67 (.v (.ag cs)) 0 = (partA P 26 cs 0).map .v := by subst hP; kernel_rfl
theorem fa67_1 {P : Program} (hP : P = Try.prog) (l o : Nat) : fieldAddrA P 67 (.v (.sc (.ptr l o))) 1 = some (.v (.sc (.ptr l (o + 1)))) := by subst hP; kernel_rfl
theorem fd67_1 {P : Program} (hP : P = Try.prog) (cs : List SV) : fieldA P 67 (.v (.ag cs)) 1 = (partA P 3 cs 1).map .v := by subst hP; kernel_rfl
theorem fa67_2 {P : Program} (hP : P = Try.prog) (l o : Nat) : fieldAddrA P 67 (.v (.sc (.ptr l o))) 2 = some (.v (.sc (.ptr l (o + 2)))) := by subst hP; kernel_rfl
theorem fd67_2 {P : Program} (hP : P = Try.prog) (cs : List SV) : fieldA P 67 (.v (.ag cs)) 2 = (partA P 60 cs 2).map .v := by subst hP; kernel_rfl
theorem bu67 {P : Program} (hP : P = Try.prog) (ps : List (Nat × AV)) : buildA P 67 ps = (fillA (fun i => ([(0, 1), (1, 1), (2, 1)] : List (Nat × Nat))[i]?) [.int .u64 0, .int .i64 0, .nils] ps).map fun cs => .v (.ag cs) := by subst hP; kernel_rfl
theorem fa68_0 {P : Program} (hP : P = Try.prog) (l o : Nat) : fieldAddrA P 68 (.v (.sc (.ptr l o))) 0 = some (.v (.sc (.ptr l (o + 0)))) := by subst hP; kernel_rfl
theorem fd68_0 {P : Program} (hP : P = Try.prog) (cs : List SV) : fieldA P 68 (.v (.ag cs)) 0 = (partA P 3 cs 0).map .v := by subst hP; kernel_rfl
theorem fa68_1 {P : Program} (hP : P = Try.prog) (l o : Nat) : fieldAddrA P 68 (.v (.sc (.ptr l o))) 1 = some (.v (.sc (.ptr l (o + 1)))) := by subst hP; kernel_rfl
theorem fd68_1 {P : Program} (hP : P = Try.prog) (cs : List SV) : fieldA P 68 (.v (.ag cs)) 1 = (partA P 26 cs 1).map .v := by subst hP; kernel_rfl
theorem fa68_2 {P : Program} (hP : P = Try.prog) (l o : Nat) : fieldAddrA P 68 (.v (.sc (.ptr l o))) 2 = some (.v (.sc (.ptr l (o + 2)))) := by subst hP; kernel_rfl
theorem fd68_2 {P : Program} (hP : P = Try.prog) (cs : List SV) : fieldA P 68 (.v (.ag cs)) 2 = (partA P 3 cs 2).map .v := by subst hP; kernel_rfl
theorem fa68_3 {P : Program} (hP : P = Try.prog) (l o : Nat) : fieldAddrA P 68 (.v (.sc (.ptr l o))) 3 = some (.v (.sc (.ptr l (o + 3)))) := by subst hP; kernel_rfl
theorem fd68_3 {P : Program} (hP : P = Try.prog) (cs : List SV) : fieldA P 68 (.v (.ag cs)) 3 = (partA P 26 cs 3).map .v := by subst hP; kernel_rfl
theorem bu68 {P : Program} (hP : P = Try.prog) (ps : List (Nat × AV)) : buildA P 68 ps = (fillA (fun i => ([(0, 1), (1, 1), (2, 1), (3, 1)] : List (Nat × Nat))[i]?) [.int .i64 0, .int .u64 0, .int .i64 0, .int .u64 0] ps).map fun cs => .v (.ag cs) := by subst hP; kernel_rfl
theorem eq68 {P : Program} (hP : P = Try.prog) (xs ys : List SV) : eqA P 68 (.v (.ag xs)) (.v (.ag ys)) = eqL [1, 1, 1, 1] xs ys := by subst hP; kernel_rfl
theorem un73 {P : Program} (hP : P = Try.prog)  : P.underlying 73 = some (.slice 62) := by subst hP; kernel_rfl
theorem un74 {P : Program} (hP : P = Try.prog)  : P.underlying 74 = some (.slice 47) := by subst hP; kernel_rfl
theorem un75 {P : Program} (hP : P = Try.prog)  : P.underlying 75 = some (.array 3 3) := by subst hP; kernel_rfl
theorem eq75 {P : Program} (hP : P = Try.prog) (xs ys : List SV) : eqA P 75 (.v (.ag xs)) (.v (.ag ys)) = eqL [1, 1, 1] xs ys := by subst hP; kernel_rfl
theorem bu75 {P : Program} (hP : P = Try.prog) (ps : List (Nat × AV)) : buildA P 75 ps = (fillA (fun i => some (i * 1, 1)) [.int .i64 0, .int .i64 0, .int .i64 0] ps).map fun cs => .v (.ag cs) := by subst hP; kernel_rfl
theorem un77 {P : Program} (hP : P = Try.prog)  : P.underlying 77 = some (.slice 50) := by subst hP; kernel_rfl
theorem un78 {P : Program} (hP : P = Try.prog)  : P.underlying 78 = some (.slice 64) := by subst hP; kernel_rfl
theorem un81 {P : Program} (hP : P = Try.prog)  : P.underlying 81 = some (.slice 67) := by subst hP; kernel_rfl
theorem un84 {P : Program} (hP : P = Try.prog)  : P.underlying 84 = some (.slice 68) := by subst hP; kernel_rfl
theorem fa85_0 {P : Program} (hP : P = Try.prog) (l o : Nat) : fieldAddrA P 85 (.v (.sc (.ptr l o))) 0 = some (.v (.sc (.ptr l (o + 0)))) := by subst hP; kernel_rfl
theorem fd85_0 {P : Program} (hP : P = Try.prog) (cs : List SV) : fieldA P 85 (.v (.ag cs)) 0 = (partA P 3 cs 0).map .v := by subst hP; kernel_rfl
theorem fa85_1 {P : Program} (hP : P = Try.prog) (l o : Nat) : fieldAddrA P 85 (.v (.sc (.ptr l o))) 1 = some (.v (.sc (.ptr l (o + 1)))) := by subst hP; kernel_rfl
theorem fd85_1 {P : Program} (hP : P = Try.prog) (cs : List SV) : fieldA P 85 (.v (.ag cs)) 1 = (partA P 74 cs 1).map .v := by subst hP; kernel_rfl
theorem fa85_2 {P : Program} (hP : P = Try.prog) (l o : Nat) : fieldAddrA P 85 (.v (.sc (.ptr l o))) 2 = some (.v (.sc (.ptr l (o + 2)))) := by subst hP; kernel_rfl
theorem fd85_2 {P : Program} (hP : P = Try.prog) (cs : List SV) : fieldA P 85 (.v (.ag cs)) 2 = (partA P 84 cs 2).map .v := by subst hP; kernel_rfl
theorem fa85_3 {P : Program} (hP : P = Try.prog) (l o : Nat) : fieldAddrA P 85 (.v (.sc (.ptr l o))) 3 = some (.v (.sc (.ptr l (o + 3)))) := by subst hP; kernel_rfl
theorem fd85_3 {P : Program} (hP : P = Try.prog) (cs : List SV) : fieldA P 85 (.v (.ag cs)) 3 = (partA P 3 cs 3).map .v := by subst hP; kernel_rfl
theorem bu85 {P : Program} (hP : P = Try.prog) (ps : List (Nat × AV)) : buildA P 85 ps = (fillA (fun i => ([(0, 1), (1, 1), (2, 1), (3, 1)] : List (Nat × Nat))[i]?) [.int .i64 0, .nils, .nils, .int .i64 0] ps).map fun cs => .v (.ag cs) := by subst hP; kernel_rfl
theorem fa86_0 {P : Program} (hP : P = Try.prog) (l o : Nat) : fieldAddrA P 86 (.v (.sc (.ptr l o))) 0 = some (.v (.sc (.ptr l (o + 0)))) := by subst hP; kernel_rfl
theorem fd86_0 {P : Program} (hP : P = Try.prog) (cs : List SV) : fieldA P 86 (.v (.ag cs)) 0 = (partA P 3 cs 0).map .v := by subst hP; kernel_rfl
theorem fa86_1 {P : Program} (hP : P = Try.prog) (l o : Nat) : fieldAddrA P 86 (.v (.sc (.ptr l o))) 1 = some (.v (.sc (.ptr l (o + 1)))) := by subst hP; kernel_rfl
theorem fd86_1 {P : Program} (hP : P = Try.prog) (cs : List SV) : fieldA P 86 (.v (.ag cs)) 1 = (partA P 74 cs 1).map .v := by subst hP; kernel_rfl
theorem fa86_2 {P : Program} (hP : P = Try.prog) (l o : Nat) : fieldAddrA P 86 (.v (.sc (.ptr l o))) 2 = some (.v (.sc (.ptr l (o + 2)))) := by subst hP; kernel_rfl
theorem fd86_2 {P : Program} (hP : P = Try.prog) (cs : List SV) : fieldA P 86 (.v (.ag cs)) 2 = (partA P 84 cs 2).map .v := by subst hP; kernel_rfl
theorem fa86_3 {P : Program} (hP : P = Try.prog) (l o : Nat) : fieldAddrA P 86 (.v (.sc (.ptr l o))) 3 = some (.v (.sc (.ptr l (o + 3)))) := by subst hP; kernel_rfl
theorem fd86_3 {P : Program} (hP : P = Try.prog) (cs : List SV) : fieldA P 86 (.v (.ag cs)) 3 = (partA P 3 cs 3).map .v := by subst hP; kernel_rfl
theorem bu86 {P : Program} (hP : P = Try.prog) (ps : List (Nat × AV)) : buildA P 86 ps = (fillA (fun i => ([(0, 1), (1, 1), (2, 1), (3, 1)] : List (Nat × Nat))[i]?) [.int .i64 0, .nils, .nils, .int .i64 0] ps).map fun cs => .v (.ag cs) := by subst hP; kernel_rfl
theorem un90 {P : Program} (hP : P = Try.prog)  : P.underlying 90 = some (.slice 26) := by subst hP; kernel_rfl
theorem fa93_0 {P : Program} (hP : P = Try.prog) (l o : Nat) : fieldAddrA P 93 (.v (.sc (.ptr l o))) 0 = some (.v (.sc (.ptr l (o + 0)))) := by subst hP; kernel_rfl
theorem fd93_0 {P : Program} (hP : P = Try.prog) (cs : List SV) : fieldA P 93 (.v (.ag cs)) 0 = (partA P 5 cs 0).map .v := by subst hP; kernel_rfl
theorem fa93_1 {P : Program} (hP : P = Try.prog) (l o : Nat) : fieldAddrA P 93 (.v (.sc (.ptr l o))) 1 = some (.v (.sc (.ptr l (o + 1)))) := by subst hP; kernel_rfl
theorem fd93_1 {P : Program} (hP : P = Try.prog) (cs : List SV) : fieldA P 93 (.v (.ag cs)) 1 = (partA P 5 cs 1).map .v := by subst hP; kernel_rfl
theorem bu93 {P : Program} (hP : P = Try.prog) (ps : List (Nat × AV)) : buildA P 93 ps = (fillA (fun i => ([(0, 1), (1, 1)] : List (Nat × Nat))[i]?) [.int .u8 0, .int .u8 0] ps).map fun cs => .v (.ag cs) := by subst hP; kernel_rfl
theorem eq93 {P : Program} (hP : P = Try.prog) (xs ys : List SV) : eqA P 93 (.v (.ag xs)) (.v (.ag ys)) = eqL [1, 1] xs ys := by subst hP; kernel_rfl
theorem fa94_0 {P : Program} (hP : P = Try.prog) (l o : Nat) : fieldAddrA P 94 (.v (.sc (.ptr l o))) 0 = some (.v (.sc (.ptr l (o + 0)))) := by subst hP; kernel_rfl
theorem fd94_0 {P : Program} (hP : P = Try.prog) (cs : List SV) : fieldA P 94 (.v (.ag cs)) 0 = (partA P 5 cs 0).map .v := by subst hP; kernel_rfl
theorem fa94_1 {P : Program} (hP : P = Try.prog) (l o : Nat) : fieldAddrA P 94 (.v (.sc (.ptr l o))) 1 = some (.v (.sc (.ptr l (o + 1)))) := by subst hP; kernel_rfl
theorem fd94_1 {P : Program} (hP : P = Try.prog) (cs : List SV) : fieldA P 94 (.v (.ag cs)) 1 = (partA P 5 cs 1).map .v := by subst hP; kernel_rfl
theorem bu94 {P : Program} (hP : P = Try.prog) (ps : List (Nat × AV)) : buildA P 94 ps = (fillA (fun i => ([(0, 1), (1, 1)] : List (Nat × Nat))[i]?) [.int .u8 0, .int .u8 0] ps).map fun cs => .v (.ag cs) := by subst hP; kernel_rfl
theorem eq94 {P : Program} (hP : P = Try.prog) (xs ys : List SV) : eqA P 94 (.v (.ag xs)) (.v (.ag ys)) = eqL [1, 1] xs ys := by subst hP; kernel_rfl
theorem un106 {P : Program} (hP : P = Try.prog)  : P.underlying 106 = some (.slice 94) := by subst hP; kernel_rfl
theorem fa115_0 {P : Program} (hP : P = Try.prog) (l o : Nat) : fieldAddrA P 115 (.v (.sc (.ptr l o))) 0 = some (.v (.sc (.ptr l (o + 0)))) := by subst hP; kernel_rfl
theorem fd115_0 {P : Program} (hP : P = Try.prog) (cs : List SV) : fieldA P 115 (.v (.ag cs)) 0 = (partA P 17 cs 0).map .v := by subst hP; kernel_rfl
theorem fa115_1 {P : Program} (hP : P = Try.prog) (l o : Nat) : fieldAddrA P 115 (.v (.sc (.ptr l o))) 1 = some (.v (.sc (.ptr l (o + 1)))) := by subst hP; kernel_rfl
theorem fd115_1 {P : Program} (hP : P = Try.prog) (cs : List SV) : fieldA P 115 (.v (.ag cs)) 1 = (partA P 17 cs 1).map .v := by subst hP; kernel_rfl
theorem fa115_2 {P : Program} (hP : P = Try.prog) (l o : Nat) : fieldAddrA P 115 (.v (.sc (.ptr l o))) 2 = some (.v (.sc (.ptr l (o + 2)))) := by subst hP; kernel_rfl
theorem fd115_2 {P : Program} (hP : P = Try.prog) (cs : List SV) : fieldA P 115 (.v (.ag cs)) 2 = (partA P 17 cs 2).map .v := by subst hP; kernel_rfl
theorem fa115_3 {P : Program} (hP : P = Try.prog) (l o : Nat) : fieldAddrA P 115 (.v (.sc (.ptr l o))) 3 = some (.v (.sc (.ptr l (o + 3)))) := by subst hP; kernel_rfl
theorem fd115_3 {P : Program} (hP : P = Try.prog) (cs : List SV) : fieldA P 115 (.v (.ag cs)) 3 = (partA P 9 cs 3).map .v := by subst hP; kernel_rfl
theorem bu115 {P : Program} (hP : P = Try.prog) (ps : List (Nat × AV)) : buildA P 115 ps = (fillA (fun i => ([(0, 1), (1, 1), (2, 1), (3, 1)] : List (Nat × Nat))[i]?) [.nilp, .nilp, .nilp, .str ⟨#[]⟩] ps).map fun cs => .v (.ag cs) := by subst hP; kernel_rfl
theorem fa116_0 {P : Program} (hP : P = Try.prog) (l o : Nat) : fieldAddrA P 116 (.v (.sc (.ptr l o))) 0 = some (.v (.sc (.ptr l (o + 0)))) := by subst hP; kernel_rfl
theorem fd116_0 {P : Program} (hP : P = Try.prog) (cs : List SV) : fieldA P 116 (.v (.ag cs)) 0 = (partA P 17 cs 0).map .v := by subst hP; kernel_rfl
theorem fa116_1 {P : Program} (hP : P = Try.prog) (l o : Nat) : fieldAddrA P 116 (.v (.sc (.ptr l o))) 1 = some (.v (.sc (.ptr l (o + 1)))) := by subst hP; kernel_rfl
theorem fd116_1 {P : Program} (hP : P = Try.prog) (cs : List SV) : fieldA P 116 (.v (.ag cs)) 1 = (partA P 17 cs 1).map .v := by subst hP; kernel_rfl
theorem fa116_2 {P : Program} (hP : P = Try.prog) (l o : Nat) : fieldAddrA P 116 (.v (.sc (.ptr l o))) 2 = some (.v (.sc (.ptr l (o + 2)))) := by subst hP; kernel_rfl
theorem fd116_2 {P : Program} (hP : P = Try.prog) (cs : List SV) : fieldA P 116 (.v (.ag cs)) 2 = (partA P 17 cs 2).map .v := by subst hP; kernel_rfl
theorem fa116_3 {P : Program} (hP : P = Try.prog) (l o : Nat) : fieldAddrA P 116 (.v (.sc (.ptr l o))) 3 = some (.v (.sc (.ptr l (o + 3)))) := by subst hP; kernel_rfl
theorem fd116_3 {P : Program} (hP : P = Try.prog) (cs : List SV) : fieldA P 116 (.v (.ag cs)) 3 = (partA P 9 cs 3).map .v := by subst hP; kernel_rfl
theorem bu116 {P : Program} (hP : P = Try.prog) (ps : List (Nat × AV)) : buildA P 116 ps = (fillA (fun i => ([(0, 1), (1, 1), (2, 1), (3, 1)] : List (Nat × Nat))[i]?) [.nilp, .nilp, .nilp, .str ⟨#[]⟩] ps).map fun cs => .v (.ag cs) := by subst hP; kernel_rfl
theorem un117 {P : Program} (hP : P = Try.prog)  : P.underlying 117 = some (.array 0 16) := by subst hP; kernel_rfl
theorem bu117 {P : Program} (hP : P = Try.prog) (ps : List (Nat × AV)) : buildA P 117 ps = (fillA (fun i => some (i * 1, 1)) [] ps).map fun cs => .v (.ag cs) := by subst hP; kernel_rfl
theorem fd118_0 {P : Program} (hP : P = Try.prog) (cs : List SV) : fieldA P 118 (.v (.ag cs)) 0 = (partA P 117 cs 0).map .v := by subst hP; kernel_rfl
theorem bu118 {P : Program} (hP : P = Try.prog) (ps : List (Nat × AV)) : buildA P 118 ps = (fillA (fun i => ([(0, 0)] : List (Nat × Nat))[i]?) [] ps).map fun cs => .v (.ag cs) := by subst hP; kernel_rfl
theorem fd119_0 {P : Program} (hP : P = Try.prog) (cs : List SV) : fieldA P 119 (.v (.ag cs)) 0 = (partA P 117 cs 0).map .v := by subst hP; kernel_rfl
theorem bu119 {P : Program} (hP : P = Try.prog) (ps : List (Nat × AV)) : buildA P 119 ps = (fillA (fun i => ([(0, 0)] : List (Nat × Nat))[i]?) [] ps).map fun cs => .v (.ag cs) := by subst hP; kernel_rfl
theorem un120 {P : Program} (hP : P = Try.prog)  : P.underlying 120 = some (.int .u8) := by subst hP; kernel_rfl
theorem un121 {P : Program} (hP : P = Try.prog)  : P.underlying 121 = some (.int .u8) := by subst hP; kernel_rfl
theorem un123 {P : Program} (hP : P = Try.prog)  : P.underlying 123 = some (.pointer 5) := by subst hP; kernel_rfl
theorem un124 {P : Program} (hP : P = Try.prog)  : P.underlying 124 = some (.int .i32) := by subst hP; kernel_rfl
theorem un125 {P : Program} (hP : P = Try.prog)  : P.underlying 125 = some (.int .i32) := by subst hP; kernel_rfl
theorem fa126_0 {P : Program} (hP : P = Try.prog) (l o : Nat) : fieldAddrA P 126 (.v (.sc (.ptr l o))) 0 = some (.v (.sc (.ptr l (o + 0)))) := by subst hP; kernel_rfl
theorem fd126_0 {P : Program} (hP : P = Try.prog) (cs : List SV) : fieldA P 126 (.v (.ag cs)) 0 = (partA P 12 cs 0).map .v := by subst hP; kernel_rfl
theorem fa126_1 {P : Program} (hP : P = Try.prog) (l o : Nat) : fieldAddrA P 126 (.v (.sc (.ptr l o))) 1 = some (.v (.sc (.ptr l (o + 1)))) := by subst hP; kernel_rfl
theorem fd126_1 {P : Program} (hP : P = Try.prog) (cs : List SV) : fieldA P 126 (.v (.ag cs)) 1 = (partA P 12 cs 1).map .v := by subst hP; kernel_rfl
theorem fa126_2 {P : Program} (hP : P = Try.prog) (l o : Nat) : fieldAddrA P 126 (.v (.sc (.ptr l o))) 2 = some (.v (.sc (.ptr l (o + 2)))) := by subst hP; kernel_rfl
theorem fd126_2 {P : Program} (hP : P = Try.prog) (cs : List SV) : fieldA P 126 (.v (.ag cs)) 2 = (partA P 22 cs 2).map .v := by subst hP; kernel_rfl
theorem fa126_3 {P : Program} (hP : P = Try.prog) (l o : Nat) : fieldAddrA P 126 (.v (.sc (.ptr l o))) 3 = some (.v (.sc (.ptr l (o + 3)))) := by subst hP; kernel_rfl
theorem fd126_3 {P : Program} (hP : P = Try.prog) (cs : List SV) : fieldA P 126 (.v (.ag cs)) 3 = (partA P 120 cs 3).map .v := by subst hP; kernel_rfl
theorem fa126_4 {P : Program} (hP : P = Try.prog) (l o : Nat) : fieldAddrA P 126 (.v (.sc (.ptr l o))) 4 = some (.v (.sc (.ptr l (o + 4)))) := by subst hP; kernel_rfl
theorem fd126_4 {P : Program} (hP : P = Try.prog) (cs : List SV) : fieldA P 126 (.v (.ag cs)) 4 = (partA P 5 cs 4).map .v := by subst hP; kernel_rfl
theorem fa126_5 {P : Program} (hP : P = Try.prog) (l o : Nat) : fieldAddrA P 126 (.v (.sc (.ptr l o))) 5 = some (.v (.sc (.ptr l (o + 5)))) := by subst hP; kernel_rfl
theorem fd126_5 {P : Program} (hP : P = Try.prog) (cs : List SV) : fieldA P 126 (.v (.ag cs)) 5 = (partA P 5 cs 5).map .v := by subst hP; kernel_rfl
theorem fa126_6 {P : Program} (hP : P = Try.prog) (l o : Nat) : fieldAddrA P 126 (.v (.sc (.ptr l o))) 6 = some (.v (.sc (.ptr l (o + 6)))) := by subst hP; kernel_rfl
theorem fd126_6 {P : Program} (hP : P = Try.prog) (cs : List SV) : fieldA P 126 (.v (.ag cs)) 6 = (partA P 121 cs 6).map .v := by subst hP; kernel_rfl
theorem fa126_7 {P : Program} (hP : P = Try.prog) (l o : Nat) : fieldAddrA P 126 (.v (.sc (.ptr l o))) 7 = some (.v (.sc (.ptr l (o + 7)))) := by subst hP; kernel_rfl
theorem fd126_7 {P : Program} (hP : P = Try.prog) (cs : List SV) : fieldA P 126 (.v (.ag cs)) 7 = (partA P 122 cs 7).map .v := by subst hP; kernel_rfl
theorem fa126_8 {P : Program} (hP : P = Try.prog) (l o : Nat) : fieldAddrA P 126 (.v (.sc (.ptr l o))) 8 = some (.v (.sc (.ptr l (o + 8)))) := by subst hP; kernel_rfl
theorem fd126_8 {P : Program} (hP : P = Try.prog) (cs : List SV) : fieldA P 126 (.v (.ag cs)) 8 = (partA P 123 cs 8).map .v := by subst hP; kernel_rfl
theorem fa126_9 {P : Program} (hP : P = Try.prog) (l o : Nat) : fieldAddrA P 126 (.v (.sc (.ptr l o))) 9 = some (.v (.sc (.ptr l (o + 9)))) := by subst hP; kernel_rfl
theorem fd126_9 {P : Program} (hP : P = Try.prog) (cs : List SV) : fieldA P 126 (.v (.ag cs)) 9 = (partA P 124 cs 9).map .v := by subst hP; kernel_rfl
theorem fa126_10 {P : Program} (hP : P = Try.prog) (l o : Nat) : fieldAddrA P 126 (.v (.sc (.ptr l o))) 10 = some (.v (.sc (.ptr l (o + 10)))) := by subst hP; kernel_rfl
theorem fd126_10 {P : Program} (hP : P = Try.prog) (cs : List SV) : fieldA P 126 (.v (.ag cs)) 10 = (partA P 125 cs 10).map .v := by subst hP; kernel_rfl
theorem bu126 {P : Program} (hP : P = Try.prog) (ps : List (Nat × AV)) : buildA P 126 ps = (fillA (fun i => ([(0, 1), (1, 1), (2, 1), (3, 1), (4, 1), (5, 1), (6, 1), (7, 1), (8, 1), (9, 1), (10, 1)] : List (Nat × Nat))[i]?) [.int .u64 0, .int .u64 0, .int .u32 0, .int .u8 0, .int .u8 0, .int .u8 0, .int .u8 0, .nilf, .nilp, .int .i32 0, .int .i32 0] ps).map fun cs => .v (.ag cs) := by subst hP; kernel_rfl
theorem fa127_0 {P : Program} (hP : P = Try.prog) (l o : Nat) : fieldAddrA P 127 (.v (.sc (.ptr l o))) 0 = some (.v (.sc (.ptr l (o + 0)))) := by subst hP; kernel_rfl
theorem fd127_0 {P : Program} (hP : P = Try.prog) (cs : List SV) : fieldA P 127 (.v (.ag cs)) 0 = (partA P 12 cs 0).map .v := by subst hP; kernel_rfl
theorem fa127_1 {P : Program} (hP : P = Try.prog) (l o : Nat) : fieldAddrA P 127 (.v (.sc (.ptr l o))) 1 = some (.v (.sc (.ptr l (o + 1)))) := by subst hP; kernel_rfl
theorem fd127_1 {P : Program} (hP : P = Try.prog) (cs : List SV) : fieldA P 127 (.v (.ag cs)) 1 = (partA P 12 cs 1).map .v := by subst hP; kernel_rfl
theorem fa127_2 {P : Program} (hP : P = Try.prog) (l o : Nat) : fieldAddrA P 127 (.v (.sc (.ptr l o))) 2 = some (.v (.sc (.ptr l (o + 2)))) := by subst hP; kernel_rfl
theorem fd127_2 {P : Program} (hP : P = Try.prog) (cs : List SV) : fieldA P 127 (.v (.ag cs)) 2 = (partA P 22 cs 2).map .v := by subst hP; kernel_rfl
theorem fa127_3 {P : Program} (hP : P = Try.prog) (l o : Nat) : fieldAddrA P 127 (.v (.sc (.ptr l o))) 3 = some (.v (.sc (.ptr l (o + 3)))) := by subst hP; kernel_rfl
theorem fd127_3 {P : Program} (hP : P = Try.prog) (cs : List SV) : fieldA P 127 (.v (.ag cs)) 3 = (partA P 120 cs 3).map .v := by subst hP; kernel_rfl
theorem fa127_4 {P : Program} (hP : P = Try.prog) (l o : Nat) : fieldAddrA P 127 (.v (.sc (.ptr l o))) 4 = some (.v (.sc (.ptr l (o + 4)))) := by subst hP; kernel_rfl
theorem fd127_4 {P : Program} (hP : P = Try.prog) (cs : List SV) : fieldA P 127 (.v (.ag cs)) 4 = (partA P 5 cs 4).map .v := by subst hP; kernel_rfl
theorem fa127_5 {P : Program} (hP : P = Try.prog) (l o : Nat) : fieldAddrA P 127 (.v (.sc (.ptr l o))) 5 = some (.v (.sc (.ptr l (o + 5)))) := by subst hP; kernel_rfl
theorem fd127_5 {P : Program} (hP : P = Try.prog) (cs : List SV) : fieldA P 127 (.v (.ag cs)) 5 = (partA P 5 cs 5).map .v := by subst hP; kernel_rfl
theorem fa127_6 {P : Program} (hP : P = Try.prog) (l o : Nat) : fieldAddrA P 127 (.v (.sc (.ptr l o))) 6 = some (.v (.sc (.ptr l (o + 6)))) := by subst hP; kernel_rfl
theorem fd127_6 {P : Program} (hP : P = Try.prog) (cs : List SV) : fieldA P 127 (.v (.ag cs)) 6 = (partA P 121 cs 6).map .v := by subst hP; kernel_rfl
theorem fa127_7 {P : Program} (hP : P = Try.prog) (l o : Nat) : fieldAddrA P 127 (.v (.sc (.ptr l o))) 7 = some (.v (.sc (.ptr l (o + 7)))) := by subst hP; kernel_rfl
theorem fd127_7 {P : Program} (hP : P = Try.prog) (cs : List SV) : fieldA P 127 (.v (.ag cs)) 7 = (partA P 122 cs 7).map .v := by subst hP; kernel_rfl
theorem fa127_8 {P : Program} (hP : P = Try.prog) (l o : Nat) : fieldAddrA P 127 (.v (.sc (.ptr l o))) 8 = some (.v (.sc (.ptr l (o + 8)))) := by subst hP; kernel_rfl
theorem fd127_8 {P : Program} (hP : P = Try.prog) (cs : List SV) : fieldA P 127 (.v (.ag cs)) 8 = (partA P 123 cs 8).map .v := by subst hP; kernel_rfl
theorem fa127_9 {P : Program} (hP : P = Try.prog) (l o : Nat) : fieldAddrA P 127 (.v (.sc (.ptr l o))) 9 = some (.v (.sc (.ptr l (o + 9)))) := by subst hP; kernel_rfl
theorem fd127_9 {P : Program} (hP : P = Try.prog) (cs : List SV) : fieldA P 127 (.v (.ag cs)) 9 = (partA P 124 cs 9).map .v := by subst hP; kernel_rfl
theorem fa127_10 {P : Program} (hP : P = Try.prog) (l o : Nat) : fieldAddrA P 127 (.v (.sc (.ptr l o))) 10 = some (.v (.sc (.ptr l (o + 10)))) := by subst hP; kernel_rfl
theorem fd127_10 {P : Program} (hP : P = Try.prog) (cs : List SV) : fieldA P 127 (.v (.ag cs)) 10 = (partA P 125 cs 10).map .v := by subst hP; kernel_rfl
theorem bu127 {P : Program} (hP : P = Try.prog) (ps : List (Nat × AV)) : buildA P 127 ps = (fillA (fun i => ([(0, 1), (1, 1), (2, 1), (3, 1), (4, 1), (5, 1), (6, 1), (7, 1), (8, 1), (9, 1), (10, 1)] : List (Nat × Nat))[i]?) [.int .u64 0, .int .u64 0, .int .u32 0, .int .u8 0, .int .u8 0, .int .u8 0, .int .u8 0, .nilf, .nilp, .int .i32 0, .int .i32 0] ps).map fun cs => .v (.ag cs) := by subst hP; kernel_rfl
end Go.AM
