/- Facts on the translation's types, printed by a program of this session. Conditions: none. -/
import Derived.Test.YtgcgbcdgbfeaaaaProg
import Derived.Test.YtgcgbcdgbfeaaaaAmSimp
namespace Go.AM
open Go.Proofs
set_option maxRecDepth 100000
theorem sz2 {P : Program} (hP : P = Try.prog)  : szT P 2 = some 1 := by subst hP; kernel_rfl
theorem ag2 {P : Program} (hP : P = Try.prog)  : aggT P 2 = some false := by subst hP; kernel_rfl
theorem ze2 {P : Program} (hP : P = Try.prog)  : zeroL P 2 = some [.int .i64 0] := by subst hP; kernel_rfl
theorem by2 {P : Program} (hP : P = Try.prog)  : bytesT P 2 = some 8 := by subst hP; kernel_rfl
theorem sz3 {P : Program} (hP : P = Try.prog)  : szT P 3 = some 1 := by subst hP; kernel_rfl
theorem ag3 {P : Program} (hP : P = Try.prog)  : aggT P 3 = some false := by subst hP; kernel_rfl
theorem ze3 {P : Program} (hP : P = Try.prog)  : zeroL P 3 = some [.int .i64 0] := by subst hP; kernel_rfl
theorem by3 {P : Program} (hP : P = Try.prog)  : bytesT P 3 = some 8 := by subst hP; kernel_rfl
theorem sz4 {P : Program} (hP : P = Try.prog)  : szT P 4 = some 1 := by subst hP; kernel_rfl
theorem ag4 {P : Program} (hP : P = Try.prog)  : aggT P 4 = some false := by subst hP; kernel_rfl
theorem ze4 {P : Program} (hP : P = Try.prog)  : zeroL P 4 = some [.bool false] := by subst hP; kernel_rfl
theorem by4 {P : Program} (hP : P = Try.prog)  : bytesT P 4 = some 1 := by subst hP; kernel_rfl
theorem sz5 {P : Program} (hP : P = Try.prog)  : szT P 5 = some 1 := by subst hP; kernel_rfl
theorem ag5 {P : Program} (hP : P = Try.prog)  : aggT P 5 = some false := by subst hP; kernel_rfl
theorem ze5 {P : Program} (hP : P = Try.prog)  : zeroL P 5 = some [.int .u8 0] := by subst hP; kernel_rfl
theorem by5 {P : Program} (hP : P = Try.prog)  : bytesT P 5 = some 1 := by subst hP; kernel_rfl
theorem sz6 {P : Program} (hP : P = Try.prog)  : szT P 6 = some 1 := by subst hP; kernel_rfl
theorem ag6 {P : Program} (hP : P = Try.prog)  : aggT P 6 = some false := by subst hP; kernel_rfl
theorem ze6 {P : Program} (hP : P = Try.prog)  : zeroL P 6 = some [.int .u8 0] := by subst hP; kernel_rfl
theorem by6 {P : Program} (hP : P = Try.prog)  : bytesT P 6 = some 1 := by subst hP; kernel_rfl
theorem sz7 {P : Program} (hP : P = Try.prog)  : szT P 7 = some 4 := by subst hP; kernel_rfl
theorem ag7 {P : Program} (hP : P = Try.prog)  : aggT P 7 = some true := by subst hP; kernel_rfl
theorem ze7 {P : Program} (hP : P = Try.prog)  : zeroL P 7 = some [.int .i64 0, .int .i64 0, .bool false, .int .u8 0] := by subst hP; kernel_rfl
theorem by7 {P : Program} (hP : P = Try.prog)  : bytesT P 7 = some 24 := by subst hP; kernel_rfl
theorem sz8 {P : Program} (hP : P = Try.prog)  : szT P 8 = some 4 := by subst hP; kernel_rfl
theorem ag8 {P : Program} (hP : P = Try.prog)  : aggT P 8 = some true := by subst hP; kernel_rfl
theorem ze8 {P : Program} (hP : P = Try.prog)  : zeroL P 8 = some [.int .i64 0, .int .i64 0, .bool false, .int .u8 0] := by subst hP; kernel_rfl
theorem by8 {P : Program} (hP : P = Try.prog)  : bytesT P 8 = some 24 := by subst hP; kernel_rfl
theorem sz9 {P : Program} (hP : P = Try.prog)  : szT P 9 = some 1 := by subst hP; kernel_rfl
theorem ag9 {P : Program} (hP : P = Try.prog)  : aggT P 9 = some false := by subst hP; kernel_rfl
theorem ze9 {P : Program} (hP : P = Try.prog)  : zeroL P 9 = some [.str ⟨#[]⟩] := by subst hP; kernel_rfl
theorem by9 {P : Program} (hP : P = Try.prog)  : bytesT P 9 = some 16 := by subst hP; kernel_rfl
theorem sz10 {P : Program} (hP : P = Try.prog)  : szT P 10 = some 1 := by subst hP; kernel_rfl
theorem ag10 {P : Program} (hP : P = Try.prog)  : aggT P 10 = some false := by subst hP; kernel_rfl
theorem ze10 {P : Program} (hP : P = Try.prog)  : zeroL P 10 = some [.str ⟨#[]⟩] := by subst hP; kernel_rfl
theorem by10 {P : Program} (hP : P = Try.prog)  : bytesT P 10 = some 16 := by subst hP; kernel_rfl
theorem sz11 {P : Program} (hP : P = Try.prog)  : szT P 11 = some 1 := by subst hP; kernel_rfl
theorem ag11 {P : Program} (hP : P = Try.prog)  : aggT P 11 = some false := by subst hP; kernel_rfl
theorem ze11 {P : Program} (hP : P = Try.prog)  : zeroL P 11 = some [.str ⟨#[]⟩] := by subst hP; kernel_rfl
theorem by11 {P : Program} (hP : P = Try.prog)  : bytesT P 11 = some 16 := by subst hP; kernel_rfl
theorem sz12 {P : Program} (hP : P = Try.prog)  : szT P 12 = some 1 := by subst hP; kernel_rfl
theorem ag12 {P : Program} (hP : P = Try.prog)  : aggT P 12 = some false := by subst hP; kernel_rfl
theorem ze12 {P : Program} (hP : P = Try.prog)  : zeroL P 12 = some [.int .u64 0] := by subst hP; kernel_rfl
theorem by12 {P : Program} (hP : P = Try.prog)  : bytesT P 12 = some 8 := by subst hP; kernel_rfl
theorem sz13 {P : Program} (hP : P = Try.prog)  : szT P 13 = some 2 := by subst hP; kernel_rfl
theorem ag13 {P : Program} (hP : P = Try.prog)  : aggT P 13 = some true := by subst hP; kernel_rfl
theorem ze13 {P : Program} (hP : P = Try.prog)  : zeroL P 13 = some [.str ⟨#[]⟩, .int .u64 0] := by subst hP; kernel_rfl
theorem by13 {P : Program} (hP : P = Try.prog)  : bytesT P 13 = some 24 := by subst hP; kernel_rfl
theorem sz14 {P : Program} (hP : P = Try.prog)  : szT P 14 = some 2 := by subst hP; kernel_rfl
theorem ag14 {P : Program} (hP : P = Try.prog)  : aggT P 14 = some true := by subst hP; kernel_rfl
theorem ze14 {P : Program} (hP : P = Try.prog)  : zeroL P 14 = some [.str ⟨#[]⟩, .int .u64 0] := by subst hP; kernel_rfl
theorem by14 {P : Program} (hP : P = Try.prog)  : bytesT P 14 = some 24 := by subst hP; kernel_rfl
theorem sz15 {P : Program} (hP : P = Try.prog)  : szT P 15 = some 1 := by subst hP; kernel_rfl
theorem ag15 {P : Program} (hP : P = Try.prog)  : aggT P 15 = some false := by subst hP; kernel_rfl
theorem ze15 {P : Program} (hP : P = Try.prog)  : zeroL P 15 = some [.nilp] := by subst hP; kernel_rfl
theorem by15 {P : Program} (hP : P = Try.prog)  : bytesT P 15 = some 8 := by subst hP; kernel_rfl
theorem sz16 {P : Program} (hP : P = Try.prog)  : szT P 16 = some 1 := by subst hP; kernel_rfl
theorem ag16 {P : Program} (hP : P = Try.prog)  : aggT P 16 = some false := by subst hP; kernel_rfl
theorem ze16 {P : Program} (hP : P = Try.prog)  : zeroL P 16 = some [.nilp] := by subst hP; kernel_rfl
theorem by16 {P : Program} (hP : P = Try.prog)  : bytesT P 16 = some 8 := by subst hP; kernel_rfl
theorem sz17 {P : Program} (hP : P = Try.prog)  : szT P 17 = some 1 := by subst hP; kernel_rfl
theorem ag17 {P : Program} (hP : P = Try.prog)  : aggT P 17 = some false := by subst hP; kernel_rfl
theorem ze17 {P : Program} (hP : P = Try.prog)  : zeroL P 17 = some [.nilp] := by subst hP; kernel_rfl
theorem by17 {P : Program} (hP : P = Try.prog)  : bytesT P 17 = some 8 := by subst hP; kernel_rfl
theorem sz18 {P : Program} (hP : P = Try.prog)  : szT P 18 = some 1 := by subst hP; kernel_rfl
theorem ag18 {P : Program} (hP : P = Try.prog)  : aggT P 18 = some true := by subst hP; kernel_rfl
theorem ze18 {P : Program} (hP : P = Try.prog)  : zeroL P 18 = some [.nilp] := by subst hP; kernel_rfl
theorem by18 {P : Program} (hP : P = Try.prog)  : bytesT P 18 = some 8 := by subst hP; kernel_rfl
theorem sz19 {P : Program} (hP : P = Try.prog)  : szT P 19 = some 1 := by subst hP; kernel_rfl
theorem ag19 {P : Program} (hP : P = Try.prog)  : aggT P 19 = some true := by subst hP; kernel_rfl
theorem ze19 {P : Program} (hP : P = Try.prog)  : zeroL P 19 = some [.nilp] := by subst hP; kernel_rfl
theorem by19 {P : Program} (hP : P = Try.prog)  : bytesT P 19 = some 8 := by subst hP; kernel_rfl
theorem sz21 {P : Program} (hP : P = Try.prog)  : szT P 21 = some 1 := by subst hP; kernel_rfl
theorem ag21 {P : Program} (hP : P = Try.prog)  : aggT P 21 = some false := by subst hP; kernel_rfl
theorem ze21 {P : Program} (hP : P = Try.prog)  : zeroL P 21 = some [.int .i32 0] := by subst hP; kernel_rfl
theorem by21 {P : Program} (hP : P = Try.prog)  : bytesT P 21 = some 4 := by subst hP; kernel_rfl
theorem sz22 {P : Program} (hP : P = Try.prog)  : szT P 22 = some 1 := by subst hP; kernel_rfl
theorem ag22 {P : Program} (hP : P = Try.prog)  : aggT P 22 = some false := by subst hP; kernel_rfl
theorem ze22 {P : Program} (hP : P = Try.prog)  : zeroL P 22 = some [.nils] := by subst hP; kernel_rfl
theorem by22 {P : Program} (hP : P = Try.prog)  : bytesT P 22 = some 24 := by subst hP; kernel_rfl
theorem sz25 {P : Program} (hP : P = Try.prog)  : szT P 25 = some 1 := by subst hP; kernel_rfl
theorem ag25 {P : Program} (hP : P = Try.prog)  : aggT P 25 = some false := by subst hP; kernel_rfl
theorem ze25 {P : Program} (hP : P = Try.prog)  : zeroL P 25 = some [.nils] := by subst hP; kernel_rfl
theorem by25 {P : Program} (hP : P = Try.prog)  : bytesT P 25 = some 24 := by subst hP; kernel_rfl
theorem sz27 {P : Program} (hP : P = Try.prog)  : szT P 27 = some 1 := by subst hP; kernel_rfl
theorem ag27 {P : Program} (hP : P = Try.prog)  : aggT P 27 = some false := by subst hP; kernel_rfl
theorem ze27 {P : Program} (hP : P = Try.prog)  : zeroL P 27 = some [.nils] := by subst hP; kernel_rfl
theorem by27 {P : Program} (hP : P = Try.prog)  : bytesT P 27 = some 24 := by subst hP; kernel_rfl
theorem sz29 {P : Program} (hP : P = Try.prog)  : szT P 29 = some 1 := by subst hP; kernel_rfl
theorem ag29 {P : Program} (hP : P = Try.prog)  : aggT P 29 = some false := by subst hP; kernel_rfl
theorem ze29 {P : Program} (hP : P = Try.prog)  : zeroL P 29 = some [.nils] := by subst hP; kernel_rfl
theorem by29 {P : Program} (hP : P = Try.prog)  : bytesT P 29 = some 24 := by subst hP; kernel_rfl
theorem sz31 {P : Program} (hP : P = Try.prog)  : szT P 31 = some 2 := by subst hP; kernel_rfl
theorem ag31 {P : Program} (hP : P = Try.prog)  : aggT P 31 = some true := by subst hP; kernel_rfl
theorem ze31 {P : Program} (hP : P = Try.prog)  : zeroL P 31 = some [.int .i64 0, .int .i64 0] := by subst hP; kernel_rfl
theorem by31 {P : Program} (hP : P = Try.prog)  : bytesT P 31 = some 16 := by subst hP; kernel_rfl
theorem sz32 {P : Program} (hP : P = Try.prog)  : szT P 32 = some 2 := by subst hP; kernel_rfl
theorem ag32 {P : Program} (hP : P = Try.prog)  : aggT P 32 = some true := by subst hP; kernel_rfl
theorem ze32 {P : Program} (hP : P = Try.prog)  : zeroL P 32 = some [.int .i64 0, .int .i64 0] := by subst hP; kernel_rfl
theorem by32 {P : Program} (hP : P = Try.prog)  : bytesT P 32 = some 16 := by subst hP; kernel_rfl
theorem sz35 {P : Program} (hP : P = Try.prog)  : szT P 35 = some 2 := by subst hP; kernel_rfl
theorem ag35 {P : Program} (hP : P = Try.prog)  : aggT P 35 = some true := by subst hP; kernel_rfl
theorem ze35 {P : Program} (hP : P = Try.prog)  : zeroL P 35 = some [.int .i64 0, .int .i64 0] := by subst hP; kernel_rfl
theorem by35 {P : Program} (hP : P = Try.prog)  : bytesT P 35 = some 16 := by subst hP; kernel_rfl
theorem sz36 {P : Program} (hP : P = Try.prog)  : szT P 36 = some 1 := by subst hP; kernel_rfl
theorem ag36 {P : Program} (hP : P = Try.prog)  : aggT P 36 = some false := by subst hP; kernel_rfl
theorem ze36 {P : Program} (hP : P = Try.prog)  : zeroL P 36 = some [.int .u32 0] := by subst hP; kernel_rfl
theorem by36 {P : Program} (hP : P = Try.prog)  : bytesT P 36 = some 4 := by subst hP; kernel_rfl
theorem sz37 {P : Program} (hP : P = Try.prog)  : szT P 37 = some 8 := by subst hP; kernel_rfl
theorem ag37 {P : Program} (hP : P = Try.prog)  : aggT P 37 = some true := by subst hP; kernel_rfl
theorem ze37 {P : Program} (hP : P = Try.prog)  : zeroL P 37 = some [.int .u32 0, .int .u32 0, .int .u32 0, .int .u32 0, .int .u32 0, .int .u32 0, .int .u32 0, .int .u32 0] := by subst hP; kernel_rfl
theorem by37 {P : Program} (hP : P = Try.prog)  : bytesT P 37 = some 32 := by subst hP; kernel_rfl
theorem sz38 {P : Program} (hP : P = Try.prog)  : szT P 38 = some 8 := by subst hP; kernel_rfl
theorem ag38 {P : Program} (hP : P = Try.prog)  : aggT P 38 = some true := by subst hP; kernel_rfl
theorem ze38 {P : Program} (hP : P = Try.prog)  : zeroL P 38 = some [.int .u32 0, .int .u32 0, .int .u32 0, .int .u32 0, .int .u32 0, .int .u32 0, .int .u32 0, .int .u32 0] := by subst hP; kernel_rfl
theorem by38 {P : Program} (hP : P = Try.prog)  : bytesT P 38 = some 32 := by subst hP; kernel_rfl
theorem sz39 {P : Program} (hP : P = Try.prog)  : szT P 39 = some 1 := by subst hP; kernel_rfl
theorem ag39 {P : Program} (hP : P = Try.prog)  : aggT P 39 = some false := by subst hP; kernel_rfl
theorem ze39 {P : Program} (hP : P = Try.prog)  : zeroL P 39 = some [.int .u64 0] := by subst hP; kernel_rfl
theorem by39 {P : Program} (hP : P = Try.prog)  : bytesT P 39 = some 8 := by subst hP; kernel_rfl
theorem sz40 {P : Program} (hP : P = Try.prog)  : szT P 40 = some 12 := by subst hP; kernel_rfl
theorem ag40 {P : Program} (hP : P = Try.prog)  : aggT P 40 = some true := by subst hP; kernel_rfl
theorem ze40 {P : Program} (hP : P = Try.prog)  : zeroL P 40 = some [.int .i64 0, .int .i64 0, .bool false, .int .u32 0, .int .u32 0, .int .u32 0, .int .u32 0, .int .u32 0, .int .u32 0, .int .u32 0, .int .u32 0, .int .u64 0] := by subst hP; kernel_rfl
theorem by40 {P : Program} (hP : P = Try.prog)  : bytesT P 40 = some 64 := by subst hP; kernel_rfl
theorem sz41 {P : Program} (hP : P = Try.prog)  : szT P 41 = some 12 := by subst hP; kernel_rfl
theorem ag41 {P : Program} (hP : P = Try.prog)  : aggT P 41 = some true := by subst hP; kernel_rfl
theorem ze41 {P : Program} (hP : P = Try.prog)  : zeroL P 41 = some [.int .i64 0, .int .i64 0, .bool false, .int .u32 0, .int .u32 0, .int .u32 0, .int .u32 0, .int .u32 0, .int .u32 0, .int .u32 0, .int .u32 0, .int .u64 0] := by subst hP; kernel_rfl
theorem by41 {P : Program} (hP : P = Try.prog)  : bytesT P 41 = some 64 := by subst hP; kernel_rfl
theorem sz44 {P : Program} (hP : P = Try.prog)  : szT P 44 = some 3 := by subst hP; kernel_rfl
theorem ag44 {P : Program} (hP : P = Try.prog)  : aggT P 44 = some true := by subst hP; kernel_rfl
theorem ze44 {P : Program} (hP : P = Try.prog)  : zeroL P 44 = some [.int .i64 0, .int .i64 0, .int .u64 0] := by subst hP; kernel_rfl
theorem by44 {P : Program} (hP : P = Try.prog)  : bytesT P 44 = some 24 := by subst hP; kernel_rfl
theorem sz45 {P : Program} (hP : P = Try.prog)  : szT P 45 = some 3 := by subst hP; kernel_rfl
theorem ag45 {P : Program} (hP : P = Try.prog)  : aggT P 45 = some true := by subst hP; kernel_rfl
theorem ze45 {P : Program} (hP : P = Try.prog)  : zeroL P 45 = some [.int .i64 0, .int .i64 0, .int .u64 0] := by subst hP; kernel_rfl
theorem by45 {P : Program} (hP : P = Try.prog)  : bytesT P 45 = some 24 := by subst hP; kernel_rfl
theorem sz47 {P : Program} (hP : P = Try.prog)  : szT P 47 = some 1 := by subst hP; kernel_rfl
theorem ag47 {P : Program} (hP : P = Try.prog)  : aggT P 47 = some false := by subst hP; kernel_rfl
theorem ze47 {P : Program} (hP : P = Try.prog)  : zeroL P 47 = some [.nils] := by subst hP; kernel_rfl
theorem by47 {P : Program} (hP : P = Try.prog)  : bytesT P 47 = some 24 := by subst hP; kernel_rfl
theorem sz50 {P : Program} (hP : P = Try.prog)  : szT P 50 = some 1 := by subst hP; kernel_rfl
theorem ag50 {P : Program} (hP : P = Try.prog)  : aggT P 50 = some false := by subst hP; kernel_rfl
theorem ze50 {P : Program} (hP : P = Try.prog)  : zeroL P 50 = some [.nils] := by subst hP; kernel_rfl
theorem by50 {P : Program} (hP : P = Try.prog)  : bytesT P 50 = some 24 := by subst hP; kernel_rfl
theorem sz51 {P : Program} (hP : P = Try.prog)  : szT P 51 = some 1 := by subst hP; kernel_rfl
theorem ag51 {P : Program} (hP : P = Try.prog)  : aggT P 51 = some false := by subst hP; kernel_rfl
theorem ze51 {P : Program} (hP : P = Try.prog)  : zeroL P 51 = some [.nilp] := by subst hP; kernel_rfl
theorem by51 {P : Program} (hP : P = Try.prog)  : bytesT P 51 = some 8 := by subst hP; kernel_rfl
theorem sz52 {P : Program} (hP : P = Try.prog)  : szT P 52 = some 1 := by subst hP; kernel_rfl
theorem ag52 {P : Program} (hP : P = Try.prog)  : aggT P 52 = some false := by subst hP; kernel_rfl
theorem ze52 {P : Program} (hP : P = Try.prog)  : zeroL P 52 = some [.int .i64 0] := by subst hP; kernel_rfl
theorem by52 {P : Program} (hP : P = Try.prog)  : bytesT P 52 = some 8 := by subst hP; kernel_rfl
theorem sz55 {P : Program} (hP : P = Try.prog)  : szT P 55 = some 3 := by subst hP; kernel_rfl
theorem ag55 {P : Program} (hP : P = Try.prog)  : aggT P 55 = some true := by subst hP; kernel_rfl
theorem ze55 {P : Program} (hP : P = Try.prog)  : zeroL P 55 = some [.int .u8 0, .int .i64 0, .int .u64 0] := by subst hP; kernel_rfl
theorem by55 {P : Program} (hP : P = Try.prog)  : bytesT P 55 = some 24 := by subst hP; kernel_rfl
theorem sz56 {P : Program} (hP : P = Try.prog)  : szT P 56 = some 3 := by subst hP; kernel_rfl
theorem ag56 {P : Program} (hP : P = Try.prog)  : aggT P 56 = some true := by subst hP; kernel_rfl
theorem ze56 {P : Program} (hP : P = Try.prog)  : zeroL P 56 = some [.int .u8 0, .int .i64 0, .int .u64 0] := by subst hP; kernel_rfl
theorem by56 {P : Program} (hP : P = Try.prog)  : bytesT P 56 = some 24 := by subst hP; kernel_rfl
theorem sz59 {P : Program} (hP : P = Try.prog)  : szT P 59 = some 1 := by subst hP; kernel_rfl
theorem ag59 {P : Program} (hP : P = Try.prog)  : aggT P 59 = some false := by subst hP; kernel_rfl
theorem ze59 {P : Program} (hP : P = Try.prog)  : zeroL P 59 = some [.nils] := by subst hP; kernel_rfl
theorem by59 {P : Program} (hP : P = Try.prog)  : bytesT P 59 = some 24 := by subst hP; kernel_rfl
theorem sz61 {P : Program} (hP : P = Try.prog)  : szT P 61 = some 2 := by subst hP; kernel_rfl
theorem ag61 {P : Program} (hP : P = Try.prog)  : aggT P 61 = some true := by subst hP; kernel_rfl
theorem ze61 {P : Program} (hP : P = Try.prog)  : zeroL P 61 = some [.int .i64 0, .int .u64 0] := by subst hP; kernel_rfl
theorem by61 {P : Program} (hP : P = Try.prog)  : bytesT P 61 = some 16 := by subst hP; kernel_rfl
theorem sz62 {P : Program} (hP : P = Try.prog)  : szT P 62 = some 2 := by subst hP; kernel_rfl
theorem ag62 {P : Program} (hP : P = Try.prog)  : aggT P 62 = some true := by subst hP; kernel_rfl
theorem ze62 {P : Program} (hP : P = Try.prog)  : zeroL P 62 = some [.int .i64 0, .int .u64 0] := by subst hP; kernel_rfl
theorem by62 {P : Program} (hP : P = Try.prog)  : bytesT P 62 = some 16 := by subst hP; kernel_rfl
theorem sz72 {P : Program} (hP : P = Try.prog)  : szT P 72 = some 1 := by subst hP; kernel_rfl
theorem ag72 {P : Program} (hP : P = Try.prog)  : aggT P 72 = some false := by subst hP; kernel_rfl
theorem ze72 {P : Program} (hP : P = Try.prog)  : zeroL P 72 = some [.nils] := by subst hP; kernel_rfl
theorem by72 {P : Program} (hP : P = Try.prog)  : bytesT P 72 = some 24 := by subst hP; kernel_rfl
theorem sz73 {P : Program} (hP : P = Try.prog)  : szT P 73 = some 2 := by subst hP; kernel_rfl
theorem ag73 {P : Program} (hP : P = Try.prog)  : aggT P 73 = some true := by subst hP; kernel_rfl
theorem ze73 {P : Program} (hP : P = Try.prog)  : zeroL P 73 = some [.int .i64 0, .nils] := by subst hP; kernel_rfl
theorem by73 {P : Program} (hP : P = Try.prog)  : bytesT P 73 = some 32 := by subst hP; kernel_rfl
theorem sz74 {P : Program} (hP : P = Try.prog)  : szT P 74 = some 2 := by subst hP; kernel_rfl
theorem ag74 {P : Program} (hP : P = Try.prog)  : aggT P 74 = some true := by subst hP; kernel_rfl
theorem ze74 {P : Program} (hP : P = Try.prog)  : zeroL P 74 = some [.int .i64 0, .nils] := by subst hP; kernel_rfl
theorem by74 {P : Program} (hP : P = Try.prog)  : bytesT P 74 = some 32 := by subst hP; kernel_rfl
theorem sz77 {P : Program} (hP : P = Try.prog)  : szT P 77 = some 2 := by subst hP; kernel_rfl
theorem ag77 {P : Program} (hP : P = Try.prog)  : aggT P 77 = some true := by subst hP; kernel_rfl
theorem ze77 {P : Program} (hP : P = Try.prog)  : zeroL P 77 = some [.int .i64 0, .int .u64 0] := by subst hP; kernel_rfl
theorem by77 {P : Program} (hP : P = Try.prog)  : bytesT P 77 = some 16 := by subst hP; kernel_rfl
theorem sz85 {P : Program} (hP : P = Try.prog)  : szT P 85 = some 1 := by subst hP; kernel_rfl
theorem ag85 {P : Program} (hP : P = Try.prog)  : aggT P 85 = some false := by subst hP; kernel_rfl
theorem ze85 {P : Program} (hP : P = Try.prog)  : zeroL P 85 = some [.nilp] := by subst hP; kernel_rfl
theorem by85 {P : Program} (hP : P = Try.prog)  : bytesT P 85 = some 8 := by subst hP; kernel_rfl
theorem sz87 {P : Program} (hP : P = Try.prog)  : szT P 87 = some 2 := by subst hP; kernel_rfl
theorem ag87 {P : Program} (hP : P = Try.prog)  : aggT P 87 = some true := by subst hP; kernel_rfl
theorem ze87 {P : Program} (hP : P = Try.prog)  : zeroL P 87 = some [.int .i64 0, .nils] := by subst hP; kernel_rfl
theorem by87 {P : Program} (hP : P = Try.prog)  : bytesT P 87 = some 32 := by subst hP; kernel_rfl
theorem sz88 {P : Program} (hP : P = Try.prog)  : szT P 88 = some 2 := by subst hP; kernel_rfl
theorem ag88 {P : Program} (hP : P = Try.prog)  : aggT P 88 = some true := by subst hP; kernel_rfl
theorem ze88 {P : Program} (hP : P = Try.prog)  : zeroL P 88 = some [.int .i64 0, .nils] := by subst hP; kernel_rfl
theorem by88 {P : Program} (hP : P = Try.prog)  : bytesT P 88 = some 32 := by subst hP; kernel_rfl
theorem sz89 {P : Program} (hP : P = Try.prog)  : szT P 89 = some 1 := by subst hP; kernel_rfl
theorem ag89 {P : Program} (hP : P = Try.prog)  : aggT P 89 = some false := by subst hP; kernel_rfl
theorem ze89 {P : Program} (hP : P = Try.prog)  : zeroL P 89 = some [.nils] := by subst hP; kernel_rfl
theorem by89 {P : Program} (hP : P = Try.prog)  : bytesT P 89 = some 24 := by subst hP; kernel_rfl
theorem sz91 {P : Program} (hP : P = Try.prog)  : szT P 91 = some 1 := by subst hP; kernel_rfl
theorem ag91 {P : Program} (hP : P = Try.prog)  : aggT P 91 = some false := by subst hP; kernel_rfl
theorem ze91 {P : Program} (hP : P = Try.prog)  : zeroL P 91 = some [.nils] := by subst hP; kernel_rfl
theorem by91 {P : Program} (hP : P = Try.prog)  : bytesT P 91 = some 24 := by subst hP; kernel_rfl
theorem sz92 {P : Program} (hP : P = Try.prog)  : szT P 92 = some 1 := by subst hP; kernel_rfl
theorem ag92 {P : Program} (hP : P = Try.prog)  : aggT P 92 = some false := by subst hP; kernel_rfl
theorem ze92 {P : Program} (hP : P = Try.prog)  : zeroL P 92 = some [.nilp] := by subst hP; kernel_rfl
theorem by92 {P : Program} (hP : P = Try.prog)  : bytesT P 92 = some 8 := by subst hP; kernel_rfl
theorem sz95 {P : Program} (hP : P = Try.prog)  : szT P 95 = some 3 := by subst hP; kernel_rfl
theorem ag95 {P : Program} (hP : P = Try.prog)  : aggT P 95 = some true := by subst hP; kernel_rfl
theorem ze95 {P : Program} (hP : P = Try.prog)  : zeroL P 95 = some [.int .i64 0, .int .i64 0, .int .i64 0] := by subst hP; kernel_rfl
theorem by95 {P : Program} (hP : P = Try.prog)  : bytesT P 95 = some 24 := by subst hP; kernel_rfl
theorem sz97 {P : Program} (hP : P = Try.prog)  : szT P 97 = some 5 := by subst hP; kernel_rfl
theorem ag97 {P : Program} (hP : P = Try.prog)  : aggT P 97 = some true := by subst hP; kernel_rfl
theorem ze97 {P : Program} (hP : P = Try.prog)  : zeroL P 97 = some [.int .i64 0, .int .i64 0, .int .i64 0, .int .i64 0, .int .i64 0] := by subst hP; kernel_rfl
theorem by97 {P : Program} (hP : P = Try.prog)  : bytesT P 97 = some 40 := by subst hP; kernel_rfl
theorem sz98 {P : Program} (hP : P = Try.prog)  : szT P 98 = some 5 := by subst hP; kernel_rfl
theorem ag98 {P : Program} (hP : P = Try.prog)  : aggT P 98 = some true := by subst hP; kernel_rfl
theorem ze98 {P : Program} (hP : P = Try.prog)  : zeroL P 98 = some [.int .i64 0, .int .i64 0, .int .i64 0, .int .i64 0, .int .i64 0] := by subst hP; kernel_rfl
theorem by98 {P : Program} (hP : P = Try.prog)  : bytesT P 98 = some 40 := by subst hP; kernel_rfl
theorem sz100 {P : Program} (hP : P = Try.prog)  : szT P 100 = some 5 := by subst hP; kernel_rfl
theorem ag100 {P : Program} (hP : P = Try.prog)  : aggT P 100 = some true := by subst hP; kernel_rfl
theorem ze100 {P : Program} (hP : P = Try.prog)  : zeroL P 100 = some [.int .i64 0, .int .i64 0, .int .i64 0, .int .i64 0, .int .i64 0] := by subst hP; kernel_rfl
theorem by100 {P : Program} (hP : P = Try.prog)  : bytesT P 100 = some 40 := by subst hP; kernel_rfl
theorem sz101 {P : Program} (hP : P = Try.prog)  : szT P 101 = some 5 := by subst hP; kernel_rfl
theorem ag101 {P : Program} (hP : P = Try.prog)  : aggT P 101 = some true := by subst hP; kernel_rfl
theorem ze101 {P : Program} (hP : P = Try.prog)  : zeroL P 101 = some [.int .i64 0, .int .i64 0, .int .i64 0, .int .i64 0, .int .i64 0] := by subst hP; kernel_rfl
theorem by101 {P : Program} (hP : P = Try.prog)  : bytesT P 101 = some 40 := by subst hP; kernel_rfl
theorem sz105 {P : Program} (hP : P = Try.prog)  : szT P 105 = some 8 := by subst hP; kernel_rfl
theorem ag105 {P : Program} (hP : P = Try.prog)  : aggT P 105 = some true := by subst hP; kernel_rfl
theorem ze105 {P : Program} (hP : P = Try.prog)  : zeroL P 105 = some [.int .i64 0, .int .i64 0, .int .i64 0, .int .i64 0, .int .i64 0, .int .i64 0, .int .i64 0, .int .i64 0] := by subst hP; kernel_rfl
theorem by105 {P : Program} (hP : P = Try.prog)  : bytesT P 105 = some 64 := by subst hP; kernel_rfl
theorem sz106 {P : Program} (hP : P = Try.prog)  : szT P 106 = some 8 := by subst hP; kernel_rfl
theorem ag106 {P : Program} (hP : P = Try.prog)  : aggT P 106 = some true := by subst hP; kernel_rfl
theorem ze106 {P : Program} (hP : P = Try.prog)  : zeroL P 106 = some [.bool false, .bool false, .bool false, .bool false, .bool false, .bool false, .bool false, .bool false] := by subst hP; kernel_rfl
theorem by106 {P : Program} (hP : P = Try.prog)  : bytesT P 106 = some 8 := by subst hP; kernel_rfl
theorem sz107 {P : Program} (hP : P = Try.prog)  : szT P 107 = some 3 := by subst hP; kernel_rfl
theorem ag107 {P : Program} (hP : P = Try.prog)  : aggT P 107 = some true := by subst hP; kernel_rfl
theorem ze107 {P : Program} (hP : P = Try.prog)  : zeroL P 107 = some [.int .i64 0, .int .i64 0, .int .i64 0] := by subst hP; kernel_rfl
theorem by107 {P : Program} (hP : P = Try.prog)  : bytesT P 107 = some 24 := by subst hP; kernel_rfl
theorem sz108 {P : Program} (hP : P = Try.prog)  : szT P 108 = some 3 := by subst hP; kernel_rfl
theorem ag108 {P : Program} (hP : P = Try.prog)  : aggT P 108 = some true := by subst hP; kernel_rfl
theorem ze108 {P : Program} (hP : P = Try.prog)  : zeroL P 108 = some [.int .i64 0, .int .i64 0, .int .i64 0] := by subst hP; kernel_rfl
theorem by108 {P : Program} (hP : P = Try.prog)  : bytesT P 108 = some 24 := by subst hP; kernel_rfl
theorem sz109 {P : Program} (hP : P = Try.prog)  : szT P 109 = some 24 := by subst hP; kernel_rfl
theorem ag109 {P : Program} (hP : P = Try.prog)  : aggT P 109 = some true := by subst hP; kernel_rfl
theorem ze109 {P : Program} (hP : P = Try.prog)  : zeroL P 109 = some [.int .i64 0, .int .i64 0, .int .i64 0, .int .i64 0, .int .i64 0, .int .i64 0, .int .i64 0, .int .i64 0, .int .i64 0, .int .i64 0, .int .i64 0, .int .i64 0, .int .i64 0, .int .i64 0, .int .i64 0, .int .i64 0, .int .i64 0, .int .i64 0, .int .i64 0, .int .i64 0, .int .i64 0, .int .i64 0, .int .i64 0, .int .i64 0] := by subst hP; kernel_rfl
theorem by109 {P : Program} (hP : P = Try.prog)  : bytesT P 109 = some 192 := by subst hP; kernel_rfl
theorem sz110 {P : Program} (hP : P = Try.prog)  : szT P 110 = some 192 := by subst hP; kernel_rfl
theorem ag110 {P : Program} (hP : P = Try.prog)  : aggT P 110 = some true := by subst hP; kernel_rfl
theorem ze110 {P : Program} (hP : P = Try.prog)  : zeroL P 110 = some [.int .i64 0, .int .i64 0, .int .i64 0, .int .i64 0, .int .i64 0, .int .i64 0, .int .i64 0, .int .i64 0, .int .i64 0, .int .i64 0, .int .i64 0, .int .i64 0, .int .i64 0, .int .i64 0, .int .i64 0, .int .i64 0, .int .i64 0, .int .i64 0, .int .i64 0, .int .i64 0, .int .i64 0, .int .i64 0, .int .i64 0, .int .i64 0, .int .i64 0, .int .i64 0, .int .i64 0, .int .i64 0, .int .i64 0, .int .i64 0, .int .i64 0, .int .i64 0, .int .i64 0, .int .i64 0, .int .i64 0, .int .i64 0, .int .i64 0, .int .i64 0, .int .i64 0, .int .i64 0, .int .i64 0, .int .i64 0, .int .i64 0, .int .i64 0, .int .i64 0, .int .i64 0, .int .i64 0, .int .i64 0, .int .i64 0, .int .i64 0, .int .i64 0, .int .i64 0, .int .i64 0, .int .i64 0, .int .i64 0, .int .i64 0, .int .i64 0, .int .i64 0, .int .i64 0, .int .i64 0, .int .i64 0, .int .i64 0, .int .i64 0, .int .i64 0, .int .i64 0, .int .i64 0, .int .i64 0, .int .i64 0, .int .i64 0, .int .i64 0, .int .i64 0, .int .i64 0, .int .i64 0, .int .i64 0, .int .i64 0, .int .i64 0, .int .i64 0, .int .i64 0, .int .i64 0, .int .i64 0, .int .i64 0, .int .i64 0, .int .i64 0, .int .i64 0, .int .i64 0, .int .i64 0, .int .i64 0, .int .i64 0, .int .i64 0, .int .i64 0, .int .i64 0, .int .i64 0, .int .i64 0, .int .i64 0, .int .i64 0, .int .i64 0, .int .i64 0, .int .i64 0, .int .i64 0, .int .i64 0, .int .i64 0, .int .i64 0, .int .i64 0, .int .i64 0, .int .i64 0, .int .i64 0, .int .i64 0, .int .i64 0, .int .i64 0, .int .i64 0, .int .i64 0, .int .i64 0, .int .i64 0, .int .i64 0, .int .i64 0, .int .i64 0, .int .i64 0, .int .i64 0, .int .i64 0, .int .i64 0, .int .i64 0, .int .i64 0, .int .i64 0, .int .i64 0, .int .i64 0, .int .i64 0, .int .i64 0, .int .i64 0, .int .i64 0, .int .i64 0, .int .i64 0, .int .i64 0, .int .i64 0, .int .i64 0, .int .i64 0, .int .i64 0, .int .i64 0, .int .i64 0, .int .i64 0, .int .i64 0, .int .i64 0, .int .i64 0, .int .i64 0, .int .i64 0, .int .i64 0, .int .i64 0, .int .i64 0, .int .i64 0, .int .i64 0, .int .i64 0, .int .i64 0, .int .i64 0, .int .i64 0, .int .i64 0, .int .i64 0, .int .i64 0, .int .i64 0, .int .i64 0, .int .i64 0, .int .i64 0, .int .i64 0, .int .i64 0, .int .i64 0, .int .i64 0, .int .i64 0, .int .i64 0, .int .i64 0, .int .i64 0, .int .i64 0, .int .i64 0, .int .i64 0, .int .i64 0, .int .i64 0, .int .i64 0, .int .i64 0, .int .i64 0, .int .i64 0, .int .i64 0, .int .i64 0, .int .i64 0, .int .i64 0, .int .i64 0, .int .i64 0, .int .i64 0, .int .i64 0, .int .i64 0, .int .i64 0, .int .i64 0, .int .i64 0, .int .i64 0, .int .i64 0, .int .i64 0] := by subst hP; kernel_rfl
theorem by110 {P : Program} (hP : P = Try.prog)  : bytesT P 110 = some 1536 := by subst hP; kernel_rfl
theorem sz111 {P : Program} (hP : P = Try.prog)  : szT P 111 = some 227 := by subst hP; kernel_rfl
theorem ag111 {P : Program} (hP : P = Try.prog)  : aggT P 111 = some true := by subst hP; kernel_rfl
theorem ze111 {P : Program} (hP : P = Try.prog)  : zeroL P 111 = some [.int .i64 0, .int .i64 0, .int .i64 0, .int .i64 0, .int .i64 0, .int .i64 0, .int .i64 0, .int .i64 0, .int .i64 0, .int .i64 0, .int .i64 0, .int .i64 0, .int .i64 0, .int .i64 0, .int .i64 0, .int .i64 0, .int .i64 0, .int .i64 0, .int .i64 0, .int .i64 0, .int .i64 0, .int .i64 0, .int .i64 0, .int .i64 0, .int .i64 0, .int .i64 0, .int .i64 0, .bool false, .bool false, .bool false, .bool false, .bool false, .bool false, .bool false, .bool false, .int .i64 0, .int .i64 0, .int .i64 0, .int .i64 0, .int .i64 0, .int .i64 0, .int .i64 0, .int .i64 0, .int .i64 0, .int .i64 0, .int .i64 0, .int .i64 0, .int .i64 0, .int .i64 0, .int .i64 0, .int .i64 0, .int .i64 0, .int .i64 0, .int .i64 0, .int .i64 0, .int .i64 0, .int .i64 0, .int .i64 0, .int .i64 0, .int .i64 0, .int .i64 0, .int .i64 0, .int .i64 0, .int .i64 0, .int .i64 0, .int .i64 0, .int .i64 0, .int .i64 0, .int .i64 0, .int .i64 0, .int .i64 0, .int .i64 0, .int .i64 0, .int .i64 0, .int .i64 0, .int .i64 0, .int .i64 0, .int .i64 0, .int .i64 0, .int .i64 0, .int .i64 0, .int .i64 0, .int .i64 0, .int .i64 0, .int .i64 0, .int .i64 0, .int .i64 0, .int .i64 0, .int .i64 0, .int .i64 0, .int .i64 0, .int .i64 0, .int .i64 0, .int .i64 0, .int .i64 0, .int .i64 0, .int .i64 0, .int .i64 0, .int .i64 0, .int .i64 0, .int .i64 0, .int .i64 0, .int .i64 0, .int .i64 0, .int .i64 0, .int .i64 0, .int .i64 0, .int .i64 0, .int .i64 0, .int .i64 0, .int .i64 0, .int .i64 0, .int .i64 0, .int .i64 0, .int .i64 0, .int .i64 0, .int .i64 0, .int .i64 0, .int .i64 0, .int .i64 0, .int .i64 0, .int .i64 0, .int .i64 0, .int .i64 0, .int .i64 0, .int .i64 0, .int .i64 0, .int .i64 0, .int .i64 0, .int .i64 0, .int .i64 0, .int .i64 0, .int .i64 0, .int .i64 0, .int .i64 0, .int .i64 0, .int .i64 0, .int .i64 0, .int .i64 0, .int .i64 0, .int .i64 0, .int .i64 0, .int .i64 0, .int .i64 0, .int .i64 0, .int .i64 0, .int .i64 0, .int .i64 0, .int .i64 0, .int .i64 0, .int .i64 0, .int .i64 0, .int .i64 0, .int .i64 0, .int .i64 0, .int .i64 0, .int .i64 0, .int .i64 0, .int .i64 0, .int .i64 0, .int .i64 0, .int .i64 0, .int .i64 0, .int .i64 0, .int .i64 0, .int .i64 0, .int .i64 0, .int .i64 0, .int .i64 0, .int .i64 0, .int .i64 0, .int .i64 0, .int .i64 0, .int .i64 0, .int .i64 0, .int .i64 0, .int .i64 0, .int .i64 0, .int .i64 0, .int .i64 0, .int .i64 0, .int .i64 0, .int .i64 0, .int .i64 0, .int .i64 0, .int .i64 0, .int .i64 0, .int .i64 0, .int .i64 0, .int .i64 0, .int .i64 0, .int .i64 0, .int .i64 0, .int .i64 0, .int .i64 0, .int .i64 0, .int .i64 0, .int .i64 0, .int .i64 0, .int .i64 0, .int .i64 0, .int .i64 0, .int .i64 0, .int .i64 0, .int .i64 0, .int .i64 0, .int .i64 0, .int .i64 0, .int .i64 0, .int .i64 0, .int .i64 0, .int .i64 0, .int .i64 0, .int .i64 0, .int .i64 0, .int .i64 0, .int .i64 0, .int .i64 0, .int .i64 0, .int .i64 0, .int .i64 0, .int .i64 0, .int .i64 0, .int .i64 0, .int .i64 0, .int .i64 0, .int .i64 0] := by subst hP; kernel_rfl
theorem by111 {P : Program} (hP : P = Try.prog)  : bytesT P 111 = some 1760 := by subst hP; kernel_rfl
theorem sz112 {P : Program} (hP : P = Try.prog)  : szT P 112 = some 227 := by subst hP; kernel_rfl
theorem ag112 {P : Program} (hP : P = Try.prog)  : aggT P 112 = some true := by subst hP; kernel_rfl
theorem ze112 {P : Program} (hP : P = Try.prog)  : zeroL P 112 = some [.int .i64 0, .int .i64 0, .int .i64 0, .int .i64 0, .int .i64 0, .int .i64 0, .int .i64 0, .int .i64 0, .int .i64 0, .int .i64 0, .int .i64 0, .int .i64 0, .int .i64 0, .int .i64 0, .int .i64 0, .int .i64 0, .int .i64 0, .int .i64 0, .int .i64 0, .int .i64 0, .int .i64 0, .int .i64 0, .int .i64 0, .int .i64 0, .int .i64 0, .int .i64 0, .int .i64 0, .bool false, .bool false, .bool false, .bool false, .bool false, .bool false, .bool false, .bool false, .int .i64 0, .int .i64 0, .int .i64 0, .int .i64 0, .int .i64 0, .int .i64 0, .int .i64 0, .int .i64 0, .int .i64 0, .int .i64 0, .int .i64 0, .int .i64 0, .int .i64 0, .int .i64 0, .int .i64 0, .int .i64 0, .int .i64 0, .int .i64 0, .int .i64 0, .int .i64 0, .int .i64 0, .int .i64 0, .int .i64 0, .int .i64 0, .int .i64 0, .int .i64 0, .int .i64 0, .int .i64 0, .int .i64 0, .int .i64 0, .int .i64 0, .int .i64 0, .int .i64 0, .int .i64 0, .int .i64 0, .int .i64 0, .int .i64 0, .int .i64 0, .int .i64 0, .int .i64 0, .int .i64 0, .int .i64 0, .int .i64 0, .int .i64 0, .int .i64 0, .int .i64 0, .int .i64 0, .int .i64 0, .int .i64 0, .int .i64 0, .int .i64 0, .int .i64 0, .int .i64 0, .int .i64 0, .int .i64 0, .int .i64 0, .int .i64 0, .int .i64 0, .int .i64 0, .int .i64 0, .int .i64 0, .int .i64 0, .int .i64 0, .int .i64 0, .int .i64 0, .int .i64 0, .int .i64 0, .int .i64 0, .int .i64 0, .int .i64 0, .int .i64 0, .int .i64 0, .int .i64 0, .int .i64 0, .int .i64 0, .int .i64 0, .int .i64 0, .int .i64 0, .int .i64 0, .int .i64 0, .int .i64 0, .int .i64 0, .int .i64 0, .int .i64 0, .int .i64 0, .int .i64 0, .int .i64 0, .int .i64 0, .int .i64 0, .int .i64 0, .int .i64 0, .int .i64 0, .int .i64 0, .int .i64 0, .int .i64 0, .int .i64 0, .int .i64 0, .int .i64 0, .int .i64 0, .int .i64 0, .int .i64 0, .int .i64 0, .int .i64 0, .int .i64 0, .int .i64 0, .int .i64 0, .int .i64 0, .int .i64 0, .int .i64 0, .int .i64 0, .int .i64 0, .int .i64 0, .int .i64 0, .int .i64 0, .int .i64 0, .int .i64 0, .int .i64 0, .int .i64 0, .int .i64 0, .int .i64 0, .int .i64 0, .int .i64 0, .int .i64 0, .int .i64 0, .int .i64 0, .int .i64 0, .int .i64 0, .int .i64 0, .int .i64 0, .int .i64 0, .int .i64 0, .int .i64 0, .int .i64 0, .int .i64 0, .int .i64 0, .int .i64 0, .int .i64 0, .int .i64 0, .int .i64 0, .int .i64 0, .int .i64 0, .int .i64 0, .int .i64 0, .int .i64 0, .int .i64 0, .int .i64 0, .int .i64 0, .int .i64 0, .int .i64 0, .int .i64 0, .int .i64 0, .int .i64 0, .int .i64 0, .int .i64 0, .int .i64 0, .int .i64 0, .int .i64 0, .int .i64 0, .int .i64 0, .int .i64 0, .int .i64 0, .int .i64 0, .int .i64 0, .int .i64 0, .int .i64 0, .int .i64 0, .int .i64 0, .int .i64 0, .int .i64 0, .int .i64 0, .int .i64 0, .int .i64 0, .int .i64 0, .int .i64 0, .int .i64 0, .int .i64 0, .int .i64 0, .int .i64 0, .int .i64 0, .int .i64 0, .int .i64 0, .int .i64 0, .int .i64 0, .int .i64 0, .int .i64 0, .int .i64 0, .int .i64 0, .int .i64 0, .int .i64 0, .int .i64 0, .int .i64 0, .int .i64 0] := by subst hP; kernel_rfl
theorem by112 {P : Program} (hP : P = Try.prog)  : bytesT P 112 = some 1760 := by subst hP; kernel_rfl
theorem sz121 {P : Program} (hP : P = Try.prog)  : szT P 121 = some 1 := by subst hP; kernel_rfl
theorem ag121 {P : Program} (hP : P = Try.prog)  : aggT P 121 = some false := by subst hP; kernel_rfl
theorem ze121 {P : Program} (hP : P = Try.prog)  : zeroL P 121 = some [.nils] := by subst hP; kernel_rfl
theorem by121 {P : Program} (hP : P = Try.prog)  : bytesT P 121 = some 24 := by subst hP; kernel_rfl
theorem sz122 {P : Program} (hP : P = Try.prog)  : szT P 122 = some 1 := by subst hP; kernel_rfl
theorem ag122 {P : Program} (hP : P = Try.prog)  : aggT P 122 = some false := by subst hP; kernel_rfl
theorem ze122 {P : Program} (hP : P = Try.prog)  : zeroL P 122 = some [.nils] := by subst hP; kernel_rfl
theorem by122 {P : Program} (hP : P = Try.prog)  : bytesT P 122 = some 24 := by subst hP; kernel_rfl
theorem sz123 {P : Program} (hP : P = Try.prog)  : szT P 123 = some 1 := by subst hP; kernel_rfl
theorem ag123 {P : Program} (hP : P = Try.prog)  : aggT P 123 = some false := by subst hP; kernel_rfl
theorem ze123 {P : Program} (hP : P = Try.prog)  : zeroL P 123 = some [.nilm] := by subst hP; kernel_rfl
theorem by123 {P : Program} (hP : P = Try.prog)  : bytesT P 123 = some 8 := by subst hP; kernel_rfl
theorem sz124 {P : Program} (hP : P = Try.prog)  : szT P 124 = some 1 := by subst hP; kernel_rfl
theorem ag124 {P : Program} (hP : P = Try.prog)  : aggT P 124 = some false := by subst hP; kernel_rfl
theorem ze124 {P : Program} (hP : P = Try.prog)  : zeroL P 124 = some [.nilm] := by subst hP; kernel_rfl
theorem by124 {P : Program} (hP : P = Try.prog)  : bytesT P 124 = some 8 := by subst hP; kernel_rfl
theorem sz125 {P : Program} (hP : P = Try.prog)  : szT P 125 = some 5 := by subst hP; kernel_rfl
theorem ag125 {P : Program} (hP : P = Try.prog)  : aggT P 125 = some true := by subst hP; kernel_rfl
theorem ze125 {P : Program} (hP : P = Try.prog)  : zeroL P 125 = some [.int .i64 0, .nils, .nils, .nilm, .nilm] := by subst hP; kernel_rfl
theorem by125 {P : Program} (hP : P = Try.prog)  : bytesT P 125 = some 72 := by subst hP; kernel_rfl
theorem sz126 {P : Program} (hP : P = Try.prog)  : szT P 126 = some 5 := by subst hP; kernel_rfl
theorem ag126 {P : Program} (hP : P = Try.prog)  : aggT P 126 = some true := by subst hP; kernel_rfl
theorem ze126 {P : Program} (hP : P = Try.prog)  : zeroL P 126 = some [.int .i64 0, .nils, .nils, .nilm, .nilm] := by subst hP; kernel_rfl
theorem by126 {P : Program} (hP : P = Try.prog)  : bytesT P 126 = some 72 := by subst hP; kernel_rfl
theorem sz127 {P : Program} (hP : P = Try.prog)  : szT P 127 = some 1 := by subst hP; kernel_rfl
theorem ag127 {P : Program} (hP : P = Try.prog)  : aggT P 127 = some false := by subst hP; kernel_rfl
theorem ze127 {P : Program} (hP : P = Try.prog)  : zeroL P 127 = some [.nils] := by subst hP; kernel_rfl
theorem by127 {P : Program} (hP : P = Try.prog)  : bytesT P 127 = some 24 := by subst hP; kernel_rfl
theorem sz129 {P : Program} (hP : P = Try.prog)  : szT P 129 = some 8 := by subst hP; kernel_rfl
theorem ag129 {P : Program} (hP : P = Try.prog)  : aggT P 129 = some true := by subst hP; kernel_rfl
theorem ze129 {P : Program} (hP : P = Try.prog)  : zeroL P 129 = some [.int .u32 0, .int .u32 0, .int .u32 0, .int .u32 0, .int .u32 0, .int .u32 0, .int .u32 0, .int .u32 0] := by subst hP; kernel_rfl
theorem by129 {P : Program} (hP : P = Try.prog)  : bytesT P 129 = some 32 := by subst hP; kernel_rfl
theorem sz130 {P : Program} (hP : P = Try.prog)  : szT P 130 = some 12 := by subst hP; kernel_rfl
theorem ag130 {P : Program} (hP : P = Try.prog)  : aggT P 130 = some true := by subst hP; kernel_rfl
theorem ze130 {P : Program} (hP : P = Try.prog)  : zeroL P 130 = some [.int .i64 0, .int .i64 0, .bool false, .int .u32 0, .int .u32 0, .int .u32 0, .int .u32 0, .int .u32 0, .int .u32 0, .int .u32 0, .int .u32 0, .int .u64 0] := by subst hP; kernel_rfl
theorem by130 {P : Program} (hP : P = Try.prog)  : bytesT P 130 = some 64 := by subst hP; kernel_rfl
theorem sz131 {P : Program} (hP : P = Try.prog)  : szT P 131 = some 12 := by subst hP; kernel_rfl
theorem ag131 {P : Program} (hP : P = Try.prog)  : aggT P 131 = some true := by subst hP; kernel_rfl
theorem ze131 {P : Program} (hP : P = Try.prog)  : zeroL P 131 = some [.int .i64 0, .int .i64 0, .bool false, .int .u32 0, .int .u32 0, .int .u32 0, .int .u32 0, .int .u32 0, .int .u32 0, .int .u32 0, .int .u32 0, .int .u64 0] := by subst hP; kernel_rfl
theorem by131 {P : Program} (hP : P = Try.prog)  : bytesT P 131 = some 64 := by subst hP; kernel_rfl
theorem sz132 {P : Program} (hP : P = Try.prog)  : szT P 132 = some 1 := by subst hP; kernel_rfl
theorem ag132 {P : Program} (hP : P = Try.prog)  : aggT P 132 = some false := by subst hP; kernel_rfl
theorem ze132 {P : Program} (hP : P = Try.prog)  : zeroL P 132 = some [.nilm] := by subst hP; kernel_rfl
theorem by132 {P : Program} (hP : P = Try.prog)  : bytesT P 132 = some 8 := by subst hP; kernel_rfl
theorem sz134 {P : Program} (hP : P = Try.prog)  : szT P 134 = some 1 := by subst hP; kernel_rfl
theorem ag134 {P : Program} (hP : P = Try.prog)  : aggT P 134 = some false := by subst hP; kernel_rfl
theorem ze134 {P : Program} (hP : P = Try.prog)  : zeroL P 134 = some [.nilm] := by subst hP; kernel_rfl
theorem by134 {P : Program} (hP : P = Try.prog)  : bytesT P 134 = some 8 := by subst hP; kernel_rfl
theorem sz149 {P : Program} (hP : P = Try.prog)  : szT P 149 = some 3 := by subst hP; kernel_rfl
theorem ag149 {P : Program} (hP : P = Try.prog)  : aggT P 149 = some true := by subst hP; kernel_rfl
theorem ze149 {P : Program} (hP : P = Try.prog)  : zeroL P 149 = some [.int .i64 0, .int .i64 0, .int .i64 0] := by subst hP; kernel_rfl
theorem by149 {P : Program} (hP : P = Try.prog)  : bytesT P 149 = some 24 := by subst hP; kernel_rfl
theorem sz150 {P : Program} (hP : P = Try.prog)  : szT P 150 = some 3 := by subst hP; kernel_rfl
theorem ag150 {P : Program} (hP : P = Try.prog)  : aggT P 150 = some true := by subst hP; kernel_rfl
theorem ze150 {P : Program} (hP : P = Try.prog)  : zeroL P 150 = some [.int .i64 0, .int .i64 0, .int .i64 0] := by subst hP; kernel_rfl
theorem by150 {P : Program} (hP : P = Try.prog)  : bytesT P 150 = some 24 := by subst hP; kernel_rfl
theorem sz155 {P : Program} (hP : P = Try.prog)  : szT P 155 = some 2 := by subst hP; kernel_rfl
theorem ag155 {P : Program} (hP : P = Try.prog)  : aggT P 155 = some true := by subst hP; kernel_rfl
theorem ze155 {P : Program} (hP : P = Try.prog)  : zeroL P 155 = some [.int .i64 0, .int .i64 0] := by subst hP; kernel_rfl
theorem by155 {P : Program} (hP : P = Try.prog)  : bytesT P 155 = some 16 := by subst hP; kernel_rfl
theorem sz156 {P : Program} (hP : P = Try.prog)  : szT P 156 = some 2 := by subst hP; kernel_rfl
theorem ag156 {P : Program} (hP : P = Try.prog)  : aggT P 156 = some true := by subst hP; kernel_rfl
theorem ze156 {P : Program} (hP : P = Try.prog)  : zeroL P 156 = some [.int .i64 0, .int .i64 0] := by subst hP; kernel_rfl
theorem by156 {P : Program} (hP : P = Try.prog)  : bytesT P 156 = some 16 := by subst hP; kernel_rfl
theorem sz163 {P : Program} (hP : P = Try.prog)  : szT P 163 = some 2 := by subst hP; kernel_rfl
theorem ag163 {P : Program} (hP : P = Try.prog)  : aggT P 163 = some true := by subst hP; kernel_rfl
theorem ze163 {P : Program} (hP : P = Try.prog)  : zeroL P 163 = some [.int .i64 0, .int .i64 0] := by subst hP; kernel_rfl
theorem by163 {P : Program} (hP : P = Try.prog)  : bytesT P 163 = some 16 := by subst hP; kernel_rfl
theorem sz164 {P : Program} (hP : P = Try.prog)  : szT P 164 = some 2 := by subst hP; kernel_rfl
theorem ag164 {P : Program} (hP : P = Try.prog)  : aggT P 164 = some true := by subst hP; kernel_rfl
theorem ze164 {P : Program} (hP : P = Try.prog)  : zeroL P 164 = some [.int .i64 0, .int .i64 0] := by subst hP; kernel_rfl
theorem by164 {P : Program} (hP : P = Try.prog)  : bytesT P 164 = some 16 := by subst hP; kernel_rfl
theorem sz176 {P : Program} (hP : P = Try.prog)  : szT P 176 = some 1 := by subst hP; kernel_rfl
theorem ag176 {P : Program} (hP : P = Try.prog)  : aggT P 176 = some false := by subst hP; kernel_rfl
theorem ze176 {P : Program} (hP : P = Try.prog)  : zeroL P 176 = some [.int .u64 0] := by subst hP; kernel_rfl
theorem by176 {P : Program} (hP : P = Try.prog)  : bytesT P 176 = some 8 := by subst hP; kernel_rfl
theorem sz187 {P : Program} (hP : P = Try.prog)  : szT P 187 = some 1 := by subst hP; kernel_rfl
theorem ag187 {P : Program} (hP : P = Try.prog)  : aggT P 187 = some false := by subst hP; kernel_rfl
theorem ze187 {P : Program} (hP : P = Try.prog)  : zeroL P 187 = some [.int .i64 0] := by subst hP; kernel_rfl
theorem by187 {P : Program} (hP : P = Try.prog)  : bytesT P 187 = some 8 := by subst hP; kernel_rfl
theorem sz196 {P : Program} (hP : P = Try.prog)  : szT P 196 = some 1 := by subst hP; kernel_rfl
theorem ag196 {P : Program} (hP : P = Try.prog)  : aggT P 196 = some false := by subst hP; kernel_rfl
theorem ze196 {P : Program} (hP : P = Try.prog)  : zeroL P 196 = some [.nilp] := by subst hP; kernel_rfl
theorem by196 {P : Program} (hP : P = Try.prog)  : bytesT P 196 = some 8 := by subst hP; kernel_rfl
theorem sz198 {P : Program} (hP : P = Try.prog)  : szT P 198 = some 1 := by subst hP; kernel_rfl
theorem ag198 {P : Program} (hP : P = Try.prog)  : aggT P 198 = some false := by subst hP; kernel_rfl
theorem ze198 {P : Program} (hP : P = Try.prog)  : zeroL P 198 = some [.int .u64 0] := by subst hP; kernel_rfl
theorem by198 {P : Program} (hP : P = Try.prog)  : bytesT P 198 = some 8 := by subst hP; kernel_rfl
theorem sz202 {P : Program} (hP : P = Try.prog)  : szT P 202 = some 1 := by subst hP; kernel_rfl
theorem ag202 {P : Program} (hP : P = Try.prog)  : aggT P 202 = some false := by subst hP; kernel_rfl
theorem ze202 {P : Program} (hP : P = Try.prog)  : zeroL P 202 = some [.nilp] := by subst hP; kernel_rfl
theorem by202 {P : Program} (hP : P = Try.prog)  : bytesT P 202 = some 8 := by subst hP; kernel_rfl
theorem sz204 {P : Program} (hP : P = Try.prog)  : szT P 204 = some 1 := by subst hP; kernel_rfl
theorem ag204 {P : Program} (hP : P = Try.prog)  : aggT P 204 = some false := by subst hP; kernel_rfl
theorem ze204 {P : Program} (hP : P = Try.prog)  : zeroL P 204 = some [.nilp] := by subst hP; kernel_rfl
theorem by204 {P : Program} (hP : P = Try.prog)  : bytesT P 204 = some 8 := by subst hP; kernel_rfl
theorem sz207 {P : Program} (hP : P = Try.prog)  : szT P 207 = some 4 := by subst hP; kernel_rfl
theorem ag207 {P : Program} (hP : P = Try.prog)  : aggT P 207 = some true := by subst hP; kernel_rfl
theorem ze207 {P : Program} (hP : P = Try.prog)  : zeroL P 207 = some [.nilp, .nilp, .nilp, .str ⟨#[]⟩] := by subst hP; kernel_rfl
theorem by207 {P : Program} (hP : P = Try.prog)  : bytesT P 207 = some 40 := by subst hP; kernel_rfl
theorem sz208 {P : Program} (hP : P = Try.prog)  : szT P 208 = some 4 := by subst hP; kernel_rfl
theorem ag208 {P : Program} (hP : P = Try.prog)  : aggT P 208 = some true := by subst hP; kernel_rfl
theorem ze208 {P : Program} (hP : P = Try.prog)  : zeroL P 208 = some [.nilp, .nilp, .nilp, .str ⟨#[]⟩] := by subst hP; kernel_rfl
theorem by208 {P : Program} (hP : P = Try.prog)  : bytesT P 208 = some 40 := by subst hP; kernel_rfl
theorem sz209 {P : Program} (hP : P = Try.prog)  : szT P 209 = some 0 := by subst hP; kernel_rfl
theorem ag209 {P : Program} (hP : P = Try.prog)  : aggT P 209 = some true := by subst hP; kernel_rfl
theorem ze209 {P : Program} (hP : P = Try.prog)  : zeroL P 209 = some [] := by subst hP; kernel_rfl
theorem by209 {P : Program} (hP : P = Try.prog)  : bytesT P 209 = some 0 := by subst hP; kernel_rfl
theorem sz210 {P : Program} (hP : P = Try.prog)  : szT P 210 = some 0 := by subst hP; kernel_rfl
theorem ag210 {P : Program} (hP : P = Try.prog)  : aggT P 210 = some true := by subst hP; kernel_rfl
theorem ze210 {P : Program} (hP : P = Try.prog)  : zeroL P 210 = some [] := by subst hP; kernel_rfl
theorem by210 {P : Program} (hP : P = Try.prog)  : bytesT P 210 = some 0 := by subst hP; kernel_rfl
theorem sz211 {P : Program} (hP : P = Try.prog)  : szT P 211 = some 0 := by subst hP; kernel_rfl
theorem ag211 {P : Program} (hP : P = Try.prog)  : aggT P 211 = some true := by subst hP; kernel_rfl
theorem ze211 {P : Program} (hP : P = Try.prog)  : zeroL P 211 = some [] := by subst hP; kernel_rfl
theorem by211 {P : Program} (hP : P = Try.prog)  : bytesT P 211 = some 0 := by subst hP; kernel_rfl
theorem sz212 {P : Program} (hP : P = Try.prog)  : szT P 212 = some 1 := by subst hP; kernel_rfl
theorem ag212 {P : Program} (hP : P = Try.prog)  : aggT P 212 = some false := by subst hP; kernel_rfl
theorem ze212 {P : Program} (hP : P = Try.prog)  : zeroL P 212 = some [.int .u8 0] := by subst hP; kernel_rfl
theorem by212 {P : Program} (hP : P = Try.prog)  : bytesT P 212 = some 1 := by subst hP; kernel_rfl
theorem sz213 {P : Program} (hP : P = Try.prog)  : szT P 213 = some 1 := by subst hP; kernel_rfl
theorem ag213 {P : Program} (hP : P = Try.prog)  : aggT P 213 = some false := by subst hP; kernel_rfl
theorem ze213 {P : Program} (hP : P = Try.prog)  : zeroL P 213 = some [.int .u8 0] := by subst hP; kernel_rfl
theorem by213 {P : Program} (hP : P = Try.prog)  : bytesT P 213 = some 1 := by subst hP; kernel_rfl
theorem sz215 {P : Program} (hP : P = Try.prog)  : szT P 215 = some 1 := by subst hP; kernel_rfl
theorem ag215 {P : Program} (hP : P = Try.prog)  : aggT P 215 = some false := by subst hP; kernel_rfl
theorem ze215 {P : Program} (hP : P = Try.prog)  : zeroL P 215 = some [.nilp] := by subst hP; kernel_rfl
theorem by215 {P : Program} (hP : P = Try.prog)  : bytesT P 215 = some 8 := by subst hP; kernel_rfl
theorem sz216 {P : Program} (hP : P = Try.prog)  : szT P 216 = some 1 := by subst hP; kernel_rfl
theorem ag216 {P : Program} (hP : P = Try.prog)  : aggT P 216 = some false := by subst hP; kernel_rfl
theorem ze216 {P : Program} (hP : P = Try.prog)  : zeroL P 216 = some [.int .i32 0] := by subst hP; kernel_rfl
theorem by216 {P : Program} (hP : P = Try.prog)  : bytesT P 216 = some 4 := by subst hP; kernel_rfl
theorem sz217 {P : Program} (hP : P = Try.prog)  : szT P 217 = some 1 := by subst hP; kernel_rfl
theorem ag217 {P : Program} (hP : P = Try.prog)  : aggT P 217 = some false := by subst hP; kernel_rfl
theorem ze217 {P : Program} (hP : P = Try.prog)  : zeroL P 217 = some [.int .i32 0] := by subst hP; kernel_rfl
theorem by217 {P : Program} (hP : P = Try.prog)  : bytesT P 217 = some 4 := by subst hP; kernel_rfl
theorem sz218 {P : Program} (hP : P = Try.prog)  : szT P 218 = some 11 := by subst hP; kernel_rfl
theorem ag218 {P : Program} (hP : P = Try.prog)  : aggT P 218 = some true := by subst hP; kernel_rfl
theorem ze218 {P : Program} (hP : P = Try.prog)  : zeroL P 218 = some [.int .u64 0, .int .u64 0, .int .u32 0, .int .u8 0, .int .u8 0, .int .u8 0, .int .u8 0, .nilf, .nilp, .int .i32 0, .int .i32 0] := by subst hP; kernel_rfl
theorem by218 {P : Program} (hP : P = Try.prog)  : bytesT P 218 = some 48 := by subst hP; kernel_rfl
theorem sz219 {P : Program} (hP : P = Try.prog)  : szT P 219 = some 11 := by subst hP; kernel_rfl
theorem ag219 {P : Program} (hP : P = Try.prog)  : aggT P 219 = some true := by subst hP; kernel_rfl
theorem ze219 {P : Program} (hP : P = Try.prog)  : zeroL P 219 = some [.int .u64 0, .int .u64 0, .int .u32 0, .int .u8 0, .int .u8 0, .int .u8 0, .int .u8 0, .nilf, .nilp, .int .i32 0, .int .i32 0] := by subst hP; kernel_rfl
theorem by219 {P : Program} (hP : P = Try.prog)  : bytesT P 219 = some 48 := by subst hP; kernel_rfl
theorem sz220 {P : Program} (hP : P = Try.prog)  : szT P 220 = some 1 := by subst hP; kernel_rfl
theorem ag220 {P : Program} (hP : P = Try.prog)  : aggT P 220 = some false := by subst hP; kernel_rfl
theorem ze220 {P : Program} (hP : P = Try.prog)  : zeroL P 220 = some [.nilp] := by subst hP; kernel_rfl
theorem by220 {P : Program} (hP : P = Try.prog)  : bytesT P 220 = some 8 := by subst hP; kernel_rfl
theorem un2 {P : Program} (hP : P = Try.prog)  : P.underlying 2 = some (.int .i64) := by subst hP; kernel_rfl
theorem zc3 {P : Program} (hP : P = Try.prog)  : zeroC P 3 = some (.sc (.int .i64 0)) := by subst hP; kernel_rfl
theorem un3 {P : Program} (hP : P = Try.prog)  : P.underlying 3 = some (.int .i64) := by subst hP; kernel_rfl
theorem un4 {P : Program} (hP : P = Try.prog)  : P.underlying 4 = some .bool := by subst hP; kernel_rfl
theorem un5 {P : Program} (hP : P = Try.prog)  : P.underlying 5 = some (.int .u8) := by subst hP; kernel_rfl
theorem un6 {P : Program} (hP : P = Try.prog)  : P.underlying 6 = some (.int .u8) := by subst hP; kernel_rfl
theorem fa7_0 {P : Program} (hP : P = Try.prog) (l o : Nat) : fieldAddrA P 7 (.v (.sc (.ptr l o))) 0 = some (.v (.sc (.ptr l (o + 0)))) := by subst hP; kernel_rfl
theorem fd7_0 {P : Program} (hP : P = Try.prog) (cs : List SV) : fieldA P 7 (.v (.ag cs)) 0 = (partA P 2 cs 0).map .v := by subst hP; kernel_rfl
theorem fa7_1 {P : Program} (hP : P = Try.prog) (l o : Nat) : fieldAddrA P 7 (.v (.sc (.ptr l o))) 1 = some (.v (.sc (.ptr l (o + 1)))) := by subst hP; kernel_rfl
theorem fd7_1 {P : Program} (hP : P = Try.prog) (cs : List SV) : fieldA P 7 (.v (.ag cs)) 1 = (partA P 3 cs 1).map .v := by subst hP; kernel_rfl
theorem fa7_2 {P : Program} (hP : P = Try.prog) (l o : Nat) : fieldAddrA P 7 (.v (.sc (.ptr l o))) 2 = some (.v (.sc (.ptr l (o + 2)))) := by subst hP; kernel_rfl
theorem fd7_2 {P : Program} (hP : P = Try.prog) (cs : List SV) : fieldA P 7 (.v (.ag cs)) 2 = (partA P 4 cs 2).map .v := by subst hP; kernel_rfl
theorem fa7_3 {P : Program} (hP : P = Try.prog) (l o : Nat) : fieldAddrA P 7 (.v (.sc (.ptr l o))) 3 = some (.v (.sc (.ptr l (o + 3)))) := by subst hP; kernel_rfl
theorem fd7_3 {P : Program} (hP : P = Try.prog) (cs : List SV) : fieldA P 7 (.v (.ag cs)) 3 = (partA P 6 cs 3).map .v := by subst hP; kernel_rfl
theorem bu7 {P : Program} (hP : P = Try.prog) (ps : List (Nat × AV)) : buildA P 7 ps = (fillA (fun i => ([(0, 1), (1, 1), (2, 1), (3, 1)] : List (Nat × Nat))[i]?) [.int .i64 0, .int .i64 0, .bool false, .int .u8 0] ps).map fun cs => .v (.ag cs) := by subst hP; kernel_rfl
theorem eq7 {P : Program} (hP : P = Try.prog) (xs ys : List SV) : eqA P 7 (.v (.ag xs)) (.v (.ag ys)) = eqL [1, 1, 0, 1] xs ys := by subst hP; kernel_rfl
theorem fa8_0 {P : Program} (hP : P = Try.prog) (l o : Nat) : fieldAddrA P 8 (.v (.sc (.ptr l o))) 0 = some (.v (.sc (.ptr l (o + 0)))) := by subst hP; kernel_rfl
theorem fd8_0 {P : Program} (hP : P = Try.prog) (cs : List SV) : fieldA P 8 (.v (.ag cs)) 0 = (partA P 2 cs 0).map .v := by subst hP; kernel_rfl
theorem fa8_1 {P : Program} (hP : P = Try.prog) (l o : Nat) : fieldAddrA P 8 (.v (.sc (.ptr l o))) 1 = some (.v (.sc (.ptr l (o + 1)))) := by subst hP; kernel_rfl
theorem fd8_1 {P : Program} (hP : P = Try.prog) (cs : List SV) : fieldA P 8 (.v (.ag cs)) 1 = (partA P 3 cs 1).map .v := by subst hP; kernel_rfl
theorem fa8_2 {P : Program} (hP : P = Try.prog) (l o : Nat) : fieldAddrA P 8 (.v (.sc (.ptr l o))) 2 = some (.v (.sc (.ptr l (o + 2)))) := by subst hP; kernel_rfl
theorem fd8_2 {P : Program} (hP : P = Try.prog) (cs : List SV) : fieldA P 8 (.v (.ag cs)) 2 = (partA P 4 cs 2).map .v := by subst hP; kernel_rfl
theorem fa8_3 {P : Program} (hP : P = Try.prog) (l o : Nat) : fieldAddrA P 8 (.v (.sc (.ptr l o))) 3 = some (.v (.sc (.ptr l (o + 3)))) := by subst hP; kernel_rfl
theorem fd8_3 {P : Program} (hP : P = Try.prog) (cs : List SV) : fieldA P 8 (.v (.ag cs)) 3 = (partA P 6 cs 3).map .v := by subst hP; kernel_rfl
theorem bu8 {P : Program} (hP : P = Try.prog) (ps : List (Nat × AV)) : buildA P 8 ps = (fillA (fun i => ([(0, 1), (1, 1), (2, 1), (3, 1)] : List (Nat × Nat))[i]?) [.int .i64 0, .int .i64 0, .bool false, .int .u8 0] ps).map fun cs => .v (.ag cs) := by subst hP; kernel_rfl
theorem eq8 {P : Program} (hP : P = Try.prog) (xs ys : List SV) : eqA P 8 (.v (.ag xs)) (.v (.ag ys)) = eqL [1, 1, 0, 1] xs ys := by subst hP; kernel_rfl
theorem un9 {P : Program} (hP : P = Try.prog)  : P.underlying 9 = some .string := by subst hP; kernel_rfl
theorem un10 {P : Program} (hP : P = Try.prog)  : P.underlying 10 = some .string := by subst hP; kernel_rfl
theorem un11 {P : Program} (hP : P = Try.prog)  : P.underlying 11 = some .string := by subst hP; kernel_rfl
theorem un12 {P : Program} (hP : P = Try.prog)  : P.underlying 12 = some (.int .u64) := by subst hP; kernel_rfl
theorem fa13_0 {P : Program} (hP : P = Try.prog) (l o : Nat) : fieldAddrA P 13 (.v (.sc (.ptr l o))) 0 = some (.v (.sc (.ptr l (o + 0)))) := by subst hP; kernel_rfl
theorem fd13_0 {P : Program} (hP : P = Try.prog) (cs : List SV) : fieldA P 13 (.v (.ag cs)) 0 = (partA P 9 cs 0).map .v := by subst hP; kernel_rfl
theorem fa13_1 {P : Program} (hP : P = Try.prog) (l o : Nat) : fieldAddrA P 13 (.v (.sc (.ptr l o))) 1 = some (.v (.sc (.ptr l (o + 1)))) := by subst hP; kernel_rfl
theorem fd13_1 {P : Program} (hP : P = Try.prog) (cs : List SV) : fieldA P 13 (.v (.ag cs)) 1 = (partA P 12 cs 1).map .v := by subst hP; kernel_rfl
theorem bu13 {P : Program} (hP : P = Try.prog) (ps : List (Nat × AV)) : buildA P 13 ps = (fillA (fun i => ([(0, 1), (1, 1)] : List (Nat × Nat))[i]?) [.str ⟨#[]⟩, .int .u64 0] ps).map fun cs => .v (.ag cs) := by subst hP; kernel_rfl
theorem fa14_0 {P : Program} (hP : P = Try.prog) (l o : Nat) : fieldAddrA P 14 (.v (.sc (.ptr l o))) 0 = some (.v (.sc (.ptr l (o + 0)))) := by subst hP; kernel_rfl
theorem fd14_0 {P : Program} (hP : P = Try.prog) (cs : List SV) : fieldA P 14 (.v (.ag cs)) 0 = (partA P 9 cs 0).map .v := by subst hP; kernel_rfl
theorem fa14_1 {P : Program} (hP : P = Try.prog) (l o : Nat) : fieldAddrA P 14 (.v (.sc (.ptr l o))) 1 = some (.v (.sc (.ptr l (o + 1)))) := by subst hP; kernel_rfl
theorem fd14_1 {P : Program} (hP : P = Try.prog) (cs : List SV) : fieldA P 14 (.v (.ag cs)) 1 = (partA P 12 cs 1).map .v := by subst hP; kernel_rfl
theorem bu14 {P : Program} (hP : P = Try.prog) (ps : List (Nat × AV)) : buildA P 14 ps = (fillA (fun i => ([(0, 1), (1, 1)] : List (Nat × Nat))[i]?) [.str ⟨#[]⟩, .int .u64 0] ps).map fun cs => .v (.ag cs) := by subst hP; kernel_rfl
theorem un15 {P : Program} (hP : P = Try.prog)  : P.underlying 15 = some (.pointer 208) := by subst hP; kernel_rfl
theorem un16 {P : Program} (hP : P = Try.prog)  : P.underlying 16 = some (.pointer 211) := by subst hP; kernel_rfl
theorem un17 {P : Program} (hP : P = Try.prog)  : P.underlying 17 = some (.pointer 219) := by subst hP; kernel_rfl
theorem fa18_0 {P : Program} (hP : P = Try.prog) (l o : Nat) : fieldAddrA P 18 (.v (.sc (.ptr l o))) 0 = some (.v (.sc (.ptr l (o + 0)))) := by subst hP; kernel_rfl
theorem fd18_0 {P : Program} (hP : P = Try.prog) (cs : List SV) : fieldA P 18 (.v (.ag cs)) 0 = (partA P 17 cs 0).map .v := by subst hP; kernel_rfl
theorem bu18 {P : Program} (hP : P = Try.prog) (ps : List (Nat × AV)) : buildA P 18 ps = (fillA (fun i => ([(0, 1)] : List (Nat × Nat))[i]?) [.nilp] ps).map fun cs => .v (.ag cs) := by subst hP; kernel_rfl
theorem fa19_0 {P : Program} (hP : P = Try.prog) (l o : Nat) : fieldAddrA P 19 (.v (.sc (.ptr l o))) 0 = some (.v (.sc (.ptr l (o + 0)))) := by subst hP; kernel_rfl
theorem fd19_0 {P : Program} (hP : P = Try.prog) (cs : List SV) : fieldA P 19 (.v (.ag cs)) 0 = (partA P 17 cs 0).map .v := by subst hP; kernel_rfl
theorem bu19 {P : Program} (hP : P = Try.prog) (ps : List (Nat × AV)) : buildA P 19 ps = (fillA (fun i => ([(0, 1)] : List (Nat × Nat))[i]?) [.nilp] ps).map fun cs => .v (.ag cs) := by subst hP; kernel_rfl
theorem un21 {P : Program} (hP : P = Try.prog)  : P.underlying 21 = some (.int .i32) := by subst hP; kernel_rfl
theorem un22 {P : Program} (hP : P = Try.prog)  : P.underlying 22 = some (.slice 131) := by subst hP; kernel_rfl
theorem un25 {P : Program} (hP : P = Try.prog)  : P.underlying 25 = some (.slice 32) := by subst hP; kernel_rfl
theorem un27 {P : Program} (hP : P = Try.prog)  : P.underlying 27 = some (.slice 41) := by subst hP; kernel_rfl
theorem un29 {P : Program} (hP : P = Try.prog)  : P.underlying 29 = some (.slice 35) := by subst hP; kernel_rfl
theorem fa31_0 {P : Program} (hP : P = Try.prog) (l o : Nat) : fieldAddrA P 31 (.v (.sc (.ptr l o))) 0 = some (.v (.sc (.ptr l (o + 0)))) := by subst hP; kernel_rfl
theorem fd31_0 {P : Program} (hP : P = Try.prog) (cs : List SV) : fieldA P 31 (.v (.ag cs)) 0 = (partA P 3 cs 0).map .v := by subst hP; kernel_rfl
theorem fa31_1 {P : Program} (hP : P = Try.prog) (l o : Nat) : fieldAddrA P 31 (.v (.sc (.ptr l o))) 1 = some (.v (.sc (.ptr l (o + 1)))) := by subst hP; kernel_rfl
theorem fd31_1 {P : Program} (hP : P = Try.prog) (cs : List SV) : fieldA P 31 (.v (.ag cs)) 1 = (partA P 3 cs 1).map .v := by subst hP; kernel_rfl
theorem bu31 {P : Program} (hP : P = Try.prog) (ps : List (Nat × AV)) : buildA P 31 ps = (fillA (fun i => ([(0, 1), (1, 1)] : List (Nat × Nat))[i]?) [.int .i64 0, .int .i64 0] ps).map fun cs => .v (.ag cs) := by subst hP; kernel_rfl
theorem eq31 {P : Program} (hP : P = Try.prog) (xs ys : List SV) : eqA P 31 (.v (.ag xs)) (.v (.ag ys)) = eqL [1, 1] xs ys := by subst hP; kernel_rfl
theorem fa32_0 {P : Program} (hP : P = Try.prog) (l o : Nat) : fieldAddrA P 32 (.v (.sc (.ptr l o))) 0 = some (.v (.sc (.ptr l (o + 0)))) := by subst hP; kernel_rfl
theorem fd32_0 {P : Program} (hP : P = Try.prog) (cs : List SV) : fieldA P 32 (.v (.ag cs)) 0 = (partA P 3 cs 0).map .v := by subst hP; kernel_rfl
theorem fa32_1 {P : Program} (hP : P = Try.prog) (l o : Nat) : fieldAddrA P 32 (.v (.sc (.ptr l o))) 1 = some (.v (.sc (.ptr l (o + 1)))) := by subst hP; kernel_rfl
theorem fd32_1 {P : Program} (hP : P = Try.prog) (cs : List SV) : fieldA P 32 (.v (.ag cs)) 1 = (partA P 3 cs 1).map .v := by subst hP; kernel_rfl
theorem bu32 {P : Program} (hP : P = Try.prog) (ps : List (Nat × AV)) : buildA P 32 ps = (fillA (fun i => ([(0, 1), (1, 1)] : List (Nat × Nat))[i]?) [.int .i64 0, .int .i64 0] ps).map fun cs => .v (.ag cs) := by subst hP; kernel_rfl
theorem eq32 {P : Program} (hP : P = Try.prog) (xs ys : List SV) : eqA P 32 (.v (.ag xs)) (.v (.ag ys)) = eqL [1, 1] xs ys := by subst hP; kernel_rfl
theorem fa35_0 {P : Program} (hP : P = Try.prog) (l o : Nat) : fieldAddrA P 35 (.v (.sc (.ptr l o))) 0 = some (.v (.sc (.ptr l (o + 0)))) := by subst hP; kernel_rfl
theorem fd35_0 {P : Program} (hP : P = Try.prog) (cs : List SV) : fieldA P 35 (.v (.ag cs)) 0 = (partA P 3 cs 0).map .v := by subst hP; kernel_rfl
theorem fa35_1 {P : Program} (hP : P = Try.prog) (l o : Nat) : fieldAddrA P 35 (.v (.sc (.ptr l o))) 1 = some (.v (.sc (.ptr l (o + 1)))) := by subst hP; kernel_rfl
theorem fd35_1 {P : Program} (hP : P = Try.prog) (cs : List SV) : fieldA P 35 (.v (.ag cs)) 1 = (partA P 3 cs 1).map .v := by subst hP; kernel_rfl
theorem bu35 {P : Program} (hP : P = Try.prog) (ps : List (Nat × AV)) : buildA P 35 ps = (fillA (fun i => ([(0, 1), (1, 1)] : List (Nat × Nat))[i]?) [.int .i64 0, .int .i64 0] ps).map fun cs => .v (.ag cs) := by subst hP; kernel_rfl
theorem eq35 {P : Program} (hP : P = Try.prog) (xs ys : List SV) : eqA P 35 (.v (.ag xs)) (.v (.ag ys)) = eqL [1, 1] xs ys := by subst hP; kernel_rfl
theorem un36 {P : Program} (hP : P = Try.prog)  : P.underlying 36 = some (.int .u32) := by subst hP; kernel_rfl
theorem un37 {P : Program} (hP : P = Try.prog)  : P.underlying 37 = some (.array 8 36) := by subst hP; kernel_rfl
theorem eq37 {P : Program} (hP : P = Try.prog) (xs ys : List SV) : eqA P 37 (.v (.ag xs)) (.v (.ag ys)) = eqL [1, 1, 1, 1, 1, 1, 1, 1] xs ys := by subst hP; kernel_rfl
theorem bu37 {P : Program} (hP : P = Try.prog) (ps : List (Nat × AV)) : buildA P 37 ps = (fillA (fun i => some (i * 1, 1)) [.int .u32 0, .int .u32 0, .int .u32 0, .int .u32 0, .int .u32 0, .int .u32 0, .int .u32 0, .int .u32 0] ps).map fun cs => .v (.ag cs) := by subst hP; kernel_rfl
theorem un38 {P : Program} (hP : P = Try.prog)  : P.underlying 38 = some (.array 8 36) := by subst hP; kernel_rfl
theorem eq38 {P : Program} (hP : P = Try.prog) (xs ys : List SV) : eqA P 38 (.v (.ag xs)) (.v (.ag ys)) = eqL [1, 1, 1, 1, 1, 1, 1, 1] xs ys := by subst hP; kernel_rfl
theorem bu38 {P : Program} (hP : P = Try.prog) (ps : List (Nat × AV)) : buildA P 38 ps = (fillA (fun i => some (i * 1, 1)) [.int .u32 0, .int .u32 0, .int .u32 0, .int .u32 0, .int .u32 0, .int .u32 0, .int .u32 0, .int .u32 0] ps).map fun cs => .v (.ag cs) := by subst hP; kernel_rfl
theorem un39 {P : Program} (hP : P = Try.prog)  : P.underlying 39 = some (.int .u64) := by subst hP; kernel_rfl
theorem fa40_0 {P : Program} (hP : P = Try.prog) (l o : Nat) : fieldAddrA P 40 (.v (.sc (.ptr l o))) 0 = some (.v (.sc (.ptr l (o + 0)))) := by subst hP; kernel_rfl
theorem fd40_0 {P : Program} (hP : P = Try.prog) (cs : List SV) : fieldA P 40 (.v (.ag cs)) 0 = (partA P 3 cs 0).map .v := by subst hP; kernel_rfl
theorem fa40_1 {P : Program} (hP : P = Try.prog) (l o : Nat) : fieldAddrA P 40 (.v (.sc (.ptr l o))) 1 = some (.v (.sc (.ptr l (o + 1)))) := by subst hP; kernel_rfl
theorem fd40_1 {P : Program} (hP : P = Try.prog) (cs : List SV) : fieldA P 40 (.v (.ag cs)) 1 = (partA P 3 cs 1).map .v := by subst hP; kernel_rfl
theorem fa40_2 {P : Program} (hP : P = Try.prog) (l o : Nat) : fieldAddrA P 40 (.v (.sc (.ptr l o))) 2 = some (.v (.sc (.ptr l (o + 2)))) := by subst hP; kernel_rfl
theorem fd40_2 {P : Program} (hP : P = Try.prog) (cs : List SV) : fieldA P 40 (.v (.ag cs)) 2 = (partA P 4 cs 2).map .v := by subst hP; kernel_rfl
theorem fa40_3 {P : Program} (hP : P = Try.prog) (l o : Nat) : fieldAddrA P 40 (.v (.sc (.ptr l o))) 3 = some (.v (.sc (.ptr l (o + 3)))) := by subst hP; kernel_rfl
theorem fd40_3 {P : Program} (hP : P = Try.prog) (cs : List SV) : fieldA P 40 (.v (.ag cs)) 3 = (partA P 38 cs 3).map .v := by subst hP; kernel_rfl
theorem fa40_4 {P : Program} (hP : P = Try.prog) (l o : Nat) : fieldAddrA P 40 (.v (.sc (.ptr l o))) 4 = some (.v (.sc (.ptr l (o + 11)))) := by subst hP; kernel_rfl
theorem fd40_4 {P : Program} (hP : P = Try.prog) (cs : List SV) : fieldA P 40 (.v (.ag cs)) 4 = (partA P 39 cs 11).map .v := by subst hP; kernel_rfl
theorem bu40 {P : Program} (hP : P = Try.prog) (ps : List (Nat × AV)) : buildA P 40 ps = (fillA (fun i => ([(0, 1), (1, 1), (2, 1), (3, 8), (11, 1)] : List (Nat × Nat))[i]?) [.int .i64 0, .int .i64 0, .bool false, .int .u32 0, .int .u32 0, .int .u32 0, .int .u32 0, .int .u32 0, .int .u32 0, .int .u32 0, .int .u32 0, .int .u64 0] ps).map fun cs => .v (.ag cs) := by subst hP; kernel_rfl
theorem eq40 {P : Program} (hP : P = Try.prog) (xs ys : List SV) : eqA P 40 (.v (.ag xs)) (.v (.ag ys)) = eqL [1, 1, 0, 1, 1, 1, 1, 1, 1, 1, 1, 1] xs ys := by subst hP; kernel_rfl
theorem fa41_0 {P : Program} (hP : P = Try.prog) (l o : Nat) : fieldAddrA P 41 (.v (.sc (.ptr l o))) 0 = some (.v (.sc (.ptr l (o + 0)))) := by subst hP; kernel_rfl
theorem fd41_0 {P : Program} (hP : P = Try.prog) (cs : List SV) : fieldA P 41 (.v (.ag cs)) 0 = (partA P 3 cs 0).map .v := by subst hP; kernel_rfl
theorem fa41_1 {P : Program} (hP : P = Try.prog) (l o : Nat) : fieldAddrA P 41 (.v (.sc (.ptr l o))) 1 = some (.v (.sc (.ptr l (o + 1)))) := by subst hP; kernel_rfl
theorem fd41_1 {P : Program} (hP : P = Try.prog) (cs : List SV) : fieldA P 41 (.v (.ag cs)) 1 = (partA P 3 cs 1).map .v := by subst hP; kernel_rfl
theorem fa41_2 {P : Program} (hP : P = Try.prog) (l o : Nat) : fieldAddrA P 41 (.v (.sc (.ptr l o))) 2 = some (.v (.sc (.ptr l (o + 2)))) := by subst hP; kernel_rfl
theorem fd41_2 {P : Program} (hP : P = Try.prog) (cs : List SV) : fieldA P 41 (.v (.ag cs)) 2 = (partA P 4 cs 2).map .v := by subst hP; kernel_rfl
theorem fa41_3 {P : Program} (hP : P = Try.prog) (l o : Nat) : fieldAddrA P 41 (.v (.sc (.ptr l o))) 3 = some (.v (.sc (.ptr l (o + 3)))) := by subst hP; kernel_rfl
theorem fd41_3 {P : Program} (hP : P = Try.prog) (cs : List SV) : fieldA P 41 (.v (.ag cs)) 3 = (partA P 38 cs 3).map .v := by subst hP; kernel_rfl
theorem fa41_4 {P : Program} (hP : P = Try.prog) (l o : Nat) : fieldAddrA P 41 (.v (.sc (.ptr l o))) 4 = some (.v (.sc (.ptr l (o + 11)))) := by subst hP; kernel_rfl
theorem fd41_4 {P : Program} (hP : P = Try.prog) (cs : List SV) : fieldA P 41 (.v (.ag cs)) 4 = (partA P 39 cs 11).map .v := by subst hP; kernel_rfl
theorem bu41 {P : Program} (hP : P = Try.prog) (ps : List (Nat × AV)) : buildA P 41 ps = (fillA (fun i => ([(0, 1), (1, 1), (2, 1), (3, 8), (11, 1)] : List (Nat × Nat))[i]?) [.int .i64 0, .int .i64 0, .bool false, .int .u32 0, .int .u32 0, .int .u32 0, .int .u32 0, .int .u32 0, .int .u32 0, .int .u32 0, .int .u32 0, .int .u64 0] ps).map fun cs => .v (.ag cs) := by subst hP; kernel_rfl
theorem eq41 {P : Program} (hP : P = Try.prog) (xs ys : List SV) : eqA P 41 (.v (.ag xs)) (.v (.ag ys)) = eqL [1, 1, 0, 1, 1, 1, 1, 1, 1, 1, 1, 1] xs ys := by subst hP; kernel_rfl
theorem fa44_0 {P : Program} (hP : P = Try.prog) (l o : Nat) : fieldAddrA P 44 (.v (.sc (.ptr l o))) 0 = some (.v (.sc (.ptr l (o + 0)))) := by subst hP; kernel_rfl
theorem fd44_0 {P : Program} (hP : P = Try.prog) (cs : List SV) : fieldA P 44 (.v (.ag cs)) 0 = (partA P 3 cs 0).map .v := by subst hP; kernel_rfl
theorem fa44_1 {P : Program} (hP : P = Try.prog) (l o : Nat) : fieldAddrA P 44 (.v (.sc (.ptr l o))) 1 = some (.v (.sc (.ptr l (o + 1)))) := by subst hP; kernel_rfl
theorem fd44_1 {P : Program} (hP : P = Try.prog) (cs : List SV) : fieldA P 44 (.v (.ag cs)) 1 = (partA P 3 cs 1).map .v := by subst hP; kernel_rfl
theorem fa44_2 {P : Program} (hP : P = Try.prog) (l o : Nat) : fieldAddrA P 44 (.v (.sc (.ptr l o))) 2 = some (.v (.sc (.ptr l (o + 2)))) := by subst hP; kernel_rfl
theorem fd44_2 {P : Program} (hP : P = Try.prog) (cs : List SV) : fieldA P 44 (.v (.ag cs)) 2 = (partA P 39 cs 2).map .v := by subst hP; kernel_rfl
theorem bu44 {P : Program} (hP : P = Try.prog) (ps : List (Nat × AV)) : buildA P 44 ps = (fillA (fun i => ([(0, 1), (1, 1), (2, 1)] : List (Nat × Nat))[i]?) [.int .i64 0, .int .i64 0, .int .u64 0] ps).map fun cs => .v (.ag cs) := by subst hP; kernel_rfl
theorem eq44 {P : Program} (hP : P = Try.prog) (xs ys : List SV) : eqA P 44 (.v (.ag xs)) (.v (.ag ys)) = eqL [1, 1, 1] xs ys := by subst hP; kernel_rfl
theorem zc45 {P : Program} (hP : P = Try.prog)  : zeroC P 45 = some (.ag [.int .i64 0, .int .i64 0, .int .u64 0]) := by subst hP; kernel_rfl
theorem fa45_0 {P : Program} (hP : P = Try.prog) (l o : Nat) : fieldAddrA P 45 (.v (.sc (.ptr l o))) 0 = some (.v (.sc (.ptr l (o + 0)))) := by subst hP; kernel_rfl
theorem fd45_0 {P : Program} (hP : P = Try.prog) (cs : List SV) : fieldA P 45 (.v (.ag cs)) 0 = (partA P 3 cs 0).map .v := by subst hP; kernel_rfl
theorem fa45_1 {P : Program} (hP : P = Try.prog) (l o : Nat) : fieldAddrA P 45 (.v (.sc (.ptr l o))) 1 = some (.v (.sc (.ptr l (o + 1)))) := by subst hP; kernel_rfl
theorem fd45_1 {P : Program} (hP : P = Try.prog) (cs : List SV) : fieldA P 45 (.v (.ag cs)) 1 = (partA P 3 cs 1).map .v := by subst hP; kernel_rfl
theorem fa45_2 {P : Program} (hP : P = Try.prog) (l o : Nat) : fieldAddrA P 45 (.v (.sc (.ptr l o))) 2 = some (.v (.sc (.ptr l (o + 2)))) := by subst hP; kernel_rfl
theorem fd45_2 {P : Program} (hP : P = Try.prog) (cs : List SV) : fieldA P 45 (.v (.ag cs)) 2 = (partA P 39 cs 2).map .v := by subst hP; kernel_rfl
theorem bu45 {P : Program} (hP : P = Try.prog) (ps : List (Nat × AV)) : buildA P 45 ps = (fillA (fun i => ([(0, 1), (1, 1), (2, 1)] : List (Nat × Nat))[i]?) [.int .i64 0, .int .i64 0, .int .u64 0] ps).map fun cs => .v (.ag cs) := by subst hP; kernel_rfl
theorem eq45 {P : Program} (hP : P = Try.prog) (xs ys : List SV) : eqA P 45 (.v (.ag xs)) (.v (.ag ys)) = eqL [1, 1, 1] xs ys := by subst hP; kernel_rfl
theorem un47 {P : Program} (hP : P = Try.prog)  : P.underlying 47 = some (.slice 3) := by subst hP; kernel_rfl
theorem zc47 {P : Program} (hP : P = Try.prog)  : zeroC P 47 = some (.sc (.nils)) := by subst hP; kernel_rfl
theorem un50 {P : Program} (hP : P = Try.prog)  : P.underlying 50 = some (.slice 56) := by subst hP; kernel_rfl
theorem un51 {P : Program} (hP : P = Try.prog)  : P.underlying 51 = some (.pointer 88) := by subst hP; kernel_rfl
theorem un52 {P : Program} (hP : P = Try.prog)  : P.underlying 52 = some (.int .i64) := by subst hP; kernel_rfl
theorem fa55_0 {P : Program} (hP : P = Try.prog) (l o : Nat) : fieldAddrA P 55 (.v (.sc (.ptr l o))) 0 = some (.v (.sc (.ptr l (o + 0)))) := by subst hP; kernel_rfl
theorem fd55_0 {P : Program} (hP : P = Try.prog) (cs : List SV) : fieldA P 55 (.v (.ag cs)) 0 = (partA P 5 cs 0).map .v := by subst hP; kernel_rfl
theorem fa55_1 {P : Program} (hP : P = Try.prog) (l o : Nat) : fieldAddrA P 55 (.v (.sc (.ptr l o))) 1 = some (.v (.sc (.ptr l (o + 1)))) := by subst hP; kernel_rfl
theorem fd55_1 {P : Program} (hP : P = Try.prog) (cs : List SV) : fieldA P 55 (.v (.ag cs)) 1 = (partA P 3 cs 1).map .v := by subst hP; kernel_rfl
theorem fa55_2 {P : Program} (hP : P = Try.prog) (l o : Nat) : fieldAddrA P 55 (.v (.sc (.ptr l o))) 2 = some (.v (.sc (.ptr l (o + 2)))) := by subst hP; kernel_rfl
theorem fd55_2 {P : Program} (hP : P = Try.prog) (cs : List SV) : fieldA P 55 (.v (.ag cs)) 2 = (partA P 39 cs 2).map .v := by subst hP; kernel_rfl
theorem bu55 {P : Program} (hP : P = Try.prog) (ps : List (Nat × AV)) : buildA P 55 ps = (fillA (fun i => ([(0, 1), (1, 1), (2, 1)] : List (Nat × Nat))[i]?) [.int .u8 0, .int .i64 0, .int .u64 0] ps).map fun cs => .v (.ag cs) := by subst hP; kernel_rfl
theorem eq55 {P : Program} (hP : P = Try.prog) (xs ys : List SV) : eqA P 55 (.v (.ag xs)) (.v (.ag ys)) = eqL [1, 1, 1] xs ys := by subst hP; kernel_rfl
theorem fa56_0 {P : Program} (hP : P = Try.prog) (l o : Nat) : fieldAddrA P 56 (.v (.sc (.ptr l o))) 0 = some (.v (.sc (.ptr l (o + 0)))) := by subst hP; kernel_rfl
theorem fd56_0 {P : Program} (hP : P = Try.prog) (cs : List SV) : fieldA P 56 (.v (.ag cs)) 0 = (partA P 5 cs 0).map .v := by subst hP; kernel_rfl
theorem fa56_1 {P : Program} (hP : P = Try.prog) (l o : Nat) : fieldAddrA P 56 (.v (.sc (.ptr l o))) 1 = some (.v (.sc (.ptr l (o + 1)))) := by subst hP; kernel_rfl
theorem fd56_1 {P : Program} (hP : P = Try.prog) (cs : List SV) : fieldA P 56 (.v (.ag cs)) 1 = (partA P 3 cs 1).map .v := by subst hP; kernel_rfl
theorem fa56_2 {P : Program} (hP : P = Try.prog) (l o : Nat) : fieldAddrA P 56 (.v (.sc (.ptr l o))) 2 = some (.v (.sc (.ptr l (o + 2)))) := by subst hP; kernel_rfl
theorem fd56_2 {P : Program} (hP : P = Try.prog) (cs : List SV) : fieldA P 56 (.v (.ag cs)) 2 = (partA P 39 cs 2).map .v := by subst hP; kernel_rfl
theorem bu56 {P : Program} (hP : P = Try.prog) (ps : List (Nat × AV)) : buildA P 56 ps = (fillA (fun i => ([(0, 1), (1, 1), (2, 1)] : List (Nat × Nat))[i]?) [.int .u8 0, .int .i64 0, .int .u64 0] ps).map fun cs => .v (.ag cs) := by subst hP; kernel_rfl
theorem eq56 {P : Program} (hP : P = Try.prog) (xs ys : List SV) : eqA P 56 (.v (.ag xs)) (.v (.ag ys)) = eqL [1, 1, 1] xs ys := by subst hP; kernel_rfl
theorem un59 {P : Program} (hP : P = Try.prog)  : P.underlying 59 = some (.slice 62) := by subst hP; kernel_rfl
theorem fa61_0 {P : Program} (hP : P = Try.prog) (l o : Nat) : fieldAddrA P 61 (.v (.sc (.ptr l o))) 0 = some (.v (.sc (.ptr l (o + 0)))) := by subst hP; kernel_rfl
theorem fd61_0 {P : Program} (hP : P = Try.prog) (cs : List SV) : fieldA P 61 (.v (.ag cs)) 0 = (partA P 3 cs 0).map .v := by subst hP; kernel_rfl
theorem fa61_1 {P : Program} (hP : P = Try.prog) (l o : Nat) : fieldAddrA P 61 (.v (.sc (.ptr l o))) 1 = some (.v (.sc (.ptr l (o + 1)))) := by subst hP; kernel_rfl
theorem fd61_1 {P : Program} (hP : P = Try.prog) (cs : List SV) : fieldA P 61 (.v (.ag cs)) 1 = (partA P 39 cs 1).map .v := by subst hP; kernel_rfl
theorem bu61 {P : Program} (hP : P = Try.prog) (ps : List (Nat × AV)) : buildA P 61 ps = (fillA (fun i => ([(0, 1), (1, 1)] : List (Nat × Nat))[i]?) [.int .i64 0, .int .u64 0] ps).map fun cs => .v (.ag cs) := by subst hP; kernel_rfl
theorem eq61 {P : Program} (hP : P = Try.prog) (xs ys : List SV) : eqA P 61 (.v (.ag xs)) (.v (.ag ys)) = eqL [1, 1] xs ys := by subst hP; kernel_rfl
theorem fa62_0 {P : Program} (hP : P = Try.prog) (l o : Nat) : fieldAddrA P 62 (.v (.sc (.ptr l o))) 0 = some (.v (.sc (.ptr l (o + 0)))) := by subst hP; kernel_rfl
theorem fd62_0 {P : Program} (hP : P = Try.prog) (cs : List SV) : fieldA P 62 (.v (.ag cs)) 0 = (partA P 3 cs 0).map .v := by subst hP; kernel_rfl
theorem fa62_1 {P : Program} (hP : P = Try.prog) (l o : Nat) : fieldAddrA P 62 (.v (.sc (.ptr l o))) 1 = some (.v (.sc (.ptr l (o + 1)))) := by subst hP; kernel_rfl
theorem fd62_1 {P : Program} (hP : P = Try.prog) (cs : List SV) : fieldA P 62 (.v (.ag cs)) 1 = (partA P 39 cs 1).map .v := by subst hP; kernel_rfl
theorem bu62 {P : Program} (hP : P = Try.prog) (ps : List (Nat × AV)) : buildA P 62 ps = (fillA (fun i => ([(0, 1), (1, 1)] : List (Nat × Nat))[i]?) [.int .i64 0, .int .u64 0] ps).map fun cs => .v (.ag cs) := by subst hP; kernel_rfl
theorem eq62 {P : Program} (hP : P = Try.prog) (xs ys : List SV) : eqA P 62 (.v (.ag xs)) (.v (.ag ys)) = eqL [1, 1] xs ys := by subst hP; kernel_rfl
theorem un72 {P : Program} (hP : P = Try.prog)  : P.underlying 72 = some (.slice 77) := by subst hP; kernel_rfl
theorem fa73_0 {P : Program} (hP : P = Try.prog) (l o : Nat) : fieldAddrA P 73 (.v (.sc (.ptr l o))) 0 = some (.v (.sc (.ptr l (o + 0)))) := by subst hP; kernel_rfl
theorem fd73_0 {P : Program} (hP : P = Try.prog) (cs : List SV) : fieldA P 73 (.v (.ag cs)) 0 = (partA P 3 cs 0).map .v := by subst hP; kernel_rfl
theorem fa73_1 {P : Program} (hP : P = Try.prog) (l o : Nat) : fieldAddrA P 73 (.v (.sc (.ptr l o))) 1 = some (.v (.sc (.ptr l (o + 1)))) := by subst hP; kernel_rfl
theorem fd73_1 {P : Program} (hP : P = Try.prog) (cs : List SV) : fieldA P 73 (.v (.ag cs)) 1 = (partA P 72 cs 1).map .v := by subst hP; kernel_rfl
theorem bu73 {P : Program} (hP : P = Try.prog) (ps : List (Nat × AV)) : buildA P 73 ps = (fillA (fun i => ([(0, 1), (1, 1)] : List (Nat × Nat))[i]?) [.int .i64 0, .nils] ps).map fun cs => .v (.ag cs) := by subst hP; kernel_rfl
theorem fa74_0 {P : Program} (hP : P = Try.prog) (l o : Nat) : fieldAddrA P 74 (.v (.sc (.ptr l o))) 0 = some (.v (.sc (.ptr l (o + 0)))) := by subst hP; kernel_rfl
theorem fd74_0 {P : Program} (hP : P = Try.prog) (cs : List SV) : fieldA P 74 (.v (.ag cs)) 0 = (partA P 3 cs 0).map .v := by subst hP; kernel_rfl
theorem fa74_1 {P : Program} (hP : P = Try.prog) (l o : Nat) : fieldAddrA P 74 (.v (.sc (.ptr l o))) 1 = some (.v (.sc (.ptr l (o + 1)))) := by subst hP; kernel_rfl
theorem fd74_1 {P : Program} (hP : P = Try.prog) (cs : List SV) : fieldA P 74 (.v (.ag cs)) 1 = (partA P 72 cs 1).map .v := by subst hP; kernel_rfl
theorem bu74 {P : Program} (hP : P = Try.prog) (ps : List (Nat × AV)) : buildA P 74 ps = (fillA (fun i => ([(0, 1), (1, 1)] : List (Nat × Nat))[i]?) [.int .i64 0, .nils] ps).map fun cs => .v (.ag cs) := by subst hP; kernel_rfl
theorem fa77_0 {P : Program} (hP : P = Try.prog) (l o : Nat) : fieldAddrA P 77 (.v (.sc (.ptr l o))) 0 = some (.v (.sc (.ptr l (o + 0)))) := by subst hP; kernel_rfl
theorem fd77_0 {P : Program} (hP : P = Try.prog) (cs : List SV) : fieldA P 77 (.v (.ag cs)) 0 = (partA P 3 cs 0).map .v := by subst hP; kernel_rfl
theorem fa77_1 {P : Program} (hP : P = Try.prog) (l o : Nat) : fieldAddrA P 77 (.v (.sc (.ptr l o))) 1 = some (.v (.sc (.ptr l (o + 1)))) := by subst hP; kernel_rfl
theorem fd77_1 {P : Program} (hP : P = Try.prog) (cs : List SV) : fieldA P 77 (.v (.ag cs)) 1 = (partA P 39 cs 1).map .v := by subst hP; kernel_rfl
theorem bu77 {P : Program} (hP : P = Try.prog) (ps : List (Nat × AV)) : buildA P 77 ps = (fillA (fun i => ([(0, 1), (1, 1)] : List (Nat × Nat))[i]?) [.int .i64 0, .int .u64 0] ps).map fun cs => .v (.ag cs) := by subst hP; kernel_rfl
theorem eq77 {P : Program} (hP : P = Try.prog) (xs ys : List SV) : eqA P 77 (.v (.ag xs)) (.v (.ag ys)) = eqL [1, 1] xs ys := by subst hP; kernel_rfl
theorem un85 {P : Program} (hP : P = Try.prog)  : P.underlying 85 = some (.pointer 74) := by subst hP; kernel_rfl
theorem fa87_0 {P : Program} (hP : P = Try.prog) (l o : Nat) : fieldAddrA P 87 (.v (.sc (.ptr l o))) 0 = some (.v (.sc (.ptr l (o + 0)))) := by subst hP; kernel_rfl
theorem fd87_0 {P : Program} (hP : P = Try.prog) (cs : List SV) : fieldA P 87 (.v (.ag cs)) 0 = (partA P 3 cs 0).map .v := by subst hP; kernel_rfl
theorem fa87_1 {P : Program} (hP : P = Try.prog) (l o : Nat) : fieldAddrA P 87 (.v (.sc (.ptr l o))) 1 = some (.v (.sc (.ptr l (o + 1)))) := by subst hP; kernel_rfl
theorem fd87_1 {P : Program} (hP : P = Try.prog) (cs : List SV) : fieldA P 87 (.v (.ag cs)) 1 = (partA P 59 cs 1).map .v := by subst hP; kernel_rfl
theorem bu87 {P : Program} (hP : P = Try.prog) (ps : List (Nat × AV)) : buildA P 87 ps = (fillA (fun i => ([(0, 1), (1, 1)] : List (Nat × Nat))[i]?) [.int .i64 0, .nils] ps).map fun cs => .v (.ag cs) := by subst hP; kernel_rfl
theorem fa88_0 {P : Program} (hP : P = Try.prog) (l o : Nat) : fieldAddrA P 88 (.v (.sc (.ptr l o))) 0 = some (.v (.sc (.ptr l (o + 0)))) := by subst hP; kernel_rfl
theorem fd88_0 {P : Program} (hP : P = Try.prog) (cs : List SV) : fieldA P 88 (.v (.ag cs)) 0 = (partA P 3 cs 0).map .v := by subst hP; kernel_rfl
theorem fa88_1 {P : Program} (hP : P = Try.prog) (l o : Nat) : fieldAddrA P 88 (.v (.sc (.ptr l o))) 1 = some (.v (.sc (.ptr l (o + 1)))) := by subst hP; kernel_rfl
theorem fd88_1 {P : Program} (hP : P = Try.prog) (cs : List SV) : fieldA P 88 (.v (.ag cs)) 1 = (partA P 59 cs 1).map .v := by subst hP; kernel_rfl
theorem bu88 {P : Program} (hP : P = Try.prog) (ps : List (Nat × AV)) : buildA P 88 ps = (fillA (fun i => ([(0, 1), (1, 1)] : List (Nat × Nat))[i]?) [.int .i64 0, .nils] ps).map fun cs => .v (.ag cs) := by subst hP; kernel_rfl
theorem un89 {P : Program} (hP : P = Try.prog)  : P.underlying 89 = some (.slice 51) := by subst hP; kernel_rfl
theorem un91 {P : Program} (hP : P = Try.prog)  : P.underlying 91 = some (.slice 98) := by subst hP; kernel_rfl
theorem un92 {P : Program} (hP : P = Try.prog)  : P.underlying 92 = some (.pointer 126) := by subst hP; kernel_rfl
theorem un95 {P : Program} (hP : P = Try.prog)  : P.underlying 95 = some (.array 3 3) := by subst hP; kernel_rfl
theorem eq95 {P : Program} (hP : P = Try.prog) (xs ys : List SV) : eqA P 95 (.v (.ag xs)) (.v (.ag ys)) = eqL [1, 1, 1] xs ys := by subst hP; kernel_rfl
theorem bu95 {P : Program} (hP : P = Try.prog) (ps : List (Nat × AV)) : buildA P 95 ps = (fillA (fun i => some (i * 1, 1)) [.int .i64 0, .int .i64 0, .int .i64 0] ps).map fun cs => .v (.ag cs) := by subst hP; kernel_rfl
theorem fa97_0 {P : Program} (hP : P = Try.prog) (l o : Nat) : fieldAddrA P 97 (.v (.sc (.ptr l o))) 0 = some (.v (.sc (.ptr l (o + 0)))) := by subst hP; kernel_rfl
theorem fd97_0 {P : Program} (hP : P = Try.prog) (cs : List SV) : fieldA P 97 (.v (.ag cs)) 0 = (partA P 3 cs 0).map .v := by subst hP; kernel_rfl
theorem fa97_1 {P : Program} (hP : P = Try.prog) (l o : Nat) : fieldAddrA P 97 (.v (.sc (.ptr l o))) 1 = some (.v (.sc (.ptr l (o + 1)))) := by subst hP; kernel_rfl
theorem fd97_1 {P : Program} (hP : P = Try.prog) (cs : List SV) : fieldA P 97 (.v (.ag cs)) 1 = (partA P 3 cs 1).map .v := by subst hP; kernel_rfl
theorem fa97_2 {P : Program} (hP : P = Try.prog) (l o : Nat) : fieldAddrA P 97 (.v (.sc (.ptr l o))) 2 = some (.v (.sc (.ptr l (o + 2)))) := by subst hP; kernel_rfl
theorem fd97_2 {P : Program} (hP : P = Try.prog) (cs : List SV) : fieldA P 97 (.v (.ag cs)) 2 = (partA P 3 cs 2).map .v := by subst hP; kernel_rfl
theorem fa97_3 {P : Program} (hP : P = Try.prog) (l o : Nat) : fieldAddrA P 97 (.v (.sc (.ptr l o))) 3 = some (.v (.sc (.ptr l (o + 3)))) := by subst hP; kernel_rfl
theorem fd97_3 {P : Program} (hP : P = Try.prog) (cs : List SV) : fieldA P 97 (.v (.ag cs)) 3 = (partA P 3 cs 3).map .v := by subst hP; kernel_rfl
theorem fa97_4 {P : Program} (hP : P = Try.prog) (l o : Nat) : fieldAddrA P 97 (.v (.sc (.ptr l o))) 4 = some (.v (.sc (.ptr l (o + 4)))) := by subst hP; kernel_rfl
theorem fd97_4 {P : Program} (hP : P = Try.prog) (cs : List SV) : fieldA P 97 (.v (.ag cs)) 4 = (partA P 3 cs 4).map .v := by subst hP; kernel_rfl
theorem bu97 {P : Program} (hP : P = Try.prog) (ps : List (Nat × AV)) : buildA P 97 ps = (fillA (fun i => ([(0, 1), (1, 1), (2, 1), (3, 1), (4, 1)] : List (Nat × Nat))[i]?) [.int .i64 0, .int .i64 0, .int .i64 0, .int .i64 0, .int .i64 0] ps).map fun cs => .v (.ag cs) := by subst hP; kernel_rfl
theorem eq97 {P : Program} (hP : P = Try.prog) (xs ys : List SV) : eqA P 97 (.v (.ag xs)) (.v (.ag ys)) = eqL [1, 1, 1, 1, 1] xs ys := by subst hP; kernel_rfl
theorem fa98_0 {P : Program} (hP : P = Try.prog) (l o : Nat) : fieldAddrA P 98 (.v (.sc (.ptr l o))) 0 = some (.v (.sc (.ptr l (o + 0)))) := by subst hP; kernel_rfl
theorem fd98_0 {P : Program} (hP : P = Try.prog) (cs : List SV) : fieldA P 98 (.v (.ag cs)) 0 = (partA P 3 cs 0).map .v := by subst hP; kernel_rfl
theorem fa98_1 {P : Program} (hP : P = Try.prog) (l o : Nat) : fieldAddrA P 98 (.v (.sc (.ptr l o))) 1 = some (.v (.sc (.ptr l (o + 1)))) := by subst hP; kernel_rfl
theorem fd98_1 {P : Program} (hP : P = Try.prog) (cs : List SV) : fieldA P 98 (.v (.ag cs)) 1 = (partA P 3 cs 1).map .v := by subst hP; kernel_rfl
theorem fa98_2 {P : Program} (hP : P = Try.prog) (l o : Nat) : fieldAddrA P 98 (.v (.sc (.ptr l o))) 2 = some (.v (.sc (.ptr l (o + 2)))) := by subst hP; kernel_rfl
theorem fd98_2 {P : Program} (hP : P = Try.prog) (cs : List SV) : fieldA P 98 (.v (.ag cs)) 2 = (partA P 3 cs 2).map .v := by subst hP; kernel_rfl
theorem fa98_3 {P : Program} (hP : P = Try.prog) (l o : Nat) : fieldAddrA P 98 (.v (.sc (.ptr l o))) 3 = some (.v (.sc (.ptr l (o + 3)))) := by subst hP; kernel_rfl
theorem fd98_3 {P : Program} (hP : P = Try.prog) (cs : List SV) : fieldA P 98 (.v (.ag cs)) 3 = (partA P 3 cs 3).map .v := by subst hP; kernel_rfl
theorem fa98_4 {P : Program} (hP : P = Try.prog) (l o : Nat) : fieldAddrA P 98 (.v (.sc (.ptr l o))) 4 = some (.v (.sc (.ptr l (o + 4)))) := by subst hP; kernel_rfl
theorem fd98_4 {P : Program} (hP : P = Try.prog) (cs : List SV) : fieldA P 98 (.v (.ag cs)) 4 = (partA P 3 cs 4).map .v := by subst hP; kernel_rfl
theorem bu98 {P : Program} (hP : P = Try.prog) (ps : List (Nat × AV)) : buildA P 98 ps = (fillA (fun i => ([(0, 1), (1, 1), (2, 1), (3, 1), (4, 1)] : List (Nat × Nat))[i]?) [.int .i64 0, .int .i64 0, .int .i64 0, .int .i64 0, .int .i64 0] ps).map fun cs => .v (.ag cs) := by subst hP; kernel_rfl
theorem eq98 {P : Program} (hP : P = Try.prog) (xs ys : List SV) : eqA P 98 (.v (.ag xs)) (.v (.ag ys)) = eqL [1, 1, 1, 1, 1] xs ys := by subst hP; kernel_rfl
theorem fa100_0 {P : Program} (hP : P = Try.prog) (l o : Nat) : fieldAddrA P 100 (.v (.sc (.ptr l o))) 0 = some (.v (.sc (.ptr l (o + 0)))) := by subst hP; kernel_rfl
theorem fd100_0 {P : Program} (hP : P = Try.prog) (cs : List SV) : fieldA P 100 (.v (.ag cs)) 0 = (partA P 3 cs 0).map .v := by subst hP; kernel_rfl
theorem fa100_1 {P : Program} (hP : P = Try.prog) (l o : Nat) : fieldAddrA P 100 (.v (.sc (.ptr l o))) 1 = some (.v (.sc (.ptr l (o + 1)))) := by subst hP; kernel_rfl
theorem fd100_1 {P : Program} (hP : P = Try.prog) (cs : List SV) : fieldA P 100 (.v (.ag cs)) 1 = (partA P 3 cs 1).map .v := by subst hP; kernel_rfl
theorem fa100_2 {P : Program} (hP : P = Try.prog) (l o : Nat) : fieldAddrA P 100 (.v (.sc (.ptr l o))) 2 = some (.v (.sc (.ptr l (o + 2)))) := by subst hP; kernel_rfl
theorem fd100_2 {P : Program} (hP : P = Try.prog) (cs : List SV) : fieldA P 100 (.v (.ag cs)) 2 = (partA P 3 cs 2).map .v := by subst hP; kernel_rfl
theorem fa100_3 {P : Program} (hP : P = Try.prog) (l o : Nat) : fieldAddrA P 100 (.v (.sc (.ptr l o))) 3 = some (.v (.sc (.ptr l (o + 3)))) := by subst hP; kernel_rfl
theorem fd100_3 {P : Program} (hP : P = Try.prog) (cs : List SV) : fieldA P 100 (.v (.ag cs)) 3 = (partA P 3 cs 3).map .v := by subst hP; kernel_rfl
theorem fa100_4 {P : Program} (hP : P = Try.prog) (l o : Nat) : fieldAddrA P 100 (.v (.sc (.ptr l o))) 4 = some (.v (.sc (.ptr l (o + 4)))) := by subst hP; kernel_rfl
theorem fd100_4 {P : Program} (hP : P = Try.prog) (cs : List SV) : fieldA P 100 (.v (.ag cs)) 4 = (partA P 52 cs 4).map .v := by subst hP; kernel_rfl
theorem bu100 {P : Program} (hP : P = Try.prog) (ps : List (Nat × AV)) : buildA P 100 ps = (fillA (fun i => ([(0, 1), (1, 1), (2, 1), (3, 1), (4, 1)] : List (Nat × Nat))[i]?) [.int .i64 0, .int .i64 0, .int .i64 0, .int .i64 0, .int .i64 0] ps).map fun cs => .v (.ag cs) := by subst hP; kernel_rfl
theorem eq100 {P : Program} (hP : P = Try.prog) (xs ys : List SV) : eqA P 100 (.v (.ag xs)) (.v (.ag ys)) = eqL [1, 1, 1, 1, 1] xs ys := by subst hP; kernel_rfl
theorem fa101_0 {P : Program} (hP : P = Try.prog) (l o : Nat) : fieldAddrA P 101 (.v (.sc (.ptr l o))) 0 = some (.v (.sc (.ptr l (o + 0)))) := by subst hP; kernel_rfl
theorem fd101_0 {P : Program} (hP : P = Try.prog) (cs : List SV) : fieldA P 101 (.v (.ag cs)) 0 = (partA P 3 cs 0).map .v := by subst hP; kernel_rfl
theorem fa101_1 {P : Program} (hP : P = Try.prog) (l o : Nat) : fieldAddrA P 101 (.v (.sc (.ptr l o))) 1 = some (.v (.sc (.ptr l (o + 1)))) := by subst hP; kernel_rfl
theorem fd101_1 {P : Program} (hP : P = Try.prog) (cs : List SV) : fieldA P 101 (.v (.ag cs)) 1 = (partA P 3 cs 1).map .v := by subst hP; kernel_rfl
theorem fa101_2 {P : Program} (hP : P = Try.prog) (l o : Nat) : fieldAddrA P 101 (.v (.sc (.ptr l o))) 2 = some (.v (.sc (.ptr l (o + 2)))) := by subst hP; kernel_rfl
theorem fd101_2 {P : Program} (hP : P = Try.prog) (cs : List SV) : fieldA P 101 (.v (.ag cs)) 2 = (partA P 3 cs 2).map .v := by subst hP; kernel_rfl
theorem fa101_3 {P : Program} (hP : P = Try.prog) (l o : Nat) : fieldAddrA P 101 (.v (.sc (.ptr l o))) 3 = some (.v (.sc (.ptr l (o + 3)))) := by subst hP; kernel_rfl
theorem fd101_3 {P : Program} (hP : P = Try.prog) (cs : List SV) : fieldA P 101 (.v (.ag cs)) 3 = (partA P 3 cs 3).map .v := by subst hP; kernel_rfl
theorem fa101_4 {P : Program} (hP : P = Try.prog) (l o : Nat) : fieldAddrA P 101 (.v (.sc (.ptr l o))) 4 = some (.v (.sc (.ptr l (o + 4)))) := by subst hP; kernel_rfl
theorem fd101_4 {P : Program} (hP : P = Try.prog) (cs : List SV) : fieldA P 101 (.v (.ag cs)) 4 = (partA P 52 cs 4).map .v := by subst hP; kernel_rfl
theorem bu101 {P : Program} (hP : P = Try.prog) (ps : List (Nat × AV)) : buildA P 101 ps = (fillA (fun i => ([(0, 1), (1, 1), (2, 1), (3, 1), (4, 1)] : List (Nat × Nat))[i]?) [.int .i64 0, .int .i64 0, .int .i64 0, .int .i64 0, .int .i64 0] ps).map fun cs => .v (.ag cs) := by subst hP; kernel_rfl
theorem eq101 {P : Program} (hP : P = Try.prog) (xs ys : List SV) : eqA P 101 (.v (.ag xs)) (.v (.ag ys)) = eqL [1, 1, 1, 1, 1] xs ys := by subst hP; kernel_rfl
theorem un105 {P : Program} (hP : P = Try.prog)  : P.underlying 105 = some (.array 8 3) := by subst hP; kernel_rfl
theorem eq105 {P : Program} (hP : P = Try.prog) (xs ys : List SV) : eqA P 105 (.v (.ag xs)) (.v (.ag ys)) = eqL [1, 1, 1, 1, 1, 1, 1, 1] xs ys := by subst hP; kernel_rfl
theorem bu105 {P : Program} (hP : P = Try.prog) (ps : List (Nat × AV)) : buildA P 105 ps = (fillA (fun i => some (i * 1, 1)) [.int .i64 0, .int .i64 0, .int .i64 0, .int .i64 0, .int .i64 0, .int .i64 0, .int .i64 0, .int .i64 0] ps).map fun cs => .v (.ag cs) := by subst hP; kernel_rfl
theorem un106 {P : Program} (hP : P = Try.prog)  : P.underlying 106 = some (.array 8 4) := by subst hP; kernel_rfl
theorem eq106 {P : Program} (hP : P = Try.prog) (xs ys : List SV) : eqA P 106 (.v (.ag xs)) (.v (.ag ys)) = eqL [0, 0, 0, 0, 0, 0, 0, 0] xs ys := by subst hP; kernel_rfl
theorem bu106 {P : Program} (hP : P = Try.prog) (ps : List (Nat × AV)) : buildA P 106 ps = (fillA (fun i => some (i * 1, 1)) [.bool false, .bool false, .bool false, .bool false, .bool false, .bool false, .bool false, .bool false] ps).map fun cs => .v (.ag cs) := by subst hP; kernel_rfl
theorem fa107_0 {P : Program} (hP : P = Try.prog) (l o : Nat) : fieldAddrA P 107 (.v (.sc (.ptr l o))) 0 = some (.v (.sc (.ptr l (o + 0)))) := by subst hP; kernel_rfl
theorem fd107_0 {P : Program} (hP : P = Try.prog) (cs : List SV) : fieldA P 107 (.v (.ag cs)) 0 = (partA P 3 cs 0).map .v := by subst hP; kernel_rfl
theorem fa107_1 {P : Program} (hP : P = Try.prog) (l o : Nat) : fieldAddrA P 107 (.v (.sc (.ptr l o))) 1 = some (.v (.sc (.ptr l (o + 1)))) := by subst hP; kernel_rfl
theorem fd107_1 {P : Program} (hP : P = Try.prog) (cs : List SV) : fieldA P 107 (.v (.ag cs)) 1 = (partA P 3 cs 1).map .v := by subst hP; kernel_rfl
theorem fa107_2 {P : Program} (hP : P = Try.prog) (l o : Nat) : fieldAddrA P 107 (.v (.sc (.ptr l o))) 2 = some (.v (.sc (.ptr l (o + 2)))) := by subst hP; kernel_rfl
theorem fd107_2 {P : Program} (hP : P = Try.prog) (cs : List SV) : fieldA P 107 (.v (.ag cs)) 2 = (partA P 3 cs 2).map .v := by subst hP; kernel_rfl
theorem bu107 {P : Program} (hP : P = Try.prog) (ps : List (Nat × AV)) : buildA P 107 ps = (fillA (fun i => ([(0, 1), (1, 1), (2, 1)] : List (Nat × Nat))[i]?) [.int .i64 0, .int .i64 0, .int .i64 0] ps).map fun cs => .v (.ag cs) := by subst hP; kernel_rfl
theorem eq107 {P : Program} (hP : P = Try.prog) (xs ys : List SV) : eqA P 107 (.v (.ag xs)) (.v (.ag ys)) = eqL [1, 1, 1] xs ys := by subst hP; kernel_rfl
theorem fa108_0 {P : Program} (hP : P = Try.prog) (l o : Nat) : fieldAddrA P 108 (.v (.sc (.ptr l o))) 0 = some (.v (.sc (.ptr l (o + 0)))) := by subst hP; kernel_rfl
theorem fd108_0 {P : Program} (hP : P = Try.prog) (cs : List SV) : fieldA P 108 (.v (.ag cs)) 0 = (partA P 3 cs 0).map .v := by subst hP; kernel_rfl
theorem fa108_1 {P : Program} (hP : P = Try.prog) (l o : Nat) : fieldAddrA P 108 (.v (.sc (.ptr l o))) 1 = some (.v (.sc (.ptr l (o + 1)))) := by subst hP; kernel_rfl
theorem fd108_1 {P : Program} (hP : P = Try.prog) (cs : List SV) : fieldA P 108 (.v (.ag cs)) 1 = (partA P 3 cs 1).map .v := by subst hP; kernel_rfl
theorem fa108_2 {P : Program} (hP : P = Try.prog) (l o : Nat) : fieldAddrA P 108 (.v (.sc (.ptr l o))) 2 = some (.v (.sc (.ptr l (o + 2)))) := by subst hP; kernel_rfl
theorem fd108_2 {P : Program} (hP : P = Try.prog) (cs : List SV) : fieldA P 108 (.v (.ag cs)) 2 = (partA P 3 cs 2).map .v := by subst hP; kernel_rfl
theorem bu108 {P : Program} (hP : P = Try.prog) (ps : List (Nat × AV)) : buildA P 108 ps = (fillA (fun i => ([(0, 1), (1, 1), (2, 1)] : List (Nat × Nat))[i]?) [.int .i64 0, .int .i64 0, .int .i64 0] ps).map fun cs => .v (.ag cs) := by subst hP; kernel_rfl
theorem eq108 {P : Program} (hP : P = Try.prog) (xs ys : List SV) : eqA P 108 (.v (.ag xs)) (.v (.ag ys)) = eqL [1, 1, 1] xs ys := by subst hP; kernel_rfl
theorem un109 {P : Program} (hP : P = Try.prog)  : P.underlying 109 = some (.array 8 108) := by subst hP; kernel_rfl
theorem eq109 {P : Program} (hP : P = Try.prog) (xs ys : List SV) : eqA P 109 (.v (.ag xs)) (.v (.ag ys)) = eqL [1, 1, 1, 1, 1, 1, 1, 1, 1, 1, 1, 1, 1, 1, 1, 1, 1, 1, 1, 1, 1, 1, 1, 1] xs ys := by subst hP; kernel_rfl
theorem bu109 {P : Program} (hP : P = Try.prog) (ps : List (Nat × AV)) : buildA P 109 ps = (fillA (fun i => some (i * 3, 3)) [.int .i64 0, .int .i64 0, .int .i64 0, .int .i64 0, .int .i64 0, .int .i64 0, .int .i64 0, .int .i64 0, .int .i64 0, .int .i64 0, .int .i64 0, .int .i64 0, .int .i64 0, .int .i64 0, .int .i64 0, .int .i64 0, .int .i64 0, .int .i64 0, .int .i64 0, .int .i64 0, .int .i64 0, .int .i64 0, .int .i64 0, .int .i64 0] ps).map fun cs => .v (.ag cs) := by subst hP; kernel_rfl
theorem un110 {P : Program} (hP : P = Try.prog)  : P.underlying 110 = some (.array 8 109) := by subst hP; kernel_rfl
theorem fa111_0 {P : Program} (hP : P = Try.prog) (l o : Nat) : fieldAddrA P 111 (.v (.sc (.ptr l o))) 0 = some (.v (.sc (.ptr l (o + 0)))) := by subst hP; kernel_rfl
theorem fd111_0 {P : Program} (hP : P = Try.prog) (cs : List SV) : fieldA P 111 (.v (.ag cs)) 0 = (partA P 3 cs 0).map .v := by subst hP; kernel_rfl
theorem fa111_1 {P : Program} (hP : P = Try.prog) (l o : Nat) : fieldAddrA P 111 (.v (.sc (.ptr l o))) 1 = some (.v (.sc (.ptr l (o + 1)))) := by subst hP; kernel_rfl
theorem fd111_1 {P : Program} (hP : P = Try.prog) (cs : List SV) : fieldA P 111 (.v (.ag cs)) 1 = (partA P 3 cs 1).map .v := by subst hP; kernel_rfl
theorem fa111_2 {P : Program} (hP : P = Try.prog) (l o : Nat) : fieldAddrA P 111 (.v (.sc (.ptr l o))) 2 = some (.v (.sc (.ptr l (o + 2)))) := by subst hP; kernel_rfl
theorem fd111_2 {P : Program} (hP : P = Try.prog) (cs : List SV) : fieldA P 111 (.v (.ag cs)) 2 = (partA P 3 cs 2).map .v := by subst hP; kernel_rfl
theorem fa111_3 {P : Program} (hP : P = Try.prog) (l o : Nat) : fieldAddrA P 111 (.v (.sc (.ptr l o))) 3 = some (.v (.sc (.ptr l (o + 3)))) := by subst hP; kernel_rfl
theorem fd111_3 {P : Program} (hP : P = Try.prog) (cs : List SV) : fieldA P 111 (.v (.ag cs)) 3 = (partA P 105 cs 3).map .v := by subst hP; kernel_rfl
theorem fa111_4 {P : Program} (hP : P = Try.prog) (l o : Nat) : fieldAddrA P 111 (.v (.sc (.ptr l o))) 4 = some (.v (.sc (.ptr l (o + 11)))) := by subst hP; kernel_rfl
theorem fd111_4 {P : Program} (hP : P = Try.prog) (cs : List SV) : fieldA P 111 (.v (.ag cs)) 4 = (partA P 105 cs 11).map .v := by subst hP; kernel_rfl
theorem fa111_5 {P : Program} (hP : P = Try.prog) (l o : Nat) : fieldAddrA P 111 (.v (.sc (.ptr l o))) 5 = some (.v (.sc (.ptr l (o + 19)))) := by subst hP; kernel_rfl
theorem fd111_5 {P : Program} (hP : P = Try.prog) (cs : List SV) : fieldA P 111 (.v (.ag cs)) 5 = (partA P 105 cs 19).map .v := by subst hP; kernel_rfl
theorem fa111_6 {P : Program} (hP : P = Try.prog) (l o : Nat) : fieldAddrA P 111 (.v (.sc (.ptr l o))) 6 = some (.v (.sc (.ptr l (o + 27)))) := by subst hP; kernel_rfl
theorem fd111_6 {P : Program} (hP : P = Try.prog) (cs : List SV) : fieldA P 111 (.v (.ag cs)) 6 = (partA P 106 cs 27).map .v := by subst hP; kernel_rfl
theorem fa111_7 {P : Program} (hP : P = Try.prog) (l o : Nat) : fieldAddrA P 111 (.v (.sc (.ptr l o))) 7 = some (.v (.sc (.ptr l (o + 35)))) := by subst hP; kernel_rfl
theorem fd111_7 {P : Program} (hP : P = Try.prog) (cs : List SV) : fieldA P 111 (.v (.ag cs)) 7 = (partA P 110 cs 35).map .v := by subst hP; kernel_rfl
theorem bu111 {P : Program} (hP : P = Try.prog) (ps : List (Nat × AV)) : buildA P 111 ps = (fillA (fun i => ([(0, 1), (1, 1), (2, 1), (3, 8), (11, 8), (19, 8), (27, 8), (35, 192)] : List (Nat × Nat))[i]?) [.int .i64 0, .int .i64 0, .int .i64 0, .int .i64 0, .int .i64 0, .int .i64 0, .int .i64 0, .int .i64 0, .int .i64 0, .int .i64 0, .int .i64 0, .int .i64 0, .int .i64 0, .int .i64 0, .int .i64 0, .int .i64 0, .int .i64 0, .int .i64 0, .int .i64 0, .int .i64 0, .int .i64 0, .int .i64 0, .int .i64 0, .int .i64 0, .int .i64 0, .int .i64 0, .int .i64 0, .bool false, .bool false, .bool false, .bool false, .bool false, .bool false, .bool false, .bool false, .int .i64 0, .int .i64 0, .int .i64 0, .int .i64 0, .int .i64 0, .int .i64 0, .int .i64 0, .int .i64 0, .int .i64 0, .int .i64 0, .int .i64 0, .int .i64 0, .int .i64 0, .int .i64 0, .int .i64 0, .int .i64 0, .int .i64 0, .int .i64 0, .int .i64 0, .int .i64 0, .int .i64 0, .int .i64 0, .int .i64 0, .int .i64 0, .int .i64 0, .int .i64 0, .int .i64 0, .int .i64 0, .int .i64 0, .int .i64 0, .int .i64 0, .int .i64 0, .int .i64 0, .int .i64 0, .int .i64 0, .int .i64 0, .int .i64 0, .int .i64 0, .int .i64 0, .int .i64 0, .int .i64 0, .int .i64 0, .int .i64 0, .int .i64 0, .int .i64 0, .int .i64 0, .int .i64 0, .int .i64 0, .int .i64 0, .int .i64 0, .int .i64 0, .int .i64 0, .int .i64 0, .int .i64 0, .int .i64 0, .int .i64 0, .int .i64 0, .int .i64 0, .int .i64 0, .int .i64 0, .int .i64 0, .int .i64 0, .int .i64 0, .int .i64 0, .int .i64 0, .int .i64 0, .int .i64 0, .int .i64 0, .int .i64 0, .int .i64 0, .int .i64 0, .int .i64 0, .int .i64 0, .int .i64 0, .int .i64 0, .int .i64 0, .int .i64 0, .int .i64 0, .int .i64 0, .int .i64 0, .int .i64 0, .int .i64 0, .int .i64 0, .int .i64 0, .int .i64 0, .int .i64 0, .int .i64 0, .int .i64 0, .int .i64 0, .int .i64 0, .int .i64 0, .int .i64 0, .int .i64 0, .int .i64 0, .int .i64 0, .int .i64 0, .int .i64 0, .int .i64 0, .int .i64 0, .int .i64 0, .int .i64 0, .int .i64 0, .int .i64 0, .int .i64 0, .int .i64 0, .int .i64 0, .int .i64 0, .int .i64 0, .int .i64 0, .int .i64 0, .int .i64 0, .int .i64 0, .int .i64 0, .int .i64 0, .int .i64 0, .int .i64 0, .int .i64 0, .int .i64 0, .int .i64 0, .int .i64 0, .int .i64 0, .int .i64 0, .int .i64 0, .int .i64 0, .int .i64 0, .int .i64 0, .int .i64 0, .int .i64 0, .int .i64 0, .int .i64 0, .int .i64 0, .int .i64 0, .int .i64 0, .int .i64 0, .int .i64 0, .int .i64 0, .int .i64 0, .int .i64 0, .int .i64 0, .int .i64 0, .int .i64 0, .int .i64 0, .int .i64 0, .int .i64 0, .int .i64 0, .int .i64 0, .int .i64 0, .int .i64 0, .int .i64 0, .int .i64 0, .int .i64 0, .int .i64 0, .int .i64 0, .int .i64 0, .int .i64 0, .int .i64 0, .int .i64 0, .int .i64 0, .int .i64 0, .int .i64 0, .int .i64 0, .int .i64 0, .int .i64 0, .int .i64 0, .int .i64 0, .int .i64 0, .int .i64 0, .int .i64 0, .int .i64 0, .int .i64 0, .int .i64 0, .int .i64 0, .int .i64 0, .int .i64 0, .int .i64 0, .int .i64 0, .int .i64 0, .int .i64 0, .int .i64 0, .int .i64 0, .int .i64 0, .int .i64 0, .int .i64 0, .int .i64 0, .int .i64 0, .int .i64 0, .int .i64 0, .int .i64 0, .int .i64 0, .int .i64 0, .int .i64 0, .int .i64 0] ps).map fun cs => .v (.ag cs) := by subst hP; kernel_rfl
theorem fa112_0 {P : Program} (hP : P = Try.prog) (l o : Nat) : fieldAddrA P 112 (.v (.sc (.ptr l o))) 0 = some (.v (.sc (.ptr l (o + 0)))) := by subst hP; kernel_rfl
theorem fd112_0 {P : Program} (hP : P = Try.prog) (cs : List SV) : fieldA P 112 (.v (.ag cs)) 0 = (partA P 3 cs 0).map .v := by subst hP; kernel_rfl
theorem fa112_1 {P : Program} (hP : P = Try.prog) (l o : Nat) : fieldAddrA P 112 (.v (.sc (.ptr l o))) 1 = some (.v (.sc (.ptr l (o + 1)))) := by subst hP; kernel_rfl
theorem fd112_1 {P : Program} (hP : P = Try.prog) (cs : List SV) : fieldA P 112 (.v (.ag cs)) 1 = (partA P 3 cs 1).map .v := by subst hP; kernel_rfl
theorem fa112_2 {P : Program} (hP : P = Try.prog) (l o : Nat) : fieldAddrA P 112 (.v (.sc (.ptr l o))) 2 = some (.v (.sc (.ptr l (o + 2)))) := by subst hP; kernel_rfl
theorem fd112_2 {P : Program} (hP : P = Try.prog) (cs : List SV) : fieldA P 112 (.v (.ag cs)) 2 = (partA P 3 cs 2).map .v := by subst hP; kernel_rfl
theorem fa112_3 {P : Program} (hP : P = Try.prog) (l o : Nat) : fieldAddrA P 112 (.v (.sc (.ptr l o))) 3 = some (.v (.sc (.ptr l (o + 3)))) := by subst hP; kernel_rfl
theorem fd112_3 {P : Program} (hP : P = Try.prog) (cs : List SV) : fieldA P 112 (.v (.ag cs)) 3 = (partA P 105 cs 3).map .v := by subst hP; kernel_rfl
theorem fa112_4 {P : Program} (hP : P = Try.prog) (l o : Nat) : fieldAddrA P 112 (.v (.sc (.ptr l o))) 4 = some (.v (.sc (.ptr l (o + 11)))) := by subst hP; kernel_rfl
theorem fd112_4 {P : Program} (hP : P = Try.prog) (cs : List SV) : fieldA P 112 (.v (.ag cs)) 4 = (partA P 105 cs 11).map .v := by subst hP; kernel_rfl
theorem fa112_5 {P : Program} (hP : P = Try.prog) (l o : Nat) : fieldAddrA P 112 (.v (.sc (.ptr l o))) 5 = some (.v (.sc (.ptr l (o + 19)))) := by subst hP; kernel_rfl
theorem fd112_5 {P : Program} (hP : P = Try.prog) (cs : List SV) : fieldA P 112 (.v (.ag cs)) 5 = (partA P 105 cs 19).map .v := by subst hP; kernel_rfl
theorem fa112_6 {P : Program} (hP : P = Try.prog) (l o : Nat) : fieldAddrA P 112 (.v (.sc (.ptr l o))) 6 = some (.v (.sc (.ptr l (o + 27)))) := by subst hP; kernel_rfl
theorem fd112_6 {P : Program} (hP : P = Try.prog) (cs : List SV) : fieldA P 112 (.v (.ag cs)) 6 = (partA P 106 cs 27).map .v := by subst hP; kernel_rfl
theorem fa112_7 {P : Program} (hP : P = Try.prog) (l o : Nat) : fieldAddrA P 112 (.v (.sc (.ptr l o))) 7 = some (.v (.sc (.ptr l (o + 35)))) := by subst hP; kernel_rfl
theorem fd112_7 {P : Program} (hP : P = Try.prog) (cs : List SV) : fieldA P 112 (.v (.ag cs)) 7 = (partA P 110 cs 35).map .v := by subst hP; kernel_rfl
theorem bu112 {P : Program} (hP : P = Try.prog) (ps : List (Nat × AV)) : buildA P 112 ps = (fillA (fun i => ([(0, 1), (1, 1), (2, 1), (3, 8), (11, 8), (19, 8), (27, 8), (35, 192)] : List (Nat × Nat))[i]?) [.int .i64 0, .int .i64 0, .int .i64 0, .int .i64 0, .int .i64 0, .int .i64 0, .int .i64 0, .int .i64 0, .int .i64 0, .int .i64 0, .int .i64 0, .int .i64 0, .int .i64 0, .int .i64 0, .int .i64 0, .int .i64 0, .int .i64 0, .int .i64 0, .int .i64 0, .int .i64 0, .int .i64 0, .int .i64 0, .int .i64 0, .int .i64 0, .int .i64 0, .int .i64 0, .int .i64 0, .bool false, .bool false, .bool false, .bool false, .bool false, .bool false, .bool false, .bool false, .int .i64 0, .int .i64 0, .int .i64 0, .int .i64 0, .int .i64 0, .int .i64 0, .int .i64 0, .int .i64 0, .int .i64 0, .int .i64 0, .int .i64 0, .int .i64 0, .int .i64 0, .int .i64 0, .int .i64 0, .int .i64 0, .int .i64 0, .int .i64 0, .int .i64 0, .int .i64 0, .int .i64 0, .int .i64 0, .int .i64 0, .int .i64 0, .int .i64 0, .int .i64 0, .int .i64 0, .int .i64 0, .int .i64 0, .int .i64 0, .int .i64 0, .int .i64 0, .int .i64 0, .int .i64 0, .int .i64 0, .int .i64 0, .int .i64 0, .int .i64 0, .int .i64 0, .int .i64 0, .int .i64 0, .int .i64 0, .int .i64 0, .int .i64 0, .int .i64 0, .int .i64 0, .int .i64 0, .int .i64 0, .int .i64 0, .int .i64 0, .int .i64 0, .int .i64 0, .int .i64 0, .int .i64 0, .int .i64 0, .int .i64 0, .int .i64 0, .int .i64 0, .int .i64 0, .int .i64 0, .int .i64 0, .int .i64 0, .int .i64 0, .int .i64 0, .int .i64 0, .int .i64 0, .int .i64 0, .int .i64 0, .int .i64 0, .int .i64 0, .int .i64 0, .int .i64 0, .int .i64 0, .int .i64 0, .int .i64 0, .int .i64 0, .int .i64 0, .int .i64 0, .int .i64 0, .int .i64 0, .int .i64 0, .int .i64 0, .int .i64 0, .int .i64 0, .int .i64 0, .int .i64 0, .int .i64 0, .int .i64 0, .int .i64 0, .int .i64 0, .int .i64 0, .int .i64 0, .int .i64 0, .int .i64 0, .int .i64 0, .int .i64 0, .int .i64 0, .int .i64 0, .int .i64 0, .int .i64 0, .int .i64 0, .int .i64 0, .int .i64 0, .int .i64 0, .int .i64 0, .int .i64 0, .int .i64 0, .int .i64 0, .int .i64 0, .int .i64 0, .int .i64 0, .int .i64 0, .int .i64 0, .int .i64 0, .int .i64 0, .int .i64 0, .int .i64 0, .int .i64 0, .int .i64 0, .int .i64 0, .int .i64 0, .int .i64 0, .int .i64 0, .int .i64 0, .int .i64 0, .int .i64 0, .int .i64 0, .int .i64 0, .int .i64 0, .int .i64 0, .int .i64 0, .int .i64 0, .int .i64 0, .int .i64 0, .int .i64 0, .int .i64 0, .int .i64 0, .int .i64 0, .int .i64 0, .int .i64 0, .int .i64 0, .int .i64 0, .int .i64 0, .int .i64 0, .int .i64 0, .int .i64 0, .int .i64 0, .int .i64 0, .int .i64 0, .int .i64 0, .int .i64 0, .int .i64 0, .int .i64 0, .int .i64 0, .int .i64 0, .int .i64 0, .int .i64 0, .int .i64 0, .int .i64 0, .int .i64 0, .int .i64 0, .int .i64 0, .int .i64 0, .int .i64 0, .int .i64 0, .int .i64 0, .int .i64 0, .int .i64 0, .int .i64 0, .int .i64 0, .int .i64 0, .int .i64 0, .int .i64 0, .int .i64 0, .int .i64 0, .int .i64 0, .int .i64 0, .int .i64 0, .int .i64 0, .int .i64 0, .int .i64 0, .int .i64 0, .int .i64 0, .int .i64 0, .int .i64 0, .int .i64 0, .int .i64 0, .int .i64 0, .int .i64 0, .int .i64 0, .int .i64 0, .int .i64 0] ps).map fun cs => .v (.ag cs) := by subst hP; kernel_rfl
theorem un121 {P : Program} (hP : P = Try.prog)  : P.underlying 121 = some (.slice 150) := by subst hP; kernel_rfl
theorem un122 {P : Program} (hP : P = Try.prog)  : P.underlying 122 = some (.slice 4) := by subst hP; kernel_rfl
theorem un123 {P : Program} (hP : P = Try.prog)  : P.underlying 123 = some (.map 164 3) := by subst hP; kernel_rfl
theorem un124 {P : Program} (hP : P = Try.prog)  : P.underlying 124 = some (.map 164 156) := by subst hP; kernel_rfl
theorem fa125_0 {P : Program} (hP : P = Try.prog) (l o : Nat) : fieldAddrA P 125 (.v (.sc (.ptr l o))) 0 = some (.v (.sc (.ptr l (o + 0)))) := by subst hP; kernel_rfl
theorem fd125_0 {P : Program} (hP : P = Try.prog) (cs : List SV) : fieldA P 125 (.v (.ag cs)) 0 = (partA P 3 cs 0).map .v := by subst hP; kernel_rfl
theorem fa125_1 {P : Program} (hP : P = Try.prog) (l o : Nat) : fieldAddrA P 125 (.v (.sc (.ptr l o))) 1 = some (.v (.sc (.ptr l (o + 1)))) := by subst hP; kernel_rfl
theorem fd125_1 {P : Program} (hP : P = Try.prog) (cs : List SV) : fieldA P 125 (.v (.ag cs)) 1 = (partA P 121 cs 1).map .v := by subst hP; kernel_rfl
theorem fa125_2 {P : Program} (hP : P = Try.prog) (l o : Nat) : fieldAddrA P 125 (.v (.sc (.ptr l o))) 2 = some (.v (.sc (.ptr l (o + 2)))) := by subst hP; kernel_rfl
theorem fd125_2 {P : Program} (hP : P = Try.prog) (cs : List SV) : fieldA P 125 (.v (.ag cs)) 2 = (partA P 122 cs 2).map .v := by subst hP; kernel_rfl
theorem fa125_3 {P : Program} (hP : P = Try.prog) (l o : Nat) : fieldAddrA P 125 (.v (.sc (.ptr l o))) 3 = some (.v (.sc (.ptr l (o + 3)))) := by subst hP; kernel_rfl
theorem fd125_3 {P : Program} (hP : P = Try.prog) (cs : List SV) : fieldA P 125 (.v (.ag cs)) 3 = (partA P 123 cs 3).map .v := by subst hP; kernel_rfl
theorem fa125_4 {P : Program} (hP : P = Try.prog) (l o : Nat) : fieldAddrA P 125 (.v (.sc (.ptr l o))) 4 = some (.v (.sc (.ptr l (o + 4)))) := by subst hP; kernel_rfl
theorem fd125_4 {P : Program} (hP : P = Try.prog) (cs : List SV) : fieldA P 125 (.v (.ag cs)) 4 = (partA P 124 cs 4).map .v := by subst hP; kernel_rfl
theorem bu125 {P : Program} (hP : P = Try.prog) (ps : List (Nat × AV)) : buildA P 125 ps = (fillA (fun i => ([(0, 1), (1, 1), (2, 1), (3, 1), (4, 1)] : List (Nat × Nat))[i]?) [.int .i64 0, .nils, .nils, .nilm, .nilm] ps).map fun cs => .v (.ag cs) := by subst hP; kernel_rfl
theorem fa126_0 {P : Program} (hP : P = Try.prog) (l o : Nat) : fieldAddrA P 126 (.v (.sc (.ptr l o))) 0 = some (.v (.sc (.ptr l (o + 0)))) := by subst hP; kernel_rfl
theorem fd126_0 {P : Program} (hP : P = Try.prog) (cs : List SV) : fieldA P 126 (.v (.ag cs)) 0 = (partA P 3 cs 0).map .v := by subst hP; kernel_rfl
theorem fa126_1 {P : Program} (hP : P = Try.prog) (l o : Nat) : fieldAddrA P 126 (.v (.sc (.ptr l o))) 1 = some (.v (.sc (.ptr l (o + 1)))) := by subst hP; kernel_rfl
theorem fd126_1 {P : Program} (hP : P = Try.prog) (cs : List SV) : fieldA P 126 (.v (.ag cs)) 1 = (partA P 121 cs 1).map .v := by subst hP; kernel_rfl
theorem fa126_2 {P : Program} (hP : P = Try.prog) (l o : Nat) : fieldAddrA P 126 (.v (.sc (.ptr l o))) 2 = some (.v (.sc (.ptr l (o + 2)))) := by subst hP; kernel_rfl
theorem fd126_2 {P : Program} (hP : P = Try.prog) (cs : List SV) : fieldA P 126 (.v (.ag cs)) 2 = (partA P 122 cs 2).map .v := by subst hP; kernel_rfl
theorem fa126_3 {P : Program} (hP : P = Try.prog) (l o : Nat) : fieldAddrA P 126 (.v (.sc (.ptr l o))) 3 = some (.v (.sc (.ptr l (o + 3)))) := by subst hP; kernel_rfl
theorem fd126_3 {P : Program} (hP : P = Try.prog) (cs : List SV) : fieldA P 126 (.v (.ag cs)) 3 = (partA P 123 cs 3).map .v := by subst hP; kernel_rfl
theorem fa126_4 {P : Program} (hP : P = Try.prog) (l o : Nat) : fieldAddrA P 126 (.v (.sc (.ptr l o))) 4 = some (.v (.sc (.ptr l (o + 4)))) := by subst hP; kernel_rfl
theorem fd126_4 {P : Program} (hP : P = Try.prog) (cs : List SV) : fieldA P 126 (.v (.ag cs)) 4 = (partA P 124 cs 4).map .v := by subst hP; kernel_rfl
theorem bu126 {P : Program} (hP : P = Try.prog) (ps : List (Nat × AV)) : buildA P 126 ps = (fillA (fun i => ([(0, 1), (1, 1), (2, 1), (3, 1), (4, 1)] : List (Nat × Nat))[i]?) [.int .i64 0, .nils, .nils, .nilm, .nilm] ps).map fun cs => .v (.ag cs) := by subst hP; kernel_rfl
theorem un127 {P : Program} (hP : P = Try.prog)  : P.underlying 127 = some (.slice 92) := by subst hP; kernel_rfl
theorem un129 {P : Program} (hP : P = Try.prog)  : P.underlying 129 = some (.array 8 36) := by subst hP; kernel_rfl
theorem eq129 {P : Program} (hP : P = Try.prog) (xs ys : List SV) : eqA P 129 (.v (.ag xs)) (.v (.ag ys)) = eqL [1, 1, 1, 1, 1, 1, 1, 1] xs ys := by subst hP; kernel_rfl
theorem bu129 {P : Program} (hP : P = Try.prog) (ps : List (Nat × AV)) : buildA P 129 ps = (fillA (fun i => some (i * 1, 1)) [.int .u32 0, .int .u32 0, .int .u32 0, .int .u32 0, .int .u32 0, .int .u32 0, .int .u32 0, .int .u32 0] ps).map fun cs => .v (.ag cs) := by subst hP; kernel_rfl
theorem fa130_0 {P : Program} (hP : P = Try.prog) (l o : Nat) : fieldAddrA P 130 (.v (.sc (.ptr l o))) 0 = some (.v (.sc (.ptr l (o + 0)))) := by subst hP; kernel_rfl
theorem fd130_0 {P : Program} (hP : P = Try.prog) (cs : List SV) : fieldA P 130 (.v (.ag cs)) 0 = (partA P 3 cs 0).map .v := by subst hP; kernel_rfl
theorem fa130_1 {P : Program} (hP : P = Try.prog) (l o : Nat) : fieldAddrA P 130 (.v (.sc (.ptr l o))) 1 = some (.v (.sc (.ptr l (o + 1)))) := by subst hP; kernel_rfl
theorem fd130_1 {P : Program} (hP : P = Try.prog) (cs : List SV) : fieldA P 130 (.v (.ag cs)) 1 = (partA P 3 cs 1).map .v := by subst hP; kernel_rfl
theorem fa130_2 {P : Program} (hP : P = Try.prog) (l o : Nat) : fieldAddrA P 130 (.v (.sc (.ptr l o))) 2 = some (.v (.sc (.ptr l (o + 2)))) := by subst hP; kernel_rfl
theorem fd130_2 {P : Program} (hP : P = Try.prog) (cs : List SV) : fieldA P 130 (.v (.ag cs)) 2 = (partA P 4 cs 2).map .v := by subst hP; kernel_rfl
theorem fa130_3 {P : Program} (hP : P = Try.prog) (l o : Nat) : fieldAddrA P 130 (.v (.sc (.ptr l o))) 3 = some (.v (.sc (.ptr l (o + 3)))) := by subst hP; kernel_rfl
theorem fd130_3 {P : Program} (hP : P = Try.prog) (cs : List SV) : fieldA P 130 (.v (.ag cs)) 3 = (partA P 129 cs 3).map .v := by subst hP; kernel_rfl
theorem fa130_4 {P : Program} (hP : P = Try.prog) (l o : Nat) : fieldAddrA P 130 (.v (.sc (.ptr l o))) 4 = some (.v (.sc (.ptr l (o + 11)))) := by subst hP; kernel_rfl
theorem fd130_4 {P : Program} (hP : P = Try.prog) (cs : List SV) : fieldA P 130 (.v (.ag cs)) 4 = (partA P 39 cs 11).map .v := by subst hP; kernel_rfl
theorem bu130 {P : Program} (hP : P = Try.prog) (ps : List (Nat × AV)) : buildA P 130 ps = (fillA (fun i => ([(0, 1), (1, 1), (2, 1), (3, 8), (11, 1)] : List (Nat × Nat))[i]?) [.int .i64 0, .int .i64 0, .bool false, .int .u32 0, .int .u32 0, .int .u32 0, .int .u32 0, .int .u32 0, .int .u32 0, .int .u32 0, .int .u32 0, .int .u64 0] ps).map fun cs => .v (.ag cs) := by subst hP; kernel_rfl
theorem eq130 {P : Program} (hP : P = Try.prog) (xs ys : List SV) : eqA P 130 (.v (.ag xs)) (.v (.ag ys)) = eqL [1, 1, 0, 1, 1, 1, 1, 1, 1, 1, 1, 1] xs ys := by subst hP; kernel_rfl
theorem fa131_0 {P : Program} (hP : P = Try.prog) (l o : Nat) : fieldAddrA P 131 (.v (.sc (.ptr l o))) 0 = some (.v (.sc (.ptr l (o + 0)))) := by subst hP; kernel_rfl
theorem fd131_0 {P : Program} (hP : P = Try.prog) (cs : List SV) : fieldA P 131 (.v (.ag cs)) 0 = (partA P 3 cs 0).map .v := by subst hP; kernel_rfl
theorem fa131_1 {P : Program} (hP : P = Try.prog) (l o : Nat) : fieldAddrA P 131 (.v (.sc (.ptr l o))) 1 = some (.v (.sc (.ptr l (o + 1)))) := by subst hP; kernel_rfl
theorem fd131_1 {P : Program} (hP : P = Try.prog) (cs : List SV) : fieldA P 131 (.v (.ag cs)) 1 = (partA P 3 cs 1).map .v := by subst hP; kernel_rfl
theorem fa131_2 {P : Program} (hP : P = Try.prog) (l o : Nat) : fieldAddrA P 131 (.v (.sc (.ptr l o))) 2 = some (.v (.sc (.ptr l (o + 2)))) := by subst hP; kernel_rfl
theorem fd131_2 {P : Program} (hP : P = Try.prog) (cs : List SV) : fieldA P 131 (.v (.ag cs)) 2 = (partA P 4 cs 2).map .v := by subst hP; kernel_rfl
theorem fa131_3 {P : Program} (hP : P = Try.prog) (l o : Nat) : fieldAddrA P 131 (.v (.sc (.ptr l o))) 3 = some (.v (.sc (.ptr l (o + 3)))) := by subst hP; kernel_rfl
theorem fd131_3 {P : Program} (hP : P = Try.prog) (cs : List SV) : fieldA P 131 (.v (.ag cs)) 3 = (partA P 129 cs 3).map .v := by subst hP; kernel_rfl
theorem fa131_4 {P : Program} (hP : P = Try.prog) (l o : Nat) : fieldAddrA P 131 (.v (.sc (.ptr l o))) 4 = some (.v (.sc (.ptr l (o + 11)))) := by subst hP; kernel_rfl
theorem fd131_4 {P : Program} (hP : P = Try.prog) (cs : List SV) : fieldA P 131 (.v (.ag cs)) 4 = (partA P 39 cs 11).map .v := by subst hP; kernel_rfl
theorem bu131 {P : Program} (hP : P = Try.prog) (ps : List (Nat × AV)) : buildA P 131 ps = (fillA (fun i => ([(0, 1), (1, 1), (2, 1), (3, 8), (11, 1)] : List (Nat × Nat))[i]?) [.int .i64 0, .int .i64 0, .bool false, .int .u32 0, .int .u32 0, .int .u32 0, .int .u32 0, .int .u32 0, .int .u32 0, .int .u32 0, .int .u32 0, .int .u64 0] ps).map fun cs => .v (.ag cs) := by subst hP; kernel_rfl
theorem eq131 {P : Program} (hP : P = Try.prog) (xs ys : List SV) : eqA P 131 (.v (.ag xs)) (.v (.ag ys)) = eqL [1, 1, 0, 1, 1, 1, 1, 1, 1, 1, 1, 1] xs ys := by subst hP; kernel_rfl
theorem un132 {P : Program} (hP : P = Try.prog)  : P.underlying 132 = some (.map 3 47) := by subst hP; kernel_rfl
theorem un134 {P : Program} (hP : P = Try.prog)  : P.underlying 134 = some (.map 3 45) := by subst hP; kernel_rfl
theorem fa149_0 {P : Program} (hP : P = Try.prog) (l o : Nat) : fieldAddrA P 149 (.v (.sc (.ptr l o))) 0 = some (.v (.sc (.ptr l (o + 0)))) := by subst hP; kernel_rfl
theorem fd149_0 {P : Program} (hP : P = Try.prog) (cs : List SV) : fieldA P 149 (.v (.ag cs)) 0 = (partA P 3 cs 0).map .v := by subst hP; kernel_rfl
theorem fa149_1 {P : Program} (hP : P = Try.prog) (l o : Nat) : fieldAddrA P 149 (.v (.sc (.ptr l o))) 1 = some (.v (.sc (.ptr l (o + 1)))) := by subst hP; kernel_rfl
theorem fd149_1 {P : Program} (hP : P = Try.prog) (cs : List SV) : fieldA P 149 (.v (.ag cs)) 1 = (partA P 3 cs 1).map .v := by subst hP; kernel_rfl
theorem fa149_2 {P : Program} (hP : P = Try.prog) (l o : Nat) : fieldAddrA P 149 (.v (.sc (.ptr l o))) 2 = some (.v (.sc (.ptr l (o + 2)))) := by subst hP; kernel_rfl
theorem fd149_2 {P : Program} (hP : P = Try.prog) (cs : List SV) : fieldA P 149 (.v (.ag cs)) 2 = (partA P 3 cs 2).map .v := by subst hP; kernel_rfl
theorem bu149 {P : Program} (hP : P = Try.prog) (ps : List (Nat × AV)) : buildA P 149 ps = (fillA (fun i => ([(0, 1), (1, 1), (2, 1)] : List (Nat × Nat))[i]?) [.int .i64 0, .int .i64 0, .int .i64 0] ps).map fun cs => .v (.ag cs) := by subst hP; kernel_rfl
theorem eq149 {P : Program} (hP : P = Try.prog) (xs ys : List SV) : eqA P 149 (.v (.ag xs)) (.v (.ag ys)) = eqL [1, 1, 1] xs ys := by subst hP; kernel_rfl
theorem fa150_0 {P : Program} (hP : P = Try.prog) (l o : Nat) : fieldAddrA P 150 (.v (.sc (.ptr l o))) 0 = some (.v (.sc (.ptr l (o + 0)))) := by subst hP; kernel_rfl
theorem fd150_0 {P : Program} (hP : P = Try.prog) (cs : List SV) : fieldA P 150 (.v (.ag cs)) 0 = (partA P 3 cs 0).map .v := by subst hP; kernel_rfl
theorem fa150_1 {P : Program} (hP : P = Try.prog) (l o : Nat) : fieldAddrA P 150 (.v (.sc (.ptr l o))) 1 = some (.v (.sc (.ptr l (o + 1)))) := by subst hP; kernel_rfl
theorem fd150_1 {P : Program} (hP : P = Try.prog) (cs : List SV) : fieldA P 150 (.v (.ag cs)) 1 = (partA P 3 cs 1).map .v := by subst hP; kernel_rfl
theorem fa150_2 {P : Program} (hP : P = Try.prog) (l o : Nat) : fieldAddrA P 150 (.v (.sc (.ptr l o))) 2 = some (.v (.sc (.ptr l (o + 2)))) := by subst hP; kernel_rfl
theorem fd150_2 {P : Program} (hP : P = Try.prog) (cs : List SV) : fieldA P 150 (.v (.ag cs)) 2 = (partA P 3 cs 2).map .v := by subst hP; kernel_rfl
theorem bu150 {P : Program} (hP : P = Try.prog) (ps : List (Nat × AV)) : buildA P 150 ps = (fillA (fun i => ([(0, 1), (1, 1), (2, 1)] : List (Nat × Nat))[i]?) [.int .i64 0, .int .i64 0, .int .i64 0] ps).map fun cs => .v (.ag cs) := by subst hP; kernel_rfl
theorem eq150 {P : Program} (hP : P = Try.prog) (xs ys : List SV) : eqA P 150 (.v (.ag xs)) (.v (.ag ys)) = eqL [1, 1, 1] xs ys := by subst hP; kernel_rfl
theorem fa155_0 {P : Program} (hP : P = Try.prog) (l o : Nat) : fieldAddrA P 155 (.v (.sc (.ptr l o))) 0 = some (.v (.sc (.ptr l (o + 0)))) := by subst hP; kernel_rfl
theorem fd155_0 {P : Program} (hP : P = Try.prog) (cs : List SV) : fieldA P 155 (.v (.ag cs)) 0 = (partA P 3 cs 0).map .v := by subst hP; kernel_rfl
theorem fa155_1 {P : Program} (hP : P = Try.prog) (l o : Nat) : fieldAddrA P 155 (.v (.sc (.ptr l o))) 1 = some (.v (.sc (.ptr l (o + 1)))) := by subst hP; kernel_rfl
theorem fd155_1 {P : Program} (hP : P = Try.prog) (cs : List SV) : fieldA P 155 (.v (.ag cs)) 1 = (partA P 52 cs 1).map .v := by subst hP; kernel_rfl
theorem bu155 {P : Program} (hP : P = Try.prog) (ps : List (Nat × AV)) : buildA P 155 ps = (fillA (fun i => ([(0, 1), (1, 1)] : List (Nat × Nat))[i]?) [.int .i64 0, .int .i64 0] ps).map fun cs => .v (.ag cs) := by subst hP; kernel_rfl
theorem eq155 {P : Program} (hP : P = Try.prog) (xs ys : List SV) : eqA P 155 (.v (.ag xs)) (.v (.ag ys)) = eqL [1, 1] xs ys := by subst hP; kernel_rfl
theorem zc156 {P : Program} (hP : P = Try.prog)  : zeroC P 156 = some (.ag [.int .i64 0, .int .i64 0]) := by subst hP; kernel_rfl
theorem fa156_0 {P : Program} (hP : P = Try.prog) (l o : Nat) : fieldAddrA P 156 (.v (.sc (.ptr l o))) 0 = some (.v (.sc (.ptr l (o + 0)))) := by subst hP; kernel_rfl
theorem fd156_0 {P : Program} (hP : P = Try.prog) (cs : List SV) : fieldA P 156 (.v (.ag cs)) 0 = (partA P 3 cs 0).map .v := by subst hP; kernel_rfl
theorem fa156_1 {P : Program} (hP : P = Try.prog) (l o : Nat) : fieldAddrA P 156 (.v (.sc (.ptr l o))) 1 = some (.v (.sc (.ptr l (o + 1)))) := by subst hP; kernel_rfl
theorem fd156_1 {P : Program} (hP : P = Try.prog) (cs : List SV) : fieldA P 156 (.v (.ag cs)) 1 = (partA P 52 cs 1).map .v := by subst hP; kernel_rfl
theorem bu156 {P : Program} (hP : P = Try.prog) (ps : List (Nat × AV)) : buildA P 156 ps = (fillA (fun i => ([(0, 1), (1, 1)] : List (Nat × Nat))[i]?) [.int .i64 0, .int .i64 0] ps).map fun cs => .v (.ag cs) := by subst hP; kernel_rfl
theorem eq156 {P : Program} (hP : P = Try.prog) (xs ys : List SV) : eqA P 156 (.v (.ag xs)) (.v (.ag ys)) = eqL [1, 1] xs ys := by subst hP; kernel_rfl
theorem fa163_0 {P : Program} (hP : P = Try.prog) (l o : Nat) : fieldAddrA P 163 (.v (.sc (.ptr l o))) 0 = some (.v (.sc (.ptr l (o + 0)))) := by subst hP; kernel_rfl
theorem fd163_0 {P : Program} (hP : P = Try.prog) (cs : List SV) : fieldA P 163 (.v (.ag cs)) 0 = (partA P 3 cs 0).map .v := by subst hP; kernel_rfl
theorem fa163_1 {P : Program} (hP : P = Try.prog) (l o : Nat) : fieldAddrA P 163 (.v (.sc (.ptr l o))) 1 = some (.v (.sc (.ptr l (o + 1)))) := by subst hP; kernel_rfl
theorem fd163_1 {P : Program} (hP : P = Try.prog) (cs : List SV) : fieldA P 163 (.v (.ag cs)) 1 = (partA P 3 cs 1).map .v := by subst hP; kernel_rfl
theorem bu163 {P : Program} (hP : P = Try.prog) (ps : List (Nat × AV)) : buildA P 163 ps = (fillA (fun i => ([(0, 1), (1, 1)] : List (Nat × Nat))[i]?) [.int .i64 0, .int .i64 0] ps).map fun cs => .v (.ag cs) := by subst hP; kernel_rfl
theorem eq163 {P : Program} (hP : P = Try.prog) (xs ys : List SV) : eqA P 163 (.v (.ag xs)) (.v (.ag ys)) = eqL [1, 1] xs ys := by subst hP; kernel_rfl
theorem fa164_0 {P : Program} (hP : P = Try.prog) (l o : Nat) : fieldAddrA P 164 (.v (.sc (.ptr l o))) 0 = some (.v (.sc (.ptr l (o + 0)))) := by subst hP; kernel_rfl
theorem fd164_0 {P : Program} (hP : P = Try.prog) (cs : List SV) : fieldA P 164 (.v (.ag cs)) 0 = (partA P 3 cs 0).map .v := by subst hP; kernel_rfl
theorem fa164_1 {P : Program} (hP : P = Try.prog) (l o : Nat) : fieldAddrA P 164 (.v (.sc (.ptr l o))) 1 = some (.v (.sc (.ptr l (o + 1)))) := by subst hP; kernel_rfl
theorem fd164_1 {P : Program} (hP : P = Try.prog) (cs : List SV) : fieldA P 164 (.v (.ag cs)) 1 = (partA P 3 cs 1).map .v := by subst hP; kernel_rfl
theorem bu164 {P : Program} (hP : P = Try.prog) (ps : List (Nat × AV)) : buildA P 164 ps = (fillA (fun i => ([(0, 1), (1, 1)] : List (Nat × Nat))[i]?) [.int .i64 0, .int .i64 0] ps).map fun cs => .v (.ag cs) := by subst hP; kernel_rfl
theorem eq164 {P : Program} (hP : P = Try.prog) (xs ys : List SV) : eqA P 164 (.v (.ag xs)) (.v (.ag ys)) = eqL [1, 1] xs ys := by subst hP; kernel_rfl
theorem un176 {P : Program} (hP : P = Try.prog)  : P.underlying 176 = some (.int .u64) := by subst hP; kernel_rfl
theorem un187 {P : Program} (hP : P = Try.prog)  : P.underlying 187 = some (.int .i64) := by subst hP; kernel_rfl
theorem un196 {P : Program} (hP : P = Try.prog)  : P.underlying 196 = some (.pointer 150) := by subst hP; kernel_rfl
theorem un198 {P : Program} (hP : P = Try.prog)  : P.underlying 198 = some (.int .u64) := by subst hP; kernel_rfl
theorem un202 {P : Program} (hP : P = Try.prog)  : P.underlying 202 = some (.pointer 3) := by subst hP; kernel_rfl
theorem un204 {P : Program} (hP : P = Try.prog)  : P.underlying 204 = some (.pointer 198) := by subst hP; kernel_rfl
theorem fa207_0 {P : Program} (hP : P = Try.prog) (l o : Nat) : fieldAddrA P 207 (.v (.sc (.ptr l o))) 0 = some (.v (.sc (.ptr l (o + 0)))) := by subst hP; kernel_rfl
theorem fd207_0 {P : Program} (hP : P = Try.prog) (cs : List SV) : fieldA P 207 (.v (.ag cs)) 0 = (partA P 17 cs 0).map .v := by subst hP; kernel_rfl
theorem fa207_1 {P : Program} (hP : P = Try.prog) (l o : Nat) : fieldAddrA P 207 (.v (.sc (.ptr l o))) 1 = some (.v (.sc (.ptr l (o + 1)))) := by subst hP; kernel_rfl
theorem fd207_1 {P : Program} (hP : P = Try.prog) (cs : List SV) : fieldA P 207 (.v (.ag cs)) 1 = (partA P 17 cs 1).map .v := by subst hP; kernel_rfl
theorem fa207_2 {P : Program} (hP : P = Try.prog) (l o : Nat) : fieldAddrA P 207 (.v (.sc (.ptr l o))) 2 = some (.v (.sc (.ptr l (o + 2)))) := by subst hP; kernel_rfl
theorem fd207_2 {P : Program} (hP : P = Try.prog) (cs : List SV) : fieldA P 207 (.v (.ag cs)) 2 = (partA P 17 cs 2).map .v := by subst hP; kernel_rfl
theorem fa207_3 {P : Program} (hP : P = Try.prog) (l o : Nat) : fieldAddrA P 207 (.v (.sc (.ptr l o))) 3 = some (.v (.sc (.ptr l (o + 3)))) := by subst hP; kernel_rfl
theorem fd207_3 {P : Program} (hP : P = Try.prog) (cs : List SV) : fieldA P 207 (.v (.ag cs)) 3 = (partA P 9 cs 3).map .v := by subst hP; kernel_rfl
theorem bu207 {P : Program} (hP : P = Try.prog) (ps : List (Nat × AV)) : buildA P 207 ps = (fillA (fun i => ([(0, 1), (1, 1), (2, 1), (3, 1)] : List (Nat × Nat))[i]?) [.nilp, .nilp, .nilp, .str ⟨#[]⟩] ps).map fun cs => .v (.ag cs) := by subst hP; kernel_rfl
theorem fa208_0 {P : Program} (hP : P = Try.prog) (l o : Nat) : fieldAddrA P 208 (.v (.sc (.ptr l o))) 0 = some (.v (.sc (.ptr l (o + 0)))) := by subst hP; kernel_rfl
theorem fd208_0 {P : Program} (hP : P = Try.prog) (cs : List SV) : fieldA P 208 (.v (.ag cs)) 0 = (partA P 17 cs 0).map .v := by subst hP; kernel_rfl
theorem fa208_1 {P : Program} (hP : P = Try.prog) (l o : Nat) : fieldAddrA P 208 (.v (.sc (.ptr l o))) 1 = some (.v (.sc (.ptr l (o + 1)))) := by subst hP; kernel_rfl
theorem fd208_1 {P : Program} (hP : P = Try.prog) (cs : List SV) : fieldA P 208 (.v (.ag cs)) 1 = (partA P 17 cs 1).map .v := by subst hP; kernel_rfl
theorem fa208_2 {P : Program} (hP : P = Try.prog) (l o : Nat) : fieldAddrA P 208 (.v (.sc (.ptr l o))) 2 = some (.v (.sc (.ptr l (o + 2)))) := by subst hP; kernel_rfl
theorem fd208_2 {P : Program} (hP : P = Try.prog) (cs : List SV) : fieldA P 208 (.v (.ag cs)) 2 = (partA P 17 cs 2).map .v := by subst hP; kernel_rfl
theorem fa208_3 {P : Program} (hP : P = Try.prog) (l o : Nat) : fieldAddrA P 208 (.v (.sc (.ptr l o))) 3 = some (.v (.sc (.ptr l (o + 3)))) := by subst hP; kernel_rfl
theorem fd208_3 {P : Program} (hP : P = Try.prog) (cs : List SV) : fieldA P 208 (.v (.ag cs)) 3 = (partA P 9 cs 3).map .v := by subst hP; kernel_rfl
theorem bu208 {P : Program} (hP : P = Try.prog) (ps : List (Nat × AV)) : buildA P 208 ps = (fillA (fun i => ([(0, 1), (1, 1), (2, 1), (3, 1)] : List (Nat × Nat))[i]?) [.nilp, .nilp, .nilp, .str ⟨#[]⟩] ps).map fun cs => .v (.ag cs) := by subst hP; kernel_rfl
theorem un209 {P : Program} (hP : P = Try.prog)  : P.underlying 209 = some (.array 0 16) := by subst hP; kernel_rfl
theorem bu209 {P : Program} (hP : P = Try.prog) (ps : List (Nat × AV)) : buildA P 209 ps = (fillA (fun i => some (i * 1, 1)) [] ps).map fun cs => .v (.ag cs) := by subst hP; kernel_rfl
theorem fd210_0 {P : Program} (hP : P = Try.prog) (cs : List SV) : fieldA P 210 (.v (.ag cs)) 0 = (partA P 209 cs 0).map .v := by subst hP; kernel_rfl
theorem bu210 {P : Program} (hP : P = Try.prog) (ps : List (Nat × AV)) : buildA P 210 ps = (fillA (fun i => ([(0, 0)] : List (Nat × Nat))[i]?) [] ps).map fun cs => .v (.ag cs) := by subst hP; kernel_rfl
theorem fd211_0 {P : Program} (hP : P = Try.prog) (cs : List SV) : fieldA P 211 (.v (.ag cs)) 0 = (partA P 209 cs 0).map .v := by subst hP; kernel_rfl
theorem bu211 {P : Program} (hP : P = Try.prog) (ps : List (Nat × AV)) : buildA P 211 ps = (fillA (fun i => ([(0, 0)] : List (Nat × Nat))[i]?) [] ps).map fun cs => .v (.ag cs) := by subst hP; kernel_rfl
theorem un212 {P : Program} (hP : P = Try.prog)  : P.underlying 212 = some (.int .u8) := by subst hP; kernel_rfl
theorem un213 {P : Program} (hP : P = Try.prog)  : P.underlying 213 = some (.int .u8) := by subst hP; kernel_rfl
theorem un215 {P : Program} (hP : P = Try.prog)  : P.underlying 215 = some (.pointer 5) := by subst hP; kernel_rfl
theorem un216 {P : Program} (hP : P = Try.prog)  : P.underlying 216 = some (.int .i32) := by subst hP; kernel_rfl
theorem un217 {P : Program} (hP : P = Try.prog)  : P.underlying 217 = some (.int .i32) := by subst hP; kernel_rfl
theorem fa218_0 {P : Program} (hP : P = Try.prog) (l o : Nat) : fieldAddrA P 218 (.v (.sc (.ptr l o))) 0 = some (.v (.sc (.ptr l (o + 0)))) := by subst hP; kernel_rfl
theorem fd218_0 {P : Program} (hP : P = Try.prog) (cs : List SV) : fieldA P 218 (.v (.ag cs)) 0 = (partA P 12 cs 0).map .v := by subst hP; kernel_rfl
theorem fa218_1 {P : Program} (hP : P = Try.prog) (l o : Nat) : fieldAddrA P 218 (.v (.sc (.ptr l o))) 1 = some (.v (.sc (.ptr l (o + 1)))) := by subst hP; kernel_rfl
theorem fd218_1 {P : Program} (hP : P = Try.prog) (cs : List SV) : fieldA P 218 (.v (.ag cs)) 1 = (partA P 12 cs 1).map .v := by subst hP; kernel_rfl
theorem fa218_2 {P : Program} (hP : P = Try.prog) (l o : Nat) : fieldAddrA P 218 (.v (.sc (.ptr l o))) 2 = some (.v (.sc (.ptr l (o + 2)))) := by subst hP; kernel_rfl
theorem fd218_2 {P : Program} (hP : P = Try.prog) (cs : List SV) : fieldA P 218 (.v (.ag cs)) 2 = (partA P 36 cs 2).map .v := by subst hP; kernel_rfl
theorem fa218_3 {P : Program} (hP : P = Try.prog) (l o : Nat) : fieldAddrA P 218 (.v (.sc (.ptr l o))) 3 = some (.v (.sc (.ptr l (o + 3)))) := by subst hP; kernel_rfl
theorem fd218_3 {P : Program} (hP : P = Try.prog) (cs : List SV) : fieldA P 218 (.v (.ag cs)) 3 = (partA P 212 cs 3).map .v := by subst hP; kernel_rfl
theorem fa218_4 {P : Program} (hP : P = Try.prog) (l o : Nat) : fieldAddrA P 218 (.v (.sc (.ptr l o))) 4 = some (.v (.sc (.ptr l (o + 4)))) := by subst hP; kernel_rfl
theorem fd218_4 {P : Program} (hP : P = Try.prog) (cs : List SV) : fieldA P 218 (.v (.ag cs)) 4 = (partA P 5 cs 4).map .v := by subst hP; kernel_rfl
theorem fa218_5 {P : Program} (hP : P = Try.prog) (l o : Nat) : fieldAddrA P 218 (.v (.sc (.ptr l o))) 5 = some (.v (.sc (.ptr l (o + 5)))) := by subst hP; kernel_rfl
theorem fd218_5 {P : Program} (hP : P = Try.prog) (cs : List SV) : fieldA P 218 (.v (.ag cs)) 5 = (partA P 5 cs 5).map .v := by subst hP; kernel_rfl
theorem fa218_6 {P : Program} (hP : P = Try.prog) (l o : Nat) : fieldAddrA P 218 (.v (.sc (.ptr l o))) 6 = some (.v (.sc (.ptr l (o + 6)))) := by subst hP; kernel_rfl
theorem fd218_6 {P : Program} (hP : P = Try.prog) (cs : List SV) : fieldA P 218 (.v (.ag cs)) 6 = (partA P 213 cs 6).map .v := by subst hP; kernel_rfl
theorem fa218_7 {P : Program} (hP : P = Try.prog) (l o : Nat) : fieldAddrA P 218 (.v (.sc (.ptr l o))) 7 = some (.v (.sc (.ptr l (o + 7)))) := by subst hP; kernel_rfl
theorem fd218_7 {P : Program} (hP : P = Try.prog) (cs : List SV) : fieldA P 218 (.v (.ag cs)) 7 = (partA P 214 cs 7).map .v := by subst hP; kernel_rfl
theorem fa218_8 {P : Program} (hP : P = Try.prog) (l o : Nat) : fieldAddrA P 218 (.v (.sc (.ptr l o))) 8 = some (.v (.sc (.ptr l (o + 8)))) := by subst hP; kernel_rfl
theorem fd218_8 {P : Program} (hP : P = Try.prog) (cs : List SV) : fieldA P 218 (.v (.ag cs)) 8 = (partA P 215 cs 8).map .v := by subst hP; kernel_rfl
theorem fa218_9 {P : Program} (hP : P = Try.prog) (l o : Nat) : fieldAddrA P 218 (.v (.sc (.ptr l o))) 9 = some (.v (.sc (.ptr l (o + 9)))) := by subst hP; kernel_rfl
theorem fd218_9 {P : Program} (hP : P = Try.prog) (cs : List SV) : fieldA P 218 (.v (.ag cs)) 9 = (partA P 216 cs 9).map .v := by subst hP; kernel_rfl
theorem fa218_10 {P : Program} (hP : P = Try.prog) (l o : Nat) : fieldAddrA P 218 (.v (.sc (.ptr l o))) 10 = some (.v (.sc (.ptr l (o + 10)))) := by subst hP; kernel_rfl
theorem fd218_10 {P : Program} (hP : P = Try.prog) (cs : List SV) : fieldA P 218 (.v (.ag cs)) 10 = (partA P 217 cs 10).map .v := by subst hP; kernel_rfl
theorem bu218 {P : Program} (hP : P = Try.prog) (ps : List (Nat × AV)) : buildA P 218 ps = (fillA (fun i => ([(0, 1), (1, 1), (2, 1), (3, 1), (4, 1), (5, 1), (6, 1), (7, 1), (8, 1), (9, 1), (10, 1)] : List (Nat × Nat))[i]?) [.int .u64 0, .int .u64 0, .int .u32 0, .int .u8 0, .int .u8 0, .int .u8 0, .int .u8 0, .nilf, .nilp, .int .i32 0, .int .i32 0] ps).map fun cs => .v (.ag cs) := by subst hP; kernel_rfl
theorem fa219_0 {P : Program} (hP : P = Try.prog) (l o : Nat) : fieldAddrA P 219 (.v (.sc (.ptr l o))) 0 = some (.v (.sc (.ptr l (o + 0)))) := by subst hP; kernel_rfl
theorem fd219_0 {P : Program} (hP : P = Try.prog) (cs : List SV) : fieldA P 219 (.v (.ag cs)) 0 = (partA P 12 cs 0).map .v := by subst hP; kernel_rfl
theorem fa219_1 {P : Program} (hP : P = Try.prog) (l o : Nat) : fieldAddrA P 219 (.v (.sc (.ptr l o))) 1 = some (.v (.sc (.ptr l (o + 1)))) := by subst hP; kernel_rfl
theorem fd219_1 {P : Program} (hP : P = Try.prog) (cs : List SV) : fieldA P 219 (.v (.ag cs)) 1 = (partA P 12 cs 1).map .v := by subst hP; kernel_rfl
theorem fa219_2 {P : Program} (hP : P = Try.prog) (l o : Nat) : fieldAddrA P 219 (.v (.sc (.ptr l o))) 2 = some (.v (.sc (.ptr l (o + 2)))) := by subst hP; kernel_rfl
theorem fd219_2 {P : Program} (hP : P = Try.prog) (cs : List SV) : fieldA P 219 (.v (.ag cs)) 2 = (partA P 36 cs 2).map .v := by subst hP; kernel_rfl
theorem fa219_3 {P : Program} (hP : P = Try.prog) (l o : Nat) : fieldAddrA P 219 (.v (.sc (.ptr l o))) 3 = some (.v (.sc (.ptr l (o + 3)))) := by subst hP; kernel_rfl
theorem fd219_3 {P : Program} (hP : P = Try.prog) (cs : List SV) : fieldA P 219 (.v (.ag cs)) 3 = (partA P 212 cs 3).map .v := by subst hP; kernel_rfl
theorem fa219_4 {P : Program} (hP : P = Try.prog) (l o : Nat) : fieldAddrA P 219 (.v (.sc (.ptr l o))) 4 = some (.v (.sc (.ptr l (o + 4)))) := by subst hP; kernel_rfl
theorem fd219_4 {P : Program} (hP : P = Try.prog) (cs : List SV) : fieldA P 219 (.v (.ag cs)) 4 = (partA P 5 cs 4).map .v := by subst hP; kernel_rfl
theorem fa219_5 {P : Program} (hP : P = Try.prog) (l o : Nat) : fieldAddrA P 219 (.v (.sc (.ptr l o))) 5 = some (.v (.sc (.ptr l (o + 5)))) := by subst hP; kernel_rfl
theorem fd219_5 {P : Program} (hP : P = Try.prog) (cs : List SV) : fieldA P 219 (.v (.ag cs)) 5 = (partA P 5 cs 5).map .v := by subst hP; kernel_rfl
theorem fa219_6 {P : Program} (hP : P = Try.prog) (l o : Nat) : fieldAddrA P 219 (.v (.sc (.ptr l o))) 6 = some (.v (.sc (.ptr l (o + 6)))) := by subst hP; kernel_rfl
theorem fd219_6 {P : Program} (hP : P = Try.prog) (cs : List SV) : fieldA P 219 (.v (.ag cs)) 6 = (partA P 213 cs 6).map .v := by subst hP; kernel_rfl
theorem fa219_7 {P : Program} (hP : P = Try.prog) (l o : Nat) : fieldAddrA P 219 (.v (.sc (.ptr l o))) 7 = some (.v (.sc (.ptr l (o + 7)))) := by subst hP; kernel_rfl
theorem fd219_7 {P : Program} (hP : P = Try.prog) (cs : List SV) : fieldA P 219 (.v (.ag cs)) 7 = (partA P 214 cs 7).map .v := by subst hP; kernel_rfl
theorem fa219_8 {P : Program} (hP : P = Try.prog) (l o : Nat) : fieldAddrA P 219 (.v (.sc (.ptr l o))) 8 = some (.v (.sc (.ptr l (o + 8)))) := by subst hP; kernel_rfl
theorem fd219_8 {P : Program} (hP : P = Try.prog) (cs : List SV) : fieldA P 219 (.v (.ag cs)) 8 = (partA P 215 cs 8).map .v := by subst hP; kernel_rfl
theorem fa219_9 {P : Program} (hP : P = Try.prog) (l o : Nat) : fieldAddrA P 219 (.v (.sc (.ptr l o))) 9 = some (.v (.sc (.ptr l (o + 9)))) := by subst hP; kernel_rfl
theorem fd219_9 {P : Program} (hP : P = Try.prog) (cs : List SV) : fieldA P 219 (.v (.ag cs)) 9 = (partA P 216 cs 9).map .v := by subst hP; kernel_rfl
theorem fa219_10 {P : Program} (hP : P = Try.prog) (l o : Nat) : fieldAddrA P 219 (.v (.sc (.ptr l o))) 10 = some (.v (.sc (.ptr l (o + 10)))) := by subst hP; kernel_rfl
theorem fd219_10 {P : Program} (hP : P = Try.prog) (cs : List SV) : fieldA P 219 (.v (.ag cs)) 10 = (partA P 217 cs 10).map .v := by subst hP; kernel_rfl
theorem bu219 {P : Program} (hP : P = Try.prog) (ps : List (Nat × AV)) : buildA P 219 ps = (fillA (fun i => ([(0, 1), (1, 1), (2, 1), (3, 1), (4, 1), (5, 1), (6, 1), (7, 1), (8, 1), (9, 1), (10, 1)] : List (Nat × Nat))[i]?) [.int .u64 0, .int .u64 0, .int .u32 0, .int .u8 0, .int .u8 0, .int .u8 0, .int .u8 0, .nilf, .nilp, .int .i32 0, .int .i32 0] ps).map fun cs => .v (.ag cs) := by subst hP; kernel_rfl
end Go.AM
