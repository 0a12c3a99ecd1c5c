/- The table of the seat's functions for the abstract machine. Printed by tab.py. Conditions: none. -/
import Derived.Test.YtgcgbcdgbfeaaaaAmTypes
import Derived.Test.YtgcgbcdgbfeaaaaAmAll
import Derived.KernelRfl
import Derived.Test.YtgcgbcdgbfeaaaaShelf
import Derived.Test.YtgcgbcdgbfeaaaaAmSort
import Derived.Test.YtgcgbcdgbfeaaaaMoH
import Derived.Test.YtgcgbcdgbfeaaaaMoF
namespace Go.AM
open Go.Proofs
set_option maxRecDepth 100000
set_option linter.unusedVariables false
noncomputable def i3 : Info := { fn := Try.f3, c := Try.f3.body.getD .skip, er := fun id => if id = 8 then [2, 7, 37, 38, 39, 40, 41, 42, 43, 44, 45, 46, 47, 48, 49, 50, 51, 52, 53, 54, 55, 56, 57, 58, 59, 60, 61, 62, 63, 64, 65, 66, 67, 68, 69, 70, 71, 72, 73, 74] else [], dr := fun id => if id = 10 then some Go.AM.Way.quiet else none }
theorem ok3 : RowOk Try.prog 3 (.pure i3) := ⟨Try.func3, by kernel_rfl, by kernel_rfl, by kernel_rfl⟩
noncomputable def i4 : Info := { fn := Try.f4, c := Try.f4.body.getD .skip, er := fun id => if id = 6 then [2, 6, 8, 19, 20, 21, 22, 23, 24, 25, 26, 27, 28, 29, 30, 31, 32, 33, 34, 35, 36, 37, 38, 39, 40, 41, 42, 43, 44, 45, 46, 47, 48, 49, 50, 51, 52, 53, 54, 55, 56, 57, 58, 59, 60, 61, 62, 63] else if id = 9 then [2, 8, 25, 26, 27, 28, 29, 30, 31, 32, 33, 34, 35, 36, 37, 38, 39, 40, 41, 42, 43, 44, 45, 46, 47, 48, 49, 50, 51, 52, 53, 54, 55, 56, 57, 58, 59, 60, 61, 62] else [], dr := fun id => if id = 12 then some Go.AM.Way.quiet else none }
theorem ok4 : RowOk Try.prog 4 (.pure i4) := ⟨Try.func4, by kernel_rfl, by kernel_rfl, by kernel_rfl⟩
noncomputable def i5 : Info := { fn := Try.f5, c := Try.f5.body.getD .skip, er := fun id => if id = 6 then [10, 26, 27, 28, 29, 30, 31, 32, 33, 34, 35, 36, 37] else if id = 11 then [6, 11, 12, 41, 42, 43, 44, 45, 46, 47, 48, 49, 50, 51, 52, 53, 54, 55, 56, 57, 58, 59, 60, 61, 62, 63, 64, 65] else [], dr := fun id => if id = 14 then some Go.AM.Way.quiet else none }
theorem ok5 : RowOk Try.prog 5 (.pure i5) := ⟨Try.func5, by kernel_rfl, by kernel_rfl, by kernel_rfl⟩
noncomputable def i6 : Info := { fn := Try.f6, c := Try.f6.body.getD .skip, er := fun id => if id = 7 then [8, 48, 49, 50, 51, 52, 53, 54, 55, 56, 57] else if id = 13 then [10, 11, 12, 61, 62, 63, 64, 65, 66, 67, 68, 69, 70, 71, 72, 73] else if id = 20 then [15, 16, 17, 77, 78, 79, 80, 81, 82, 83, 84, 85, 86, 87, 88, 89, 90, 91, 92, 93, 94, 95, 96] else if id = 27 then [4, 19, 20, 21, 100, 101, 102, 103, 104, 105, 106, 107, 108, 109, 110, 111, 112, 113, 114, 115, 116, 117] else if id = 36 then [4, 22, 23, 24, 25, 126, 127, 128, 129, 130, 131, 132, 133, 134, 135, 136, 137, 138, 139, 140, 141, 142, 143] else [], dr := fun id => none }
theorem ok6 : RowOk Try.prog 6 (.pure i6) := ⟨Try.func6, by kernel_rfl, by kernel_rfl, by kernel_rfl⟩
noncomputable def i7 : Info := { fn := Try.f7, c := Try.f7.body.getD .skip, er := fun id => if id = 5 then [6, 33, 34, 35, 36, 37, 38, 39, 40, 41, 42, 43, 44, 45, 46, 47, 48, 49, 50] else if id = 13 then [2, 9, 10, 11, 12, 13, 14, 15, 16, 17, 18, 55, 56, 57, 58, 59, 60, 61, 62, 63, 64, 65, 66, 67, 68, 69, 70, 71, 72, 73, 74, 75, 76, 77, 78, 79, 80, 81, 82, 83, 84, 85, 86, 87, 88, 89, 90, 91, 92, 93, 94, 95, 96, 97, 98, 99, 100, 101, 102, 103, 104, 105, 106, 107, 108, 109, 110, 111, 112, 113, 114, 115, 116, 117, 118, 119, 120, 121, 122, 123, 124, 125, 126, 127, 128, 129, 130, 131, 132, 133, 134] else if id = 22 then [2, 16, 17, 18, 101, 102, 103, 104, 105, 106, 107, 108, 109, 110, 111, 112, 113, 114, 115, 116, 117, 118, 119, 120, 121, 122, 123, 124, 125, 126, 127] else [], dr := fun id => none }
theorem ok7 : RowOk Try.prog 7 (.pure i7) := ⟨Try.func7, by kernel_rfl, by kernel_rfl, by kernel_rfl⟩
noncomputable def i8 : Info := { fn := Try.f8, c := Try.f8.body.getD .skip, er := fun id => if id = 6 then [4, 10, 11, 12, 13, 14, 15, 16, 17, 18, 19, 58, 59, 60, 61, 62, 63, 64, 65, 66, 67, 68, 69, 70, 71, 72, 73, 74, 75, 76, 77, 78, 79, 80, 81, 82, 83, 84, 85, 86, 87, 88, 89, 90, 91, 92, 93, 94, 95, 96, 97, 98, 99, 100, 101, 102, 103, 104, 105, 106, 107, 108, 109, 110, 111, 112, 113, 114, 115, 116, 117, 118, 119, 120, 121, 122, 123, 124, 125, 126, 127, 128, 129, 130, 131, 132, 133, 134, 135, 136, 137, 138, 139] else [], dr := fun id => if id = 18 then some (Go.AM.Way.any [] [1000000, 10] [.m, .m, .r [], .m, .r [], .x, .m, .l, .m, .l, .w, .m, .m]) else none }
theorem ok8 : RowOk Try.prog 8 (.pure i8) := ⟨Try.func8, by kernel_rfl, by kernel_rfl, by kernel_rfl⟩
noncomputable def i9 : Info := { fn := Try.f9, c := Try.f9.body.getD .skip, er := fun id => if id = 2 then [2, 4, 5, 6, 7, 8, 9, 10, 11, 12, 13, 14, 20, 21, 22, 23, 24, 25, 26, 27, 28, 29, 30, 31, 32, 33, 34, 35, 36, 37, 38, 39, 40, 41, 42, 43, 44, 45, 46, 47, 48, 49, 50, 51, 52, 53, 54, 55, 56, 57, 58, 59, 60, 61, 62, 63, 64, 65, 66, 67, 68, 69, 70, 71, 72, 73, 74, 75, 76, 77, 78, 79, 80, 81, 82, 83, 84, 85, 86, 87, 88, 89, 90, 91, 92, 93, 94, 95, 96, 97, 98, 99, 100, 101, 102, 103, 104, 105, 106, 107, 108, 109, 110, 111, 112, 113, 114, 115, 116, 117, 118, 119, 120, 121] else [], dr := fun id => none }
theorem ok9 : RowOk Try.prog 9 (.pure i9) := ⟨Try.func9, by kernel_rfl, by kernel_rfl, by kernel_rfl⟩
noncomputable def i10 : Info := { fn := Try.f10, c := Try.f10.body.getD .skip, er := fun id => if id = 6 then [2, 7, 8, 9, 10, 12, 27, 28, 29, 30, 31, 32, 33, 34, 35, 36, 37, 38, 39, 40, 41, 42, 43, 44, 45, 46, 47, 48, 49, 50, 51, 52, 53, 54, 55, 56, 57, 58, 59, 60, 61, 62, 63, 64, 65, 66, 67, 68, 69, 70, 71, 72, 73, 74, 75, 76, 77, 78, 79, 80, 81, 82, 83, 84, 85, 86, 87, 88, 89, 90, 91, 92, 93, 94, 95, 96, 97, 98, 99, 100, 101, 102, 103, 104, 105, 106, 107, 108, 109] else if id = 10 then [2, 8, 9, 10, 12, 35, 36, 37, 38, 39, 40, 41, 42, 43, 44, 45, 46, 47, 48, 49, 50, 51, 52, 53, 54, 55, 56, 57, 58, 59, 60, 61, 62, 63, 64, 65, 66, 67, 68, 69, 70, 71, 72, 73, 74, 75, 76, 77, 78, 79, 80, 81, 82, 83, 84, 85, 86, 87, 88, 89, 90, 91, 92, 93, 94, 95, 96, 97, 98, 99, 100, 101, 102, 103, 104, 105, 106, 107, 108] else if id = 17 then [2, 12, 93, 94, 95, 96, 97, 98, 99, 100, 101, 102, 103, 104, 105, 106, 107] else [], dr := fun id => if id = 13 then some Go.AM.Way.quiet else none }
theorem ok10 : RowOk Try.prog 10 (.pure i10) := ⟨Try.func10, by kernel_rfl, by kernel_rfl, by kernel_rfl⟩
noncomputable def i11 : Info := { fn := Try.f11, c := Try.f11.body.getD .skip, er := fun id => if id = 6 then [4, 10, 11, 12, 61, 62, 63, 64, 65, 66, 67, 68, 69, 70, 71, 72, 73, 74, 75, 76, 77, 78, 79, 80, 81, 82, 83] else [], dr := fun id => none }
theorem ok11 : RowOk Try.prog 11 (.pure i11) := ⟨Try.func11, by kernel_rfl, by kernel_rfl, by kernel_rfl⟩
noncomputable def i12 : Info := { fn := Try.f12, c := Try.f12.body.getD .skip, er := fun id => if id = 5 then [2, 6, 7, 8, 9, 24, 25, 26, 27, 28, 29, 30, 31, 32, 33, 34, 35, 36, 37, 38, 39, 40, 41, 42, 43, 44, 45, 46, 47, 48, 49, 50, 51, 52, 53, 54, 55, 56, 57, 58, 59, 60, 61, 62, 63, 64, 65, 66, 67, 68, 69, 70, 71, 72, 73, 74, 75, 76, 77, 78, 79, 80, 81, 82, 83, 84, 85, 86, 87, 88, 89, 90, 91, 92, 93, 94, 95, 96, 97, 98, 99, 100, 101, 102, 103, 104, 105, 106, 107, 108, 109] else [], dr := fun id => if id = 12 then some Go.AM.Way.quiet else none }
theorem ok12 : RowOk Try.prog 12 (.pure i12) := ⟨Try.func12, by kernel_rfl, by kernel_rfl, by kernel_rfl⟩
noncomputable def i13 : Info := { fn := Try.f13, c := Try.f13.body.getD .skip, er := fun id => if id = 2 then [4, 6, 20, 21, 22, 23, 24, 25, 26, 27, 28, 29, 30, 31, 32, 33, 34, 35, 36, 37, 38, 39, 40, 41, 42, 43, 44, 45, 46, 47, 48, 49, 50, 51, 52, 53, 54, 55, 56, 57, 58, 59, 60, 61, 62] else if id = 11 then [10, 81, 82, 83, 84, 85, 86, 87, 88] else if id = 19 then [4, 14, 107, 108, 109, 110, 111, 112, 113, 114, 115, 116, 117, 118, 119, 120, 121, 122, 123, 124, 125] else [], dr := fun id => if id = 21 then some (Go.AM.Way.any [] [1000000, 14] [.m, .r [], .r [], .x, .m, .l, .r [], .w, .m, .m, .m, .m, .r [], .m, .m]) else none }
theorem ok13 : RowOk Try.prog 13 (.pure i13) := ⟨Try.func13, by kernel_rfl, by kernel_rfl, by kernel_rfl⟩
noncomputable def i14 : Info := { fn := Try.f14, c := Try.f14.body.getD .skip, er := fun id => [], dr := fun id => none }
theorem ok14 : RowOk Try.prog 14 (.pure i14) := ⟨Try.func14, by kernel_rfl, by kernel_rfl, by kernel_rfl⟩
noncomputable def i15 : Info := { fn := Try.f15, c := Try.f15.body.getD .skip, er := fun id => [], dr := fun id => none }
theorem ok15 : RowOk Try.prog 15 (.pure i15) := ⟨Try.func15, by kernel_rfl, by kernel_rfl, by kernel_rfl⟩
noncomputable def i16 : Info := { fn := Try.f16, c := Try.f16.body.getD .skip, er := fun id => if id = 4 then [5, 6, 8, 13, 14, 15, 16, 17, 18, 19, 20, 21, 22, 23, 24, 25, 26, 27, 28, 29, 30, 31, 32, 33, 34, 35, 36, 37, 38, 39, 40, 41, 42, 43, 44, 45, 46, 47, 48, 49] else if id = 7 then [8, 23, 24, 25, 26, 27, 28, 29, 30, 31, 32, 33, 34, 35, 36, 37, 38] else [], dr := fun id => if id = 9 then some Go.AM.Way.quiet else if id = 12 then some (Go.AM.Way.any [8] [4] [.m, .m, .l, .m, .m, .r [false], .r [false], .m, .a 0, .x, .w]) else none }
theorem ok16 : RowOk Try.prog 16 (.run i16) := ⟨Try.func16, by kernel_rfl, by kernel_rfl, by kernel_rfl⟩
noncomputable def i17 : Info := { fn := Try.f17, c := Try.f17.body.getD .skip, er := fun id => if id = 3 then [5, 9, 10, 11, 12, 13, 14, 15, 16, 17, 18, 19, 20, 21, 22, 23, 24, 25, 26] else [], dr := fun id => none }
theorem ok17 : RowOk Try.prog 17 (.run i17) := ⟨Try.func17, by kernel_rfl, by kernel_rfl, by kernel_rfl⟩
noncomputable def i18 : Info := { fn := Try.f18, c := Try.f18.body.getD .skip, er := fun id => if id = 3 then [5, 6, 7, 8, 9, 10, 11, 12, 13, 14, 15, 16, 17, 18, 19, 20, 21, 22, 23, 24, 25, 26, 27, 28, 29, 30, 31] else if id = 6 then [12, 13, 14, 15, 16, 17, 18, 19, 20, 21, 22, 23, 24, 25, 26, 27, 28, 29, 30, 31] else [], dr := fun id => if id = 8 then some Go.AM.Way.quiet else none }
theorem ok18 : RowOk Try.prog 18 (.run i18) := ⟨Try.func18, by kernel_rfl, by kernel_rfl, by kernel_rfl⟩
noncomputable def i19 : Info := { fn := Try.f19, c := Try.f19.body.getD .skip, er := fun id => if id = 2 then [3, 5, 10, 11, 12, 13, 14] else [], dr := fun id => none }
theorem ok19 : RowOk Try.prog 19 (.pure i19) := ⟨Try.func19, by kernel_rfl, by kernel_rfl, by kernel_rfl⟩
noncomputable def i20 : Info := { fn := Try.f20, c := Try.f20.body.getD .skip, er := fun id => [], dr := fun id => none }
theorem ok20 : RowOk Try.prog 20 (.pure i20) := ⟨Try.func20, by kernel_rfl, by kernel_rfl, by kernel_rfl⟩
noncomputable def i21 : Info := { fn := Try.f21, c := Try.f21.body.getD .skip, er := fun id => [], dr := fun id => none }
theorem ok21 : RowOk Try.prog 21 (.pure i21) := ⟨Try.func21, by kernel_rfl, by kernel_rfl, by kernel_rfl⟩
noncomputable def i22 : Info := { fn := Try.f22, c := Try.f22.body.getD .skip, er := fun id => [], dr := fun id => none }
theorem ok22 : RowOk Try.prog 22 (.pure i22) := ⟨Try.func22, by kernel_rfl, by kernel_rfl, by kernel_rfl⟩
noncomputable def i23 : Info := { fn := Try.f23, c := Try.f23.body.getD .skip, er := fun id => [], dr := fun id => none }
theorem ok23 : RowOk Try.prog 23 (.run i23) := ⟨Try.func23, by kernel_rfl, by kernel_rfl, by kernel_rfl⟩
noncomputable def i24 : Info := { fn := Try.f24, c := Try.f24.body.getD .skip, er := fun id => [], dr := fun id => none }
theorem ok24 : RowOk Try.prog 24 (.pure i24) := ⟨Try.func24, by kernel_rfl, by kernel_rfl, by kernel_rfl⟩
noncomputable def i25 : Info := { fn := Try.f25, c := Try.f25.body.getD .skip, er := fun id => [], dr := fun id => none }
theorem ok25 : RowOk Try.prog 25 (.run i25) := ⟨Try.func25, by kernel_rfl, by kernel_rfl, by kernel_rfl⟩
noncomputable def i26 : Info := { fn := Try.f26, c := Try.f26.body.getD .skip, er := fun id => [], dr := fun id => if id = 5 then some Go.AM.Way.quiet else none }
theorem ok26 : RowOk Try.prog 26 (.run i26) := ⟨Try.func26, by kernel_rfl, by kernel_rfl, by kernel_rfl⟩
noncomputable def i27 : Info := { fn := Try.f27, c := Try.f27.body.getD .skip, er := fun id => [], dr := fun id => none }
theorem ok27 : RowOk Try.prog 27 (.pure i27) := ⟨Try.func27, by kernel_rfl, by kernel_rfl, by kernel_rfl⟩
noncomputable def i28 : Info := { fn := Try.f28, c := Try.f28.body.getD .skip, er := fun id => [], dr := fun id => none }
theorem ok28 : RowOk Try.prog 28 (.pure i28) := ⟨Try.func28, by kernel_rfl, by kernel_rfl, by kernel_rfl⟩
noncomputable def i29 : Info := { fn := Try.f29, c := Try.f29.body.getD .skip, er := fun id => [], dr := fun id => none }
theorem ok29 : RowOk Try.prog 29 (.run i29) := ⟨Try.func29, by kernel_rfl, by kernel_rfl, by kernel_rfl⟩
noncomputable def i30 : Info := { fn := Try.f30, c := Try.f30.body.getD .skip, er := fun id => [], dr := fun id => none }
theorem ok30 : RowOk Try.prog 30 (.run i30) := ⟨Try.func30, by kernel_rfl, by kernel_rfl, by kernel_rfl⟩
noncomputable def i31 : Info := { fn := Try.f31, c := Try.f31.body.getD .skip, er := fun id => [], dr := fun id => none }
theorem ok31 : RowOk Try.prog 31 (.run i31) := ⟨Try.func31, by kernel_rfl, by kernel_rfl, by kernel_rfl⟩
noncomputable def i32 : Info := { fn := Try.f32, c := Try.f32.body.getD .skip, er := fun id => if id = 3 then [7, 12, 13, 14, 15, 16, 17, 18, 19, 20] else [], dr := fun id => none }
theorem ok32 : RowOk Try.prog 32 (.pure i32) := ⟨Try.func32, by kernel_rfl, by kernel_rfl, by kernel_rfl⟩
noncomputable def i33 : Info := { fn := Try.f33, c := Try.f33.body.getD .skip, er := fun id => [], dr := fun id => if id = 3 then some (Go.AM.Way.any [] [] [.m, .m, .m, .l, .m, .x, .r [], .m]) else none }
theorem ok33 : RowOk Try.prog 33 (.pure i33) := ⟨Try.func33, by kernel_rfl, by kernel_rfl, by kernel_rfl⟩
noncomputable def i34 : Info := { fn := Try.f34, c := Try.f34.body.getD .skip, er := fun id => if id = 3 then [4, 5, 13, 14, 15, 16, 17, 18, 19, 20, 21, 22, 23, 24, 25, 26] else [], dr := fun id => none }
theorem ok34 : RowOk Try.prog 34 (.pure i34) := ⟨Try.func34, by kernel_rfl, by kernel_rfl, by kernel_rfl⟩
noncomputable def i35 : Info := { fn := Try.f35, c := Try.f35.body.getD .skip, er := fun id => [], dr := fun id => none }
theorem ok35 : RowOk Try.prog 35 (.run i35) := ⟨Try.func35, by kernel_rfl, by kernel_rfl, by kernel_rfl⟩
noncomputable def i36 : Info := { fn := Try.f36, c := Try.f36.body.getD .skip, er := fun id => [], dr := fun id => if id = 6 then some (Go.AM.Way.any [] [] [.m, .m, .m, .m, .r [], .m, .m, .x, .m, .m, .m, .l, .m, .m, .m, .w, .m, .m, .w]) else none }
theorem ok36 : RowOk Try.prog 36 (.run i36) := ⟨Try.func36, by kernel_rfl, by kernel_rfl, by kernel_rfl⟩
noncomputable def i37 : Info := { fn := Try.f37, c := Try.f37.body.getD .skip, er := fun id => [], dr := fun id => none }
theorem ok37 : RowOk Try.prog 37 (.run i37) := ⟨Try.func37, by kernel_rfl, by kernel_rfl, by kernel_rfl⟩
noncomputable def i38 : Info := { fn := Try.f38, c := Try.f38.body.getD .skip, er := fun id => [], dr := fun id => none }
theorem ok38 : RowOk Try.prog 38 (.run i38) := ⟨Try.func38, by kernel_rfl, by kernel_rfl, by kernel_rfl⟩
noncomputable def i39 : Info := { fn := Try.f39, c := Try.f39.body.getD .skip, er := fun id => [], dr := fun id => if id = 3 then some Go.AM.Way.quiet else none }
theorem ok39 : RowOk Try.prog 39 (.run i39) := ⟨Try.func39, by kernel_rfl, by kernel_rfl, by kernel_rfl⟩
noncomputable def i40 : Info := { fn := Try.f40, c := Try.f40.body.getD .skip, er := fun id => if id = 10 then [6, 15, 16, 17, 18, 90, 91, 92, 93, 94, 95, 96, 97, 98, 99, 100, 101, 102, 103, 104, 105, 106, 107, 108, 109, 110, 111, 112, 113, 114, 115, 116, 117, 118, 119, 120, 121, 122] else if id = 18 then [6, 20, 21, 128, 129, 130, 131, 132, 133, 134, 135, 136, 137, 138, 139, 140, 141, 142, 143, 144, 145, 146, 147, 148, 149, 150] else if id = 25 then [24, 154, 155, 156, 157, 158, 159, 160, 161, 162, 163] else [], dr := fun id => if id = 4 then some Go.AM.Way.quiet else if id = 7 then some Go.AM.Way.quiet else none }
theorem ok40 : RowOk Try.prog 40 (.pure i40) := ⟨Try.func40, by kernel_rfl, by kernel_rfl, by kernel_rfl⟩
noncomputable def i41 : Info := { fn := Try.f41, c := Try.f41.body.getD .skip, er := fun id => if id = 5 then [31, 32, 33, 34, 35, 36, 37, 38, 39, 40, 41, 42] else [], dr := fun id => none }
theorem ok41 : RowOk Try.prog 41 (.run i41) := ⟨Try.func41, by kernel_rfl, by kernel_rfl, by kernel_rfl⟩
noncomputable def i42 : Info := { fn := Try.f42, c := Try.f42.body.getD .skip, er := fun id => [], dr := fun id => none }
theorem ok42 : RowOk Try.prog 42 (.run i42) := ⟨Try.func42, by kernel_rfl, by kernel_rfl, by kernel_rfl⟩
noncomputable def i43 : Info := { fn := Try.f43, c := Try.f43.body.getD .skip, er := fun id => [], dr := fun id => none }
theorem ok43 : RowOk Try.prog 43 (.run i43) := ⟨Try.func43, by kernel_rfl, by kernel_rfl, by kernel_rfl⟩
noncomputable def i44 : Info := { fn := Try.f44, c := Try.f44.body.getD .skip, er := fun id => [], dr := fun id => none }
theorem ok44 : RowOk Try.prog 44 (.pure i44) := ⟨Try.func44, by kernel_rfl, by kernel_rfl, by kernel_rfl⟩
noncomputable def i45 : Info := { fn := Try.f45, c := Try.f45.body.getD .skip, er := fun id => [], dr := fun id => none }
theorem ok45 : RowOk Try.prog 45 (.pure i45) := ⟨Try.func45, by kernel_rfl, by kernel_rfl, by kernel_rfl⟩
noncomputable def i46 : Info := { fn := Try.f46, c := Try.f46.body.getD .skip, er := fun id => [], dr := fun id => none }
theorem ok46 : RowOk Try.prog 46 (.pure i46) := ⟨Try.func46, by kernel_rfl, by kernel_rfl, by kernel_rfl⟩
noncomputable def i47 : Info := { fn := Try.f47, c := Try.f47.body.getD .skip, er := fun id => [], dr := fun id => none }
theorem ok47 : RowOk Try.prog 47 (.pure i47) := ⟨Try.func47, by kernel_rfl, by kernel_rfl, by kernel_rfl⟩
noncomputable def i48 : Info := { fn := Try.f48, c := Try.f48.body.getD .skip, er := fun id => [], dr := fun id => none }
theorem ok48 : RowOk Try.prog 48 (.run i48) := ⟨Try.func48, by kernel_rfl, by kernel_rfl, by kernel_rfl⟩
noncomputable def i49 : Info := { fn := Try.f49, c := Try.f49.body.getD .skip, er := fun id => [], dr := fun id => none }
theorem ok49 : RowOk Try.prog 49 (.run i49) := ⟨Try.func49, by kernel_rfl, by kernel_rfl, by kernel_rfl⟩
noncomputable def i50 : Info := { fn := Try.f50, c := Try.f50.body.getD .skip, er := fun id => [], dr := fun id => none }
theorem ok50 : RowOk Try.prog 50 (.pure i50) := ⟨Try.func50, by kernel_rfl, by kernel_rfl, by kernel_rfl⟩
noncomputable def i51 : Info := { fn := Try.f51, c := Try.f51.body.getD .skip, er := fun id => [], dr := fun id => none }
theorem ok51 : RowOk Try.prog 51 (.pure i51) := ⟨Try.func51, by kernel_rfl, by kernel_rfl, by kernel_rfl⟩
noncomputable def i52 : Info := { fn := Try.f52, c := Try.f52.body.getD .skip, er := fun id => [], dr := fun id => if id = 10 then some Go.AM.Way.quiet else none }
theorem ok52 : RowOk Try.prog 52 (.pure i52) := ⟨Try.func52, by kernel_rfl, by kernel_rfl, by kernel_rfl⟩
noncomputable def i53 : Info := { fn := Try.f53, c := Try.f53.body.getD .skip, er := fun id => if id = 2 then [4, 6, 7, 8, 9, 10, 11, 13, 14, 15, 16, 17, 18, 19, 20, 21, 22, 23, 24, 25, 26, 27, 28, 29, 30, 31, 32, 33, 34, 35, 36, 37, 38, 39, 40, 41, 42, 43, 44, 45, 46, 47, 48, 49, 50, 51, 52, 53, 54, 55, 56, 57, 58, 59, 60, 61, 62, 63, 64, 65, 66, 67, 68, 69, 70, 71, 72, 73, 74, 75, 76, 77, 78, 79, 80, 81, 82, 83, 84, 85, 86, 87, 88, 89, 90, 91, 92, 93, 94, 95, 96, 97, 98, 99, 100, 101, 102] else if id = 9 then [11, 41, 42, 43, 44, 45, 46, 47, 48, 49, 50, 51, 52, 53, 54, 55, 56, 57, 58, 59, 60, 61, 62, 63, 64, 65, 66, 67] else if id = 19 then [4, 12, 104, 105, 106, 107, 108, 109, 110, 111, 112, 113, 114] else [], dr := fun id => if id = 7 then some Go.AM.Way.quiet else if id = 21 then some Go.AM.Way.quiet else none }
theorem ok53 : RowOk Try.prog 53 (.pure i53) := ⟨Try.func53, by kernel_rfl, by kernel_rfl, by kernel_rfl⟩
noncomputable def i54 : Info := { fn := Try.f54, c := Try.f54.body.getD .skip, er := fun id => [], dr := fun id => if id = 3 then some (Go.AM.Way.any [] [] [.m, .m, .m, .l, .m, .m, .m, .r [], .x, .m, .m, .m, .l, .x, .m, .m, .m, .l, .x, .m, .m, .m, .l, .x, .m, .w, .m]) else none }
theorem ok54 : RowOk Try.prog 54 (.run i54) := ⟨Try.func54, by kernel_rfl, by kernel_rfl, by kernel_rfl⟩
noncomputable def i55 : Info := { fn := Try.f55, c := Try.f55.body.getD .skip, er := fun id => [], dr := fun id => if id = 3 then some Go.AM.Way.quiet else none }
theorem ok55 : RowOk Try.prog 55 (.pure i55) := ⟨Try.func55, by kernel_rfl, by kernel_rfl, by kernel_rfl⟩
noncomputable def i56 : Info := { fn := Try.f56, c := Try.f56.body.getD .skip, er := fun id => [], dr := fun id => none }
theorem ok56 : RowOk Try.prog 56 (.pure i56) := ⟨Try.func56, by kernel_rfl, by kernel_rfl, by kernel_rfl⟩
noncomputable def i57 : Info := { fn := Try.f57, c := Try.f57.body.getD .skip, er := fun id => [], dr := fun id => none }
theorem ok57 : RowOk Try.prog 57 (.pure i57) := ⟨Try.func57, by kernel_rfl, by kernel_rfl, by kernel_rfl⟩
noncomputable def i58 : Info := { fn := Try.f58, c := Try.f58.body.getD .skip, er := fun id => [], dr := fun id => if id = 1 then some Go.AM.Way.quiet else none }
theorem ok58 : RowOk Try.prog 58 (.pure i58) := ⟨Try.func58, by kernel_rfl, by kernel_rfl, by kernel_rfl⟩
noncomputable def i59 : Info := { fn := Try.f59, c := Try.f59.body.getD .skip, er := fun id => [], dr := fun id => none }
theorem ok59 : RowOk Try.prog 59 (.pure i59) := ⟨Try.func59, by kernel_rfl, by kernel_rfl, by kernel_rfl⟩
noncomputable def i60 : Info := { fn := Try.f60, c := Try.f60.body.getD .skip, er := fun id => if id = 3 then [5, 10, 11, 12, 13, 14, 15, 16, 17, 18, 19, 20, 21, 22] else [], dr := fun id => if id = 5 then some (Go.AM.Way.any [] [] [.m, .m, .r [], .m, .m, .r [], .r [], .r [], .r [], .w]) else none }
theorem ok60 : RowOk Try.prog 60 (.run i60) := ⟨Try.func60, by kernel_rfl, by kernel_rfl, by kernel_rfl⟩
noncomputable def i61 : Info := { fn := Try.f61, c := Try.f61.body.getD .skip, er := fun id => if id = 1 then [4, 5, 8, 9, 10, 11, 12, 13, 14, 15, 16, 17, 18] else [], dr := fun id => none }
theorem ok61 : RowOk Try.prog 61 (.run i61) := ⟨Try.func61, by kernel_rfl, by kernel_rfl, by kernel_rfl⟩
noncomputable def i63 : Info := { fn := Try.f63, c := Try.f63.body.getD .skip, er := fun id => [], dr := fun id => none }
theorem ok63 : RowOk Try.prog 63 (.run i63) := ⟨Try.func63, by kernel_rfl, by kernel_rfl, by kernel_rfl⟩
noncomputable def i64 : Info := { fn := Try.f64, c := Try.f64.body.getD .skip, er := fun id => [], dr := fun id => none }
theorem ok64 : RowOk Try.prog 64 (.run i64) := ⟨Try.func64, by kernel_rfl, by kernel_rfl, by kernel_rfl⟩
noncomputable def i65 : Info := { fn := Try.f65, c := Try.f65.body.getD .skip, er := fun id => [], dr := fun id => none }
theorem ok65 : RowOk Try.prog 65 (.pure i65) := ⟨Try.func65, by kernel_rfl, by kernel_rfl, by kernel_rfl⟩
noncomputable def i66 : Info := { fn := Try.f66, c := Try.f66.body.getD .skip, er := fun id => if id = 5 then [5, 15, 16, 17, 18, 19, 20, 21, 22, 23] else [], dr := fun id => none }
theorem ok66 : RowOk Try.prog 66 (.run i66) := ⟨Try.func66, by kernel_rfl, by kernel_rfl, by kernel_rfl⟩
noncomputable def i67 : Info := { fn := Try.f67, c := Try.f67.body.getD .skip, er := fun id => [], dr := fun id => if id = 5 then some (Go.AM.Way.tail 6) else none }
theorem ok67 : RowOk Try.prog 67 (.run i67) := ⟨Try.func67, by kernel_rfl, by kernel_rfl, by kernel_rfl⟩
theorem ok68 : RowOk Try.prog 68 (.known sortF) := sort_ok Try.lays189 (enters_of Try.func68 (by kernel_rfl) (by kernel_rfl))
theorem ok69 : RowOk Try.prog 69 (.known compactF) := compact_ok Try.laysNm220 (enters_of Try.func69 (by kernel_rfl) (by kernel_rfl))
noncomputable def i70 : Info := { fn := Try.f70, c := Try.f70.body.getD .skip, er := fun id => if id = 2 then [4, 5, 9, 10, 11, 12, 13, 14, 15, 16, 17, 18] else [], dr := fun id => none }
theorem ok70 : RowOk Try.prog 70 (.pure i70) := ⟨Try.func70, by kernel_rfl, by kernel_rfl, by kernel_rfl⟩
noncomputable def i71 : Info := { fn := Try.f71, c := Try.f71.body.getD .skip, er := fun id => [], dr := fun id => none }
theorem ok71 : RowOk Try.prog 71 (.run i71) := ⟨Try.func71, by kernel_rfl, by kernel_rfl, by kernel_rfl⟩
noncomputable def i72 : Info := { fn := Try.f72, c := Try.f72.body.getD .skip, er := fun id => if id = 3 then [7, 8, 9, 10, 11, 12, 13, 14, 15, 16, 17, 18, 19, 20, 21, 22, 23, 24, 25, 26, 27, 28, 29] else [], dr := fun id => none }
theorem ok72 : RowOk Try.prog 72 (.run i72) := ⟨Try.func72, by kernel_rfl, by kernel_rfl, by kernel_rfl⟩
noncomputable def i73 : Info := { fn := Try.f73, c := Try.f73.body.getD .skip, er := fun id => [], dr := fun id => none }
theorem ok73 : RowOk Try.prog 73 (.pure i73) := ⟨Try.func73, by kernel_rfl, by kernel_rfl, by kernel_rfl⟩
noncomputable def i74 : Info := { fn := Try.f74, c := Try.f74.body.getD .skip, er := fun id => [], dr := fun id => none }
theorem ok74 : RowOk Try.prog 74 (.pure i74) := ⟨Try.func74, by kernel_rfl, by kernel_rfl, by kernel_rfl⟩
noncomputable def i75 : Info := { fn := Try.f75, c := Try.f75.body.getD .skip, er := fun id => [], dr := fun id => if id = 1 then some Go.AM.Way.quiet else none }
theorem ok75 : RowOk Try.prog 75 (.pure i75) := ⟨Try.func75, by kernel_rfl, by kernel_rfl, by kernel_rfl⟩
noncomputable def i76 : Info := { fn := Try.f76, c := Try.f76.body.getD .skip, er := fun id => [], dr := fun id => if id = 11 then some Go.AM.Way.quiet else if id = 26 then some (Go.AM.Way.tail 7) else none }
theorem ok76 : RowOk Try.prog 76 (.run i76) := ⟨Try.func76, by kernel_rfl, by kernel_rfl, by kernel_rfl⟩
noncomputable def i77 : Info := { fn := Try.f77, c := Try.f77.body.getD .skip, er := fun id => [], dr := fun id => none }
theorem ok77 : RowOk Try.prog 77 (.pure i77) := ⟨Try.func77, by kernel_rfl, by kernel_rfl, by kernel_rfl⟩
noncomputable def i78 : Info := { fn := Try.f78, c := Try.f78.body.getD .skip, er := fun id => [], dr := fun id => none }
theorem ok78 : RowOk Try.prog 78 (.pure i78) := ⟨Try.func78, by kernel_rfl, by kernel_rfl, by kernel_rfl⟩
theorem ok79 : RowOk Try.prog 79 (.known thrF) := thr79_ok trivial (enters_of Try.func79 (by kernel_rfl) (by kernel_rfl))
theorem ok80 : RowOk Try.prog 80 (.known thrF) := thr80_ok trivial (enters_of Try.func80 (by kernel_rfl) (by kernel_rfl))
noncomputable def i81 : Info := { fn := Try.f81, c := Try.f81.body.getD .skip, er := fun id => [], dr := fun id => none }
theorem ok81 : RowOk Try.prog 81 (.pure i81) := ⟨Try.func81, by kernel_rfl, by kernel_rfl, by kernel_rfl⟩
noncomputable def i82 : Info := { fn := Try.f82, c := Try.f82.body.getD .skip, er := fun id => if id = 2 then [4, 6, 7, 8, 9, 10, 11, 12, 13, 14, 15, 16, 17, 18, 19, 20, 21, 22, 23, 24, 25, 26, 27, 28, 29] else [], dr := fun id => none }
theorem ok82 : RowOk Try.prog 82 (.pure i82) := ⟨Try.func82, by kernel_rfl, by kernel_rfl, by kernel_rfl⟩
noncomputable def i83 : Info := { fn := Try.f83, c := Try.f83.body.getD .skip, er := fun id => [], dr := fun id => if id = 1 then some Go.AM.Way.quiet else if id = 5 then some Go.AM.Way.quiet else if id = 11 then some (Go.AM.Way.any [] [4] [.r [], .m, .m, .m, .r [], .m, .m, .m, .m, .m, .m, .l, .m, .l, .m, .m, .x, .m]) else none }
theorem ok83 : RowOk Try.prog 83 (.pure i83) := ⟨Try.func83, by kernel_rfl, by kernel_rfl, by kernel_rfl⟩
noncomputable def i84 : Info := { fn := Try.f84, c := Try.f84.body.getD .skip, er := fun id => [], dr := fun id => if id = 1 then some Go.AM.Way.quiet else if id = 17 then some (Go.AM.Way.tail 10) else if id = 24 then some (Go.AM.Way.tail 10) else if id = 32 then some (Go.AM.Way.any [] [2] [.m, .m, .m, .m, .m, .l, .m, .m, .x, .m, .m, .w]) else none }
theorem ok84 : RowOk Try.prog 84 (.pure i84) := ⟨Try.func84, by kernel_rfl, by kernel_rfl, by kernel_rfl⟩
noncomputable def i85 : Info := { fn := Try.f85, c := Try.f85.body.getD .skip, er := fun id => [], dr := fun id => if id = 2 then some Go.AM.Way.quiet else if id = 4 then some Go.AM.Way.quiet else if id = 6 then some (Go.AM.Way.tail 15) else if id = 9 then some (Go.AM.Way.any [] [4] [.r [], .m, .m, .m, .m, .l, .m, .m, .x, .m]) else if id = 11 then some (Go.AM.Way.any [] [] [.r [], .m, .m, .r [], .m, .r [], .r [], .m, .m, .r [], .m, .m, .r [], .m, .r [], .m, .m, .m, .w, .m]) else if id = 13 then some (Go.AM.Way.any [] [4] [.r [], .m, .m, .m, .m, .l, .m, .m, .x, .m]) else if id = 15 then some (Go.AM.Way.any [] [] [.r [], .m, .m, .m, .r [], .m, .m, .m, .r [], .m, .r [], .m, .w, .m]) else none }
theorem ok85 : RowOk Try.prog 85 (.pure i85) := ⟨Try.func85, by kernel_rfl, by kernel_rfl, by kernel_rfl⟩
noncomputable def i86 : Info := { fn := Try.f86, c := Try.f86.body.getD .skip, er := fun id => [], dr := fun id => if id = 3 then some (Go.AM.Way.any [] [4] [.r [], .m, .m, .m, .r [], .m, .m, .m, .l, .m, .m, .x, .m]) else if id = 9 then some (Go.AM.Way.any [] [4] [.r [], .m, .m, .m, .r [], .m, .m, .m, .m, .m, .l, .m, .l, .m, .m, .x, .m]) else if id = 12 then some Go.AM.Way.quiet else if id = 14 then some (Go.AM.Way.any [] [4] [.r [], .m, .l, .m, .m, .x, .m]) else none }
theorem ok86 : RowOk Try.prog 86 (.pure i86) := ⟨Try.func86, by kernel_rfl, by kernel_rfl, by kernel_rfl⟩
noncomputable def i87 : Info := { fn := Try.f87, c := Try.f87.body.getD .skip, er := fun id => if id = 4 then [4, 5, 14, 15, 16, 17, 18, 19, 20, 21, 22, 23, 24, 25] else [], dr := fun id => if id = 6 then some Go.AM.Way.quiet else none }
theorem ok87 : RowOk Try.prog 87 (.pure i87) := ⟨Try.func87, by kernel_rfl, by kernel_rfl, by kernel_rfl⟩
noncomputable def i88 : Info := { fn := Try.f88, c := Try.f88.body.getD .skip, er := fun id => [], dr := fun id => none }
theorem ok88 : RowOk Try.prog 88 (.run i88) := ⟨Try.func88, by kernel_rfl, by kernel_rfl, by kernel_rfl⟩
noncomputable def i89 : Info := { fn := Try.f89, c := Try.f89.body.getD .skip, er := fun id => [], dr := fun id => none }
theorem ok89 : RowOk Try.prog 89 (.run i89) := ⟨Try.func89, by kernel_rfl, by kernel_rfl, by kernel_rfl⟩
theorem ok90 : RowOk Try.prog 90 (.known clF) := cl90_ok trivial (enters_of Try.func90 (by kernel_rfl) (by kernel_rfl))
theorem ok91 : RowOk Try.prog 91 (.known clF) := cl91_ok trivial (enters_of Try.func91 (by kernel_rfl) (by kernel_rfl))
noncomputable def i92 : Info := { fn := Try.f92, c := Try.f92.body.getD .skip, er := fun id => if id = 4 then [4, 5, 14, 15, 16, 17, 18, 19, 20, 21, 22, 23, 24, 25] else [], dr := fun id => if id = 6 then some Go.AM.Way.quiet else none }
theorem ok92 : RowOk Try.prog 92 (.pure i92) := ⟨Try.func92, by kernel_rfl, by kernel_rfl, by kernel_rfl⟩
noncomputable def i93 : Info := { fn := Try.f93, c := Try.f93.body.getD .skip, er := fun id => if id = 4 then [4, 5, 14, 15, 16, 17, 18, 19, 20, 21, 22, 23, 24, 25] else [], dr := fun id => if id = 6 then some Go.AM.Way.quiet else none }
theorem ok93 : RowOk Try.prog 93 (.pure i93) := ⟨Try.func93, by kernel_rfl, by kernel_rfl, by kernel_rfl⟩
theorem ok94 : RowOk Try.prog 94 (.known (eqF intV)) := eq94_ok trivial (enters_of Try.func94 (by kernel_rfl) (by kernel_rfl))
theorem ok95 : RowOk Try.prog 95 (.known (eqF LfV.cv)) := eq95_ok trivial (enters_of Try.func95 (by kernel_rfl) (by kernel_rfl))
noncomputable def i96 : Info := { fn := Try.f96, c := Try.f96.body.getD .skip, er := fun id => [], dr := fun id => none }
theorem ok96 : RowOk Try.prog 96 (.pure i96) := ⟨Try.func96, by kernel_rfl, by kernel_rfl, by kernel_rfl⟩
noncomputable def i97 : Info := { fn := Try.f97, c := Try.f97.body.getD .skip, er := fun id => [], dr := fun id => none }
theorem ok97 : RowOk Try.prog 97 (.pure i97) := ⟨Try.func97, by kernel_rfl, by kernel_rfl, by kernel_rfl⟩
noncomputable def i98 : Info := { fn := Try.f98, c := Try.f98.body.getD .skip, er := fun id => if id = 2 then [4, 6, 7, 8, 9, 10, 11, 12, 13, 14, 15, 16] else [], dr := fun id => if id = 4 then some Go.AM.Way.quiet else none }
theorem ok98 : RowOk Try.prog 98 (.pure i98) := ⟨Try.func98, by kernel_rfl, by kernel_rfl, by kernel_rfl⟩
noncomputable def i99 : Info := { fn := Try.f99, c := Try.f99.body.getD .skip, er := fun id => if id = 2 then [5, 6, 9, 10, 11, 12, 13, 14, 15, 16, 17, 18, 19] else [], dr := fun id => none }
theorem ok99 : RowOk Try.prog 99 (.pure i99) := ⟨Try.func99, by kernel_rfl, by kernel_rfl, by kernel_rfl⟩
noncomputable def i100 : Info := { fn := Try.f100, c := Try.f100.body.getD .skip, er := fun id => [], dr := fun id => none }
theorem ok100 : RowOk Try.prog 100 (.pure i100) := ⟨Try.func100, by kernel_rfl, by kernel_rfl, by kernel_rfl⟩
noncomputable def i101 : Info := { fn := Try.f101, c := Try.f101.body.getD .skip, er := fun id => [], dr := fun id => none }
theorem ok101 : RowOk Try.prog 101 (.run i101) := ⟨Try.func101, by kernel_rfl, by kernel_rfl, by kernel_rfl⟩
noncomputable def i102 : Info := { fn := Try.f102, c := Try.f102.body.getD .skip, er := fun id => if id = 1 then [3, 6, 7, 8, 9, 10, 11, 12, 13] else [], dr := fun id => none }
theorem ok102 : RowOk Try.prog 102 (.run i102) := ⟨Try.func102, by kernel_rfl, by kernel_rfl, by kernel_rfl⟩
noncomputable def i105 : Info := { fn := Try.f105, c := Try.f105.body.getD .skip, er := fun id => [], dr := fun id => none }
theorem ok105 : RowOk Try.prog 105 (.pure i105) := ⟨Try.func105, by kernel_rfl, by kernel_rfl, by kernel_rfl⟩
noncomputable def i106 : Info := { fn := Try.f106, c := Try.f106.body.getD .skip, er := fun id => if id = 2 then [4, 5, 6, 7, 8, 9, 16, 17, 18, 19, 20, 21, 22, 23, 24, 25, 26, 27, 28, 29, 30, 31, 32, 33, 34, 35, 36, 37, 38, 39, 40, 41, 42, 43, 44] else [], dr := fun id => none }
theorem ok106 : RowOk Try.prog 106 (.pure i106) := ⟨Try.func106, by kernel_rfl, by kernel_rfl, by kernel_rfl⟩
noncomputable def i107 : Info := { fn := Try.f107, c := Try.f107.body.getD .skip, er := fun id => [], dr := fun id => if id = 1 then some Go.AM.Way.quiet else if id = 4 then some Go.AM.Way.quiet else if id = 10 then some Go.AM.Way.quiet else none }
theorem ok107 : RowOk Try.prog 107 (.run i107) := ⟨Try.func107, by kernel_rfl, by kernel_rfl, by kernel_rfl⟩
noncomputable def i108 : Info := { fn := Try.f108, c := Try.f108.body.getD .skip, er := fun id => [], dr := fun id => if id = 1 then some Go.AM.Way.quiet else none }
theorem ok108 : RowOk Try.prog 108 (.run i108) := ⟨Try.func108, by kernel_rfl, by kernel_rfl, by kernel_rfl⟩
noncomputable def i109 : Info := { fn := Try.f109, c := Try.f109.body.getD .skip, er := fun id => [], dr := fun id => if id = 1 then some Go.AM.Way.quiet else if id = 2 then some Go.AM.Way.quiet else if id = 10 then some (Go.AM.Way.tail 7) else if id = 15 then some (Go.AM.Way.tail 13) else none }
theorem ok109 : RowOk Try.prog 109 (.run i109) := ⟨Try.func109, by kernel_rfl, by kernel_rfl, by kernel_rfl⟩
noncomputable def i110 : Info := { fn := Try.f110, c := Try.f110.body.getD .skip, er := fun id => [], dr := fun id => if id = 1 then some Go.AM.Way.quiet else if id = 4 then some (Go.AM.Way.tail 5) else if id = 5 then some (Go.AM.Way.tail 8) else none }
theorem ok110 : RowOk Try.prog 110 (.run i110) := ⟨Try.func110, by kernel_rfl, by kernel_rfl, by kernel_rfl⟩
noncomputable def i111 : Info := { fn := Try.f111, c := Try.f111.body.getD .skip, er := fun id => [], dr := fun id => if id = 1 then some Go.AM.Way.quiet else if id = 3 then some (Go.AM.Way.any [9] [] [.m, .m, .m, .r [false], .r [false], .r [false], .m, .m, .m, .a 0, .w, .m]) else if id = 6 then some (Go.AM.Way.tail 5) else if id = 7 then some (Go.AM.Way.any [] [5] [.m, .m, .m, .r [], .m, .l, .m, .m, .x, .m, .m, .w]) else if id = 9 then some (Go.AM.Way.tail 7) else none }
theorem ok111 : RowOk Try.prog 111 (.run i111) := ⟨Try.func111, by kernel_rfl, by kernel_rfl, by kernel_rfl⟩
noncomputable def i112 : Info := { fn := Try.f112, c := Try.f112.body.getD .skip, er := fun id => [], dr := fun id => none }
theorem ok112 : RowOk Try.prog 112 (.run i112) := ⟨Try.func112, by kernel_rfl, by kernel_rfl, by kernel_rfl⟩
noncomputable def i113 : Info := { fn := Try.f113, c := Try.f113.body.getD .skip, er := fun id => [], dr := fun id => if id = 1 then some Go.AM.Way.quiet else if id = 4 then some Go.AM.Way.quiet else none }
theorem ok113 : RowOk Try.prog 113 (.run i113) := ⟨Try.func113, by kernel_rfl, by kernel_rfl, by kernel_rfl⟩
noncomputable def i114 : Info := { fn := Try.f114, c := Try.f114.body.getD .skip, er := fun id => [], dr := fun id => none }
theorem ok114 : RowOk Try.prog 114 (.pure i114) := ⟨Try.func114, by kernel_rfl, by kernel_rfl, by kernel_rfl⟩
noncomputable def i117 : Info := { fn := Try.f117, c := Try.f117.body.getD .skip, er := fun id => if id = 2 then [4, 6, 7, 8, 9, 10, 11, 12, 13, 14, 15, 16, 17, 18, 19] else [], dr := fun id => none }
theorem ok117 : RowOk Try.prog 117 (.pure i117) := ⟨Try.func117, by kernel_rfl, by kernel_rfl, by kernel_rfl⟩
noncomputable def i119 : Info := { fn := Try.f119, c := Try.f119.body.getD .skip, er := fun id => [], dr := fun id => none }
theorem ok119 : RowOk Try.prog 119 (.pure i119) := ⟨Try.func119, by kernel_rfl, by kernel_rfl, by kernel_rfl⟩
noncomputable def i120 : Info := { fn := Try.f120, c := Try.f120.body.getD .skip, er := fun id => [], dr := fun id => none }
theorem ok120 : RowOk Try.prog 120 (.run i120) := ⟨Try.func120, by kernel_rfl, by kernel_rfl, by kernel_rfl⟩
noncomputable def i132 : Info := { fn := Try.f132, c := Try.f132.body.getD .skip, er := fun id => [], dr := fun id => if id = 1 then some Go.AM.Way.quiet else none }
theorem ok132 : RowOk Try.prog 132 (.pure i132) := ⟨Try.func132, by kernel_rfl, by kernel_rfl, by kernel_rfl⟩
noncomputable def i133 : Info := { fn := Try.f133, c := Try.f133.body.getD .skip, er := fun id => [], dr := fun id => if id = 1 then some Go.AM.Way.quiet else none }
theorem ok133 : RowOk Try.prog 133 (.pure i133) := ⟨Try.func133, by kernel_rfl, by kernel_rfl, by kernel_rfl⟩
noncomputable def tab0 : Tab := [(3, .pure i3), (4, .pure i4), (5, .pure i5), (6, .pure i6), (7, .pure i7), (8, .pure i8), (9, .pure i9), (10, .pure i10), (11, .pure i11), (12, .pure i12), (13, .pure i13), (14, .pure i14), (15, .pure i15), (16, .run i16), (17, .run i17), (18, .run i18), (19, .pure i19), (20, .pure i20), (21, .pure i21), (22, .pure i22), (23, .run i23), (24, .pure i24), (25, .run i25), (26, .run i26), (27, .pure i27), (28, .pure i28), (29, .run i29), (30, .run i30), (31, .run i31), (32, .pure i32), (33, .pure i33), (34, .pure i34), (35, .run i35), (36, .run i36), (37, .run i37), (38, .run i38), (39, .run i39), (40, .pure i40), (41, .run i41), (42, .run i42), (43, .run i43), (44, .pure i44), (45, .pure i45), (46, .pure i46), (47, .pure i47), (48, .run i48), (49, .run i49), (50, .pure i50), (51, .pure i51), (52, .pure i52), (53, .pure i53), (54, .run i54), (55, .pure i55), (56, .pure i56), (57, .pure i57), (58, .pure i58), (59, .pure i59), (60, .run i60), (61, .run i61), (63, .run i63), (64, .run i64), (65, .pure i65), (66, .run i66), (67, .run i67), (68, .known sortF), (69, .known compactF), (70, .pure i70), (71, .run i71), (72, .run i72), (73, .pure i73), (74, .pure i74), (75, .pure i75), (76, .run i76), (77, .pure i77), (78, .pure i78), (79, .known thrF), (80, .known thrF), (81, .pure i81), (82, .pure i82), (83, .pure i83), (84, .pure i84), (85, .pure i85), (86, .pure i86), (87, .pure i87), (88, .run i88), (89, .run i89), (90, .known clF), (91, .known clF), (92, .pure i92), (93, .pure i93), (94, .known (eqF intV)), (95, .known (eqF LfV.cv)), (96, .pure i96), (97, .pure i97), (98, .pure i98), (99, .pure i99), (100, .pure i100), (101, .run i101), (102, .run i102), (105, .pure i105), (106, .pure i106), (107, .run i107), (108, .run i108), (109, .run i109), (110, .run i110), (111, .run i111), (112, .run i112), (113, .run i113), (114, .pure i114), (117, .pure i117), (119, .pure i119), (120, .run i120), (132, .pure i132), (133, .pure i133)]
theorem tab0Ok : TabOk Try.prog tab0 := TabOk.cons ok3 (TabOk.cons ok4 (TabOk.cons ok5 (TabOk.cons ok6 (TabOk.cons ok7 (TabOk.cons ok8 (TabOk.cons ok9 (TabOk.cons ok10 (TabOk.cons ok11 (TabOk.cons ok12 (TabOk.cons ok13 (TabOk.cons ok14 (TabOk.cons ok15 (TabOk.cons ok16 (TabOk.cons ok17 (TabOk.cons ok18 (TabOk.cons ok19 (TabOk.cons ok20 (TabOk.cons ok21 (TabOk.cons ok22 (TabOk.cons ok23 (TabOk.cons ok24 (TabOk.cons ok25 (TabOk.cons ok26 (TabOk.cons ok27 (TabOk.cons ok28 (TabOk.cons ok29 (TabOk.cons ok30 (TabOk.cons ok31 (TabOk.cons ok32 (TabOk.cons ok33 (TabOk.cons ok34 (TabOk.cons ok35 (TabOk.cons ok36 (TabOk.cons ok37 (TabOk.cons ok38 (TabOk.cons ok39 (TabOk.cons ok40 (TabOk.cons ok41 (TabOk.cons ok42 (TabOk.cons ok43 (TabOk.cons ok44 (TabOk.cons ok45 (TabOk.cons ok46 (TabOk.cons ok47 (TabOk.cons ok48 (TabOk.cons ok49 (TabOk.cons ok50 (TabOk.cons ok51 (TabOk.cons ok52 (TabOk.cons ok53 (TabOk.cons ok54 (TabOk.cons ok55 (TabOk.cons ok56 (TabOk.cons ok57 (TabOk.cons ok58 (TabOk.cons ok59 (TabOk.cons ok60 (TabOk.cons ok61 (TabOk.cons ok63 (TabOk.cons ok64 (TabOk.cons ok65 (TabOk.cons ok66 (TabOk.cons ok67 (TabOk.cons ok68 (TabOk.cons ok69 (TabOk.cons ok70 (TabOk.cons ok71 (TabOk.cons ok72 (TabOk.cons ok73 (TabOk.cons ok74 (TabOk.cons ok75 (TabOk.cons ok76 (TabOk.cons ok77 (TabOk.cons ok78 (TabOk.cons ok79 (TabOk.cons ok80 (TabOk.cons ok81 (TabOk.cons ok82 (TabOk.cons ok83 (TabOk.cons ok84 (TabOk.cons ok85 (TabOk.cons ok86 (TabOk.cons ok87 (TabOk.cons ok88 (TabOk.cons ok89 (TabOk.cons ok90 (TabOk.cons ok91 (TabOk.cons ok92 (TabOk.cons ok93 (TabOk.cons ok94 (TabOk.cons ok95 (TabOk.cons ok96 (TabOk.cons ok97 (TabOk.cons ok98 (TabOk.cons ok99 (TabOk.cons ok100 (TabOk.cons ok101 (TabOk.cons ok102 (TabOk.cons ok105 (TabOk.cons ok106 (TabOk.cons ok107 (TabOk.cons ok108 (TabOk.cons ok109 (TabOk.cons ok110 (TabOk.cons ok111 (TabOk.cons ok112 (TabOk.cons ok113 (TabOk.cons ok114 (TabOk.cons ok117 (TabOk.cons ok119 (TabOk.cons ok120 (TabOk.cons ok132 (TabOk.cons ok133 TabOk.nil)))))))))))))))))))))))))))))))))))))))))))))))))))))))))))))))))))))))))))))))))))))))))))))))))))))))))))))))))
/-- Of a function without arguments: its answer. -/
def closedF (r : AV) : List CV → Nat → List AO → Option (AV × List AO) := fun xs _ h => match xs with | [] => some (r, h) | _ => none
theorem run24 : ((runA ⟨Try.prog, ev Try.prog tab0 100 12, 0, 100, i24.er, i24.dr⟩ i24.fn i24.c [] []).map (·.1)) = some (.v (.sc (.bool true))) := by kernel_rfl
theorem okk24 : RowOk Try.prog 24 (.known (closedF (.v (.sc (.bool true))))) := callOk_closed (fn := i24.fn) (c := i24.c) (er := i24.er) (dr := i24.dr) (k := 100) Try.func24 (by kernel_rfl) (by kernel_rfl) (by kernel_rfl) (ev_ok tab0Ok (by kernel_rfl) 12) (by kernel_rfl) rfl run24
theorem run50 : ((runA ⟨Try.prog, ev Try.prog tab0 100 12, 0, 100, i50.er, i50.dr⟩ i50.fn i50.c [] []).map (·.1)) = some (.v (.sc (.bool true))) := by kernel_rfl
theorem okk50 : RowOk Try.prog 50 (.known (closedF (.v (.sc (.bool true))))) := callOk_closed (fn := i50.fn) (c := i50.c) (er := i50.er) (dr := i50.dr) (k := 100) Try.func50 (by kernel_rfl) (by kernel_rfl) (by kernel_rfl) (ev_ok tab0Ok (by kernel_rfl) 12) (by kernel_rfl) rfl run50
noncomputable def tab : Tab := (24, .known (closedF (.v (.sc (.bool true))))) :: (50, .known (closedF (.v (.sc (.bool true))))) :: tab0
theorem tabOk : TabOk Try.prog tab := TabOk.cons okk24 (TabOk.cons okk50 tab0Ok)
theorem at3 {T : Tab} (hT : T = tab) : T.at 3 = some (.pure i3) := by subst hT; kernel_rfl
theorem at4 {T : Tab} (hT : T = tab) : T.at 4 = some (.pure i4) := by subst hT; kernel_rfl
theorem at5 {T : Tab} (hT : T = tab) : T.at 5 = some (.pure i5) := by subst hT; kernel_rfl
theorem at6 {T : Tab} (hT : T = tab) : T.at 6 = some (.pure i6) := by subst hT; kernel_rfl
theorem at7 {T : Tab} (hT : T = tab) : T.at 7 = some (.pure i7) := by subst hT; kernel_rfl
theorem at8 {T : Tab} (hT : T = tab) : T.at 8 = some (.pure i8) := by subst hT; kernel_rfl
theorem at9 {T : Tab} (hT : T = tab) : T.at 9 = some (.pure i9) := by subst hT; kernel_rfl
theorem at10 {T : Tab} (hT : T = tab) : T.at 10 = some (.pure i10) := by subst hT; kernel_rfl
theorem at11 {T : Tab} (hT : T = tab) : T.at 11 = some (.pure i11) := by subst hT; kernel_rfl
theorem at12 {T : Tab} (hT : T = tab) : T.at 12 = some (.pure i12) := by subst hT; kernel_rfl
theorem at13 {T : Tab} (hT : T = tab) : T.at 13 = some (.pure i13) := by subst hT; kernel_rfl
theorem at14 {T : Tab} (hT : T = tab) : T.at 14 = some (.pure i14) := by subst hT; kernel_rfl
theorem at15 {T : Tab} (hT : T = tab) : T.at 15 = some (.pure i15) := by subst hT; kernel_rfl
theorem at16 {T : Tab} (hT : T = tab) : T.at 16 = some (.run i16) := by subst hT; kernel_rfl
theorem at17 {T : Tab} (hT : T = tab) : T.at 17 = some (.run i17) := by subst hT; kernel_rfl
theorem at18 {T : Tab} (hT : T = tab) : T.at 18 = some (.run i18) := by subst hT; kernel_rfl
theorem at19 {T : Tab} (hT : T = tab) : T.at 19 = some (.pure i19) := by subst hT; kernel_rfl
theorem at20 {T : Tab} (hT : T = tab) : T.at 20 = some (.pure i20) := by subst hT; kernel_rfl
theorem at21 {T : Tab} (hT : T = tab) : T.at 21 = some (.pure i21) := by subst hT; kernel_rfl
theorem at22 {T : Tab} (hT : T = tab) : T.at 22 = some (.pure i22) := by subst hT; kernel_rfl
theorem at23 {T : Tab} (hT : T = tab) : T.at 23 = some (.run i23) := by subst hT; kernel_rfl
theorem at24 {T : Tab} (hT : T = tab) : T.at 24 = some (.known (closedF (.v (.sc (.bool true))))) := by subst hT; kernel_rfl
theorem at25 {T : Tab} (hT : T = tab) : T.at 25 = some (.run i25) := by subst hT; kernel_rfl
theorem at26 {T : Tab} (hT : T = tab) : T.at 26 = some (.run i26) := by subst hT; kernel_rfl
theorem at27 {T : Tab} (hT : T = tab) : T.at 27 = some (.pure i27) := by subst hT; kernel_rfl
theorem at28 {T : Tab} (hT : T = tab) : T.at 28 = some (.pure i28) := by subst hT; kernel_rfl
theorem at29 {T : Tab} (hT : T = tab) : T.at 29 = some (.run i29) := by subst hT; kernel_rfl
theorem at30 {T : Tab} (hT : T = tab) : T.at 30 = some (.run i30) := by subst hT; kernel_rfl
theorem at31 {T : Tab} (hT : T = tab) : T.at 31 = some (.run i31) := by subst hT; kernel_rfl
theorem at32 {T : Tab} (hT : T = tab) : T.at 32 = some (.pure i32) := by subst hT; kernel_rfl
theorem at33 {T : Tab} (hT : T = tab) : T.at 33 = some (.pure i33) := by subst hT; kernel_rfl
theorem at34 {T : Tab} (hT : T = tab) : T.at 34 = some (.pure i34) := by subst hT; kernel_rfl
theorem at35 {T : Tab} (hT : T = tab) : T.at 35 = some (.run i35) := by subst hT; kernel_rfl
theorem at36 {T : Tab} (hT : T = tab) : T.at 36 = some (.run i36) := by subst hT; kernel_rfl
theorem at37 {T : Tab} (hT : T = tab) : T.at 37 = some (.run i37) := by subst hT; kernel_rfl
theorem at38 {T : Tab} (hT : T = tab) : T.at 38 = some (.run i38) := by subst hT; kernel_rfl
theorem at39 {T : Tab} (hT : T = tab) : T.at 39 = some (.run i39) := by subst hT; kernel_rfl
theorem at40 {T : Tab} (hT : T = tab) : T.at 40 = some (.pure i40) := by subst hT; kernel_rfl
theorem at41 {T : Tab} (hT : T = tab) : T.at 41 = some (.run i41) := by subst hT; kernel_rfl
theorem at42 {T : Tab} (hT : T = tab) : T.at 42 = some (.run i42) := by subst hT; kernel_rfl
theorem at43 {T : Tab} (hT : T = tab) : T.at 43 = some (.run i43) := by subst hT; kernel_rfl
theorem at44 {T : Tab} (hT : T = tab) : T.at 44 = some (.pure i44) := by subst hT; kernel_rfl
theorem at45 {T : Tab} (hT : T = tab) : T.at 45 = some (.pure i45) := by subst hT; kernel_rfl
theorem at46 {T : Tab} (hT : T = tab) : T.at 46 = some (.pure i46) := by subst hT; kernel_rfl
theorem at47 {T : Tab} (hT : T = tab) : T.at 47 = some (.pure i47) := by subst hT; kernel_rfl
theorem at48 {T : Tab} (hT : T = tab) : T.at 48 = some (.run i48) := by subst hT; kernel_rfl
theorem at49 {T : Tab} (hT : T = tab) : T.at 49 = some (.run i49) := by subst hT; kernel_rfl
theorem at50 {T : Tab} (hT : T = tab) : T.at 50 = some (.known (closedF (.v (.sc (.bool true))))) := by subst hT; kernel_rfl
theorem at51 {T : Tab} (hT : T = tab) : T.at 51 = some (.pure i51) := by subst hT; kernel_rfl
theorem at52 {T : Tab} (hT : T = tab) : T.at 52 = some (.pure i52) := by subst hT; kernel_rfl
theorem at53 {T : Tab} (hT : T = tab) : T.at 53 = some (.pure i53) := by subst hT; kernel_rfl
theorem at54 {T : Tab} (hT : T = tab) : T.at 54 = some (.run i54) := by subst hT; kernel_rfl
theorem at55 {T : Tab} (hT : T = tab) : T.at 55 = some (.pure i55) := by subst hT; kernel_rfl
theorem at56 {T : Tab} (hT : T = tab) : T.at 56 = some (.pure i56) := by subst hT; kernel_rfl
theorem at57 {T : Tab} (hT : T = tab) : T.at 57 = some (.pure i57) := by subst hT; kernel_rfl
theorem at58 {T : Tab} (hT : T = tab) : T.at 58 = some (.pure i58) := by subst hT; kernel_rfl
theorem at59 {T : Tab} (hT : T = tab) : T.at 59 = some (.pure i59) := by subst hT; kernel_rfl
theorem at60 {T : Tab} (hT : T = tab) : T.at 60 = some (.run i60) := by subst hT; kernel_rfl
theorem at61 {T : Tab} (hT : T = tab) : T.at 61 = some (.run i61) := by subst hT; kernel_rfl
theorem at63 {T : Tab} (hT : T = tab) : T.at 63 = some (.run i63) := by subst hT; kernel_rfl
theorem at64 {T : Tab} (hT : T = tab) : T.at 64 = some (.run i64) := by subst hT; kernel_rfl
theorem at65 {T : Tab} (hT : T = tab) : T.at 65 = some (.pure i65) := by subst hT; kernel_rfl
theorem at66 {T : Tab} (hT : T = tab) : T.at 66 = some (.run i66) := by subst hT; kernel_rfl
theorem at67 {T : Tab} (hT : T = tab) : T.at 67 = some (.run i67) := by subst hT; kernel_rfl
theorem at68 {T : Tab} (hT : T = tab) : T.at 68 = some (.known sortF) := by subst hT; kernel_rfl
theorem at69 {T : Tab} (hT : T = tab) : T.at 69 = some (.known compactF) := by subst hT; kernel_rfl
theorem at70 {T : Tab} (hT : T = tab) : T.at 70 = some (.pure i70) := by subst hT; kernel_rfl
theorem at71 {T : Tab} (hT : T = tab) : T.at 71 = some (.run i71) := by subst hT; kernel_rfl
theorem at72 {T : Tab} (hT : T = tab) : T.at 72 = some (.run i72) := by subst hT; kernel_rfl
theorem at73 {T : Tab} (hT : T = tab) : T.at 73 = some (.pure i73) := by subst hT; kernel_rfl
theorem at74 {T : Tab} (hT : T = tab) : T.at 74 = some (.pure i74) := by subst hT; kernel_rfl
theorem at75 {T : Tab} (hT : T = tab) : T.at 75 = some (.pure i75) := by subst hT; kernel_rfl
theorem at76 {T : Tab} (hT : T = tab) : T.at 76 = some (.run i76) := by subst hT; kernel_rfl
theorem at77 {T : Tab} (hT : T = tab) : T.at 77 = some (.pure i77) := by subst hT; kernel_rfl
theorem at78 {T : Tab} (hT : T = tab) : T.at 78 = some (.pure i78) := by subst hT; kernel_rfl
theorem at79 {T : Tab} (hT : T = tab) : T.at 79 = some (.known thrF) := by subst hT; kernel_rfl
theorem at80 {T : Tab} (hT : T = tab) : T.at 80 = some (.known thrF) := by subst hT; kernel_rfl
theorem at81 {T : Tab} (hT : T = tab) : T.at 81 = some (.pure i81) := by subst hT; kernel_rfl
theorem at82 {T : Tab} (hT : T = tab) : T.at 82 = some (.pure i82) := by subst hT; kernel_rfl
theorem at83 {T : Tab} (hT : T = tab) : T.at 83 = some (.pure i83) := by subst hT; kernel_rfl
theorem at84 {T : Tab} (hT : T = tab) : T.at 84 = some (.pure i84) := by subst hT; kernel_rfl
theorem at85 {T : Tab} (hT : T = tab) : T.at 85 = some (.pure i85) := by subst hT; kernel_rfl
theorem at86 {T : Tab} (hT : T = tab) : T.at 86 = some (.pure i86) := by subst hT; kernel_rfl
theorem at87 {T : Tab} (hT : T = tab) : T.at 87 = some (.pure i87) := by subst hT; kernel_rfl
theorem at88 {T : Tab} (hT : T = tab) : T.at 88 = some (.run i88) := by subst hT; kernel_rfl
theorem at89 {T : Tab} (hT : T = tab) : T.at 89 = some (.run i89) := by subst hT; kernel_rfl
theorem at90 {T : Tab} (hT : T = tab) : T.at 90 = some (.known clF) := by subst hT; kernel_rfl
theorem at91 {T : Tab} (hT : T = tab) : T.at 91 = some (.known clF) := by subst hT; kernel_rfl
theorem at92 {T : Tab} (hT : T = tab) : T.at 92 = some (.pure i92) := by subst hT; kernel_rfl
theorem at93 {T : Tab} (hT : T = tab) : T.at 93 = some (.pure i93) := by subst hT; kernel_rfl
theorem at94 {T : Tab} (hT : T = tab) : T.at 94 = some (.known (eqF intV)) := by subst hT; kernel_rfl
theorem at95 {T : Tab} (hT : T = tab) : T.at 95 = some (.known (eqF LfV.cv)) := by subst hT; kernel_rfl
theorem at96 {T : Tab} (hT : T = tab) : T.at 96 = some (.pure i96) := by subst hT; kernel_rfl
theorem at97 {T : Tab} (hT : T = tab) : T.at 97 = some (.pure i97) := by subst hT; kernel_rfl
theorem at98 {T : Tab} (hT : T = tab) : T.at 98 = some (.pure i98) := by subst hT; kernel_rfl
theorem at99 {T : Tab} (hT : T = tab) : T.at 99 = some (.pure i99) := by subst hT; kernel_rfl
theorem at100 {T : Tab} (hT : T = tab) : T.at 100 = some (.pure i100) := by subst hT; kernel_rfl
theorem at101 {T : Tab} (hT : T = tab) : T.at 101 = some (.run i101) := by subst hT; kernel_rfl
theorem at102 {T : Tab} (hT : T = tab) : T.at 102 = some (.run i102) := by subst hT; kernel_rfl
theorem at105 {T : Tab} (hT : T = tab) : T.at 105 = some (.pure i105) := by subst hT; kernel_rfl
theorem at106 {T : Tab} (hT : T = tab) : T.at 106 = some (.pure i106) := by subst hT; kernel_rfl
theorem at107 {T : Tab} (hT : T = tab) : T.at 107 = some (.run i107) := by subst hT; kernel_rfl
theorem at108 {T : Tab} (hT : T = tab) : T.at 108 = some (.run i108) := by subst hT; kernel_rfl
theorem at109 {T : Tab} (hT : T = tab) : T.at 109 = some (.run i109) := by subst hT; kernel_rfl
theorem at110 {T : Tab} (hT : T = tab) : T.at 110 = some (.run i110) := by subst hT; kernel_rfl
theorem at111 {T : Tab} (hT : T = tab) : T.at 111 = some (.run i111) := by subst hT; kernel_rfl
theorem at112 {T : Tab} (hT : T = tab) : T.at 112 = some (.run i112) := by subst hT; kernel_rfl
theorem at113 {T : Tab} (hT : T = tab) : T.at 113 = some (.run i113) := by subst hT; kernel_rfl
theorem at114 {T : Tab} (hT : T = tab) : T.at 114 = some (.pure i114) := by subst hT; kernel_rfl
theorem at117 {T : Tab} (hT : T = tab) : T.at 117 = some (.pure i117) := by subst hT; kernel_rfl
theorem at119 {T : Tab} (hT : T = tab) : T.at 119 = some (.pure i119) := by subst hT; kernel_rfl
theorem at120 {T : Tab} (hT : T = tab) : T.at 120 = some (.run i120) := by subst hT; kernel_rfl
theorem at132 {T : Tab} (hT : T = tab) : T.at 132 = some (.pure i132) := by subst hT; kernel_rfl
theorem at133 {T : Tab} (hT : T = tab) : T.at 133 = some (.pure i133) := by subst hT; kernel_rfl
/-- This program, this table, and fuel enough. -/
structure Sd (P : Program) (T : Tab) (K : Nat) : Prop where
  p : P = Try.prog
  t : T = tab
  k : 18446744073709551616 ≤ K
end Go.AM
