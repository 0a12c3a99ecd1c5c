/- The table of the seat's functions for the abstract machine. Printed by tab.py. Conditions: none. -/
import Derived.Test.YtjhhjmngjmflaaaAmTypes
import Derived.Test.YtjhhjmngjmflaaaAmAll
import Derived.KernelRfl
import Derived.Test.YtjhhjmngjmflaaaShelf
import Derived.Test.YtjhhjmngjmflaaaAmSort
import Derived.Test.YtjhhjmngjmflaaaMoH
import Derived.Test.YtjhhjmngjmflaaaMoJ
namespace Go.AM
open Go.Proofs
set_option maxRecDepth 100000
set_option linter.unusedVariables false
noncomputable def i3 : Info := { fn := Try.f3, c := Try.f3.body.getD .skip, er := fun id => if id = 4 then [9, 23, 24, 25, 26, 27, 28, 29, 30, 31] else [], dr := fun id => if id = 13 then some Go.AM.Way.quiet else none }
theorem ok3 : RowOk Try.prog 3 (.pure i3) := ⟨Try.func3, by kernel_rfl, by kernel_rfl, by kernel_rfl⟩
noncomputable def i4 : Info := { fn := Try.f4, c := Try.f4.body.getD .skip, er := fun id => if id = 5 then [6, 27, 28, 29, 30, 31, 32, 33, 34] else if id = 12 then [2, 11, 12, 39, 40, 41, 42, 43, 44, 45, 46, 47, 48, 49, 50, 51, 52, 53, 54, 55, 56, 57, 58, 59, 60, 61, 62, 63, 64, 65, 66, 67, 68, 69, 70, 71, 72, 73, 74, 75, 76, 77, 78, 79, 80, 81, 82, 83, 84, 85, 86, 87, 88, 89, 90, 91, 92, 93, 94, 95, 96, 97, 98, 99, 100, 101, 102, 103, 104, 105, 106] else [], dr := fun id => if id = 18 then some Go.AM.Way.quiet else if id = 22 then some Go.AM.Way.quiet else none }
theorem ok4 : RowOk Try.prog 4 (.pure i4) := ⟨Try.func4, by kernel_rfl, by kernel_rfl, by kernel_rfl⟩
noncomputable def i5 : Info := { fn := Try.f5, c := Try.f5.body.getD .skip, er := fun id => if id = 2 then [2, 4, 5, 6, 16, 17, 18, 19, 20, 21, 22, 23, 24, 25, 26, 27, 28, 29, 30, 31, 32, 33, 34, 35, 36, 37, 38, 39, 40, 41, 42, 43, 44, 45, 46, 47, 48, 49, 50, 51, 52, 53] else [], dr := fun id => none }
theorem ok5 : RowOk Try.prog 5 (.pure i5) := ⟨Try.func5, by kernel_rfl, by kernel_rfl, by kernel_rfl⟩
noncomputable def i6 : Info := { fn := Try.f6, c := Try.f6.body.getD .skip, er := fun id => if id = 9 then [4, 12, 88, 89, 90, 91, 92, 93, 94, 95, 96, 97, 98, 99] else if id = 15 then [4, 13, 14, 104, 105, 106, 107, 108, 109, 110, 111, 112, 113, 114, 115, 116] else [], dr := fun id => if id = 3 then some (Go.AM.Way.any [] [] [.m, .l, .m, .l, .m, .l, .m, .x, .r [], .m, .m, .m, .m, .m]) else if id = 4 then some (Go.AM.Way.any [] [] [.m, .l, .m, .l, .m, .l, .m, .x, .w, .m, .m, .m, .m, .m]) else if id = 11 then some Go.AM.Way.quiet else if id = 17 then some Go.AM.Way.quiet else none }
theorem ok6 : RowOk Try.prog 6 (.pure i6) := ⟨Try.func6, by kernel_rfl, by kernel_rfl, by kernel_rfl⟩
noncomputable def i7 : Info := { fn := Try.f7, c := Try.f7.body.getD .skip, er := fun id => if id = 9 then [4, 10, 67, 68, 69, 70, 71, 72, 73, 74, 75, 76, 77, 78, 79, 80, 81, 82, 83, 84, 85, 86, 87, 88, 89] else [], dr := fun id => if id = 3 then some (Go.AM.Way.any [] [] [.m, .l, .m, .l, .m, .l, .m, .x, .r [], .m, .m, .m, .m, .m]) else none }
theorem ok7 : RowOk Try.prog 7 (.pure i7) := ⟨Try.func7, by kernel_rfl, by kernel_rfl, by kernel_rfl⟩
noncomputable def i8 : Info := { fn := Try.f8, c := Try.f8.body.getD .skip, er := fun id => if id = 10 then [2, 9, 10, 11, 12, 13, 14, 15, 41, 42, 43, 44, 45, 46, 47, 48, 49, 50, 51, 52, 53, 54, 55, 56, 57, 58, 59, 60, 61, 62, 63, 64, 65, 66, 67, 68, 69, 70, 71, 72, 73, 74, 75, 76, 77, 78, 79, 80, 81, 82, 83, 84, 85, 86, 87, 88, 89, 90, 91, 92, 93, 94, 95, 96, 97, 98, 99, 100, 101, 102, 103, 104, 105, 106, 107, 108, 109, 110, 111, 112, 113, 114, 115, 116, 117] else if id = 15 then [2, 10, 11, 60, 61, 62, 63, 64, 65, 66, 67, 68, 69, 70, 71, 72, 73, 74, 75, 76, 77, 78, 79, 80, 81, 82, 83] else [], dr := fun id => if id = 17 then some Go.AM.Way.quiet else none }
theorem ok8 : RowOk Try.prog 8 (.pure i8) := ⟨Try.func8, by kernel_rfl, by kernel_rfl, by kernel_rfl⟩
noncomputable def i9 : Info := { fn := Try.f9, c := Try.f9.body.getD .skip, er := fun id => [], dr := fun id => none }
theorem ok9 : RowOk Try.prog 9 (.run i9) := ⟨Try.func9, by kernel_rfl, by kernel_rfl, by kernel_rfl⟩
noncomputable def i10 : Info := { fn := Try.f10, c := Try.f10.body.getD .skip, er := fun id => [], dr := fun id => none }
theorem ok10 : RowOk Try.prog 10 (.pure i10) := ⟨Try.func10, by kernel_rfl, by kernel_rfl, by kernel_rfl⟩
noncomputable def i11 : Info := { fn := Try.f11, c := Try.f11.body.getD .skip, er := fun id => if id = 5 then [8, 9, 12, 13, 29, 30, 31, 32, 33, 34, 35, 36, 37, 38] else [], dr := fun id => none }
theorem ok11 : RowOk Try.prog 11 (.pure i11) := ⟨Try.func11, by kernel_rfl, by kernel_rfl, by kernel_rfl⟩
noncomputable def i12 : Info := { fn := Try.f12, c := Try.f12.body.getD .skip, er := fun id => if id = 6 then [8, 15, 16, 17, 18, 19, 20, 21, 33, 34, 35, 36, 37, 38, 39, 40, 41, 42, 43, 44, 45, 46, 47, 48, 49, 50, 51, 52, 53, 54, 55, 56, 57, 58, 59, 60, 61, 62, 63, 64, 65, 66, 67, 68, 69, 70, 71, 72, 73, 74, 75, 76, 77, 78, 79, 80, 81, 82, 83, 84, 85, 86, 87, 88, 89, 90, 91, 92, 93, 94, 95, 96, 97, 98, 99, 100, 101, 102, 103, 104, 105, 106, 107, 108, 109, 110, 111, 112, 113, 114, 115, 116, 117, 118, 119, 120, 121, 122, 123, 124, 125, 126, 127, 128, 129, 130, 131, 132, 133, 134, 135, 136, 137, 138, 139, 140, 141, 142, 143, 144, 145, 146, 147, 148, 149, 150, 151, 152, 153, 154, 155, 156, 157, 158, 159, 160, 161] else [], dr := fun id => if id = 4 then some (Go.AM.Way.any [] [9] [.r [], .l, .m, .x, .w]) else if id = 10 then some (Go.AM.Way.any [] [9] [.m, .r [], .l, .m, .x, .w]) else if id = 15 then some (Go.AM.Way.any [] [9] [.m, .r [], .l, .m, .x, .w]) else if id = 19 then some (Go.AM.Way.any [] [9] [.m, .r [], .l, .m, .x, .w]) else if id = 24 then some (Go.AM.Way.any [] [9] [.m, .r [], .l, .m, .x, .w]) else if id = 26 then some (Go.AM.Way.any [2, 5] [] [.m, .r [false, false], .b 0 [false, false], .m, .r [false, false], .a 1, .w, .m, .w]) else if id = 28 then some (Go.AM.Way.any [] [9] [.m, .r [], .r [], .l, .m, .x, .w]) else none }
theorem ok12 : RowOk Try.prog 12 (.run i12) := ⟨Try.func12, by kernel_rfl, by kernel_rfl, by kernel_rfl⟩
noncomputable def i13 : Info := { fn := Try.f13, c := Try.f13.body.getD .skip, er := fun id => [], dr := fun id => none }
theorem ok13 : RowOk Try.prog 13 (.pure i13) := ⟨Try.func13, by kernel_rfl, by kernel_rfl, by kernel_rfl⟩
noncomputable def i14 : Info := { fn := Try.f14, c := Try.f14.body.getD .skip, er := fun id => [], dr := fun id => none }
theorem ok14 : RowOk Try.prog 14 (.run i14) := ⟨Try.func14, by kernel_rfl, by kernel_rfl, by kernel_rfl⟩
noncomputable def i15 : Info := { fn := Try.f15, c := Try.f15.body.getD .skip, er := fun id => [], dr := fun id => if id = 3 then some Go.AM.Way.quiet else if id = 5 then some Go.AM.Way.quiet else if id = 8 then some Go.AM.Way.quiet else if id = 10 then some (Go.AM.Way.tail 10) else if id = 12 then some (Go.AM.Way.any [] [] [.m, .m, .r [], .m, .r [], .r [], .m, .m, .m, .m, .m, .r [], .m, .r [], .w, .m, .m]) else if id = 18 then some Go.AM.Way.quiet else if id = 21 then some (Go.AM.Way.any [6] [] [.m, .m, .m, .m, .r [false], .r [false], .a 0, .w, .m, .m, .w]) else none }
theorem ok15 : RowOk Try.prog 15 (.run i15) := ⟨Try.func15, by kernel_rfl, by kernel_rfl, by kernel_rfl⟩
noncomputable def i16 : Info := { fn := Try.f16, c := Try.f16.body.getD .skip, er := fun id => [], dr := fun id => none }
theorem ok16 : RowOk Try.prog 16 (.run i16) := ⟨Try.func16, by kernel_rfl, by kernel_rfl, by kernel_rfl⟩
noncomputable def i17 : Info := { fn := Try.f17, c := Try.f17.body.getD .skip, er := fun id => [], dr := fun id => if id = 3 then some (Go.AM.Way.any [] [4] [.m, .m, .m, .r [], .m, .m, .m, .r [], .m, .m, .m, .l, .m, .m, .m, .l, .x, .m]) else none }
theorem ok17 : RowOk Try.prog 17 (.pure i17) := ⟨Try.func17, by kernel_rfl, by kernel_rfl, by kernel_rfl⟩
noncomputable def i18 : Info := { fn := Try.f18, c := Try.f18.body.getD .skip, er := fun id => [], dr := fun id => none }
theorem ok18 : RowOk Try.prog 18 (.pure i18) := ⟨Try.func18, by kernel_rfl, by kernel_rfl, by kernel_rfl⟩
noncomputable def i19 : Info := { fn := Try.f19, c := Try.f19.body.getD .skip, er := fun id => [], dr := fun id => none }
theorem ok19 : RowOk Try.prog 19 (.run i19) := ⟨Try.func19, by kernel_rfl, by kernel_rfl, by kernel_rfl⟩
noncomputable def i20 : Info := { fn := Try.f20, c := Try.f20.body.getD .skip, er := fun id => [], dr := fun id => none }
theorem ok20 : RowOk Try.prog 20 (.run i20) := ⟨Try.func20, by kernel_rfl, by kernel_rfl, by kernel_rfl⟩
noncomputable def i21 : Info := { fn := Try.f21, c := Try.f21.body.getD .skip, er := fun id => [], dr := fun id => none }
theorem ok21 : RowOk Try.prog 21 (.pure i21) := ⟨Try.func21, by kernel_rfl, by kernel_rfl, by kernel_rfl⟩
noncomputable def i22 : Info := { fn := Try.f22, c := Try.f22.body.getD .skip, er := fun id => [], dr := fun id => none }
theorem ok22 : RowOk Try.prog 22 (.pure i22) := ⟨Try.func22, by kernel_rfl, by kernel_rfl, by kernel_rfl⟩
noncomputable def i23 : Info := { fn := Try.f23, c := Try.f23.body.getD .skip, er := fun id => [], dr := fun id => none }
theorem ok23 : RowOk Try.prog 23 (.pure i23) := ⟨Try.func23, by kernel_rfl, by kernel_rfl, by kernel_rfl⟩
noncomputable def i24 : Info := { fn := Try.f24, c := Try.f24.body.getD .skip, er := fun id => if id = 3 then [5, 6, 10, 11, 12, 13, 14, 15, 16, 17, 18, 19, 20, 21, 22, 23, 24, 25, 26, 27, 28, 29, 30, 31, 32, 33, 34] else [], dr := fun id => none }
theorem ok24 : RowOk Try.prog 24 (.run i24) := ⟨Try.func24, by kernel_rfl, by kernel_rfl, by kernel_rfl⟩
noncomputable def i25 : Info := { fn := Try.f25, c := Try.f25.body.getD .skip, er := fun id => [], dr := fun id => none }
theorem ok25 : RowOk Try.prog 25 (.run i25) := ⟨Try.func25, by kernel_rfl, by kernel_rfl, by kernel_rfl⟩
noncomputable def i26 : Info := { fn := Try.f26, c := Try.f26.body.getD .skip, er := fun id => if id = 6 then [31, 32, 33, 34, 35, 36, 37, 38, 39] else [], dr := fun id => none }
theorem ok26 : RowOk Try.prog 26 (.run i26) := ⟨Try.func26, by kernel_rfl, by kernel_rfl, by kernel_rfl⟩
noncomputable def i27 : Info := { fn := Try.f27, c := Try.f27.body.getD .skip, er := fun id => [], dr := fun id => none }
theorem ok27 : RowOk Try.prog 27 (.pure i27) := ⟨Try.func27, by kernel_rfl, by kernel_rfl, by kernel_rfl⟩
noncomputable def i28 : Info := { fn := Try.f28, c := Try.f28.body.getD .skip, er := fun id => [], dr := fun id => none }
theorem ok28 : RowOk Try.prog 28 (.pure i28) := ⟨Try.func28, by kernel_rfl, by kernel_rfl, by kernel_rfl⟩
noncomputable def i29 : Info := { fn := Try.f29, c := Try.f29.body.getD .skip, er := fun id => if id = 5 then [8, 9, 12, 13, 26, 27, 28, 29, 30, 31, 32, 33, 34, 35, 36] else [], dr := fun id => none }
theorem ok29 : RowOk Try.prog 29 (.pure i29) := ⟨Try.func29, by kernel_rfl, by kernel_rfl, by kernel_rfl⟩
noncomputable def i30 : Info := { fn := Try.f30, c := Try.f30.body.getD .skip, er := fun id => if id = 5 then [8, 9, 13, 14, 24, 25, 26, 27, 28, 29, 30, 31, 32, 33, 34, 35, 36, 37, 38, 39, 40, 41, 42, 43] else [], dr := fun id => if id = 7 then some (Go.AM.Way.any [10] [] [.r [false], .m, .m, .m, .m, .r [false], .r [false], .m, .m, .m, .a 0, .w, .m]) else none }
theorem ok30 : RowOk Try.prog 30 (.pure i30) := ⟨Try.func30, by kernel_rfl, by kernel_rfl, by kernel_rfl⟩
noncomputable def i31 : Info := { fn := Try.f31, c := Try.f31.body.getD .skip, er := fun id => [], dr := fun id => none }
theorem ok31 : RowOk Try.prog 31 (.pure i31) := ⟨Try.func31, by kernel_rfl, by kernel_rfl, by kernel_rfl⟩
noncomputable def i32 : Info := { fn := Try.f32, c := Try.f32.body.getD .skip, er := fun id => [], dr := fun id => none }
theorem ok32 : RowOk Try.prog 32 (.pure i32) := ⟨Try.func32, by kernel_rfl, by kernel_rfl, by kernel_rfl⟩
noncomputable def i33 : Info := { fn := Try.f33, c := Try.f33.body.getD .skip, er := fun id => [], dr := fun id => none }
theorem ok33 : RowOk Try.prog 33 (.pure i33) := ⟨Try.func33, by kernel_rfl, by kernel_rfl, by kernel_rfl⟩
noncomputable def i34 : Info := { fn := Try.f34, c := Try.f34.body.getD .skip, er := fun id => [], dr := fun id => if id = 10 then some Go.AM.Way.quiet else none }
theorem ok34 : RowOk Try.prog 34 (.pure i34) := ⟨Try.func34, by kernel_rfl, by kernel_rfl, by kernel_rfl⟩
noncomputable def i35 : Info := { fn := Try.f35, c := Try.f35.body.getD .skip, er := fun id => [], dr := fun id => if id = 21 then some Go.AM.Way.quiet else if id = 27 then some Go.AM.Way.quiet else none }
theorem ok35 : RowOk Try.prog 35 (.pure i35) := ⟨Try.func35, by kernel_rfl, by kernel_rfl, by kernel_rfl⟩
noncomputable def i36 : Info := { fn := Try.f36, c := Try.f36.body.getD .skip, er := fun id => [], dr := fun id => if id = 7 then some Go.AM.Way.quiet else if id = 9 then some Go.AM.Way.quiet else if id = 11 then some Go.AM.Way.quiet else if id = 12 then some Go.AM.Way.quiet else none }
theorem ok36 : RowOk Try.prog 36 (.pure i36) := ⟨Try.func36, by kernel_rfl, by kernel_rfl, by kernel_rfl⟩
noncomputable def i37 : Info := { fn := Try.f37, c := Try.f37.body.getD .skip, er := fun id => if id = 5 then [31, 32, 33, 34, 35, 36, 37, 38, 39, 40, 41, 42] else [], dr := fun id => none }
theorem ok37 : RowOk Try.prog 37 (.run i37) := ⟨Try.func37, by kernel_rfl, by kernel_rfl, by kernel_rfl⟩
noncomputable def i38 : Info := { fn := Try.f38, c := Try.f38.body.getD .skip, er := fun id => [], dr := fun id => none }
theorem ok38 : RowOk Try.prog 38 (.pure i38) := ⟨Try.func38, by kernel_rfl, by kernel_rfl, by kernel_rfl⟩
noncomputable def i39 : Info := { fn := Try.f39, c := Try.f39.body.getD .skip, er := fun id => [], dr := fun id => if id = 5 then some (Go.AM.Way.any [] [3] [.m, .r [], .m, .l, .m, .x, .m, .w]) else if id = 7 then some (Go.AM.Way.any [] [3] [.m, .m, .r [], .m, .l, .m, .x, .m, .w]) else if id = 9 then some (Go.AM.Way.any [] [3] [.m, .r [], .m, .l, .m, .l, .m, .x, .m, .x, .m, .w]) else none }
theorem ok39 : RowOk Try.prog 39 (.pure i39) := ⟨Try.func39, by kernel_rfl, by kernel_rfl, by kernel_rfl⟩
noncomputable def i40 : Info := { fn := Try.f40, c := Try.f40.body.getD .skip, er := fun id => [], dr := fun id => if id = 1 then some Go.AM.Way.quiet else if id = 5 then some Go.AM.Way.quiet else none }
theorem ok40 : RowOk Try.prog 40 (.pure i40) := ⟨Try.func40, by kernel_rfl, by kernel_rfl, by kernel_rfl⟩
noncomputable def i41 : Info := { fn := Try.f41, c := Try.f41.body.getD .skip, er := fun id => [], dr := fun id => if id = 9 then some Go.AM.Way.quiet else none }
theorem ok41 : RowOk Try.prog 41 (.pure i41) := ⟨Try.func41, by kernel_rfl, by kernel_rfl, by kernel_rfl⟩
noncomputable def i42 : Info := { fn := Try.f42, c := Try.f42.body.getD .skip, er := fun id => [], dr := fun id => if id = 3 then some Go.AM.Way.quiet else if id = 6 then some Go.AM.Way.quiet else if id = 8 then some Go.AM.Way.quiet else if id = 12 then some Go.AM.Way.quiet else if id = 13 then some Go.AM.Way.quiet else none }
theorem ok42 : RowOk Try.prog 42 (.pure i42) := ⟨Try.func42, by kernel_rfl, by kernel_rfl, by kernel_rfl⟩
noncomputable def i43 : Info := { fn := Try.f43, c := Try.f43.body.getD .skip, er := fun id => [], dr := fun id => none }
theorem ok43 : RowOk Try.prog 43 (.run i43) := ⟨Try.func43, by kernel_rfl, by kernel_rfl, by kernel_rfl⟩
noncomputable def i44 : Info := { fn := Try.f44, c := Try.f44.body.getD .skip, er := fun id => [], dr := fun id => if id = 3 then some (Go.AM.Way.any [] [] [.m, .m, .m, .l, .m, .m, .m, .r [], .x, .m, .m, .m, .l, .x, .m, .m, .m, .l, .x, .m, .m, .m, .l, .x, .m, .w, .m]) else none }
theorem ok44 : RowOk Try.prog 44 (.run i44) := ⟨Try.func44, by kernel_rfl, by kernel_rfl, by kernel_rfl⟩
noncomputable def i45 : Info := { fn := Try.f45, c := Try.f45.body.getD .skip, er := fun id => [], dr := fun id => if id = 1 then some Go.AM.Way.quiet else none }
theorem ok45 : RowOk Try.prog 45 (.pure i45) := ⟨Try.func45, by kernel_rfl, by kernel_rfl, by kernel_rfl⟩
noncomputable def i46 : Info := { fn := Try.f46, c := Try.f46.body.getD .skip, er := fun id => [], dr := fun id => if id = 11 then some Go.AM.Way.quiet else if id = 26 then some (Go.AM.Way.tail 7) else none }
theorem ok46 : RowOk Try.prog 46 (.run i46) := ⟨Try.func46, by kernel_rfl, by kernel_rfl, by kernel_rfl⟩
noncomputable def i47 : Info := { fn := Try.f47, c := Try.f47.body.getD .skip, er := fun id => [], dr := fun id => none }
theorem ok47 : RowOk Try.prog 47 (.pure i47) := ⟨Try.func47, by kernel_rfl, by kernel_rfl, by kernel_rfl⟩
noncomputable def i48 : Info := { fn := Try.f48, c := Try.f48.body.getD .skip, er := fun id => if id = 5 then [8, 9, 10, 14, 30, 31, 32, 33, 34, 35, 36] else [], dr := fun id => none }
theorem ok48 : RowOk Try.prog 48 (.run i48) := ⟨Try.func48, by kernel_rfl, by kernel_rfl, by kernel_rfl⟩
noncomputable def i49 : Info := { fn := Try.f49, c := Try.f49.body.getD .skip, er := fun id => if id = 5 then [9, 23, 24, 25, 26, 27, 28, 29, 30, 31, 32, 33, 34, 35] else [], dr := fun id => none }
theorem ok49 : RowOk Try.prog 49 (.pure i49) := ⟨Try.func49, by kernel_rfl, by kernel_rfl, by kernel_rfl⟩
noncomputable def i50 : Info := { fn := Try.f50, c := Try.f50.body.getD .skip, er := fun id => if id = 4 then [8, 9, 11, 12, 13, 14, 15, 18, 19, 20, 21, 22, 23, 24, 25, 26, 27, 28, 29, 30, 31, 32, 33, 34, 35, 36, 37, 38, 39, 40, 41, 42, 43, 44, 45, 46, 47, 48, 49, 50, 51, 52, 53, 54, 55, 56, 57, 58, 59] else [], dr := fun id => if id = 7 then some (Go.AM.Way.any [10] [] [.r [false], .m, .m, .m, .m, .r [false], .r [false], .m, .m, .m, .a 0, .w, .m]) else none }
theorem ok50 : RowOk Try.prog 50 (.run i50) := ⟨Try.func50, by kernel_rfl, by kernel_rfl, by kernel_rfl⟩
noncomputable def i51 : Info := { fn := Try.f51, c := Try.f51.body.getD .skip, er := fun id => [], dr := fun id => none }
theorem ok51 : RowOk Try.prog 51 (.pure i51) := ⟨Try.func51, by kernel_rfl, by kernel_rfl, by kernel_rfl⟩
noncomputable def i52 : Info := { fn := Try.f52, c := Try.f52.body.getD .skip, er := fun id => if id = 2 then [4, 6, 7, 8, 9, 10, 11, 12, 13, 14, 15, 16, 17, 18, 19, 20, 21, 22, 23, 24, 25, 26, 27, 28, 29] else [], dr := fun id => none }
theorem ok52 : RowOk Try.prog 52 (.pure i52) := ⟨Try.func52, by kernel_rfl, by kernel_rfl, by kernel_rfl⟩
noncomputable def i53 : Info := { fn := Try.f53, c := Try.f53.body.getD .skip, er := fun id => [], dr := fun id => if id = 1 then some Go.AM.Way.quiet else if id = 5 then some Go.AM.Way.quiet else if id = 11 then some (Go.AM.Way.any [] [4] [.r [], .m, .m, .m, .r [], .m, .m, .m, .m, .m, .m, .l, .m, .l, .m, .m, .x, .m]) else none }
theorem ok53 : RowOk Try.prog 53 (.pure i53) := ⟨Try.func53, by kernel_rfl, by kernel_rfl, by kernel_rfl⟩
noncomputable def i54 : Info := { fn := Try.f54, c := Try.f54.body.getD .skip, er := fun id => [], dr := fun id => if id = 1 then some Go.AM.Way.quiet else if id = 17 then some (Go.AM.Way.tail 10) else if id = 24 then some (Go.AM.Way.tail 10) else if id = 32 then some (Go.AM.Way.any [] [2] [.m, .m, .m, .m, .m, .l, .m, .m, .x, .m, .m, .w]) else none }
theorem ok54 : RowOk Try.prog 54 (.pure i54) := ⟨Try.func54, by kernel_rfl, by kernel_rfl, by kernel_rfl⟩
noncomputable def i55 : Info := { fn := Try.f55, c := Try.f55.body.getD .skip, er := fun id => [], dr := fun id => if id = 2 then some Go.AM.Way.quiet else if id = 4 then some Go.AM.Way.quiet else if id = 6 then some (Go.AM.Way.tail 15) else if id = 9 then some (Go.AM.Way.any [] [4] [.r [], .m, .m, .m, .m, .l, .m, .m, .x, .m]) else if id = 11 then some (Go.AM.Way.any [] [] [.r [], .m, .m, .r [], .m, .r [], .r [], .m, .m, .r [], .m, .m, .r [], .m, .r [], .m, .m, .m, .w, .m]) else if id = 13 then some (Go.AM.Way.any [] [4] [.r [], .m, .m, .m, .m, .l, .m, .m, .x, .m]) else if id = 15 then some (Go.AM.Way.any [] [] [.r [], .m, .m, .m, .r [], .m, .m, .m, .r [], .m, .r [], .m, .w, .m]) else none }
theorem ok55 : RowOk Try.prog 55 (.pure i55) := ⟨Try.func55, by kernel_rfl, by kernel_rfl, by kernel_rfl⟩
noncomputable def i56 : Info := { fn := Try.f56, c := Try.f56.body.getD .skip, er := fun id => [], dr := fun id => if id = 3 then some (Go.AM.Way.any [] [4] [.r [], .m, .m, .m, .r [], .m, .m, .m, .l, .m, .m, .x, .m]) else if id = 9 then some (Go.AM.Way.any [] [4] [.r [], .m, .m, .m, .r [], .m, .m, .m, .m, .m, .l, .m, .l, .m, .m, .x, .m]) else if id = 12 then some Go.AM.Way.quiet else if id = 14 then some (Go.AM.Way.any [] [4] [.r [], .m, .l, .m, .m, .x, .m]) else none }
theorem ok56 : RowOk Try.prog 56 (.pure i56) := ⟨Try.func56, by kernel_rfl, by kernel_rfl, by kernel_rfl⟩
noncomputable def i57 : Info := { fn := Try.f57, c := Try.f57.body.getD .skip, er := fun id => [], dr := fun id => none }
theorem ok57 : RowOk Try.prog 57 (.pure i57) := ⟨Try.func57, by kernel_rfl, by kernel_rfl, by kernel_rfl⟩
noncomputable def i58 : Info := { fn := Try.f58, c := Try.f58.body.getD .skip, er := fun id => [], dr := fun id => none }
theorem ok58 : RowOk Try.prog 58 (.pure i58) := ⟨Try.func58, by kernel_rfl, by kernel_rfl, by kernel_rfl⟩
noncomputable def i59 : Info := { fn := Try.f59, c := Try.f59.body.getD .skip, er := fun id => [], dr := fun id => none }
theorem ok59 : RowOk Try.prog 59 (.pure i59) := ⟨Try.func59, by kernel_rfl, by kernel_rfl, by kernel_rfl⟩
noncomputable def i60 : Info := { fn := Try.f60, c := Try.f60.body.getD .skip, er := fun id => [], dr := fun id => none }
theorem ok60 : RowOk Try.prog 60 (.pure i60) := ⟨Try.func60, by kernel_rfl, by kernel_rfl, by kernel_rfl⟩
noncomputable def i61 : Info := { fn := Try.f61, c := Try.f61.body.getD .skip, er := fun id => [], dr := fun id => none }
theorem ok61 : RowOk Try.prog 61 (.pure i61) := ⟨Try.func61, by kernel_rfl, by kernel_rfl, by kernel_rfl⟩
noncomputable def i62 : Info := { fn := Try.f62, c := Try.f62.body.getD .skip, er := fun id => [], dr := fun id => none }
theorem ok62 : RowOk Try.prog 62 (.pure i62) := ⟨Try.func62, by kernel_rfl, by kernel_rfl, by kernel_rfl⟩
noncomputable def i63 : Info := { fn := Try.f63, c := Try.f63.body.getD .skip, er := fun id => [], dr := fun id => if id = 6 then some Go.AM.Way.quiet else none }
theorem ok63 : RowOk Try.prog 63 (.pure i63) := ⟨Try.func63, by kernel_rfl, by kernel_rfl, by kernel_rfl⟩
noncomputable def i64 : Info := { fn := Try.f64, c := Try.f64.body.getD .skip, er := fun id => [], dr := fun id => none }
theorem ok64 : RowOk Try.prog 64 (.pure i64) := ⟨Try.func64, by kernel_rfl, by kernel_rfl, by kernel_rfl⟩
noncomputable def i65 : Info := { fn := Try.f65, c := Try.f65.body.getD .skip, er := fun id => [], dr := fun id => none }
theorem ok65 : RowOk Try.prog 65 (.run i65) := ⟨Try.func65, by kernel_rfl, by kernel_rfl, by kernel_rfl⟩
noncomputable def i66 : Info := { fn := Try.f66, c := Try.f66.body.getD .skip, er := fun id => [], dr := fun id => none }
theorem ok66 : RowOk Try.prog 66 (.run i66) := ⟨Try.func66, by kernel_rfl, by kernel_rfl, by kernel_rfl⟩
theorem ok67 : RowOk Try.prog 67 (.known clF) := cl67_ok trivial (enters_of Try.func67 (by kernel_rfl) (by kernel_rfl))
theorem ok68 : RowOk Try.prog 68 (.known clF) := cl68_ok trivial (enters_of Try.func68 (by kernel_rfl) (by kernel_rfl))
noncomputable def i69 : Info := { fn := Try.f69, c := Try.f69.body.getD .skip, er := fun id => [], dr := fun id => none }
theorem ok69 : RowOk Try.prog 69 (.pure i69) := ⟨Try.func69, by kernel_rfl, by kernel_rfl, by kernel_rfl⟩
noncomputable def i70 : Info := { fn := Try.f70, c := Try.f70.body.getD .skip, er := fun id => if id = 2 then [4, 5, 6, 7, 8, 9, 16, 17, 18, 19, 20, 21, 22, 23, 24, 25, 26, 27, 28, 29, 30, 31, 32, 33, 34, 35, 36, 37, 38, 39, 40, 41, 42, 43, 44] else [], dr := fun id => none }
theorem ok70 : RowOk Try.prog 70 (.pure i70) := ⟨Try.func70, by kernel_rfl, by kernel_rfl, by kernel_rfl⟩
noncomputable def i71 : Info := { fn := Try.f71, c := Try.f71.body.getD .skip, er := fun id => [], dr := fun id => if id = 1 then some Go.AM.Way.quiet else if id = 4 then some Go.AM.Way.quiet else if id = 10 then some Go.AM.Way.quiet else none }
theorem ok71 : RowOk Try.prog 71 (.run i71) := ⟨Try.func71, by kernel_rfl, by kernel_rfl, by kernel_rfl⟩
noncomputable def i72 : Info := { fn := Try.f72, c := Try.f72.body.getD .skip, er := fun id => [], dr := fun id => if id = 1 then some Go.AM.Way.quiet else none }
theorem ok72 : RowOk Try.prog 72 (.run i72) := ⟨Try.func72, by kernel_rfl, by kernel_rfl, by kernel_rfl⟩
noncomputable def i73 : Info := { fn := Try.f73, c := Try.f73.body.getD .skip, er := fun id => [], dr := fun id => if id = 1 then some Go.AM.Way.quiet else if id = 2 then some Go.AM.Way.quiet else if id = 10 then some (Go.AM.Way.tail 7) else if id = 15 then some (Go.AM.Way.tail 13) else none }
theorem ok73 : RowOk Try.prog 73 (.run i73) := ⟨Try.func73, by kernel_rfl, by kernel_rfl, by kernel_rfl⟩
noncomputable def i74 : Info := { fn := Try.f74, c := Try.f74.body.getD .skip, er := fun id => [], dr := fun id => if id = 1 then some Go.AM.Way.quiet else if id = 4 then some (Go.AM.Way.tail 5) else if id = 5 then some (Go.AM.Way.tail 8) else none }
theorem ok74 : RowOk Try.prog 74 (.run i74) := ⟨Try.func74, by kernel_rfl, by kernel_rfl, by kernel_rfl⟩
noncomputable def i75 : Info := { fn := Try.f75, c := Try.f75.body.getD .skip, er := fun id => [], dr := fun id => if id = 1 then some Go.AM.Way.quiet else if id = 3 then some (Go.AM.Way.any [9] [] [.m, .m, .m, .r [false], .r [false], .r [false], .m, .m, .m, .a 0, .w, .m]) else if id = 6 then some (Go.AM.Way.tail 5) else if id = 7 then some (Go.AM.Way.any [] [5] [.m, .m, .m, .r [], .m, .l, .m, .m, .x, .m, .m, .w]) else if id = 9 then some (Go.AM.Way.tail 7) else none }
theorem ok75 : RowOk Try.prog 75 (.run i75) := ⟨Try.func75, by kernel_rfl, by kernel_rfl, by kernel_rfl⟩
noncomputable def i76 : Info := { fn := Try.f76, c := Try.f76.body.getD .skip, er := fun id => [], dr := fun id => none }
theorem ok76 : RowOk Try.prog 76 (.run i76) := ⟨Try.func76, by kernel_rfl, by kernel_rfl, by kernel_rfl⟩
noncomputable def i77 : Info := { fn := Try.f77, c := Try.f77.body.getD .skip, er := fun id => [], dr := fun id => if id = 1 then some Go.AM.Way.quiet else if id = 4 then some Go.AM.Way.quiet else none }
theorem ok77 : RowOk Try.prog 77 (.run i77) := ⟨Try.func77, by kernel_rfl, by kernel_rfl, by kernel_rfl⟩
noncomputable def i78 : Info := { fn := Try.f78, c := Try.f78.body.getD .skip, er := fun id => [], dr := fun id => none }
theorem ok78 : RowOk Try.prog 78 (.pure i78) := ⟨Try.func78, by kernel_rfl, by kernel_rfl, by kernel_rfl⟩
noncomputable def i79 : Info := { fn := Try.f79, c := Try.f79.body.getD .skip, er := fun id => if id = 3 then [5, 6, 7, 8, 12, 13, 14, 15, 16, 17, 18, 19, 20, 21, 22, 23, 24, 25, 26, 27, 28, 29, 30, 31, 32, 33, 34, 35, 36] else if id = 7 then [7, 8, 18, 19, 20, 21, 22, 23, 24, 25, 26, 27, 28, 29, 30, 31] else [], dr := fun id => none }
theorem ok79 : RowOk Try.prog 79 (.run i79) := ⟨Try.func79, by kernel_rfl, by kernel_rfl, by kernel_rfl⟩
noncomputable def i80 : Info := { fn := Try.f80, c := Try.f80.body.getD .skip, er := fun id => if id = 6 then [6, 7, 8, 9, 10, 11, 12, 32, 33, 34, 35, 36, 37, 38, 39, 40, 41, 42, 43, 44, 45, 46, 47, 48, 49, 50, 51, 52, 53, 54, 55, 56, 57, 58, 59, 60, 61, 62, 63, 64, 65, 66, 67, 68, 69, 70, 71, 72, 73, 74, 75] else [], dr := fun id => if id = 15 then some (Go.AM.Way.any [12] [1000000, 0] [.m, .m, .m, .l, .m, .m, .m, .m, .r [false], .m, .r [false], .m, .a 0, .x, .w]) else none }
theorem ok80 : RowOk Try.prog 80 (.run i80) := ⟨Try.func80, by kernel_rfl, by kernel_rfl, by kernel_rfl⟩
noncomputable def i81 : Info := { fn := Try.f81, c := Try.f81.body.getD .skip, er := fun id => if id = 2 then [6, 8, 9, 10, 11, 12, 13, 14, 15, 16, 17, 18, 19, 20, 21, 22, 23, 24, 25, 26, 27, 28, 29, 30] else [], dr := fun id => if id = 4 then some Go.AM.Way.quiet else none }
theorem ok81 : RowOk Try.prog 81 (.pure i81) := ⟨Try.func81, by kernel_rfl, by kernel_rfl, by kernel_rfl⟩
noncomputable def i82 : Info := { fn := Try.f82, c := Try.f82.body.getD .skip, er := fun id => if id = 2 then [4, 6, 7, 8, 9, 10, 11, 12, 13, 14, 15, 16, 17, 18, 19] else [], dr := fun id => none }
theorem ok82 : RowOk Try.prog 82 (.pure i82) := ⟨Try.func82, by kernel_rfl, by kernel_rfl, by kernel_rfl⟩
noncomputable def i84 : Info := { fn := Try.f84, c := Try.f84.body.getD .skip, er := fun id => [], dr := fun id => if id = 1 then some Go.AM.Way.quiet else none }
theorem ok84 : RowOk Try.prog 84 (.pure i84) := ⟨Try.func84, by kernel_rfl, by kernel_rfl, by kernel_rfl⟩
noncomputable def i85 : Info := { fn := Try.f85, c := Try.f85.body.getD .skip, er := fun id => [], dr := fun id => if id = 1 then some Go.AM.Way.quiet else none }
theorem ok85 : RowOk Try.prog 85 (.pure i85) := ⟨Try.func85, by kernel_rfl, by kernel_rfl, by kernel_rfl⟩
noncomputable def i86 : Info := { fn := Try.f86, c := Try.f86.body.getD .skip, er := fun id => [], dr := fun id => none }
theorem ok86 : RowOk Try.prog 86 (.run i86) := ⟨Try.func86, by kernel_rfl, by kernel_rfl, by kernel_rfl⟩
noncomputable def i87 : Info := { fn := Try.f87, c := Try.f87.body.getD .skip, er := fun id => if id = 2 then [6, 8, 17, 18, 19, 20, 21, 22, 23] else [], dr := fun id => none }
theorem ok87 : RowOk Try.prog 87 (.pure i87) := ⟨Try.func87, by kernel_rfl, by kernel_rfl, by kernel_rfl⟩
theorem ok88 : RowOk Try.prog 88 (.known thrF) := thr88_ok trivial (enters_of Try.func88 (by kernel_rfl) (by kernel_rfl))
noncomputable def i89 : Info := { fn := Try.f89, c := Try.f89.body.getD .skip, er := fun id => [], dr := fun id => if id = 3 then some Go.AM.Way.quiet else none }
theorem ok89 : RowOk Try.prog 89 (.pure i89) := ⟨Try.func89, by kernel_rfl, by kernel_rfl, by kernel_rfl⟩
theorem ok91 : RowOk Try.prog 91 (.known sortF) := sort_ok Try.lays189 (enters_of Try.func91 (by kernel_rfl) (by kernel_rfl))
noncomputable def i92 : Info := { fn := Try.f92, c := Try.f92.body.getD .skip, er := fun id => if id = 4 then [4, 5, 14, 15, 16, 17, 18, 19, 20, 21, 22, 23, 24, 25] else [], dr := fun id => if id = 6 then some Go.AM.Way.quiet else none }
theorem ok92 : RowOk Try.prog 92 (.pure i92) := ⟨Try.func92, by kernel_rfl, by kernel_rfl, by kernel_rfl⟩
noncomputable def i93 : Info := { fn := Try.f93, c := Try.f93.body.getD .skip, er := fun id => if id = 4 then [4, 5, 14, 15, 16, 17, 18, 19, 20, 21, 22, 23, 24, 25] else [], dr := fun id => if id = 6 then some Go.AM.Way.quiet else none }
theorem ok93 : RowOk Try.prog 93 (.pure i93) := ⟨Try.func93, by kernel_rfl, by kernel_rfl, by kernel_rfl⟩
theorem ok94 : RowOk Try.prog 94 (.known (eqG intV)) := geq94_ok trivial (enters_of Try.func94 (by kernel_rfl) (by kernel_rfl))
theorem ok95 : RowOk Try.prog 95 (.known (eqG LfV.cv)) := geq95_ok trivial (enters_of Try.func95 (by kernel_rfl) (by kernel_rfl))
noncomputable def tab : Tab := [(3, .pure i3), (4, .pure i4), (5, .pure i5), (6, .pure i6), (7, .pure i7), (8, .pure i8), (9, .run i9), (10, .pure i10), (11, .pure i11), (12, .run i12), (13, .pure i13), (14, .run i14), (15, .run i15), (16, .run i16), (17, .pure i17), (18, .pure i18), (19, .run i19), (20, .run i20), (21, .pure i21), (22, .pure i22), (23, .pure i23), (24, .run i24), (25, .run i25), (26, .run i26), (27, .pure i27), (28, .pure i28), (29, .pure i29), (30, .pure i30), (31, .pure i31), (32, .pure i32), (33, .pure i33), (34, .pure i34), (35, .pure i35), (36, .pure i36), (37, .run i37), (38, .pure i38), (39, .pure i39), (40, .pure i40), (41, .pure i41), (42, .pure i42), (43, .run i43), (44, .run i44), (45, .pure i45), (46, .run i46), (47, .pure i47), (48, .run i48), (49, .pure i49), (50, .run i50), (51, .pure i51), (52, .pure i52), (53, .pure i53), (54, .pure i54), (55, .pure i55), (56, .pure i56), (57, .pure i57), (58, .pure i58), (59, .pure i59), (60, .pure i60), (61, .pure i61), (62, .pure i62), (63, .pure i63), (64, .pure i64), (65, .run i65), (66, .run i66), (67, .known clF), (68, .known clF), (69, .pure i69), (70, .pure i70), (71, .run i71), (72, .run i72), (73, .run i73), (74, .run i74), (75, .run i75), (76, .run i76), (77, .run i77), (78, .pure i78), (79, .run i79), (80, .run i80), (81, .pure i81), (82, .pure i82), (84, .pure i84), (85, .pure i85), (86, .run i86), (87, .pure i87), (88, .known thrF), (89, .pure i89), (91, .known sortF), (92, .pure i92), (93, .pure i93), (94, .known (eqG intV)), (95, .known (eqG LfV.cv))]
theorem tabOk : TabOk Try.prog tab := TabOk.cons ok3 (TabOk.cons ok4 (TabOk.cons ok5 (TabOk.cons ok6 (TabOk.cons ok7 (TabOk.cons ok8 (TabOk.cons ok9 (TabOk.cons ok10 (TabOk.cons ok11 (TabOk.cons ok12 (TabOk.cons ok13 (TabOk.cons ok14 (TabOk.cons ok15 (TabOk.cons ok16 (TabOk.cons ok17 (TabOk.cons ok18 (TabOk.cons ok19 (TabOk.cons ok20 (TabOk.cons ok21 (TabOk.cons ok22 (TabOk.cons ok23 (TabOk.cons ok24 (TabOk.cons ok25 (TabOk.cons ok26 (TabOk.cons ok27 (TabOk.cons ok28 (TabOk.cons ok29 (TabOk.cons ok30 (TabOk.cons ok31 (TabOk.cons ok32 (TabOk.cons ok33 (TabOk.cons ok34 (TabOk.cons ok35 (TabOk.cons ok36 (TabOk.cons ok37 (TabOk.cons ok38 (TabOk.cons ok39 (TabOk.cons ok40 (TabOk.cons ok41 (TabOk.cons ok42 (TabOk.cons ok43 (TabOk.cons ok44 (TabOk.cons ok45 (TabOk.cons ok46 (TabOk.cons ok47 (TabOk.cons ok48 (TabOk.cons ok49 (TabOk.cons ok50 (TabOk.cons ok51 (TabOk.cons ok52 (TabOk.cons ok53 (TabOk.cons ok54 (TabOk.cons ok55 (TabOk.cons ok56 (TabOk.cons ok57 (TabOk.cons ok58 (TabOk.cons ok59 (TabOk.cons ok60 (TabOk.cons ok61 (TabOk.cons ok62 (TabOk.cons ok63 (TabOk.cons ok64 (TabOk.cons ok65 (TabOk.cons ok66 (TabOk.cons ok67 (TabOk.cons ok68 (TabOk.cons ok69 (TabOk.cons ok70 (TabOk.cons ok71 (TabOk.cons ok72 (TabOk.cons ok73 (TabOk.cons ok74 (TabOk.cons ok75 (TabOk.cons ok76 (TabOk.cons ok77 (TabOk.cons ok78 (TabOk.cons ok79 (TabOk.cons ok80 (TabOk.cons ok81 (TabOk.cons ok82 (TabOk.cons ok84 (TabOk.cons ok85 (TabOk.cons ok86 (TabOk.cons ok87 (TabOk.cons ok88 (TabOk.cons ok89 (TabOk.cons ok91 (TabOk.cons ok92 (TabOk.cons ok93 (TabOk.cons ok94 (TabOk.cons ok95 TabOk.nil))))))))))))))))))))))))))))))))))))))))))))))))))))))))))))))))))))))))))))))))))))))))))
theorem at3 {T : Tab} (hT : T = tab) : T.at 3 = some (.pure i3) := by subst hT; kernel_rfl
theorem at9 {T : Tab} (hT : T = tab) : T.at 9 = some (.run i9) := by subst hT; kernel_rfl
theorem at10 {T : Tab} (hT : T = tab) : T.at 10 = some (.pure i10) := by subst hT; kernel_rfl
theorem at11 {T : Tab} (hT : T = tab) : T.at 11 = some (.pure i11) := by subst hT; kernel_rfl
theorem at12 {T : Tab} (hT : T = tab) : T.at 12 = some (.run i12) := by subst hT; kernel_rfl
theorem at13 {T : Tab} (hT : T = tab) : T.at 13 = some (.pure i13) := by subst hT; kernel_rfl
theorem at14 {T : Tab} (hT : T = tab) : T.at 14 = some (.run i14) := by subst hT; kernel_rfl
theorem at15 {T : Tab} (hT : T = tab) : T.at 15 = some (.run i15) := by subst hT; kernel_rfl
theorem at18 {T : Tab} (hT : T = tab) : T.at 18 = some (.pure i18) := by subst hT; kernel_rfl
theorem at20 {T : Tab} (hT : T = tab) : T.at 20 = some (.run i20) := by subst hT; kernel_rfl
theorem at31 {T : Tab} (hT : T = tab) : T.at 31 = some (.pure i31) := by subst hT; kernel_rfl
theorem at32 {T : Tab} (hT : T = tab) : T.at 32 = some (.pure i32) := by subst hT; kernel_rfl
theorem at33 {T : Tab} (hT : T = tab) : T.at 33 = some (.pure i33) := by subst hT; kernel_rfl
theorem at34 {T : Tab} (hT : T = tab) : T.at 34 = some (.pure i34) := by subst hT; kernel_rfl
theorem at35 {T : Tab} (hT : T = tab) : T.at 35 = some (.pure i35) := by subst hT; kernel_rfl
theorem at36 {T : Tab} (hT : T = tab) : T.at 36 = some (.pure i36) := by subst hT; kernel_rfl
theorem at37 {T : Tab} (hT : T = tab) : T.at 37 = some (.run i37) := by subst hT; kernel_rfl
theorem at38 {T : Tab} (hT : T = tab) : T.at 38 = some (.pure i38) := by subst hT; kernel_rfl
theorem at39 {T : Tab} (hT : T = tab) : T.at 39 = some (.pure i39) := by subst hT; kernel_rfl
theorem at40 {T : Tab} (hT : T = tab) : T.at 40 = some (.pure i40) := by subst hT; kernel_rfl
theorem at41 {T : Tab} (hT : T = tab) : T.at 41 = some (.pure i41) := by subst hT; kernel_rfl
theorem at42 {T : Tab} (hT : T = tab) : T.at 42 = some (.pure i42) := by subst hT; kernel_rfl
theorem at45 {T : Tab} (hT : T = tab) : T.at 45 = some (.pure i45) := by subst hT; kernel_rfl
theorem at46 {T : Tab} (hT : T = tab) : T.at 46 = some (.run i46) := by subst hT; kernel_rfl
theorem at51 {T : Tab} (hT : T = tab) : T.at 51 = some (.pure i51) := by subst hT; kernel_rfl
theorem at52 {T : Tab} (hT : T = tab) : T.at 52 = some (.pure i52) := by subst hT; kernel_rfl
theorem at53 {T : Tab} (hT : T = tab) : T.at 53 = some (.pure i53) := by subst hT; kernel_rfl
theorem at54 {T : Tab} (hT : T = tab) : T.at 54 = some (.pure i54) := by subst hT; kernel_rfl
theorem at55 {T : Tab} (hT : T = tab) : T.at 55 = some (.pure i55) := by subst hT; kernel_rfl
theorem at56 {T : Tab} (hT : T = tab) : T.at 56 = some (.pure i56) := by subst hT; kernel_rfl
theorem at57 {T : Tab} (hT : T = tab) : T.at 57 = some (.pure i57) := by subst hT; kernel_rfl
theorem at58 {T : Tab} (hT : T = tab) : T.at 58 = some (.pure i58) := by subst hT; kernel_rfl
theorem at59 {T : Tab} (hT : T = tab) : T.at 59 = some (.pure i59) := by subst hT; kernel_rfl
theorem at60 {T : Tab} (hT : T = tab) : T.at 60 = some (.pure i60) := by subst hT; kernel_rfl
theorem at61 {T : Tab} (hT : T = tab) : T.at 61 = some (.pure i61) := by subst hT; kernel_rfl
theorem at62 {T : Tab} (hT : T = tab) : T.at 62 = some (.pure i62) := by subst hT; kernel_rfl
theorem at63 {T : Tab} (hT : T = tab) : T.at 63 = some (.pure i63) := by subst hT; kernel_rfl
theorem at64 {T : Tab} (hT : T = tab) : T.at 64 = some (.pure i64) := by subst hT; kernel_rfl
theorem at69 {T : Tab} (hT : T = tab) : T.at 69 = some (.pure i69) := by subst hT; kernel_rfl
theorem at70 {T : Tab} (hT : T = tab) : T.at 70 = some (.pure i70) := by subst hT; kernel_rfl
theorem at71 {T : Tab} (hT : T = tab) : T.at 71 = some (.run i71) := by subst hT; kernel_rfl
theorem at72 {T : Tab} (hT : T = tab) : T.at 72 = some (.run i72) := by subst hT; kernel_rfl
theorem at73 {T : Tab} (hT : T = tab) : T.at 73 = some (.run i73) := by subst hT; kernel_rfl
theorem at74 {T : Tab} (hT : T = tab) : T.at 74 = some (.run i74) := by subst hT; kernel_rfl
theorem at75 {T : Tab} (hT : T = tab) : T.at 75 = some (.run i75) := by subst hT; kernel_rfl
theorem at76 {T : Tab} (hT : T = tab) : T.at 76 = some (.run i76) := by subst hT; kernel_rfl
theorem at77 {T : Tab} (hT : T = tab) : T.at 77 = some (.run i77) := by subst hT; kernel_rfl
theorem at78 {T : Tab} (hT : T = tab) : T.at 78 = some (.pure i78) := by subst hT; kernel_rfl
theorem at82 {T : Tab} (hT : T = tab) : T.at 82 = some (.pure i82) := by subst hT; kernel_rfl
theorem at84 {T : Tab} (hT : T = tab) : T.at 84 = some (.pure i84) := by subst hT; kernel_rfl
theorem at85 {T : Tab} (hT : T = tab) : T.at 85 = some (.pure i85) := by subst hT; kernel_rfl
theorem at86 {T : Tab} (hT : T = tab) : T.at 86 = some (.run i86) := by subst hT; kernel_rfl
theorem at88 {T : Tab} (hT : T = tab) : T.at 88 = some (.known thrF) := by subst hT; kernel_rfl
/-- This program, this table, and fuel enough. -/
structure Sd (P : Program) (T : Tab) (K : Nat) : Prop where
  p : P = Try.prog
  t : T = tab
  k : 18446744073709551616 ≤ K
end Go.AM
