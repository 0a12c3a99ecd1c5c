/- The table of the seat's functions for the abstract machine. Printed by tab.py. Conditions: none. -/
import Derived.Test.YtdokijbheholdabAmTypes
import Derived.Test.YtdokijbheholdabAmAll
import Derived.KernelRfl
namespace Go.AM
open Go.Proofs
set_option maxRecDepth 100000
set_option linter.unusedVariables false
noncomputable def i3 : Info := { fn := Try.f3, c := Try.f3.body.getD .skip, er := fun id => [], dr := fun id => if id = 3 then some Go.AM.Way.quiet else none }
theorem ok3 : RowOk Try.prog 3 (.pure i3) := ⟨Try.func3, by kernel_rfl, by kernel_rfl, by kernel_rfl⟩
noncomputable def i4 : Info := { fn := Try.f4, c := Try.f4.body.getD .skip, er := fun id => [], dr := fun id => if id = 5 then some Go.AM.Way.quiet else none }
theorem ok4 : RowOk Try.prog 4 (.pure i4) := ⟨Try.func4, by kernel_rfl, by kernel_rfl, by kernel_rfl⟩
noncomputable def i5 : Info := { fn := Try.f5, c := Try.f5.body.getD .skip, er := fun id => [], dr := fun id => none }
theorem ok5 : RowOk Try.prog 5 (.pure i5) := ⟨Try.func5, by kernel_rfl, by kernel_rfl, by kernel_rfl⟩
noncomputable def i6 : Info := { fn := Try.f6, c := Try.f6.body.getD .skip, er := fun id => [], dr := fun id => if id = 5 then some Go.AM.Way.quiet else none }
theorem ok6 : RowOk Try.prog 6 (.pure i6) := ⟨Try.func6, by kernel_rfl, by kernel_rfl, by kernel_rfl⟩
noncomputable def i7 : Info := { fn := Try.f7, c := Try.f7.body.getD .skip, er := fun id => [], dr := fun id => none }
theorem ok7 : RowOk Try.prog 7 (.pure i7) := ⟨Try.func7, by kernel_rfl, by kernel_rfl, by kernel_rfl⟩
noncomputable def i8 : Info := { fn := Try.f8, c := Try.f8.body.getD .skip, er := fun id => [], dr := fun id => if id = 3 then some Go.AM.Way.quiet else none }
theorem ok8 : RowOk Try.prog 8 (.pure i8) := ⟨Try.func8, by kernel_rfl, by kernel_rfl, by kernel_rfl⟩
noncomputable def i9 : Info := { fn := Try.f9, c := Try.f9.body.getD .skip, er := fun id => [], dr := fun id => if id = 2 then some Go.AM.Way.quiet else if id = 5 then some Go.AM.Way.quiet else none }
theorem ok9 : RowOk Try.prog 9 (.pure i9) := ⟨Try.func9, by kernel_rfl, by kernel_rfl, by kernel_rfl⟩
noncomputable def i10 : Info := { fn := Try.f10, c := Try.f10.body.getD .skip, er := fun id => if id = 3 then [6, 8, 9, 10, 16, 17, 18, 19, 20, 21, 22, 23, 24, 25, 26, 27, 28, 29, 30, 31, 32, 33, 34, 35, 36, 37, 38, 39, 40, 41, 42, 43, 44, 45, 46, 47, 48, 49, 50, 51, 52] else [], dr := fun id => none }
theorem ok10 : RowOk Try.prog 10 (.pure i10) := ⟨Try.func10, by kernel_rfl, by kernel_rfl, by kernel_rfl⟩
noncomputable def i11 : Info := { fn := Try.f11, c := Try.f11.body.getD .skip, er := fun id => [], dr := fun id => if id = 5 then some Go.AM.Way.quiet else none }
theorem ok11 : RowOk Try.prog 11 (.pure i11) := ⟨Try.func11, by kernel_rfl, by kernel_rfl, by kernel_rfl⟩
noncomputable def i12 : Info := { fn := Try.f12, c := Try.f12.body.getD .skip, er := fun id => [], dr := fun id => none }
theorem ok12 : RowOk Try.prog 12 (.pure i12) := ⟨Try.func12, by kernel_rfl, by kernel_rfl, by kernel_rfl⟩
noncomputable def i13 : Info := { fn := Try.f13, c := Try.f13.body.getD .skip, er := fun id => if id = 8 then [6, 12, 13, 75, 76, 77, 78, 79, 80, 81, 82, 83, 84, 85, 86, 87, 88, 89, 90, 91, 92, 93, 94, 95, 96, 97] else if id = 14 then [6, 14, 15, 102, 103, 104, 105, 106, 107, 108, 109, 110, 111, 112, 113] else [], dr := fun id => if id = 3 then some (Go.AM.Way.any [] [] [.m, .x, .m, .x, .m, .l, .m, .l, .m, .l, .w, .m, .m, .m, .m, .m, .m, .m, .m, .m]) else if id = 10 then some Go.AM.Way.quiet else if id = 16 then some Go.AM.Way.quiet else none }
theorem ok13 : RowOk Try.prog 13 (.pure i13) := ⟨Try.func13, by kernel_rfl, by kernel_rfl, by kernel_rfl⟩
noncomputable def i14 : Info := { fn := Try.f14, c := Try.f14.body.getD .skip, er := fun id => if id = 9 then [6, 14, 78, 79, 80, 81, 82, 83, 84, 85, 86, 87, 88, 89, 90, 91, 92, 93, 94, 95, 96, 97, 98, 99, 100, 101, 102, 103, 104, 105, 106, 107, 108, 109, 110, 111, 112, 113, 114, 115, 116, 117, 118, 119] else if id = 16 then [6, 15, 16, 17, 18, 19, 123, 124, 125, 126, 127, 128, 129, 130, 131, 132, 133, 134, 135, 136, 137, 138, 139, 140, 141, 142, 143, 144, 145, 146, 147, 148, 149, 150, 151, 152, 153, 154, 155, 156, 157, 158, 159, 160, 161, 162, 163, 164, 165, 166, 167, 168, 169, 170, 171, 172, 173, 174, 175, 176, 177, 178, 179, 180, 181, 182, 183, 184, 185, 186, 187, 188, 189, 190, 191, 192, 193, 194, 195, 196, 197, 198, 199, 200, 201, 202, 203, 204, 205, 206, 207, 208, 209, 210, 211, 212, 213, 214, 215, 216, 217, 218, 219, 220, 221, 222, 223, 224] else if id = 20 then [123, 124, 125, 126, 127, 128, 129, 130, 131, 132, 133, 134, 135, 136, 137, 138, 139, 140, 141, 142, 143, 144, 145, 146, 147, 148, 149, 150, 151, 152, 153, 154, 155, 156, 157, 158] else if id = 23 then [159, 160, 161, 162, 163, 164, 165, 166, 167, 168, 169, 170, 171, 172, 173, 174, 175, 176, 177, 178, 179, 180, 181, 182, 183, 184, 185, 186, 187, 188, 189] else if id = 27 then [6, 20, 228, 229, 230, 231, 232, 233, 234, 235, 236, 237, 238, 239, 240, 241, 242, 243, 244, 245] else [], dr := fun id => if id = 3 then some (Go.AM.Way.any [] [] [.m, .x, .m, .x, .m, .l, .m, .l, .m, .l, .w, .m, .m, .m, .m, .m, .m, .m, .m, .m]) else if id = 11 then some Go.AM.Way.quiet else if id = 23 then some Go.AM.Way.quiet else if id = 29 then some (Go.AM.Way.any [] [] [.m, .m, .m, .m, .m, .m, .m, .l, .m, .x, .m, .m, .r [], .m, .m]) else none }
theorem ok14 : RowOk Try.prog 14 (.pure i14) := ⟨Try.func14, by kernel_rfl, by kernel_rfl, by kernel_rfl⟩
noncomputable def i15 : Info := { fn := Try.f15, c := Try.f15.body.getD .skip, er := fun id => [], dr := fun id => none }
theorem ok15 : RowOk Try.prog 15 (.pure i15) := ⟨Try.func15, by kernel_rfl, by kernel_rfl, by kernel_rfl⟩
noncomputable def i16 : Info := { fn := Try.f16, c := Try.f16.body.getD .skip, er := fun id => [], dr := fun id => none }
theorem ok16 : RowOk Try.prog 16 (.pure i16) := ⟨Try.func16, by kernel_rfl, by kernel_rfl, by kernel_rfl⟩
noncomputable def i17 : Info := { fn := Try.f17, c := Try.f17.body.getD .skip, er := fun id => [], dr := fun id => none }
theorem ok17 : RowOk Try.prog 17 (.pure i17) := ⟨Try.func17, by kernel_rfl, by kernel_rfl, by kernel_rfl⟩
noncomputable def i18 : Info := { fn := Try.f18, c := Try.f18.body.getD .skip, er := fun id => [], dr := fun id => if id = 2 then some Go.AM.Way.quiet else none }
theorem ok18 : RowOk Try.prog 18 (.pure i18) := ⟨Try.func18, by kernel_rfl, by kernel_rfl, by kernel_rfl⟩
noncomputable def i19 : Info := { fn := Try.f19, c := Try.f19.body.getD .skip, er := fun id => [], dr := fun id => if id = 1 then some Go.AM.Way.quiet else none }
theorem ok19 : RowOk Try.prog 19 (.pure i19) := ⟨Try.func19, by kernel_rfl, by kernel_rfl, by kernel_rfl⟩
noncomputable def i20 : Info := { fn := Try.f20, c := Try.f20.body.getD .skip, er := fun id => [], dr := fun id => none }
theorem ok20 : RowOk Try.prog 20 (.pure i20) := ⟨Try.func20, by kernel_rfl, by kernel_rfl, by kernel_rfl⟩
noncomputable def i21 : Info := { fn := Try.f21, c := Try.f21.body.getD .skip, er := fun id => [], dr := fun id => none }
theorem ok21 : RowOk Try.prog 21 (.pure i21) := ⟨Try.func21, by kernel_rfl, by kernel_rfl, by kernel_rfl⟩
noncomputable def i22 : Info := { fn := Try.f22, c := Try.f22.body.getD .skip, er := fun id => [], dr := fun id => none }
theorem ok22 : RowOk Try.prog 22 (.pure i22) := ⟨Try.func22, by kernel_rfl, by kernel_rfl, by kernel_rfl⟩
noncomputable def i23 : Info := { fn := Try.f23, c := Try.f23.body.getD .skip, er := fun id => [], dr := fun id => none }
theorem ok23 : RowOk Try.prog 23 (.pure i23) := ⟨Try.func23, by kernel_rfl, by kernel_rfl, by kernel_rfl⟩
noncomputable def i24 : Info := { fn := Try.f24, c := Try.f24.body.getD .skip, er := fun id => [], dr := fun id => if id = 6 then some Go.AM.Way.quiet else none }
theorem ok24 : RowOk Try.prog 24 (.pure i24) := ⟨Try.func24, by kernel_rfl, by kernel_rfl, by kernel_rfl⟩
noncomputable def i25 : Info := { fn := Try.f25, c := Try.f25.body.getD .skip, er := fun id => [], dr := fun id => none }
theorem ok25 : RowOk Try.prog 25 (.pure i25) := ⟨Try.func25, by kernel_rfl, by kernel_rfl, by kernel_rfl⟩
noncomputable def i26 : Info := { fn := Try.f26, c := Try.f26.body.getD .skip, er := fun id => [], dr := fun id => none }
theorem ok26 : RowOk Try.prog 26 (.pure i26) := ⟨Try.func26, by kernel_rfl, by kernel_rfl, by kernel_rfl⟩
noncomputable def i27 : Info := { fn := Try.f27, c := Try.f27.body.getD .skip, er := fun id => [], dr := fun id => none }
theorem ok27 : RowOk Try.prog 27 (.pure i27) := ⟨Try.func27, by kernel_rfl, by kernel_rfl, by kernel_rfl⟩
noncomputable def i28 : Info := { fn := Try.f28, c := Try.f28.body.getD .skip, er := fun id => [], dr := fun id => none }
theorem ok28 : RowOk Try.prog 28 (.pure i28) := ⟨Try.func28, by kernel_rfl, by kernel_rfl, by kernel_rfl⟩
noncomputable def i29 : Info := { fn := Try.f29, c := Try.f29.body.getD .skip, er := fun id => [], dr := fun id => none }
theorem ok29 : RowOk Try.prog 29 (.pure i29) := ⟨Try.func29, by kernel_rfl, by kernel_rfl, by kernel_rfl⟩
noncomputable def i30 : Info := { fn := Try.f30, c := Try.f30.body.getD .skip, er := fun id => [], dr := fun id => none }
theorem ok30 : RowOk Try.prog 30 (.pure i30) := ⟨Try.func30, by kernel_rfl, by kernel_rfl, by kernel_rfl⟩
noncomputable def i31 : Info := { fn := Try.f31, c := Try.f31.body.getD .skip, er := fun id => [], dr := fun id => none }
theorem ok31 : RowOk Try.prog 31 (.pure i31) := ⟨Try.func31, by kernel_rfl, by kernel_rfl, by kernel_rfl⟩
noncomputable def i32 : Info := { fn := Try.f32, c := Try.f32.body.getD .skip, er := fun id => [], dr := fun id => none }
theorem ok32 : RowOk Try.prog 32 (.pure i32) := ⟨Try.func32, by kernel_rfl, by kernel_rfl, by kernel_rfl⟩
noncomputable def i33 : Info := { fn := Try.f33, c := Try.f33.body.getD .skip, er := fun id => [], dr := fun id => none }
theorem ok33 : RowOk Try.prog 33 (.pure i33) := ⟨Try.func33, by kernel_rfl, by kernel_rfl, by kernel_rfl⟩
noncomputable def i34 : Info := { fn := Try.f34, c := Try.f34.body.getD .skip, er := fun id => [], dr := fun id => none }
theorem ok34 : RowOk Try.prog 34 (.pure i34) := ⟨Try.func34, by kernel_rfl, by kernel_rfl, by kernel_rfl⟩
noncomputable def i35 : Info := { fn := Try.f35, c := Try.f35.body.getD .skip, er := fun id => [], dr := fun id => none }
theorem ok35 : RowOk Try.prog 35 (.pure i35) := ⟨Try.func35, by kernel_rfl, by kernel_rfl, by kernel_rfl⟩
noncomputable def i36 : Info := { fn := Try.f36, c := Try.f36.body.getD .skip, er := fun id => [], dr := fun id => none }
theorem ok36 : RowOk Try.prog 36 (.pure i36) := ⟨Try.func36, by kernel_rfl, by kernel_rfl, by kernel_rfl⟩
noncomputable def i37 : Info := { fn := Try.f37, c := Try.f37.body.getD .skip, er := fun id => [], dr := fun id => if id = 4 then some (Go.AM.Way.tail 2) else if id = 6 then some (Go.AM.Way.tail 2) else if id = 8 then some (Go.AM.Way.tail 2) else if id = 9 then some (Go.AM.Way.tail 2) else none }
theorem ok37 : RowOk Try.prog 37 (.pure i37) := ⟨Try.func37, by kernel_rfl, by kernel_rfl, by kernel_rfl⟩
noncomputable def i38 : Info := { fn := Try.f38, c := Try.f38.body.getD .skip, er := fun id => [], dr := fun id => none }
theorem ok38 : RowOk Try.prog 38 (.pure i38) := ⟨Try.func38, by kernel_rfl, by kernel_rfl, by kernel_rfl⟩
noncomputable def i39 : Info := { fn := Try.f39, c := Try.f39.body.getD .skip, er := fun id => [], dr := fun id => none }
theorem ok39 : RowOk Try.prog 39 (.pure i39) := ⟨Try.func39, by kernel_rfl, by kernel_rfl, by kernel_rfl⟩
noncomputable def i40 : Info := { fn := Try.f40, c := Try.f40.body.getD .skip, er := fun id => [], dr := fun id => none }
theorem ok40 : RowOk Try.prog 40 (.pure i40) := ⟨Try.func40, by kernel_rfl, by kernel_rfl, by kernel_rfl⟩
noncomputable def i41 : Info := { fn := Try.f41, c := Try.f41.body.getD .skip, er := fun id => [], dr := fun id => none }
theorem ok41 : RowOk Try.prog 41 (.pure i41) := ⟨Try.func41, by kernel_rfl, by kernel_rfl, by kernel_rfl⟩
noncomputable def i42 : Info := { fn := Try.f42, c := Try.f42.body.getD .skip, er := fun id => [], dr := fun id => none }
theorem ok42 : RowOk Try.prog 42 (.pure i42) := ⟨Try.func42, by kernel_rfl, by kernel_rfl, by kernel_rfl⟩
noncomputable def i43 : Info := { fn := Try.f43, c := Try.f43.body.getD .skip, er := fun id => [], dr := fun id => none }
theorem ok43 : RowOk Try.prog 43 (.pure i43) := ⟨Try.func43, by kernel_rfl, by kernel_rfl, by kernel_rfl⟩
noncomputable def i44 : Info := { fn := Try.f44, c := Try.f44.body.getD .skip, er := fun id => if id = 3 then [7, 15, 16, 17, 18, 19, 20, 21, 22, 23, 24] else [], dr := fun id => none }
theorem ok44 : RowOk Try.prog 44 (.pure i44) := ⟨Try.func44, by kernel_rfl, by kernel_rfl, by kernel_rfl⟩
noncomputable def i45 : Info := { fn := Try.f45, c := Try.f45.body.getD .skip, er := fun id => if id = 15 then [20, 21, 22, 23, 88, 89, 90, 91, 92, 93, 94, 95, 96, 97, 98, 99, 100, 101, 102, 103, 104, 105, 106, 107, 108, 109, 110, 111, 112, 113, 114, 115, 116, 117, 118, 119, 120, 121, 122, 123, 124, 125] else if id = 25 then [24, 25, 143, 144, 145, 146, 147, 148, 149, 150, 151, 152, 153, 154, 155, 156, 157, 158] else [], dr := fun id => if id = 31 then some Go.AM.Way.quiet else none }
theorem ok45 : RowOk Try.prog 45 (.run i45) := ⟨Try.func45, by kernel_rfl, by kernel_rfl, by kernel_rfl⟩
noncomputable def i46 : Info := { fn := Try.f46, c := Try.f46.body.getD .skip, er := fun id => if id = 3 then [5, 9, 10, 11, 12, 13, 14, 15, 16, 17, 18, 19, 20, 21, 22] else [], dr := fun id => none }
theorem ok46 : RowOk Try.prog 46 (.run i46) := ⟨Try.func46, by kernel_rfl, by kernel_rfl, by kernel_rfl⟩
noncomputable def i47 : Info := { fn := Try.f47, c := Try.f47.body.getD .skip, er := fun id => if id = 3 then [5, 9, 10, 11, 12, 13, 14, 15, 16, 17, 18, 19, 20, 21, 22] else [], dr := fun id => none }
theorem ok47 : RowOk Try.prog 47 (.run i47) := ⟨Try.func47, by kernel_rfl, by kernel_rfl, by kernel_rfl⟩
noncomputable def i48 : Info := { fn := Try.f48, c := Try.f48.body.getD .skip, er := fun id => if id = 9 then [16, 17, 80, 81, 82, 83, 84, 85, 86, 87, 88, 89, 90, 91, 92, 93, 94, 95, 96, 97, 98, 99, 100, 101, 102, 103, 104, 105, 106, 107, 108, 109, 110, 111, 112, 113, 114, 115, 116, 117, 118, 119, 120, 121, 122, 123, 124] else if id = 17 then [19, 20, 128, 129, 130, 131, 132, 133, 134, 135, 136, 137, 138, 139, 140, 141, 142, 143, 144, 145, 146, 147, 148, 149, 150, 151, 152, 153, 154, 155, 156, 157, 158, 159, 160, 161, 162, 163, 164, 165] else [], dr := fun id => if id = 11 then some Go.AM.Way.quiet else none }
theorem ok48 : RowOk Try.prog 48 (.run i48) := ⟨Try.func48, by kernel_rfl, by kernel_rfl, by kernel_rfl⟩
noncomputable def i49 : Info := { fn := Try.f49, c := Try.f49.body.getD .skip, er := fun id => [], dr := fun id => none }
theorem ok49 : RowOk Try.prog 49 (.pure i49) := ⟨Try.func49, by kernel_rfl, by kernel_rfl, by kernel_rfl⟩
noncomputable def i50 : Info := { fn := Try.f50, c := Try.f50.body.getD .skip, er := fun id => [], dr := fun id => if id = 6 then some (Go.AM.Way.any [] [5] [.m, .m, .r [], .m, .m, .m, .l, .m, .m, .x, .m, .w]) else if id = 8 then some (Go.AM.Way.any [] [5] [.m, .m, .r [], .m, .m, .m, .l, .m, .m, .x, .m, .w]) else if id = 10 then some (Go.AM.Way.any [] [5] [.m, .m, .r [], .m, .m, .m, .l, .m, .m, .x, .m, .w]) else if id = 12 then some (Go.AM.Way.any [] [5] [.m, .m, .r [], .m, .m, .m, .l, .m, .m, .m, .l, .m, .m, .x, .m, .x, .m, .w]) else none }
theorem ok50 : RowOk Try.prog 50 (.pure i50) := ⟨Try.func50, by kernel_rfl, by kernel_rfl, by kernel_rfl⟩
noncomputable def i51 : Info := { fn := Try.f51, c := Try.f51.body.getD .skip, er := fun id => [], dr := fun id => none }
theorem ok51 : RowOk Try.prog 51 (.pure i51) := ⟨Try.func51, by kernel_rfl, by kernel_rfl, by kernel_rfl⟩
noncomputable def i52 : Info := { fn := Try.f52, c := Try.f52.body.getD .skip, er := fun id => [], dr := fun id => none }
theorem ok52 : RowOk Try.prog 52 (.pure i52) := ⟨Try.func52, by kernel_rfl, by kernel_rfl, by kernel_rfl⟩
noncomputable def i53 : Info := { fn := Try.f53, c := Try.f53.body.getD .skip, er := fun id => [], dr := fun id => none }
theorem ok53 : RowOk Try.prog 53 (.pure i53) := ⟨Try.func53, by kernel_rfl, by kernel_rfl, by kernel_rfl⟩
noncomputable def i54 : Info := { fn := Try.f54, c := Try.f54.body.getD .skip, er := fun id => [], dr := fun id => if id = 1 then some Go.AM.Way.quiet else none }
theorem ok54 : RowOk Try.prog 54 (.pure i54) := ⟨Try.func54, by kernel_rfl, by kernel_rfl, by kernel_rfl⟩
noncomputable def i55 : Info := { fn := Try.f55, c := Try.f55.body.getD .skip, er := fun id => [], dr := fun id => if id = 2 then some (Go.AM.Way.any [] [2] [.r [], .m, .m, .m, .m, .l, .m, .m, .x, .m]) else none }
theorem ok55 : RowOk Try.prog 55 (.pure i55) := ⟨Try.func55, by kernel_rfl, by kernel_rfl, by kernel_rfl⟩
noncomputable def i56 : Info := { fn := Try.f56, c := Try.f56.body.getD .skip, er := fun id => [], dr := fun id => none }
theorem ok56 : RowOk Try.prog 56 (.pure i56) := ⟨Try.func56, by kernel_rfl, by kernel_rfl, by kernel_rfl⟩
noncomputable def i57 : Info := { fn := Try.f57, c := Try.f57.body.getD .skip, er := fun id => [], dr := fun id => none }
theorem ok57 : RowOk Try.prog 57 (.pure i57) := ⟨Try.func57, by kernel_rfl, by kernel_rfl, by kernel_rfl⟩
noncomputable def i58 : Info := { fn := Try.f58, c := Try.f58.body.getD .skip, er := fun id => [], dr := fun id => if id = 1 then some Go.AM.Way.quiet else none }
theorem ok58 : RowOk Try.prog 58 (.run i58) := ⟨Try.func58, by kernel_rfl, by kernel_rfl, by kernel_rfl⟩
noncomputable def i59 : Info := { fn := Try.f59, c := Try.f59.body.getD .skip, er := fun id => [], dr := fun id => none }
theorem ok59 : RowOk Try.prog 59 (.run i59) := ⟨Try.func59, by kernel_rfl, by kernel_rfl, by kernel_rfl⟩
noncomputable def i60 : Info := { fn := Try.f60, c := Try.f60.body.getD .skip, er := fun id => [], dr := fun id => if id = 4 then some (Go.AM.Way.tail 2) else if id = 6 then some (Go.AM.Way.tail 2) else if id = 8 then some (Go.AM.Way.tail 2) else if id = 9 then some (Go.AM.Way.tail 2) else none }
theorem ok60 : RowOk Try.prog 60 (.pure i60) := ⟨Try.func60, by kernel_rfl, by kernel_rfl, by kernel_rfl⟩
noncomputable def i61 : Info := { fn := Try.f61, c := Try.f61.body.getD .skip, er := fun id => [], dr := fun id => if id = 2 then some Go.AM.Way.quiet else none }
theorem ok61 : RowOk Try.prog 61 (.pure i61) := ⟨Try.func61, by kernel_rfl, by kernel_rfl, by kernel_rfl⟩
noncomputable def i62 : Info := { fn := Try.f62, c := Try.f62.body.getD .skip, er := fun id => [], dr := fun id => if id = 3 then some (Go.AM.Way.any [3, 10] [] [.r [false, false], .m, .m, .a 0, .m, .r [false, false], .m, .m, .r [false, false], .m, .a 1, .m, .m]) else if id = 5 then some (Go.AM.Way.any [3, 10] [] [.r [false, false], .r [false, false], .m, .a 0, .m, .r [false, false], .m, .m, .r [false, false], .m, .a 1, .m, .m]) else if id = 7 then some (Go.AM.Way.any [3, 10] [] [.r [false, false], .m, .m, .a 0, .m, .r [false, false], .m, .m, .r [false, false], .m, .a 1, .m, .m]) else if id = 9 then some (Go.AM.Way.any [4, 14] [] [.r [false, false], .r [false, false], .m, .m, .a 0, .m, .r [false, false], .m, .m, .r [false, false], .m, .m, .r [false, false], .m, .a 1, .m, .m]) else none }
theorem ok62 : RowOk Try.prog 62 (.run i62) := ⟨Try.func62, by kernel_rfl, by kernel_rfl, by kernel_rfl⟩
noncomputable def i63 : Info := { fn := Try.f63, c := Try.f63.body.getD .skip, er := fun id => if id = 5 then [4, 5, 7, 8, 22, 23, 24, 25, 26, 27, 28, 29, 30, 31, 32, 33, 34, 35, 36, 37, 38, 39, 40] else [], dr := fun id => if id = 7 then some Go.AM.Way.quiet else if id = 9 then some Go.AM.Way.quiet else none }
theorem ok63 : RowOk Try.prog 63 (.pure i63) := ⟨Try.func63, by kernel_rfl, by kernel_rfl, by kernel_rfl⟩
noncomputable def i64 : Info := { fn := Try.f64, c := Try.f64.body.getD .skip, er := fun id => if id = 3 then [7, 11, 12, 13, 14, 15, 16, 17, 18, 19, 20] else [], dr := fun id => none }
theorem ok64 : RowOk Try.prog 64 (.run i64) := ⟨Try.func64, by kernel_rfl, by kernel_rfl, by kernel_rfl⟩
noncomputable def i65 : Info := { fn := Try.f65, c := Try.f65.body.getD .skip, er := fun id => [], dr := fun id => none }
theorem ok65 : RowOk Try.prog 65 (.pure i65) := ⟨Try.func65, by kernel_rfl, by kernel_rfl, by kernel_rfl⟩
noncomputable def i66 : Info := { fn := Try.f66, c := Try.f66.body.getD .skip, er := fun id => [], dr := fun id => if id = 1 then some Go.AM.Way.quiet else none }
theorem ok66 : RowOk Try.prog 66 (.pure i66) := ⟨Try.func66, by kernel_rfl, by kernel_rfl, by kernel_rfl⟩
noncomputable def i67 : Info := { fn := Try.f67, c := Try.f67.body.getD .skip, er := fun id => [], dr := fun id => if id = 1 then some Go.AM.Way.quiet else none }
theorem ok67 : RowOk Try.prog 67 (.pure i67) := ⟨Try.func67, by kernel_rfl, by kernel_rfl, by kernel_rfl⟩
noncomputable def i68 : Info := { fn := Try.f68, c := Try.f68.body.getD .skip, er := fun id => if id = 4 then [2, 6, 7, 11, 12, 13, 14, 15, 16, 17, 18, 19, 20, 21, 22, 23, 24, 25, 26, 27, 28] else [], dr := fun id => none }
theorem ok68 : RowOk Try.prog 68 (.pure i68) := ⟨Try.func68, by kernel_rfl, by kernel_rfl, by kernel_rfl⟩
noncomputable def i69 : Info := { fn := Try.f69, c := Try.f69.body.getD .skip, er := fun id => [], dr := fun id => none }
theorem ok69 : RowOk Try.prog 69 (.pure i69) := ⟨Try.func69, by kernel_rfl, by kernel_rfl, by kernel_rfl⟩
noncomputable def i70 : Info := { fn := Try.f70, c := Try.f70.body.getD .skip, er := fun id => [], dr := fun id => none }
theorem ok70 : RowOk Try.prog 70 (.pure i70) := ⟨Try.func70, by kernel_rfl, by kernel_rfl, by kernel_rfl⟩
noncomputable def i71 : Info := { fn := Try.f71, c := Try.f71.body.getD .skip, er := fun id => [], dr := fun id => none }
theorem ok71 : RowOk Try.prog 71 (.pure i71) := ⟨Try.func71, by kernel_rfl, by kernel_rfl, by kernel_rfl⟩
noncomputable def tab : Tab := [(3, .pure i3), (4, .pure i4), (5, .pure i5), (6, .pure i6), (7, .pure i7), (8, .pure i8), (9, .pure i9), (10, .pure i10), (11, .pure i11), (12, .pure i12), (13, .pure i13), (14, .pure i14), (15, .pure i15), (16, .pure i16), (17, .pure i17), (18, .pure i18), (19, .pure i19), (20, .pure i20), (21, .pure i21), (22, .pure i22), (23, .pure i23), (24, .pure i24), (25, .pure i25), (26, .pure i26), (27, .pure i27), (28, .pure i28), (29, .pure i29), (30, .pure i30), (31, .pure i31), (32, .pure i32), (33, .pure i33), (34, .pure i34), (35, .pure i35), (36, .pure i36), (37, .pure i37), (38, .pure i38), (39, .pure i39), (40, .pure i40), (41, .pure i41), (42, .pure i42), (43, .pure i43), (44, .pure i44), (45, .run i45), (46, .run i46), (47, .run i47), (48, .run i48), (49, .pure i49), (50, .pure i50), (51, .pure i51), (52, .pure i52), (53, .pure i53), (54, .pure i54), (55, .pure i55), (56, .pure i56), (57, .pure i57), (58, .run i58), (59, .run i59), (60, .pure i60), (61, .pure i61), (62, .run i62), (63, .pure i63), (64, .run i64), (65, .pure i65), (66, .pure i66), (67, .pure i67), (68, .pure i68), (69, .pure i69), (70, .pure i70), (71, .pure i71)]
theorem tabOk : TabOk Try.prog tab := TabOk.cons ok3 (TabOk.cons ok4 (TabOk.cons ok5 (TabOk.cons ok6 (TabOk.cons ok7 (TabOk.cons ok8 (TabOk.cons ok9 (TabOk.cons ok10 (TabOk.cons ok11 (TabOk.cons ok12 (TabOk.cons ok13 (TabOk.cons ok14 (TabOk.cons ok15 (TabOk.cons ok16 (TabOk.cons ok17 (TabOk.cons ok18 (TabOk.cons ok19 (TabOk.cons ok20 (TabOk.cons ok21 (TabOk.cons ok22 (TabOk.cons ok23 (TabOk.cons ok24 (TabOk.cons ok25 (TabOk.cons ok26 (TabOk.cons ok27 (TabOk.cons ok28 (TabOk.cons ok29 (TabOk.cons ok30 (TabOk.cons ok31 (TabOk.cons ok32 (TabOk.cons ok33 (TabOk.cons ok34 (TabOk.cons ok35 (TabOk.cons ok36 (TabOk.cons ok37 (TabOk.cons ok38 (TabOk.cons ok39 (TabOk.cons ok40 (TabOk.cons ok41 (TabOk.cons ok42 (TabOk.cons ok43 (TabOk.cons ok44 (TabOk.cons ok45 (TabOk.cons ok46 (TabOk.cons ok47 (TabOk.cons ok48 (TabOk.cons ok49 (TabOk.cons ok50 (TabOk.cons ok51 (TabOk.cons ok52 (TabOk.cons ok53 (TabOk.cons ok54 (TabOk.cons ok55 (TabOk.cons ok56 (TabOk.cons ok57 (TabOk.cons ok58 (TabOk.cons ok59 (TabOk.cons ok60 (TabOk.cons ok61 (TabOk.cons ok62 (TabOk.cons ok63 (TabOk.cons ok64 (TabOk.cons ok65 (TabOk.cons ok66 (TabOk.cons ok67 (TabOk.cons ok68 (TabOk.cons ok69 (TabOk.cons ok70 (TabOk.cons ok71 TabOk.nil))))))))))))))))))))))))))))))))))))))))))))))))))))))))))))))))))))
theorem at3 {T : Tab} (hT : T = tab) : T.at 3 = some (.pure i3) := by subst hT; kernel_rfl
theorem at4 {T : Tab} (hT : T = tab) : T.at 4 = some (.pure i4) := by subst hT; kernel_rfl
theorem at5 {T : Tab} (hT : T = tab) : T.at 5 = some (.pure i5) := by subst hT; kernel_rfl
theorem at6 {T : Tab} (hT : T = tab) : T.at 6 = some (.pure i6) := by subst hT; kernel_rfl
theorem at7 {T : Tab} (hT : T = tab) : T.at 7 = some (.pure i7) := by subst hT; kernel_rfl
theorem at8 {T : Tab} (hT : T = tab) : T.at 8 = some (.pure i8) := by subst hT; kernel_rfl
theorem at9 {T : Tab} (hT : T = tab) : T.at 9 = some (.pure i9) := by subst hT; kernel_rfl
theorem at10 {T : Tab} (hT : T = tab) : T.at 10 = some (.pure i10) := by subst hT; kernel_rfl
theorem at11 {T : Tab} (hT : T = tab) : T.at 11 = some (.pure i11) := by subst hT; kernel_rfl
theorem at12 {T : Tab} (hT : T = tab) : T.at 12 = some (.pure i12) := by subst hT; kernel_rfl
theorem at13 {T : Tab} (hT : T = tab) : T.at 13 = some (.pure i13) := by subst hT; kernel_rfl
theorem at14 {T : Tab} (hT : T = tab) : T.at 14 = some (.pure i14) := by subst hT; kernel_rfl
theorem at15 {T : Tab} (hT : T = tab) : T.at 15 = some (.pure i15) := by subst hT; kernel_rfl
theorem at16 {T : Tab} (hT : T = tab) : T.at 16 = some (.pure i16) := by subst hT; kernel_rfl
theorem at17 {T : Tab} (hT : T = tab) : T.at 17 = some (.pure i17) := by subst hT; kernel_rfl
theorem at18 {T : Tab} (hT : T = tab) : T.at 18 = some (.pure i18) := by subst hT; kernel_rfl
theorem at19 {T : Tab} (hT : T = tab) : T.at 19 = some (.pure i19) := by subst hT; kernel_rfl
theorem at20 {T : Tab} (hT : T = tab) : T.at 20 = some (.pure i20) := by subst hT; kernel_rfl
theorem at21 {T : Tab} (hT : T = tab) : T.at 21 = some (.pure i21) := by subst hT; kernel_rfl
theorem at22 {T : Tab} (hT : T = tab) : T.at 22 = some (.pure i22) := by subst hT; kernel_rfl
theorem at23 {T : Tab} (hT : T = tab) : T.at 23 = some (.pure i23) := by subst hT; kernel_rfl
theorem at24 {T : Tab} (hT : T = tab) : T.at 24 = some (.pure i24) := by subst hT; kernel_rfl
theorem at25 {T : Tab} (hT : T = tab) : T.at 25 = some (.pure i25) := by subst hT; kernel_rfl
theorem at26 {T : Tab} (hT : T = tab) : T.at 26 = some (.pure i26) := by subst hT; kernel_rfl
theorem at27 {T : Tab} (hT : T = tab) : T.at 27 = some (.pure i27) := by subst hT; kernel_rfl
theorem at28 {T : Tab} (hT : T = tab) : T.at 28 = some (.pure i28) := by subst hT; kernel_rfl
theorem at29 {T : Tab} (hT : T = tab) : T.at 29 = some (.pure i29) := by subst hT; kernel_rfl
theorem at30 {T : Tab} (hT : T = tab) : T.at 30 = some (.pure i30) := by subst hT; kernel_rfl
theorem at31 {T : Tab} (hT : T = tab) : T.at 31 = some (.pure i31) := by subst hT; kernel_rfl
theorem at32 {T : Tab} (hT : T = tab) : T.at 32 = some (.pure i32) := by subst hT; kernel_rfl
theorem at33 {T : Tab} (hT : T = tab) : T.at 33 = some (.pure i33) := by subst hT; kernel_rfl
theorem at34 {T : Tab} (hT : T = tab) : T.at 34 = some (.pure i34) := by subst hT; kernel_rfl
theorem at35 {T : Tab} (hT : T = tab) : T.at 35 = some (.pure i35) := by subst hT; kernel_rfl
theorem at36 {T : Tab} (hT : T = tab) : T.at 36 = some (.pure i36) := by subst hT; kernel_rfl
theorem at37 {T : Tab} (hT : T = tab) : T.at 37 = some (.pure i37) := by subst hT; kernel_rfl
theorem at38 {T : Tab} (hT : T = tab) : T.at 38 = some (.pure i38) := by subst hT; kernel_rfl
theorem at39 {T : Tab} (hT : T = tab) : T.at 39 = some (.pure i39) := by subst hT; kernel_rfl
theorem at40 {T : Tab} (hT : T = tab) : T.at 40 = some (.pure i40) := by subst hT; kernel_rfl
theorem at41 {T : Tab} (hT : T = tab) : T.at 41 = some (.pure i41) := by subst hT; kernel_rfl
theorem at42 {T : Tab} (hT : T = tab) : T.at 42 = some (.pure i42) := by subst hT; kernel_rfl
theorem at43 {T : Tab} (hT : T = tab) : T.at 43 = some (.pure i43) := by subst hT; kernel_rfl
theorem at44 {T : Tab} (hT : T = tab) : T.at 44 = some (.pure i44) := by subst hT; kernel_rfl
theorem at45 {T : Tab} (hT : T = tab) : T.at 45 = some (.run i45) := by subst hT; kernel_rfl
theorem at46 {T : Tab} (hT : T = tab) : T.at 46 = some (.run i46) := by subst hT; kernel_rfl
theorem at47 {T : Tab} (hT : T = tab) : T.at 47 = some (.run i47) := by subst hT; kernel_rfl
theorem at48 {T : Tab} (hT : T = tab) : T.at 48 = some (.run i48) := by subst hT; kernel_rfl
theorem at49 {T : Tab} (hT : T = tab) : T.at 49 = some (.pure i49) := by subst hT; kernel_rfl
theorem at50 {T : Tab} (hT : T = tab) : T.at 50 = some (.pure i50) := by subst hT; kernel_rfl
theorem at51 {T : Tab} (hT : T = tab) : T.at 51 = some (.pure i51) := by subst hT; kernel_rfl
theorem at52 {T : Tab} (hT : T = tab) : T.at 52 = some (.pure i52) := by subst hT; kernel_rfl
theorem at53 {T : Tab} (hT : T = tab) : T.at 53 = some (.pure i53) := by subst hT; kernel_rfl
theorem at54 {T : Tab} (hT : T = tab) : T.at 54 = some (.pure i54) := by subst hT; kernel_rfl
theorem at55 {T : Tab} (hT : T = tab) : T.at 55 = some (.pure i55) := by subst hT; kernel_rfl
theorem at56 {T : Tab} (hT : T = tab) : T.at 56 = some (.pure i56) := by subst hT; kernel_rfl
theorem at57 {T : Tab} (hT : T = tab) : T.at 57 = some (.pure i57) := by subst hT; kernel_rfl
theorem at58 {T : Tab} (hT : T = tab) : T.at 58 = some (.run i58) := by subst hT; kernel_rfl
theorem at59 {T : Tab} (hT : T = tab) : T.at 59 = some (.run i59) := by subst hT; kernel_rfl
theorem at60 {T : Tab} (hT : T = tab) : T.at 60 = some (.pure i60) := by subst hT; kernel_rfl
theorem at61 {T : Tab} (hT : T = tab) : T.at 61 = some (.pure i61) := by subst hT; kernel_rfl
theorem at62 {T : Tab} (hT : T = tab) : T.at 62 = some (.run i62) := by subst hT; kernel_rfl
theorem at63 {T : Tab} (hT : T = tab) : T.at 63 = some (.pure i63) := by subst hT; kernel_rfl
theorem at64 {T : Tab} (hT : T = tab) : T.at 64 = some (.run i64) := by subst hT; kernel_rfl
theorem at65 {T : Tab} (hT : T = tab) : T.at 65 = some (.pure i65) := by subst hT; kernel_rfl
theorem at66 {T : Tab} (hT : T = tab) : T.at 66 = some (.pure i66) := by subst hT; kernel_rfl
theorem at67 {T : Tab} (hT : T = tab) : T.at 67 = some (.pure i67) := by subst hT; kernel_rfl
theorem at68 {T : Tab} (hT : T = tab) : T.at 68 = some (.pure i68) := by subst hT; kernel_rfl
theorem at69 {T : Tab} (hT : T = tab) : T.at 69 = some (.pure i69) := by subst hT; kernel_rfl
theorem at70 {T : Tab} (hT : T = tab) : T.at 70 = some (.pure i70) := by subst hT; kernel_rfl
theorem at71 {T : Tab} (hT : T = tab) : T.at 71 = some (.pure i71) := by subst hT; kernel_rfl
/-- This program, this table, and fuel enough. -/
structure Sd (P : Program) (T : Tab) (K : Nat) : Prop where
  p : P = Try.prog
  t : T = tab
  k : 18446744073709551616 ≤ K
end Go.AM
