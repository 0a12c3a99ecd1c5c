/- The table of the seat's functions for the abstract machine. Printed by tab.py. Conditions: none. -/
import Derived.Test.YtdokijbheholdaaDoorAmTypes
import Derived.Test.YtdokijbheholdaaDoorAmAll
import Derived.KernelRfl
import Derived.Test.YtdokijbheholdaaDoorShelfD
import Derived.Test.YtdokijbheholdaaDoorAmGl
namespace Go.AM
open Go.Proofs
set_option maxRecDepth 100000
set_option linter.unusedVariables false
noncomputable def i3 : Info := { fn := Tryd.f3, c := Tryd.f3.body.getD .skip, er := fun id => if id = 5 then [5, 17, 18, 19, 20, 21, 22, 23, 24, 25] else [], dr := fun id => none }
theorem ok3 : RowOk Tryd.prog 3 (.pure i3) := ⟨Tryd.func3, by kernel_rfl, by kernel_rfl, by kernel_rfl⟩
noncomputable def i4 : Info := { fn := Tryd.f4, c := Tryd.f4.body.getD .skip, er := fun id => if id = 6 then [6, 10, 11, 12, 20, 21, 22, 23, 24, 25, 26, 27, 28, 29, 30, 31, 32, 33, 34, 35, 36, 37, 38, 39, 40, 41, 42, 43, 44, 45, 46, 47, 48, 49] else [], dr := fun id => if id = 13 then some (Go.AM.Way.any [] [] [.r [], .m, .m, .r [], .m, .m, .r [], .m, .m, .r [], .m, .w, .m, .w, .r [], .m, .m, .r [], .m, .w, .m, .w, .r [], .m, .m, .r [], .r [], .m, .r [], .r [], .m, .m, .m, .r [], .m, .m]) else none }
theorem ok4 : RowOk Tryd.prog 4 (.pure i4) := ⟨Tryd.func4, by kernel_rfl, by kernel_rfl, by kernel_rfl⟩
noncomputable def i5 : Info := { fn := Tryd.f5, c := Tryd.f5.body.getD .skip, er := fun id => if id = 7 then [6, 8, 27, 28, 29, 30, 31, 32, 33, 34, 35, 36, 37, 38, 39, 40, 41, 42, 43, 44] else if id = 10 then [8, 34, 35, 36, 37, 38, 39, 40, 41, 42, 43] else if id = 16 then [2, 9, 10, 48, 49, 50, 51, 52, 53, 54, 55, 56, 57, 58, 59, 60, 61, 62, 63, 64, 65, 66, 67, 68, 69, 70, 71] else if id = 26 then [2, 14, 15, 17, 91, 92, 93, 94, 95, 96, 97, 98, 99, 100, 101, 102, 103, 104, 105, 106, 107, 108, 109, 110, 111, 112, 113, 114, 115, 116, 117, 118, 119] else if id = 30 then [2, 17, 104, 105, 106, 107, 108, 109, 110, 111, 112, 113, 114, 115, 116, 117, 118] else [], dr := fun id => if id = 18 then some Go.AM.Way.quiet else none }
theorem ok5 : RowOk Tryd.prog 5 (.pure i5) := ⟨Tryd.func5, by kernel_rfl, by kernel_rfl, by kernel_rfl⟩
noncomputable def i6 : Info := { fn := Tryd.f6, c := Tryd.f6.body.getD .skip, er := fun id => [], dr := fun id => none }
theorem ok6 : RowOk Tryd.prog 6 (.pure i6) := ⟨Tryd.func6, by kernel_rfl, by kernel_rfl, by kernel_rfl⟩
noncomputable def i7 : Info := { fn := Tryd.f7, c := Tryd.f7.body.getD .skip, er := fun id => [], dr := fun id => none }
theorem ok7 : RowOk Tryd.prog 7 (.pure i7) := ⟨Tryd.func7, by kernel_rfl, by kernel_rfl, by kernel_rfl⟩
noncomputable def i8 : Info := { fn := Tryd.f8, c := Tryd.f8.body.getD .skip, er := fun id => [], dr := fun id => none }
theorem ok8 : RowOk Tryd.prog 8 (.run i8) := ⟨Tryd.func8, by kernel_rfl, by kernel_rfl, by kernel_rfl⟩
noncomputable def i9 : Info := { fn := Tryd.f9, c := Tryd.f9.body.getD .skip, er := fun id => if id = 3 then [5, 9, 10, 11, 12, 13, 14, 15, 16, 17, 18, 19, 20, 21] else [], dr := fun id => none }
theorem ok9 : RowOk Tryd.prog 9 (.pure i9) := ⟨Tryd.func9, by kernel_rfl, by kernel_rfl, by kernel_rfl⟩
noncomputable def i10 : Info := { fn := Tryd.f10, c := Tryd.f10.body.getD .skip, er := fun id => if id = 4 then [2, 3, 7, 11, 12, 13, 14, 15, 16, 17, 18, 19, 20, 21, 22, 23, 24, 25, 26, 27, 28, 29, 30, 31, 32, 33, 34, 35, 36, 37] else [], dr := fun id => if id = 9 then some (Go.AM.Way.tail 7) else none }
theorem ok10 : RowOk Tryd.prog 10 (.run i10) := ⟨Tryd.func10, by kernel_rfl, by kernel_rfl, by kernel_rfl⟩
noncomputable def i11 : Info := { fn := Tryd.f11, c := Tryd.f11.body.getD .skip, er := fun id => if id = 4 then [2, 3, 7, 8, 9, 10, 11, 14, 15, 16, 17, 18, 19, 20, 21, 22, 23, 24, 25, 26, 27, 28, 29, 30, 31, 32, 33, 34, 35, 36, 37, 38, 39, 40, 41, 42, 43, 44, 45, 46, 47, 48, 49, 50, 51, 52, 53, 54, 55, 56, 57, 58, 59, 60, 61, 62, 63, 64, 65, 66, 67, 68] else if id = 8 then [9, 10, 11, 20, 21, 22, 23, 24, 25, 26, 27, 28, 29, 30, 31, 32, 33, 34, 35, 36, 37, 38, 39, 40, 41, 42, 43, 44, 45, 46, 47, 48, 49, 50, 51, 52, 53, 54, 55, 56, 57, 58, 59, 60, 61, 62] else if id = 13 then [43, 44, 45, 46, 47, 48, 49, 50, 51, 52, 53, 54, 55, 56, 57] else [], dr := fun id => none }
theorem ok11 : RowOk Tryd.prog 11 (.run i11) := ⟨Tryd.func11, by kernel_rfl, by kernel_rfl, by kernel_rfl⟩
noncomputable def i12 : Info := { fn := Tryd.f12, c := Tryd.f12.body.getD .skip, er := fun id => if id = 4 then [4, 5, 14, 15, 16, 17, 18, 19, 20, 21, 22, 23, 24, 25] else [], dr := fun id => if id = 6 then some Go.AM.Way.quiet else none }
theorem ok12 : RowOk Tryd.prog 12 (.pure i12) := ⟨Tryd.func12, by kernel_rfl, by kernel_rfl, by kernel_rfl⟩
noncomputable def i13 : Info := { fn := Tryd.f13, c := Tryd.f13.body.getD .skip, er := fun id => if id = 4 then [6, 7, 14, 15, 16, 17, 18, 19, 20, 21, 22, 23, 24, 25, 26, 27, 28, 29] else if id = 14 then [10, 12, 35, 36, 37, 38, 39, 40, 41, 42, 43, 44, 45, 46, 47, 48, 49, 50, 51, 52, 53, 54, 55, 56, 57, 58, 59, 60, 61, 62, 63, 64, 65, 66, 67, 68, 69, 70, 71, 72] else if id = 17 then [9, 12, 54, 55, 56, 57, 58, 59, 60, 61, 62, 63, 64, 65, 66, 67, 68, 69, 70, 71, 72] else [], dr := fun id => if id = 8 then some (Go.AM.Way.tail 7) else none }
theorem ok13 : RowOk Tryd.prog 13 (.run i13) := ⟨Tryd.func13, by kernel_rfl, by kernel_rfl, by kernel_rfl⟩
noncomputable def i14 : Info := { fn := Tryd.f14, c := Tryd.f14.body.getD .skip, er := fun id => if id = 2 then [2, 4, 5, 6, 7, 8, 9, 10, 11, 12, 13, 14, 15, 16, 17, 18, 19, 20, 21, 22, 23, 24, 25, 26, 27, 28, 29, 30, 31, 32, 33] else if id = 5 then [2, 5, 6, 20, 21, 22, 23, 24, 25, 26, 27, 28, 29, 30, 31, 32, 33] else [], dr := fun id => none }
theorem ok14 : RowOk Tryd.prog 14 (.run i14) := ⟨Tryd.func14, by kernel_rfl, by kernel_rfl, by kernel_rfl⟩
noncomputable def i15 : Info := { fn := Tryd.f15, c := Tryd.f15.body.getD .skip, er := fun id => [], dr := fun id => if id = 3 then some (Go.AM.Way.tail 9) else none }
theorem ok15 : RowOk Tryd.prog 15 (.pure i15) := ⟨Tryd.func15, by kernel_rfl, by kernel_rfl, by kernel_rfl⟩
noncomputable def i16 : Info := { fn := Tryd.f16, c := Tryd.f16.body.getD .skip, er := fun id => [], dr := fun id => none }
theorem ok16 : RowOk Tryd.prog 16 (.pure i16) := ⟨Tryd.func16, by kernel_rfl, by kernel_rfl, by kernel_rfl⟩
noncomputable def i17 : Info := { fn := Tryd.f17, c := Tryd.f17.body.getD .skip, er := fun id => if id = 2 then [6, 8, 9, 10, 11, 12, 13, 14, 15, 16, 17, 18, 19, 20, 21, 22, 23, 24, 25, 26, 27, 28, 29, 30, 31, 32, 33, 34, 35, 36, 37, 38] else [], dr := fun id => none }
theorem ok17 : RowOk Tryd.prog 17 (.pure i17) := ⟨Tryd.func17, by kernel_rfl, by kernel_rfl, by kernel_rfl⟩
noncomputable def i18 : Info := { fn := Tryd.f18, c := Tryd.f18.body.getD .skip, er := fun id => [], dr := fun id => none }
theorem ok18 : RowOk Tryd.prog 18 (.run i18) := ⟨Tryd.func18, by kernel_rfl, by kernel_rfl, by kernel_rfl⟩
noncomputable def i19 : Info := { fn := Tryd.f19, c := Tryd.f19.body.getD .skip, er := fun id => if id = 3 then [7, 8, 9, 10, 11, 12, 13, 14, 15, 16, 17, 18] else [], dr := fun id => none }
theorem ok19 : RowOk Tryd.prog 19 (.run i19) := ⟨Tryd.func19, by kernel_rfl, by kernel_rfl, by kernel_rfl⟩
noncomputable def i20 : Info := { fn := Tryd.f20, c := Tryd.f20.body.getD .skip, er := fun id => [], dr := fun id => none }
theorem ok20 : RowOk Tryd.prog 20 (.run i20) := ⟨Tryd.func20, by kernel_rfl, by kernel_rfl, by kernel_rfl⟩
noncomputable def i21 : Info := { fn := Tryd.f21, c := Tryd.f21.body.getD .skip, er := fun id => if id = 3 then [7, 8, 11, 12, 13, 14, 15, 16, 17, 18, 19, 20, 21, 22, 23, 24, 25, 26, 27, 28, 29, 30, 31, 32, 33, 34, 35, 36, 37, 38, 39, 40, 41, 42, 43] else if id = 6 then [8, 15, 16, 17, 18, 19, 20, 21, 22, 23, 24, 25, 26, 27, 28, 29, 30, 31, 32, 33, 34, 35, 36, 37, 38, 39, 40, 41, 42, 43] else if id = 13 then [44, 45, 46, 47, 48, 49, 50, 51, 52, 53, 54] else [], dr := fun id => none }
theorem ok21 : RowOk Tryd.prog 21 (.run i21) := ⟨Tryd.func21, by kernel_rfl, by kernel_rfl, by kernel_rfl⟩
noncomputable def i22 : Info := { fn := Tryd.f22, c := Tryd.f22.body.getD .skip, er := fun id => if id = 3 then [5, 9, 10, 11, 12, 13, 14, 15] else [], dr := fun id => none }
theorem ok22 : RowOk Tryd.prog 22 (.pure i22) := ⟨Tryd.func22, by kernel_rfl, by kernel_rfl, by kernel_rfl⟩
noncomputable def i23 : Info := { fn := Tryd.f23, c := Tryd.f23.body.getD .skip, er := fun id => if id = 2 then [4, 5, 6, 7, 8, 9, 10, 11, 12, 13, 14] else [], dr := fun id => none }
theorem ok23 : RowOk Tryd.prog 23 (.run i23) := ⟨Tryd.func23, by kernel_rfl, by kernel_rfl, by kernel_rfl⟩
noncomputable def i24 : Info := { fn := Tryd.f24, c := Tryd.f24.body.getD .skip, er := fun id => if id = 3 then [4, 5, 9, 10, 11, 12, 13, 14, 15, 16, 17, 18, 19, 20, 21] else [], dr := fun id => none }
theorem ok24 : RowOk Tryd.prog 24 (.pure i24) := ⟨Tryd.func24, by kernel_rfl, by kernel_rfl, by kernel_rfl⟩
noncomputable def i25 : Info := { fn := Tryd.f25, c := Tryd.f25.body.getD .skip, er := fun id => if id = 2 then [4, 5, 9, 10, 11, 12, 13, 14, 15, 16, 17, 18] else [], dr := fun id => none }
theorem ok25 : RowOk Tryd.prog 25 (.pure i25) := ⟨Tryd.func25, by kernel_rfl, by kernel_rfl, by kernel_rfl⟩
noncomputable def i26 : Info := { fn := Tryd.f26, c := Tryd.f26.body.getD .skip, er := fun id => [], dr := fun id => if id = 1 then some Go.AM.Way.quiet else none }
theorem ok26 : RowOk Tryd.prog 26 (.pure i26) := ⟨Tryd.func26, by kernel_rfl, by kernel_rfl, by kernel_rfl⟩
noncomputable def i27 : Info := { fn := Tryd.f27, c := Tryd.f27.body.getD .skip, er := fun id => [], dr := fun id => if id = 5 then some (Go.AM.Way.tail 6) else none }
theorem ok27 : RowOk Tryd.prog 27 (.run i27) := ⟨Tryd.func27, by kernel_rfl, by kernel_rfl, by kernel_rfl⟩
noncomputable def i28 : Info := { fn := Tryd.f28, c := Tryd.f28.body.getD .skip, er := fun id => if id = 3 then [5, 6, 7, 8, 9, 10, 11, 12, 13, 14, 15, 16, 17, 18, 19, 20, 21, 22, 23, 24, 25, 26, 27, 28, 29, 30, 31, 32, 33, 34, 35, 36, 37, 38, 39, 40, 41, 42, 43, 44, 45, 46, 47, 48, 49] else if id = 7 then [11, 12, 13, 14, 15, 16, 17, 18, 19, 20, 21, 22, 23, 24, 25, 26, 27, 28, 29, 30, 31, 32, 33, 34, 35, 36, 37, 38, 39, 40, 41, 42, 43, 44] else [], dr := fun id => none }
theorem ok28 : RowOk Tryd.prog 28 (.run i28) := ⟨Tryd.func28, by kernel_rfl, by kernel_rfl, by kernel_rfl⟩
noncomputable def i29 : Info := { fn := Tryd.f29, c := Tryd.f29.body.getD .skip, er := fun id => if id = 2 then [4, 6, 7, 8, 9, 10, 11, 12, 13, 14, 15, 16, 17] else [], dr := fun id => none }
theorem ok29 : RowOk Tryd.prog 29 (.pure i29) := ⟨Tryd.func29, by kernel_rfl, by kernel_rfl, by kernel_rfl⟩
noncomputable def i30 : Info := { fn := Tryd.f30, c := Tryd.f30.body.getD .skip, er := fun id => if id = 3 then [6, 12, 13, 14, 15, 16] else if id = 8 then [8, 10, 17, 18, 19, 20, 21, 22, 23, 24, 25, 26, 27, 28, 29, 30, 31, 32, 33, 34, 35, 36, 37, 38, 39, 40, 41, 42, 43, 44, 45, 46, 47, 48, 49, 50, 51, 52, 53, 54, 55, 56, 57, 58, 59, 60, 61, 62, 63, 64, 65, 66, 67, 68, 69] else if id = 11 then [10, 22, 23, 24, 25, 26, 27, 28, 29, 30, 31, 32, 33, 34, 35, 36, 37, 38, 39, 40, 41, 42, 43, 44, 45, 46, 47, 48, 49, 50, 51, 52, 53, 54, 55, 56, 57, 58, 59, 60, 61, 62, 63, 64, 65, 66, 67, 68, 69] else if id = 14 then [10, 37, 38, 39, 40, 41, 42, 43, 44, 45, 46, 47, 48, 49, 50, 51, 52, 53, 54, 55, 56, 57, 58, 59, 60, 61, 62, 63, 64, 65, 66, 67, 68, 69] else [], dr := fun id => none }
theorem ok30 : RowOk Tryd.prog 30 (.pure i30) := ⟨Tryd.func30, by kernel_rfl, by kernel_rfl, by kernel_rfl⟩
noncomputable def i31 : Info := { fn := Tryd.f31, c := Tryd.f31.body.getD .skip, er := fun id => if id = 6 then [6, 7, 11, 12, 33, 34, 35, 36, 37, 38, 39, 40, 41, 42, 43, 44, 45, 46, 47, 48, 49, 50, 51, 52, 53, 54, 55, 56, 57, 58, 59, 60, 61, 62, 63, 64, 65, 66, 67, 68, 69, 70, 71] else [], dr := fun id => if id = 8 then some Go.AM.Way.quiet else if id = 9 then some (Go.AM.Way.any [2, 7] [] [.m, .m, .b 0 [false, false], .m, .m, .m, .r [false, false], .a 1, .w, .m, .w, .m, .m, .m, .m, .m]) else none }
theorem ok31 : RowOk Tryd.prog 31 (.run i31) := ⟨Tryd.func31, by kernel_rfl, by kernel_rfl, by kernel_rfl⟩
noncomputable def i32 : Info := { fn := Tryd.f32, c := Tryd.f32.body.getD .skip, er := fun id => [], dr := fun id => none }
theorem ok32 : RowOk Tryd.prog 32 (.pure i32) := ⟨Tryd.func32, by kernel_rfl, by kernel_rfl, by kernel_rfl⟩
noncomputable def i33 : Info := { fn := Tryd.f33, c := Tryd.f33.body.getD .skip, er := fun id => if id = 3 then [7, 9, 14, 15, 16, 17, 18, 19, 20, 21, 22, 23, 24, 25, 26, 27, 28, 29, 30, 31, 32, 33, 34, 35] else if id = 7 then [9, 23, 24, 25, 26, 27, 28, 29, 30, 31, 32] else [], dr := fun id => none }
theorem ok33 : RowOk Tryd.prog 33 (.pure i33) := ⟨Tryd.func33, by kernel_rfl, by kernel_rfl, by kernel_rfl⟩
noncomputable def i34 : Info := { fn := Tryd.f34, c := Tryd.f34.body.getD .skip, er := fun id => [], dr := fun id => none }
theorem ok34 : RowOk Tryd.prog 34 (.pure i34) := ⟨Tryd.func34, by kernel_rfl, by kernel_rfl, by kernel_rfl⟩
theorem ok35 : RowOk Tryd.prog 35 (.known tz0) := tz_ok Tryd.lays729 (enters_of Tryd.func35 (by kernel_rfl) (by kernel_rfl))
noncomputable def tab : Tab := [(3, .pure i3), (4, .pure i4), (5, .pure i5), (6, .pure i6), (7, .pure i7), (8, .run i8), (9, .pure i9), (10, .run i10), (11, .run i11), (12, .pure i12), (13, .run i13), (14, .run i14), (15, .pure i15), (16, .pure i16), (17, .pure i17), (18, .run i18), (19, .run i19), (20, .run i20), (21, .run i21), (22, .pure i22), (23, .run i23), (24, .pure i24), (25, .pure i25), (26, .pure i26), (27, .run i27), (28, .run i28), (29, .pure i29), (30, .pure i30), (31, .run i31), (32, .pure i32), (33, .pure i33), (34, .pure i34), (35, .known tz0)]
theorem tabOk : TabOk Tryd.prog tab := TabOk.cons ok3 (TabOk.cons ok4 (TabOk.cons ok5 (TabOk.cons ok6 (TabOk.cons ok7 (TabOk.cons ok8 (TabOk.cons ok9 (TabOk.cons ok10 (TabOk.cons ok11 (TabOk.cons ok12 (TabOk.cons ok13 (TabOk.cons ok14 (TabOk.cons ok15 (TabOk.cons ok16 (TabOk.cons ok17 (TabOk.cons ok18 (TabOk.cons ok19 (TabOk.cons ok20 (TabOk.cons ok21 (TabOk.cons ok22 (TabOk.cons ok23 (TabOk.cons ok24 (TabOk.cons ok25 (TabOk.cons ok26 (TabOk.cons ok27 (TabOk.cons ok28 (TabOk.cons ok29 (TabOk.cons ok30 (TabOk.cons ok31 (TabOk.cons ok32 (TabOk.cons ok33 (TabOk.cons ok34 (TabOk.cons ok35 TabOk.nil))))))))))))))))))))))))))))))))
theorem at3 {T : Tab} (hT : T = tab) : T.at 3 = some (.pure i3) := by subst hT; kernel_rfl
theorem at4 {T : Tab} (hT : T = tab) : T.at 4 = some (.pure i4) := by subst hT; kernel_rfl
theorem at5 {T : Tab} (hT : T = tab) : T.at 5 = some (.pure i5) := by subst hT; kernel_rfl
theorem at6 {T : Tab} (hT : T = tab) : T.at 6 = some (.pure i6) := by subst hT; kernel_rfl
theorem at7 {T : Tab} (hT : T = tab) : T.at 7 = some (.pure i7) := by subst hT; kernel_rfl
theorem at8 {T : Tab} (hT : T = tab) : T.at 8 = some (.run i8) := by subst hT; kernel_rfl
theorem at9 {T : Tab} (hT : T = tab) : T.at 9 = some (.pure i9) := by subst hT; kernel_rfl
theorem at10 {T : Tab} (hT : T = tab) : T.at 10 = some (.run i10) := by subst hT; kernel_rfl
theorem at11 {T : Tab} (hT : T = tab) : T.at 11 = some (.run i11) := by subst hT; kernel_rfl
theorem at12 {T : Tab} (hT : T = tab) : T.at 12 = some (.pure i12) := by subst hT; kernel_rfl
theorem at13 {T : Tab} (hT : T = tab) : T.at 13 = some (.run i13) := by subst hT; kernel_rfl
theorem at14 {T : Tab} (hT : T = tab) : T.at 14 = some (.run i14) := by subst hT; kernel_rfl
theorem at15 {T : Tab} (hT : T = tab) : T.at 15 = some (.pure i15) := by subst hT; kernel_rfl
theorem at16 {T : Tab} (hT : T = tab) : T.at 16 = some (.pure i16) := by subst hT; kernel_rfl
theorem at17 {T : Tab} (hT : T = tab) : T.at 17 = some (.pure i17) := by subst hT; kernel_rfl
theorem at18 {T : Tab} (hT : T = tab) : T.at 18 = some (.run i18) := by subst hT; kernel_rfl
theorem at19 {T : Tab} (hT : T = tab) : T.at 19 = some (.run i19) := by subst hT; kernel_rfl
theorem at20 {T : Tab} (hT : T = tab) : T.at 20 = some (.run i20) := by subst hT; kernel_rfl
theorem at21 {T : Tab} (hT : T = tab) : T.at 21 = some (.run i21) := by subst hT; kernel_rfl
theorem at22 {T : Tab} (hT : T = tab) : T.at 22 = some (.pure i22) := by subst hT; kernel_rfl
theorem at23 {T : Tab} (hT : T = tab) : T.at 23 = some (.run i23) := by subst hT; kernel_rfl
theorem at24 {T : Tab} (hT : T = tab) : T.at 24 = some (.pure i24) := by subst hT; kernel_rfl
theorem at25 {T : Tab} (hT : T = tab) : T.at 25 = some (.pure i25) := by subst hT; kernel_rfl
theorem at26 {T : Tab} (hT : T = tab) : T.at 26 = some (.pure i26) := by subst hT; kernel_rfl
theorem at27 {T : Tab} (hT : T = tab) : T.at 27 = some (.run i27) := by subst hT; kernel_rfl
theorem at28 {T : Tab} (hT : T = tab) : T.at 28 = some (.run i28) := by subst hT; kernel_rfl
theorem at29 {T : Tab} (hT : T = tab) : T.at 29 = some (.pure i29) := by subst hT; kernel_rfl
theorem at30 {T : Tab} (hT : T = tab) : T.at 30 = some (.pure i30) := by subst hT; kernel_rfl
theorem at31 {T : Tab} (hT : T = tab) : T.at 31 = some (.run i31) := by subst hT; kernel_rfl
theorem at32 {T : Tab} (hT : T = tab) : T.at 32 = some (.pure i32) := by subst hT; kernel_rfl
theorem at33 {T : Tab} (hT : T = tab) : T.at 33 = some (.pure i33) := by subst hT; kernel_rfl
theorem at34 {T : Tab} (hT : T = tab) : T.at 34 = some (.pure i34) := by subst hT; kernel_rfl
theorem at35 {T : Tab} (hT : T = tab) : T.at 35 = some (.known tz0) := by subst hT; kernel_rfl
/-- This program, this table, and fuel enough. -/
structure Sd (P : Program) (T : Tab) (K : Nat) : Prop where
  p : P = Tryd.prog
  t : T = tab
  k : 18446744073709551616 ≤ K
end Go.AM
