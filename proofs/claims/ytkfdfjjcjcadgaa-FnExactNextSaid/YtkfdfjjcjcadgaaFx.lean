/- What the machine asks of the types and functions of the program. -/
import Derived.Test.YtkfdfjjcjcadgaaV3
import Derived.Test.YtkfdfjjcjcadgaaProg
import Derived.KernelRfl
namespace Go.Proofs.Ytkfdfjjcjcadgaa.VM
open Go Go.Proofs
set_option linter.unusedVariables false
set_option maxRecDepth 100000
attribute [simp] Try.underlying3
@[simp] theorem co3 : Try.prog.cellsOf 3 = 1 := by kernel_rfl
@[simp] theorem ft3 : fieldTypes Try.prog 3 = [3] := by unfold fieldTypes; rw [Try.underlying3]
@[simp] theorem ek3 : elemOk Try.prog 3 = true := by kernel_rfl
@[simp] theorem zt3 : zeroT Try.prog 3 = some [.v (.int .i64 0)] := by kernel_rfl
@[simp] theorem in3 : (Try.prog.info? 3).isSome = true := by kernel_rfl
attribute [simp] Try.underlying4
@[simp] theorem co4 : Try.prog.cellsOf 4 = 1 := by kernel_rfl
@[simp] theorem ft4 : fieldTypes Try.prog 4 = [4] := by unfold fieldTypes; rw [Try.underlying4]
@[simp] theorem ek4 : elemOk Try.prog 4 = true := by kernel_rfl
@[simp] theorem zt4 : zeroT Try.prog 4 = some [.v (.bool false)] := by kernel_rfl
@[simp] theorem in4 : (Try.prog.info? 4).isSome = true := by kernel_rfl
attribute [simp] Try.underlying5
@[simp] theorem co5 : Try.prog.cellsOf 5 = 1 := by kernel_rfl
@[simp] theorem ft5 : fieldTypes Try.prog 5 = [5] := by unfold fieldTypes; rw [Try.underlying5]
@[simp] theorem ek5 : elemOk Try.prog 5 = true := by kernel_rfl
@[simp] theorem zt5 : zeroT Try.prog 5 = some [.v (.int .u8 0)] := by kernel_rfl
@[simp] theorem in5 : (Try.prog.info? 5).isSome = true := by kernel_rfl
attribute [simp] Try.underlying9
@[simp] theorem co9 : Try.prog.cellsOf 9 = 1 := by kernel_rfl
@[simp] theorem ft9 : fieldTypes Try.prog 9 = [9] := by unfold fieldTypes; rw [Try.underlying9]
@[simp] theorem ek9 : elemOk Try.prog 9 = true := by kernel_rfl
@[simp] theorem zt9 : zeroT Try.prog 9 = some [.v (.string ByteArray.empty)] := by kernel_rfl
@[simp] theorem in9 : (Try.prog.info? 9).isSome = true := by kernel_rfl
attribute [simp] Try.underlying23
@[simp] theorem co23 : Try.prog.cellsOf 23 = 1 := by kernel_rfl
@[simp] theorem el23 : elemOf Try.prog 23 = 3 := by unfold elemOf; rw [Try.underlying23]
@[simp] theorem ft23 : fieldTypes Try.prog 23 = [23] := by unfold fieldTypes; rw [Try.underlying23]
@[simp] theorem ek23 : elemOk Try.prog 23 = true := by kernel_rfl
@[simp] theorem zt23 : zeroT Try.prog 23 = some [.z] := by kernel_rfl
@[simp] theorem in23 : (Try.prog.info? 23).isSome = true := by kernel_rfl
attribute [simp] Try.underlying25
@[simp] theorem co25 : Try.prog.cellsOf 25 = 4 := by kernel_rfl
@[simp] theorem ft25 : fieldTypes Try.prog 25 = [3, 23, 23, 3] := by unfold fieldTypes; rw [Try.underlying25]; rfl
@[simp] theorem ek25 : elemOk Try.prog 25 = true := by kernel_rfl
@[simp] theorem zt25 : zeroT Try.prog 25 = some [.v (.int .i64 0), .z, .z, .v (.int .i64 0)] := by kernel_rfl
@[simp] theorem in25 : (Try.prog.info? 25).isSome = true := by kernel_rfl
attribute [simp] Try.underlying29
@[simp] theorem co29 : Try.prog.cellsOf 29 = 1 := by kernel_rfl
@[simp] theorem el29 : elemOf Try.prog 29 = 81 := by unfold elemOf; rw [Try.underlying29]
@[simp] theorem ft29 : fieldTypes Try.prog 29 = [29] := by unfold fieldTypes; rw [Try.underlying29]
@[simp] theorem ek29 : elemOk Try.prog 29 = true := by kernel_rfl
@[simp] theorem zt29 : zeroT Try.prog 29 = some [.z] := by kernel_rfl
@[simp] theorem in29 : (Try.prog.info? 29).isSome = true := by kernel_rfl
attribute [simp] Try.underlying32
@[simp] theorem co32 : Try.prog.cellsOf 32 = 1 := by kernel_rfl
@[simp] theorem el32 : elemOf Try.prog 32 = 75 := by unfold elemOf; rw [Try.underlying32]
@[simp] theorem ft32 : fieldTypes Try.prog 32 = [32] := by unfold fieldTypes; rw [Try.underlying32]
@[simp] theorem ek32 : elemOk Try.prog 32 = true := by kernel_rfl
@[simp] theorem zt32 : zeroT Try.prog 32 = some [.z] := by kernel_rfl
@[simp] theorem in32 : (Try.prog.info? 32).isSome = true := by kernel_rfl
attribute [simp] Try.underlying39
@[simp] theorem co39 : Try.prog.cellsOf 39 = 5 := by kernel_rfl
@[simp] theorem ft39 : fieldTypes Try.prog 39 = [3, 3, 3, 3, 3] := by unfold fieldTypes; rw [Try.underlying39]; rfl
@[simp] theorem ek39 : elemOk Try.prog 39 = true := by kernel_rfl
@[simp] theorem zt39 : zeroT Try.prog 39 = some [.v (.int .i64 0), .v (.int .i64 0), .v (.int .i64 0), .v (.int .i64 0), .v (.int .i64 0)] := by kernel_rfl
@[simp] theorem in39 : (Try.prog.info? 39).isSome = true := by kernel_rfl
attribute [simp] Try.underlying41
@[simp] theorem co41 : Try.prog.cellsOf 41 = 5 := by kernel_rfl
@[simp] theorem ft41 : fieldTypes Try.prog 41 = [3, 3, 3, 3, 3] := by unfold fieldTypes; rw [Try.underlying41]; rfl
@[simp] theorem ek41 : elemOk Try.prog 41 = true := by kernel_rfl
@[simp] theorem zt41 : zeroT Try.prog 41 = some [.v (.int .i64 0), .v (.int .i64 0), .v (.int .i64 0), .v (.int .i64 0), .v (.int .i64 0)] := by kernel_rfl
@[simp] theorem in41 : (Try.prog.info? 41).isSome = true := by kernel_rfl
attribute [simp] Try.underlying44
@[simp] theorem co44 : Try.prog.cellsOf 44 = 1 := by kernel_rfl
@[simp] theorem el44 : elemOf Try.prog 44 = 92 := by unfold elemOf; rw [Try.underlying44]
@[simp] theorem ft44 : fieldTypes Try.prog 44 = [44] := by unfold fieldTypes; rw [Try.underlying44]
@[simp] theorem ek44 : elemOk Try.prog 44 = true := by kernel_rfl
@[simp] theorem zt44 : zeroT Try.prog 44 = some [.z] := by kernel_rfl
@[simp] theorem in44 : (Try.prog.info? 44).isSome = true := by kernel_rfl
attribute [simp] Try.underlying47
@[simp] theorem co47 : Try.prog.cellsOf 47 = 1 := by kernel_rfl
@[simp] theorem el47 : elemOf Try.prog 47 = 90 := by unfold elemOf; rw [Try.underlying47]
@[simp] theorem ft47 : fieldTypes Try.prog 47 = [47] := by unfold fieldTypes; rw [Try.underlying47]
@[simp] theorem ek47 : elemOk Try.prog 47 = true := by kernel_rfl
@[simp] theorem zt47 : zeroT Try.prog 47 = some [.z] := by kernel_rfl
@[simp] theorem in47 : (Try.prog.info? 47).isSome = true := by kernel_rfl
attribute [simp] Try.underlying56
@[simp] theorem co56 : Try.prog.cellsOf 56 = 1 := by kernel_rfl
@[simp] theorem el56 : elemOf Try.prog 56 = 39 := by unfold elemOf; rw [Try.underlying56]
@[simp] theorem ft56 : fieldTypes Try.prog 56 = [56] := by unfold fieldTypes; rw [Try.underlying56]
@[simp] theorem ek56 : elemOk Try.prog 56 = true := by kernel_rfl
@[simp] theorem zt56 : zeroT Try.prog 56 = some [.z] := by kernel_rfl
@[simp] theorem in56 : (Try.prog.info? 56).isSome = true := by kernel_rfl
attribute [simp] Try.underlying57
@[simp] theorem co57 : Try.prog.cellsOf 57 = 4 := by kernel_rfl
@[simp] theorem ft57 : fieldTypes Try.prog 57 = [3, 23, 23, 3] := by unfold fieldTypes; rw [Try.underlying57]; rfl
@[simp] theorem ek57 : elemOk Try.prog 57 = true := by kernel_rfl
@[simp] theorem zt57 : zeroT Try.prog 57 = some [.v (.int .i64 0), .z, .z, .v (.int .i64 0)] := by kernel_rfl
@[simp] theorem in57 : (Try.prog.info? 57).isSome = true := by kernel_rfl
attribute [simp] Try.underlying61
@[simp] theorem co61 : Try.prog.cellsOf 61 = 1 := by kernel_rfl
@[simp] theorem el61 : elemOf Try.prog 61 = 41 := by unfold elemOf; rw [Try.underlying61]
@[simp] theorem ft61 : fieldTypes Try.prog 61 = [61] := by unfold fieldTypes; rw [Try.underlying61]
@[simp] theorem ek61 : elemOk Try.prog 61 = true := by kernel_rfl
@[simp] theorem zt61 : zeroT Try.prog 61 = some [.z] := by kernel_rfl
@[simp] theorem in61 : (Try.prog.info? 61).isSome = true := by kernel_rfl
attribute [simp] Try.underlying68
@[simp] theorem co68 : Try.prog.cellsOf 68 = 1 := by kernel_rfl
@[simp] theorem el68 : elemOf Try.prog 68 = 5 := by unfold elemOf; rw [Try.underlying68]
@[simp] theorem ft68 : fieldTypes Try.prog 68 = [68] := by unfold fieldTypes; rw [Try.underlying68]
@[simp] theorem ek68 : elemOk Try.prog 68 = true := by kernel_rfl
@[simp] theorem zt68 : zeroT Try.prog 68 = some [.z] := by kernel_rfl
@[simp] theorem in68 : (Try.prog.info? 68).isSome = true := by kernel_rfl
attribute [simp] Try.underlying75
@[simp] theorem co75 : Try.prog.cellsOf 75 = 3 := by kernel_rfl
@[simp] theorem ft75 : fieldTypes Try.prog 75 = [3, 3, 3] := by unfold fieldTypes; rw [Try.underlying75]; rfl
@[simp] theorem ek75 : elemOk Try.prog 75 = true := by kernel_rfl
@[simp] theorem zt75 : zeroT Try.prog 75 = some [.v (.int .i64 0), .v (.int .i64 0), .v (.int .i64 0)] := by kernel_rfl
@[simp] theorem in75 : (Try.prog.info? 75).isSome = true := by kernel_rfl
attribute [simp] Try.underlying81
@[simp] theorem co81 : Try.prog.cellsOf 81 = 3 := by kernel_rfl
@[simp] theorem ft81 : fieldTypes Try.prog 81 = [3, 3, 3] := by unfold fieldTypes; rw [Try.underlying81]; rfl
@[simp] theorem ek81 : elemOk Try.prog 81 = true := by kernel_rfl
@[simp] theorem zt81 : zeroT Try.prog 81 = some [.v (.int .i64 0), .v (.int .i64 0), .v (.int .i64 0)] := by kernel_rfl
@[simp] theorem in81 : (Try.prog.info? 81).isSome = true := by kernel_rfl
attribute [simp] Try.underlying90
@[simp] theorem co90 : Try.prog.cellsOf 90 = 2 := by kernel_rfl
@[simp] theorem ft90 : fieldTypes Try.prog 90 = [4, 3] := by unfold fieldTypes; rw [Try.underlying90]; rfl
@[simp] theorem ek90 : elemOk Try.prog 90 = true := by kernel_rfl
@[simp] theorem zt90 : zeroT Try.prog 90 = some [.v (.bool false), .v (.int .i64 0)] := by kernel_rfl
@[simp] theorem in90 : (Try.prog.info? 90).isSome = true := by kernel_rfl
attribute [simp] Try.underlying92
@[simp] theorem co92 : Try.prog.cellsOf 92 = 2 := by kernel_rfl
@[simp] theorem ft92 : fieldTypes Try.prog 92 = [4, 3] := by unfold fieldTypes; rw [Try.underlying92]; rfl
@[simp] theorem ek92 : elemOk Try.prog 92 = true := by kernel_rfl
@[simp] theorem zt92 : zeroT Try.prog 92 = some [.v (.bool false), .v (.int .i64 0)] := by kernel_rfl
@[simp] theorem in92 : (Try.prog.info? 92).isSome = true := by kernel_rfl
attribute [simp] Try.underlying113
@[simp] theorem co113 : Try.prog.cellsOf 113 = 3 := by kernel_rfl
@[simp] theorem ft113 : fieldTypes Try.prog 113 = [68, 3, 3] := by unfold fieldTypes; rw [Try.underlying113]; rfl
@[simp] theorem ek113 : elemOk Try.prog 113 = true := by kernel_rfl
@[simp] theorem zt113 : zeroT Try.prog 113 = some [.z, .v (.int .i64 0), .v (.int .i64 0)] := by kernel_rfl
@[simp] theorem in113 : (Try.prog.info? 113).isSome = true := by kernel_rfl
@[simp] theorem nt3 : Try.f3.ntmps = 1 := (rfl)
@[simp] theorem rs3 : Try.f3.results.toList = [.tmp 0] := (rfl)
@[simp] theorem rt3 : Try.f3.resultTypes.toList = [4] := (rfl)
@[simp] theorem nt4 : Try.f4.ntmps = 36 := (rfl)
@[simp] theorem rs4 : Try.f4.results.toList = [.tmp 0] := (rfl)
@[simp] theorem rt4 : Try.f4.resultTypes.toList = [4] := (rfl)
@[simp] theorem nt5 : Try.f5.ntmps = 35 := (rfl)
@[simp] theorem rs5 : Try.f5.results.toList = [.tmp 6] := (rfl)
@[simp] theorem rt5 : Try.f5.resultTypes.toList = [4] := (rfl)
@[simp] theorem nt6 : Try.f6.ntmps = 39 := (rfl)
@[simp] theorem rs6 : Try.f6.results.toList = [.tmp 8] := (rfl)
@[simp] theorem rt6 : Try.f6.resultTypes.toList = [4] := (rfl)
@[simp] theorem nt7 : Try.f7.ntmps = 22 := (rfl)
@[simp] theorem rs7 : Try.f7.results.toList = [.tmp 6] := (rfl)
@[simp] theorem rt7 : Try.f7.resultTypes.toList = [4] := (rfl)
@[simp] theorem nt8 : Try.f8.ntmps = 69 := (rfl)
@[simp] theorem rs8 : Try.f8.results.toList = [.tmp 2] := (rfl)
@[simp] theorem rt8 : Try.f8.resultTypes.toList = [4] := (rfl)
@[simp] theorem nt9 : Try.f9.ntmps = 79 := (rfl)
@[simp] theorem rs9 : Try.f9.results.toList = [.tmp 6] := (rfl)
@[simp] theorem rt9 : Try.f9.resultTypes.toList = [4] := (rfl)
@[simp] theorem nt10 : Try.f10.ntmps = 45 := (rfl)
@[simp] theorem rs10 : Try.f10.results.toList = [.tmp 4] := (rfl)
@[simp] theorem rt10 : Try.f10.resultTypes.toList = [4] := (rfl)
@[simp] theorem nt11 : Try.f11.ntmps = 31 := (rfl)
@[simp] theorem rs11 : Try.f11.results.toList = [.tmp 4] := (rfl)
@[simp] theorem rt11 : Try.f11.resultTypes.toList = [4] := (rfl)
@[simp] theorem nt12 : Try.f12.ntmps = 65 := (rfl)
@[simp] theorem rs12 : Try.f12.results.toList = [.tmp 2] := (rfl)
@[simp] theorem rt12 : Try.f12.resultTypes.toList = [4] := (rfl)
@[simp] theorem nt13 : Try.f13.ntmps = 46 := (rfl)
@[simp] theorem rs13 : Try.f13.results.toList = [.tmp 4] := (rfl)
@[simp] theorem rt13 : Try.f13.resultTypes.toList = [4] := (rfl)
@[simp] theorem nt14 : Try.f14.ntmps = 104 := (rfl)
@[simp] theorem rs14 : Try.f14.results.toList = [.tmp 2] := (rfl)
@[simp] theorem rt14 : Try.f14.resultTypes.toList = [4] := (rfl)
@[simp] theorem nt15 : Try.f15.ntmps = 3 := (rfl)
@[simp] theorem rs15 : Try.f15.results.toList = [.cell 0 25] := (rfl)
@[simp] theorem rt15 : Try.f15.resultTypes.toList = [25] := (rfl)
@[simp] theorem nt16 : Try.f16.ntmps = 3 := (rfl)
@[simp] theorem rs16 : Try.f16.results.toList = [.cell 0 25] := (rfl)
@[simp] theorem rt16 : Try.f16.resultTypes.toList = [25] := (rfl)
@[simp] theorem nt17 : Try.f17.ntmps = 27 := (rfl)
@[simp] theorem rs17 : Try.f17.results.toList = [.tmp 4] := (rfl)
@[simp] theorem rt17 : Try.f17.resultTypes.toList = [4] := (rfl)
@[simp] theorem nt18 : Try.f18.ntmps = 14 := (rfl)
@[simp] theorem rs18 : Try.f18.results.toList = [.tmp 4] := (rfl)
@[simp] theorem rt18 : Try.f18.resultTypes.toList = [3] := (rfl)
@[simp] theorem nt19 : Try.f19.ntmps = 18 := (rfl)
@[simp] theorem rs19 : Try.f19.results.toList = [.tmp 4] := (rfl)
@[simp] theorem rt19 : Try.f19.resultTypes.toList = [3] := (rfl)
@[simp] theorem nt20 : Try.f20.ntmps = 12 := (rfl)
@[simp] theorem rs20 : Try.f20.results.toList = [.tmp 4] := (rfl)
@[simp] theorem rt20 : Try.f20.resultTypes.toList = [3] := (rfl)
@[simp] theorem nt21 : Try.f21.ntmps = 12 := (rfl)
@[simp] theorem rs21 : Try.f21.results.toList = [.tmp 6] := (rfl)
@[simp] theorem rt21 : Try.f21.resultTypes.toList = [3] := (rfl)
@[simp] theorem nt22 : Try.f22.ntmps = 23 := (rfl)
@[simp] theorem rs22 : Try.f22.results.toList = [.tmp 2] := (rfl)
@[simp] theorem rt22 : Try.f22.resultTypes.toList = [32] := (rfl)
@[simp] theorem nt23 : Try.f23.ntmps = 12 := (rfl)
@[simp] theorem rs23 : Try.f23.results.toList = [.tmp 6] := (rfl)
@[simp] theorem rt23 : Try.f23.resultTypes.toList = [3] := (rfl)
@[simp] theorem nt24 : Try.f24.ntmps = 27 := (rfl)
@[simp] theorem rs24 : Try.f24.results.toList = [.tmp 4] := (rfl)
@[simp] theorem rt24 : Try.f24.resultTypes.toList = [4] := (rfl)
@[simp] theorem nt25 : Try.f25.ntmps = 37 := (rfl)
@[simp] theorem rs25 : Try.f25.results.toList = [.tmp 8] := (rfl)
@[simp] theorem rt25 : Try.f25.resultTypes.toList = [3] := (rfl)
@[simp] theorem nt26 : Try.f26.ntmps = 29 := (rfl)
@[simp] theorem rs26 : Try.f26.results.toList = [.tmp 8] := (rfl)
@[simp] theorem rt26 : Try.f26.resultTypes.toList = [3] := (rfl)
@[simp] theorem nt27 : Try.f27.ntmps = 151 := (rfl)
@[simp] theorem rs27 : Try.f27.results.toList = [.tmp 6] := (rfl)
@[simp] theorem rt27 : Try.f27.resultTypes.toList = [4] := (rfl)
@[simp] theorem nt28 : Try.f28.ntmps = 20 := (rfl)
@[simp] theorem rs28 : Try.f28.results.toList = [.cell 2 41] := (rfl)
@[simp] theorem rt28 : Try.f28.resultTypes.toList = [41] := (rfl)
@[simp] theorem nt29 : Try.f29.ntmps = 95 := (rfl)
@[simp] theorem rs29 : Try.f29.results.toList = [.tmp 6] := (rfl)
@[simp] theorem rt29 : Try.f29.resultTypes.toList = [4] := (rfl)
@[simp] theorem nt30 : Try.f30.ntmps = 12 := (rfl)
@[simp] theorem rs30 : Try.f30.results.toList = [.tmp 4] := (rfl)
@[simp] theorem rt30 : Try.f30.resultTypes.toList = [3] := (rfl)
@[simp] theorem nt31 : Try.f31.ntmps = 27 := (rfl)
@[simp] theorem rs31 : Try.f31.results.toList = [.tmp 2] := (rfl)
@[simp] theorem rt31 : Try.f31.resultTypes.toList = [23] := (rfl)
@[simp] theorem nt32 : Try.f32.ntmps = 23 := (rfl)
@[simp] theorem rs32 : Try.f32.results.toList = [.tmp 2] := (rfl)
@[simp] theorem rt32 : Try.f32.resultTypes.toList = [47] := (rfl)
@[simp] theorem nt33 : Try.f33.ntmps = 23 := (rfl)
@[simp] theorem rs33 : Try.f33.results.toList = [.tmp 2] := (rfl)
@[simp] theorem rt33 : Try.f33.resultTypes.toList = [23] := (rfl)
@[simp] theorem nt34 : Try.f34.ntmps = 26 := (rfl)
@[simp] theorem rs34 : Try.f34.results.toList = [.tmp 4] := (rfl)
@[simp] theorem rt34 : Try.f34.resultTypes.toList = [4] := (rfl)
@[simp] theorem nt35 : Try.f35.ntmps = 27 := (rfl)
@[simp] theorem rs35 : Try.f35.results.toList = [.tmp 4] := (rfl)
@[simp] theorem rt35 : Try.f35.resultTypes.toList = [4] := (rfl)
@[simp] theorem nt36 : Try.f36.ntmps = 29 := (rfl)
@[simp] theorem rs36 : Try.f36.results.toList = [.tmp 4] := (rfl)
@[simp] theorem rt36 : Try.f36.resultTypes.toList = [3] := (rfl)
@[simp] theorem nt37 : Try.f37.ntmps = 19 := (rfl)
@[simp] theorem rs37 : Try.f37.results.toList = [.tmp 4] := (rfl)
@[simp] theorem rt37 : Try.f37.resultTypes.toList = [3] := (rfl)
@[simp] theorem nt38 : Try.f38.ntmps = 21 := (rfl)
@[simp] theorem rs38 : Try.f38.results.toList = [.tmp 4] := (rfl)
@[simp] theorem rt38 : Try.f38.resultTypes.toList = [3] := (rfl)
@[simp] theorem nt39 : Try.f39.ntmps = 41 := (rfl)
@[simp] theorem rs39 : Try.f39.results.toList = [.tmp 6] := (rfl)
@[simp] theorem rt39 : Try.f39.resultTypes.toList = [23] := (rfl)
@[simp] theorem nt40 : Try.f40.ntmps = 28 := (rfl)
@[simp] theorem rs40 : Try.f40.results.toList = [.tmp 6] := (rfl)
@[simp] theorem rt40 : Try.f40.resultTypes.toList = [23] := (rfl)
@[simp] theorem nt41 : Try.f41.ntmps = 34 := (rfl)
@[simp] theorem rs41 : Try.f41.results.toList = [.tmp 4] := (rfl)
@[simp] theorem rt41 : Try.f41.resultTypes.toList = [3] := (rfl)
@[simp] theorem nt42 : Try.f42.ntmps = 12 := (rfl)
@[simp] theorem rs42 : Try.f42.results.toList = [.tmp 4] := (rfl)
@[simp] theorem rt42 : Try.f42.resultTypes.toList = [3] := (rfl)
@[simp] theorem nt43 : Try.f43.ntmps = 18 := (rfl)
@[simp] theorem rs43 : Try.f43.results.toList = [.tmp 4] := (rfl)
@[simp] theorem rt43 : Try.f43.resultTypes.toList = [3] := (rfl)
@[simp] theorem nt44 : Try.f44.ntmps = 57 := (rfl)
@[simp] theorem rs44 : Try.f44.results.toList = [.tmp 4] := (rfl)
@[simp] theorem rt44 : Try.f44.resultTypes.toList = [4] := (rfl)
@[simp] theorem nt45 : Try.f45.ntmps = 23 := (rfl)
@[simp] theorem rs45 : Try.f45.results.toList = [.tmp 2] := (rfl)
@[simp] theorem rt45 : Try.f45.resultTypes.toList = [61] := (rfl)
@[simp] theorem nt46 : Try.f46.ntmps = 19 := (rfl)
@[simp] theorem rs46 : Try.f46.results.toList = [.cell 2 25] := (rfl)
@[simp] theorem rt46 : Try.f46.resultTypes.toList = [25] := (rfl)
@[simp] theorem nt47 : Try.f47.ntmps = 38 := (rfl)
@[simp] theorem rs47 : Try.f47.results.toList = [.tmp 4] := (rfl)
@[simp] theorem rt47 : Try.f47.resultTypes.toList = [4] := (rfl)
@[simp] theorem nt48 : Try.f48.ntmps = 27 := (rfl)
@[simp] theorem rs48 : Try.f48.results.toList = [.tmp 4] := (rfl)
@[simp] theorem rt48 : Try.f48.resultTypes.toList = [4] := (rfl)
@[simp] theorem nt49 : Try.f49.ntmps = 28 := (rfl)
@[simp] theorem rs49 : Try.f49.results.toList = [.tmp 4] := (rfl)
@[simp] theorem rt49 : Try.f49.resultTypes.toList = [4] := (rfl)
@[simp] theorem nt50 : Try.f50.ntmps = 14 := (rfl)
@[simp] theorem rs50 : Try.f50.results.toList = [.tmp 4] := (rfl)
@[simp] theorem rt50 : Try.f50.resultTypes.toList = [4] := (rfl)
@[simp] theorem nt51 : Try.f51.ntmps = 6 := (rfl)
@[simp] theorem rs51 : Try.f51.results.toList = [.tmp 2] := (rfl)
@[simp] theorem rt51 : Try.f51.resultTypes.toList = [4] := (rfl)
@[simp] theorem nt52 : Try.f52.ntmps = 14 := (rfl)
@[simp] theorem rs52 : Try.f52.results.toList = [.tmp 2, .tmp 3] := (rfl)
@[simp] theorem rt52 : Try.f52.resultTypes.toList = [61, 3] := (rfl)
@[simp] theorem nt53 : Try.f53.ntmps = 20 := (rfl)
@[simp] theorem rs53 : Try.f53.results.toList = [.cell 2 41, .tmp 3, .tmp 4] := (rfl)
@[simp] theorem rt53 : Try.f53.resultTypes.toList = [41, 3, 3] := (rfl)
@[simp] theorem nt54 : Try.f54.ntmps = 13 := (rfl)
@[simp] theorem rs54 : Try.f54.results.toList = [.cell 4 75] := (rfl)
@[simp] theorem rt54 : Try.f54.resultTypes.toList = [75] := (rfl)
@[simp] theorem nt55 : Try.f55.ntmps = 23 := (rfl)
@[simp] theorem rs55 : Try.f55.results.toList = [.cell 4 75] := (rfl)
@[simp] theorem rt55 : Try.f55.resultTypes.toList = [75] := (rfl)
@[simp] theorem nt56 : Try.f56.ntmps = 20 := (rfl)
@[simp] theorem rs56 : Try.f56.results.toList = [.tmp 4] := (rfl)
@[simp] theorem rt56 : Try.f56.resultTypes.toList = [4] := (rfl)
@[simp] theorem nt57 : Try.f57.ntmps = 27 := (rfl)
@[simp] theorem rs57 : Try.f57.results.toList = [.tmp 2, .tmp 3, .tmp 4, .tmp 5] := (rfl)
@[simp] theorem rt57 : Try.f57.resultTypes.toList = [32, 3, 3, 3] := (rfl)
@[simp] theorem nt58 : Try.f58.ntmps = 26 := (rfl)
@[simp] theorem rs58 : Try.f58.results.toList = [.tmp 4] := (rfl)
@[simp] theorem rt58 : Try.f58.resultTypes.toList = [4] := (rfl)
@[simp] theorem nt59 : Try.f59.ntmps = 14 := (rfl)
@[simp] theorem rs59 : Try.f59.results.toList = [.cell 2 75] := (rfl)
@[simp] theorem rt59 : Try.f59.resultTypes.toList = [75] := (rfl)
@[simp] theorem nt60 : Try.f60.ntmps = 17 := (rfl)
@[simp] theorem rs60 : Try.f60.results.toList = [.tmp 6] := (rfl)
@[simp] theorem rt60 : Try.f60.resultTypes.toList = [4] := (rfl)
@[simp] theorem nt61 : Try.f61.ntmps = 15 := (rfl)
@[simp] theorem rs61 : Try.f61.results.toList = [.tmp 6] := (rfl)
@[simp] theorem rt61 : Try.f61.resultTypes.toList = [4] := (rfl)
@[simp] theorem nt62 : Try.f62.ntmps = 5 := (rfl)
@[simp] theorem rs62 : Try.f62.results.toList = [.tmp 2] := (rfl)
@[simp] theorem rt62 : Try.f62.resultTypes.toList = [4] := (rfl)
@[simp] theorem nt63 : Try.f63.ntmps = 24 := (rfl)
@[simp] theorem rs63 : Try.f63.results.toList = [.tmp 2, .tmp 3] := (rfl)
@[simp] theorem rt63 : Try.f63.resultTypes.toList = [9, 4] := (rfl)
@[simp] theorem nt64 : Try.f64.ntmps = 15 := (rfl)
@[simp] theorem rs64 : Try.f64.results.toList = [.tmp 6] := (rfl)
@[simp] theorem rt64 : Try.f64.resultTypes.toList = [4] := (rfl)
@[simp] theorem nt65 : Try.f65.ntmps = 14 := (rfl)
@[simp] theorem rs65 : Try.f65.results.toList = [.tmp 4] := (rfl)
@[simp] theorem rt65 : Try.f65.resultTypes.toList = [4] := (rfl)
@[simp] theorem nt66 : Try.f66.ntmps = 16 := (rfl)
@[simp] theorem rs66 : Try.f66.results.toList = [.tmp 4] := (rfl)
@[simp] theorem rt66 : Try.f66.resultTypes.toList = [4] := (rfl)
@[simp] theorem nt67 : Try.f67.ntmps = 5 := (rfl)
@[simp] theorem rs67 : Try.f67.results.toList = [.tmp 2] := (rfl)
@[simp] theorem rt67 : Try.f67.resultTypes.toList = [4] := (rfl)
@[simp] theorem nt68 : Try.f68.ntmps = 11 := (rfl)
@[simp] theorem rs68 : Try.f68.results.toList = [.cell 2 90] := (rfl)
@[simp] theorem rt68 : Try.f68.resultTypes.toList = [90] := (rfl)
@[simp] theorem nt69 : Try.f69.ntmps = 15 := (rfl)
@[simp] theorem rs69 : Try.f69.results.toList = [.tmp 4] := (rfl)
@[simp] theorem rt69 : Try.f69.resultTypes.toList = [4] := (rfl)
@[simp] theorem nt70 : Try.f70.ntmps = 12 := (rfl)
@[simp] theorem rs70 : Try.f70.results.toList = [.tmp 4] := (rfl)
@[simp] theorem rt70 : Try.f70.resultTypes.toList = [3] := (rfl)
@[simp] theorem nt71 : Try.f71.ntmps = 22 := (rfl)
@[simp] theorem rs71 : Try.f71.results.toList = [.tmp 2] := (rfl)
@[simp] theorem rt71 : Try.f71.resultTypes.toList = [23] := (rfl)
@[simp] theorem nt72 : Try.f72.ntmps = 6 := (rfl)
@[simp] theorem rs72 : Try.f72.results.toList = [.tmp 2] := (rfl)
@[simp] theorem rt72 : Try.f72.resultTypes.toList = [4] := (rfl)
@[simp] theorem nt73 : Try.f73.ntmps = 30 := (rfl)
@[simp] theorem rs73 : Try.f73.results.toList = [.tmp 4] := (rfl)
@[simp] theorem rt73 : Try.f73.resultTypes.toList = [4] := (rfl)
@[simp] theorem nt74 : Try.f74.ntmps = 9 := (rfl)
@[simp] theorem rs74 : Try.f74.results.toList = [.tmp 4] := (rfl)
@[simp] theorem rt74 : Try.f74.resultTypes.toList = [4] := (rfl)
@[simp] theorem nt75 : Try.f75.ntmps = 11 := (rfl)
@[simp] theorem rs75 : Try.f75.results.toList = [.tmp 4] := (rfl)
@[simp] theorem rt75 : Try.f75.resultTypes.toList = [4] := (rfl)
@[simp] theorem nt76 : Try.f76.ntmps = 32 := (rfl)
@[simp] theorem rs76 : Try.f76.results.toList = [.tmp 2] := (rfl)
@[simp] theorem rt76 : Try.f76.resultTypes.toList = [99] := (rfl)
@[simp] theorem nt77 : Try.f77.ntmps = 37 := (rfl)
@[simp] theorem rs77 : Try.f77.results.toList = [.tmp 2] := (rfl)
@[simp] theorem rt77 : Try.f77.resultTypes.toList = [61] := (rfl)
@[simp] theorem nt78 : Try.f78.ntmps = 12 := (rfl)
@[simp] theorem rs78 : Try.f78.results.toList = [.tmp 4] := (rfl)
@[simp] theorem rt78 : Try.f78.resultTypes.toList = [3] := (rfl)
@[simp] theorem nt79 : Try.f79.ntmps = 77 := (rfl)
@[simp] theorem rs79 : Try.f79.results.toList = [.cell 6 41] := (rfl)
@[simp] theorem rt79 : Try.f79.resultTypes.toList = [41] := (rfl)
@[simp] theorem nt80 : Try.f80.ntmps = 9 := (rfl)
@[simp] theorem rs80 : Try.f80.results.toList = [.tmp 4] := (rfl)
@[simp] theorem rt80 : Try.f80.resultTypes.toList = [4] := (rfl)
@[simp] theorem nt81 : Try.f81.ntmps = 38 := (rfl)
@[simp] theorem rs81 : Try.f81.results.toList = [.cell 4 41] := (rfl)
@[simp] theorem rt81 : Try.f81.resultTypes.toList = [41] := (rfl)
@[simp] theorem nt82 : Try.f82.ntmps = 17 := (rfl)
@[simp] theorem rs82 : Try.f82.results.toList = [.tmp 4] := (rfl)
@[simp] theorem rt82 : Try.f82.resultTypes.toList = [4] := (rfl)
@[simp] theorem nt83 : Try.f83.ntmps = 39 := (rfl)
@[simp] theorem rs83 : Try.f83.results.toList = [.cell 4 75] := (rfl)
@[simp] theorem rt83 : Try.f83.resultTypes.toList = [75] := (rfl)
@[simp] theorem nt84 : Try.f84.ntmps = 39 := (rfl)
@[simp] theorem rs84 : Try.f84.results.toList = [.cell 4 75] := (rfl)
@[simp] theorem rt84 : Try.f84.resultTypes.toList = [75] := (rfl)
@[simp] theorem nt85 : Try.f85.ntmps = 39 := (rfl)
@[simp] theorem rs85 : Try.f85.results.toList = [.tmp 2, .tmp 3, .tmp 4] := (rfl)
@[simp] theorem rt85 : Try.f85.resultTypes.toList = [32, 3, 3] := (rfl)
@[simp] theorem nt86 : Try.f86.ntmps = 37 := (rfl)
@[simp] theorem rs86 : Try.f86.results.toList = [.tmp 4] := (rfl)
@[simp] theorem rt86 : Try.f86.resultTypes.toList = [3] := (rfl)
@[simp] theorem nt87 : Try.f87.ntmps = 9 := (rfl)
@[simp] theorem rs87 : Try.f87.results.toList = [.tmp 4] := (rfl)
@[simp] theorem rt87 : Try.f87.resultTypes.toList = [4] := (rfl)
@[simp] theorem nt88 : Try.f88.ntmps = 9 := (rfl)
@[simp] theorem rs88 : Try.f88.results.toList = [.tmp 4] := (rfl)
@[simp] theorem rt88 : Try.f88.resultTypes.toList = [4] := (rfl)
@[simp] theorem nt89 : Try.f89.ntmps = 6 := (rfl)
@[simp] theorem rs89 : Try.f89.results.toList = [.tmp 2] := (rfl)
@[simp] theorem rt89 : Try.f89.resultTypes.toList = [4] := (rfl)
@[simp] theorem nt90 : Try.f90.ntmps = 19 := (rfl)
@[simp] theorem rs90 : Try.f90.results.toList = [.tmp 4] := (rfl)
@[simp] theorem rt90 : Try.f90.resultTypes.toList = [3] := (rfl)
@[simp] theorem nt91 : Try.f91.ntmps = 77 := (rfl)
@[simp] theorem rs91 : Try.f91.results.toList = [.tmp 6] := (rfl)
@[simp] theorem rt91 : Try.f91.resultTypes.toList = [61] := (rfl)
@[simp] theorem nt92 : Try.f92.ntmps = 52 := (rfl)
@[simp] theorem rs92 : Try.f92.results.toList = [.tmp 4] := (rfl)
@[simp] theorem rt92 : Try.f92.resultTypes.toList = [32] := (rfl)
@[simp] theorem nt93 : Try.f93.ntmps = 58 := (rfl)
@[simp] theorem rs93 : Try.f93.results.toList = [.tmp 2] := (rfl)
@[simp] theorem rt93 : Try.f93.resultTypes.toList = [3] := (rfl)
@[simp] theorem nt94 : Try.f94.ntmps = 19 := (rfl)
@[simp] theorem rs94 : Try.f94.results.toList = [.tmp 4] := (rfl)
@[simp] theorem rt94 : Try.f94.resultTypes.toList = [3] := (rfl)
@[simp] theorem nt95 : Try.f95.ntmps = 19 := (rfl)
@[simp] theorem rs95 : Try.f95.results.toList = [.tmp 4] := (rfl)
@[simp] theorem rt95 : Try.f95.resultTypes.toList = [3] := (rfl)
@[simp] theorem nt96 : Try.f96.ntmps = 20 := (rfl)
@[simp] theorem rs96 : Try.f96.results.toList = [.cell 6 25, .tmp 7] := (rfl)
@[simp] theorem rt96 : Try.f96.resultTypes.toList = [25, 4] := (rfl)
@[simp] theorem nt97 : Try.f97.ntmps = 14 := (rfl)
@[simp] theorem rs97 : Try.f97.results.toList = [.cell 2 25] := (rfl)
@[simp] theorem rt97 : Try.f97.resultTypes.toList = [25] := (rfl)
@[simp] theorem nt98 : Try.f98.ntmps = 96 := (rfl)
@[simp] theorem rs98 : Try.f98.results.toList = [.cell 6 25, .tmp 7] := (rfl)
@[simp] theorem rt98 : Try.f98.resultTypes.toList = [25, 4] := (rfl)
@[simp] theorem nt99 : Try.f99.ntmps = 18 := (rfl)
@[simp] theorem rs99 : Try.f99.results.toList = [.cell 4 25] := (rfl)
@[simp] theorem rt99 : Try.f99.resultTypes.toList = [25] := (rfl)
@[simp] theorem nt100 : Try.f100.ntmps = 5 := (rfl)
@[simp] theorem rs100 : Try.f100.results.toList = [.cell 2 25] := (rfl)
@[simp] theorem rt100 : Try.f100.resultTypes.toList = [25] := (rfl)
@[simp] theorem nt101 : Try.f101.ntmps = 87 := (rfl)
@[simp] theorem rs101 : Try.f101.results.toList = [.cell 4 25] := (rfl)
@[simp] theorem rt101 : Try.f101.resultTypes.toList = [25] := (rfl)
attribute [simp] op_fieldAddr op_indexAddr op_make op_slice m_build m_append op_build blt_len blt_len0 blt_lenS blt_cap
end Go.Proofs.Ytkfdfjjcjcadgaa.VM

