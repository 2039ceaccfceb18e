/- What the machine asks of the types and functions of the program. -/
import Derived.Test.YtninncdacekfgaaV3
import Derived.Test.YtninncdacekfgaaProg
import Derived.KernelRfl
namespace Go.Proofs.Ytninncdacekfgaa.VM
open Go Go.Proofs
set_option linter.unusedVariables false
set_option maxRecDepth 100000
attribute [simp] Try.underlying3
@[simp] theorem co3 : Try.prog.cellsOf 3 = 1 := by kernel_rfl
@[simp] theorem ft3 : fieldTypes Try.prog 3 = [3] := by unfold fieldTypes; rw [Try.underlying3]
@[simp] theorem ek3 : elemOk Try.prog 3 = true := by kernel_rfl
@[simp] theorem zt3 : zeroT Try.prog 3 = some [.v (.int .i64 0)] := by kernel_rfl
@[simp] theorem in3 : (Try.prog.info? 3).isSome = true := by kernel_rfl
attribute [simp] Try.underlying4
@[simp] theorem co4 : Try.prog.cellsOf 4 = 1 := by kernel_rfl
@[simp] theorem ft4 : fieldTypes Try.prog 4 = [4] := by unfold fieldTypes; rw [Try.underlying4]
@[simp] theorem ek4 : elemOk Try.prog 4 = true := by kernel_rfl
@[simp] theorem zt4 : zeroT Try.prog 4 = some [.v (.bool false)] := by kernel_rfl
@[simp] theorem in4 : (Try.prog.info? 4).isSome = true := by kernel_rfl
attribute [simp] Try.underlying5
@[simp] theorem co5 : Try.prog.cellsOf 5 = 1 := by kernel_rfl
@[simp] theorem ft5 : fieldTypes Try.prog 5 = [5] := by unfold fieldTypes; rw [Try.underlying5]
@[simp] theorem ek5 : elemOk Try.prog 5 = true := by kernel_rfl
@[simp] theorem zt5 : zeroT Try.prog 5 = some [.v (.int .u8 0)] := by kernel_rfl
@[simp] theorem in5 : (Try.prog.info? 5).isSome = true := by kernel_rfl
attribute [simp] Try.underlying9
@[simp] theorem co9 : Try.prog.cellsOf 9 = 1 := by kernel_rfl
@[simp] theorem ft9 : fieldTypes Try.prog 9 = [9] := by unfold fieldTypes; rw [Try.underlying9]
@[simp] theorem ek9 : elemOk Try.prog 9 = true := by kernel_rfl
@[simp] theorem zt9 : zeroT Try.prog 9 = some [.v (.string ByteArray.empty)] := by kernel_rfl
@[simp] theorem in9 : (Try.prog.info? 9).isSome = true := by kernel_rfl
attribute [simp] Try.underlying22
@[simp] theorem co22 : Try.prog.cellsOf 22 = 1 := by kernel_rfl
@[simp] theorem el22 : elemOf Try.prog 22 = 5 := by unfold elemOf; rw [Try.underlying22]
@[simp] theorem ft22 : fieldTypes Try.prog 22 = [22] := by unfold fieldTypes; rw [Try.underlying22]
@[simp] theorem ek22 : elemOk Try.prog 22 = true := by kernel_rfl
@[simp] theorem zt22 : zeroT Try.prog 22 = some [.z] := by kernel_rfl
@[simp] theorem in22 : (Try.prog.info? 22).isSome = true := by kernel_rfl
attribute [simp] Try.underlying24
@[simp] theorem co24 : Try.prog.cellsOf 24 = 1 := by kernel_rfl
@[simp] theorem el24 : elemOf Try.prog 24 = 40 := by unfold elemOf; rw [Try.underlying24]
@[simp] theorem ft24 : fieldTypes Try.prog 24 = [24] := by unfold fieldTypes; rw [Try.underlying24]
@[simp] theorem ek24 : elemOk Try.prog 24 = true := by kernel_rfl
@[simp] theorem zt24 : zeroT Try.prog 24 = some [.z] := by kernel_rfl
@[simp] theorem in24 : (Try.prog.info? 24).isSome = true := by kernel_rfl
attribute [simp] Try.underlying25
@[simp] theorem co25 : Try.prog.cellsOf 25 = 1 := by kernel_rfl
@[simp] theorem el25 : elemOf Try.prog 25 = 3 := by unfold elemOf; rw [Try.underlying25]
@[simp] theorem ft25 : fieldTypes Try.prog 25 = [25] := by unfold fieldTypes; rw [Try.underlying25]
@[simp] theorem ek25 : elemOk Try.prog 25 = true := by kernel_rfl
@[simp] theorem zt25 : zeroT Try.prog 25 = some [.z] := by kernel_rfl
@[simp] theorem in25 : (Try.prog.info? 25).isSome = true := by kernel_rfl
attribute [simp] Try.underlying27
@[simp] theorem co27 : Try.prog.cellsOf 27 = 4 := by kernel_rfl
@[simp] theorem ft27 : fieldTypes Try.prog 27 = [3, 25, 25, 3] := by unfold fieldTypes; rw [Try.underlying27]; rfl
@[simp] theorem ek27 : elemOk Try.prog 27 = true := by kernel_rfl
@[simp] theorem zt27 : zeroT Try.prog 27 = some [.v (.int .i64 0), .z, .z, .v (.int .i64 0)] := by kernel_rfl
@[simp] theorem in27 : (Try.prog.info? 27).isSome = true := by kernel_rfl
attribute [simp] Try.underlying29
@[simp] theorem co29 : Try.prog.cellsOf 29 = 3 := by kernel_rfl
@[simp] theorem ft29 : fieldTypes Try.prog 29 = [3, 3, 3] := by unfold fieldTypes; rw [Try.underlying29]; rfl
@[simp] theorem ek29 : elemOk Try.prog 29 = true := by kernel_rfl
@[simp] theorem zt29 : zeroT Try.prog 29 = some [.v (.int .i64 0), .v (.int .i64 0), .v (.int .i64 0)] := by kernel_rfl
@[simp] theorem in29 : (Try.prog.info? 29).isSome = true := by kernel_rfl
attribute [simp] Try.underlying38
@[simp] theorem co38 : Try.prog.cellsOf 38 = 1 := by kernel_rfl
@[simp] theorem el38 : elemOf Try.prog 38 = 24 := by unfold elemOf; rw [Try.underlying38]
@[simp] theorem ft38 : fieldTypes Try.prog 38 = [38] := by unfold fieldTypes; rw [Try.underlying38]
@[simp] theorem ek38 : elemOk Try.prog 38 = true := by kernel_rfl
@[simp] theorem zt38 : zeroT Try.prog 38 = some [.z] := by kernel_rfl
@[simp] theorem in38 : (Try.prog.info? 38).isSome = true := by kernel_rfl
attribute [simp] Try.underlying40
@[simp] theorem co40 : Try.prog.cellsOf 40 = 5 := by kernel_rfl
@[simp] theorem ft40 : fieldTypes Try.prog 40 = [3, 3, 3, 3, 3] := by unfold fieldTypes; rw [Try.underlying40]; rfl
@[simp] theorem ek40 : elemOk Try.prog 40 = true := by kernel_rfl
@[simp] theorem zt40 : zeroT Try.prog 40 = some [.v (.int .i64 0), .v (.int .i64 0), .v (.int .i64 0), .v (.int .i64 0), .v (.int .i64 0)] := by kernel_rfl
@[simp] theorem in40 : (Try.prog.info? 40).isSome = true := by kernel_rfl
attribute [simp] Try.underlying41
@[simp] theorem co41 : Try.prog.cellsOf 41 = 1 := by kernel_rfl
@[simp] theorem el41 : elemOf Try.prog 41 = 27 := by unfold elemOf; rw [Try.underlying41]
@[simp] theorem ft41 : fieldTypes Try.prog 41 = [41] := by unfold fieldTypes; rw [Try.underlying41]
@[simp] theorem ek41 : elemOk Try.prog 41 = true := by kernel_rfl
@[simp] theorem zt41 : zeroT Try.prog 41 = some [.z] := by kernel_rfl
@[simp] theorem in41 : (Try.prog.info? 41).isSome = true := by kernel_rfl
attribute [simp] Try.underlying42
@[simp] theorem co42 : Try.prog.cellsOf 42 = 1 := by kernel_rfl
@[simp] theorem el42 : elemOf Try.prog 42 = 92 := by unfold elemOf; rw [Try.underlying42]
@[simp] theorem ft42 : fieldTypes Try.prog 42 = [42] := by unfold fieldTypes; rw [Try.underlying42]
@[simp] theorem ek42 : elemOk Try.prog 42 = true := by kernel_rfl
@[simp] theorem zt42 : zeroT Try.prog 42 = some [.z] := by kernel_rfl
@[simp] theorem in42 : (Try.prog.info? 42).isSome = true := by kernel_rfl
attribute [simp] Try.underlying43
@[simp] theorem co43 : Try.prog.cellsOf 43 = 1 := by kernel_rfl
@[simp] theorem el43 : elemOf Try.prog 43 = 54 := by unfold elemOf; rw [Try.underlying43]
@[simp] theorem ft43 : fieldTypes Try.prog 43 = [43] := by unfold fieldTypes; rw [Try.underlying43]
@[simp] theorem ek43 : elemOk Try.prog 43 = true := by kernel_rfl
@[simp] theorem zt43 : zeroT Try.prog 43 = some [.z] := by kernel_rfl
@[simp] theorem in43 : (Try.prog.info? 43).isSome = true := by kernel_rfl
attribute [simp] Try.underlying45
@[simp] theorem co45 : Try.prog.cellsOf 45 = 4 := by kernel_rfl
@[simp] theorem ft45 : fieldTypes Try.prog 45 = [38, 41, 42, 43] := by unfold fieldTypes; rw [Try.underlying45]; rfl
@[simp] theorem ek45 : elemOk Try.prog 45 = true := by kernel_rfl
@[simp] theorem zt45 : zeroT Try.prog 45 = some [.z, .z, .z, .z] := by kernel_rfl
@[simp] theorem in45 : (Try.prog.info? 45).isSome = true := by kernel_rfl
attribute [simp] Try.underlying54
@[simp] theorem co54 : Try.prog.cellsOf 54 = 1 := by kernel_rfl
@[simp] theorem el54 : elemOf Try.prog 54 = 29 := by unfold elemOf; rw [Try.underlying54]
@[simp] theorem ft54 : fieldTypes Try.prog 54 = [54] := by unfold fieldTypes; rw [Try.underlying54]
@[simp] theorem ek54 : elemOk Try.prog 54 = true := by kernel_rfl
@[simp] theorem zt54 : zeroT Try.prog 54 = some [.z] := by kernel_rfl
@[simp] theorem in54 : (Try.prog.info? 54).isSome = true := by kernel_rfl
attribute [simp] Try.underlying78
@[simp] theorem co78 : Try.prog.cellsOf 78 = 1 := by kernel_rfl
@[simp] theorem el78 : elemOf Try.prog 78 = 25 := by unfold elemOf; rw [Try.underlying78]
@[simp] theorem ft78 : fieldTypes Try.prog 78 = [78] := by unfold fieldTypes; rw [Try.underlying78]
@[simp] theorem ek78 : elemOk Try.prog 78 = true := by kernel_rfl
@[simp] theorem zt78 : zeroT Try.prog 78 = some [.z] := by kernel_rfl
@[simp] theorem in78 : (Try.prog.info? 78).isSome = true := by kernel_rfl
attribute [simp] Try.underlying79
@[simp] theorem co79 : Try.prog.cellsOf 79 = 1 := by kernel_rfl
@[simp] theorem el79 : elemOf Try.prog 79 = 78 := by unfold elemOf; rw [Try.underlying79]
@[simp] theorem ft79 : fieldTypes Try.prog 79 = [79] := by unfold fieldTypes; rw [Try.underlying79]
@[simp] theorem ek79 : elemOk Try.prog 79 = true := by kernel_rfl
@[simp] theorem zt79 : zeroT Try.prog 79 = some [.z] := by kernel_rfl
@[simp] theorem in79 : (Try.prog.info? 79).isSome = true := by kernel_rfl
attribute [simp] Try.underlying82
@[simp] theorem co82 : Try.prog.cellsOf 82 = 3 := by kernel_rfl
@[simp] theorem ft82 : fieldTypes Try.prog 82 = [22, 3, 3] := by unfold fieldTypes; rw [Try.underlying82]; rfl
@[simp] theorem ek82 : elemOk Try.prog 82 = true := by kernel_rfl
@[simp] theorem zt82 : zeroT Try.prog 82 = some [.z, .v (.int .i64 0), .v (.int .i64 0)] := by kernel_rfl
@[simp] theorem in82 : (Try.prog.info? 82).isSome = true := by kernel_rfl
attribute [simp] Try.underlying92
@[simp] theorem co92 : Try.prog.cellsOf 92 = 1 := by kernel_rfl
@[simp] theorem el92 : elemOf Try.prog 92 = 100 := by unfold elemOf; rw [Try.underlying92]
@[simp] theorem ft92 : fieldTypes Try.prog 92 = [92] := by unfold fieldTypes; rw [Try.underlying92]
@[simp] theorem ek92 : elemOk Try.prog 92 = true := by kernel_rfl
@[simp] theorem zt92 : zeroT Try.prog 92 = some [.z] := by kernel_rfl
@[simp] theorem in92 : (Try.prog.info? 92).isSome = true := by kernel_rfl
attribute [simp] Try.underlying95
@[simp] theorem co95 : Try.prog.cellsOf 95 = 1 := by kernel_rfl
@[simp] theorem el95 : elemOf Try.prog 95 = 110 := by unfold elemOf; rw [Try.underlying95]
@[simp] theorem ft95 : fieldTypes Try.prog 95 = [95] := by unfold fieldTypes; rw [Try.underlying95]
@[simp] theorem ek95 : elemOk Try.prog 95 = true := by kernel_rfl
@[simp] theorem zt95 : zeroT Try.prog 95 = some [.z] := by kernel_rfl
@[simp] theorem in95 : (Try.prog.info? 95).isSome = true := by kernel_rfl
attribute [simp] Try.underlying100
@[simp] theorem co100 : Try.prog.cellsOf 100 = 2 := by kernel_rfl
@[simp] theorem ft100 : fieldTypes Try.prog 100 = [4, 3] := by unfold fieldTypes; rw [Try.underlying100]; rfl
@[simp] theorem ek100 : elemOk Try.prog 100 = true := by kernel_rfl
@[simp] theorem zt100 : zeroT Try.prog 100 = some [.v (.bool false), .v (.int .i64 0)] := by kernel_rfl
@[simp] theorem in100 : (Try.prog.info? 100).isSome = true := by kernel_rfl
attribute [simp] Try.underlying110
@[simp] theorem co110 : Try.prog.cellsOf 110 = 2 := by kernel_rfl
@[simp] theorem ft110 : fieldTypes Try.prog 110 = [3, 3] := by unfold fieldTypes; rw [Try.underlying110]; rfl
@[simp] theorem ek110 : elemOk Try.prog 110 = true := by kernel_rfl
@[simp] theorem zt110 : zeroT Try.prog 110 = some [.v (.int .i64 0), .v (.int .i64 0)] := by kernel_rfl
@[simp] theorem in110 : (Try.prog.info? 110).isSome = true := by kernel_rfl
@[simp] theorem nt0 : Try.f0.ntmps = 0 := (rfl)
@[simp] theorem rs0 : Try.f0.results.toList = [] := (rfl)
@[simp] theorem rt0 : Try.f0.resultTypes.toList = [] := (rfl)
@[simp] theorem nt1 : Try.f1.ntmps = 0 := (rfl)
@[simp] theorem rs1 : Try.f1.results.toList = [] := (rfl)
@[simp] theorem rt1 : Try.f1.resultTypes.toList = [] := (rfl)
@[simp] theorem nt2 : Try.f2.ntmps = 1 := (rfl)
@[simp] theorem rs2 : Try.f2.results.toList = [] := (rfl)
@[simp] theorem rt2 : Try.f2.resultTypes.toList = [] := (rfl)
@[simp] theorem nt3 : Try.f3.ntmps = 81 := (rfl)
@[simp] theorem rs3 : Try.f3.results.toList = [.tmp 2] := (rfl)
@[simp] theorem rt3 : Try.f3.resultTypes.toList = [4] := (rfl)
@[simp] theorem nt4 : Try.f4.ntmps = 136 := (rfl)
@[simp] theorem rs4 : Try.f4.results.toList = [.tmp 2] := (rfl)
@[simp] theorem rt4 : Try.f4.resultTypes.toList = [4] := (rfl)
@[simp] theorem nt5 : Try.f5.ntmps = 6 := (rfl)
@[simp] theorem rs5 : Try.f5.results.toList = [.tmp 2] := (rfl)
@[simp] theorem rt5 : Try.f5.resultTypes.toList = [4] := (rfl)
@[simp] theorem nt6 : Try.f6.ntmps = 52 := (rfl)
@[simp] theorem rs6 : Try.f6.results.toList = [.tmp 2, .cell 3 27, .cell 4 29] := (rfl)
@[simp] theorem rt6 : Try.f6.resultTypes.toList = [24, 27, 29] := (rfl)
@[simp] theorem nt7 : Try.f7.ntmps = 27 := (rfl)
@[simp] theorem rs7 : Try.f7.results.toList = [.cell 6 27, .tmp 7] := (rfl)
@[simp] theorem rt7 : Try.f7.resultTypes.toList = [27, 4] := (rfl)
@[simp] theorem nt8 : Try.f8.ntmps = 20 := (rfl)
@[simp] theorem rs8 : Try.f8.results.toList = [.cell 6 27, .tmp 7] := (rfl)
@[simp] theorem rt8 : Try.f8.resultTypes.toList = [27, 4] := (rfl)
@[simp] theorem nt9 : Try.f9.ntmps = 23 := (rfl)
@[simp] theorem rs9 : Try.f9.results.toList = [.cell 4 29] := (rfl)
@[simp] theorem rt9 : Try.f9.resultTypes.toList = [29] := (rfl)
@[simp] theorem nt10 : Try.f10.ntmps = 13 := (rfl)
@[simp] theorem rs10 : Try.f10.results.toList = [.cell 4 29] := (rfl)
@[simp] theorem rt10 : Try.f10.resultTypes.toList = [29] := (rfl)
@[simp] theorem nt11 : Try.f11.ntmps = 31 := (rfl)
@[simp] theorem rs11 : Try.f11.results.toList = [.tmp 4] := (rfl)
@[simp] theorem rt11 : Try.f11.resultTypes.toList = [4] := (rfl)
@[simp] theorem nt12 : Try.f12.ntmps = 38 := (rfl)
@[simp] theorem rs12 : Try.f12.results.toList = [.tmp 4] := (rfl)
@[simp] theorem rt12 : Try.f12.resultTypes.toList = [4] := (rfl)
@[simp] theorem nt13 : Try.f13.ntmps = 57 := (rfl)
@[simp] theorem rs13 : Try.f13.results.toList = [.tmp 4] := (rfl)
@[simp] theorem rt13 : Try.f13.resultTypes.toList = [4] := (rfl)
@[simp] theorem nt14 : Try.f14.ntmps = 20 := (rfl)
@[simp] theorem rs14 : Try.f14.results.toList = [.tmp 4] := (rfl)
@[simp] theorem rt14 : Try.f14.resultTypes.toList = [3] := (rfl)
@[simp] theorem nt15 : Try.f15.ntmps = 46 := (rfl)
@[simp] theorem rs15 : Try.f15.results.toList = [.cell 2 45, .tmp 3] := (rfl)
@[simp] theorem rt15 : Try.f15.resultTypes.toList = [45, 4] := (rfl)
@[simp] theorem nt16 : Try.f16.ntmps = 48 := (rfl)
@[simp] theorem rs16 : Try.f16.results.toList = [.cell 4 45, .tmp 5] := (rfl)
@[simp] theorem rt16 : Try.f16.resultTypes.toList = [45, 3] := (rfl)
@[simp] theorem nt17 : Try.f17.ntmps = 19 := (rfl)
@[simp] theorem rs17 : Try.f17.results.toList = [.tmp 2] := (rfl)
@[simp] theorem rt17 : Try.f17.resultTypes.toList = [4] := (rfl)
@[simp] theorem nt18 : Try.f18.ntmps = 26 := (rfl)
@[simp] theorem rs18 : Try.f18.results.toList = [.tmp 4] := (rfl)
@[simp] theorem rt18 : Try.f18.resultTypes.toList = [4] := (rfl)
@[simp] theorem nt19 : Try.f19.ntmps = 19 := (rfl)
@[simp] theorem rs19 : Try.f19.results.toList = [.tmp 4] := (rfl)
@[simp] theorem rt19 : Try.f19.resultTypes.toList = [25] := (rfl)
@[simp] theorem nt20 : Try.f20.ntmps = 50 := (rfl)
@[simp] theorem rs20 : Try.f20.results.toList = [.cell 6 45, .tmp 7] := (rfl)
@[simp] theorem rt20 : Try.f20.resultTypes.toList = [45, 3] := (rfl)
@[simp] theorem nt21 : Try.f21.ntmps = 32 := (rfl)
@[simp] theorem rs21 : Try.f21.results.toList = [.tmp 4] := (rfl)
@[simp] theorem rt21 : Try.f21.resultTypes.toList = [4] := (rfl)
@[simp] theorem nt22 : Try.f22.ntmps = 32 := (rfl)
@[simp] theorem rs22 : Try.f22.results.toList = [.tmp 4] := (rfl)
@[simp] theorem rt22 : Try.f22.resultTypes.toList = [4] := (rfl)
@[simp] theorem nt23 : Try.f23.ntmps = 46 := (rfl)
@[simp] theorem rs23 : Try.f23.results.toList = [.tmp 10] := (rfl)
@[simp] theorem rt23 : Try.f23.resultTypes.toList = [4] := (rfl)
@[simp] theorem nt24 : Try.f24.ntmps = 32 := (rfl)
@[simp] theorem rs24 : Try.f24.results.toList = [.tmp 2] := (rfl)
@[simp] theorem rt24 : Try.f24.resultTypes.toList = [57] := (rfl)
@[simp] theorem nt25 : Try.f25.ntmps = 49 := (rfl)
@[simp] theorem rs25 : Try.f25.results.toList = [.tmp 2, .cell 3 27] := (rfl)
@[simp] theorem rt25 : Try.f25.resultTypes.toList = [24, 27] := (rfl)
@[simp] theorem nt26 : Try.f26.ntmps = 37 := (rfl)
@[simp] theorem rs26 : Try.f26.results.toList = [.tmp 4] := (rfl)
@[simp] theorem rt26 : Try.f26.resultTypes.toList = [3] := (rfl)
@[simp] theorem nt27 : Try.f27.ntmps = 12 := (rfl)
@[simp] theorem rs27 : Try.f27.results.toList = [.tmp 4] := (rfl)
@[simp] theorem rt27 : Try.f27.resultTypes.toList = [3] := (rfl)
@[simp] theorem nt28 : Try.f28.ntmps = 41 := (rfl)
@[simp] theorem rs28 : Try.f28.results.toList = [.tmp 4] := (rfl)
@[simp] theorem rt28 : Try.f28.resultTypes.toList = [4] := (rfl)
@[simp] theorem nt29 : Try.f29.ntmps = 12 := (rfl)
@[simp] theorem rs29 : Try.f29.results.toList = [.cell 2 27] := (rfl)
@[simp] theorem rt29 : Try.f29.resultTypes.toList = [27] := (rfl)
@[simp] theorem nt30 : Try.f30.ntmps = 91 := (rfl)
@[simp] theorem rs30 : Try.f30.results.toList = [.cell 6 27] := (rfl)
@[simp] theorem rt30 : Try.f30.resultTypes.toList = [27] := (rfl)
@[simp] theorem nt31 : Try.f31.ntmps = 17 := (rfl)
@[simp] theorem rs31 : Try.f31.results.toList = [.tmp 4] := (rfl)
@[simp] theorem rt31 : Try.f31.resultTypes.toList = [4] := (rfl)
@[simp] theorem nt32 : Try.f32.ntmps = 14 := (rfl)
@[simp] theorem rs32 : Try.f32.results.toList = [.cell 2 27] := (rfl)
@[simp] theorem rt32 : Try.f32.resultTypes.toList = [27] := (rfl)
@[simp] theorem nt33 : Try.f33.ntmps = 96 := (rfl)
@[simp] theorem rs33 : Try.f33.results.toList = [.cell 6 27, .tmp 7] := (rfl)
@[simp] theorem rt33 : Try.f33.resultTypes.toList = [27, 4] := (rfl)
@[simp] theorem nt34 : Try.f34.ntmps = 14 := (rfl)
@[simp] theorem rs34 : Try.f34.results.toList = [.tmp 4] := (rfl)
@[simp] theorem rt34 : Try.f34.resultTypes.toList = [4] := (rfl)
@[simp] theorem nt35 : Try.f35.ntmps = 39 := (rfl)
@[simp] theorem rs35 : Try.f35.results.toList = [.cell 4 29] := (rfl)
@[simp] theorem rt35 : Try.f35.resultTypes.toList = [29] := (rfl)
@[simp] theorem nt36 : Try.f36.ntmps = 39 := (rfl)
@[simp] theorem rs36 : Try.f36.results.toList = [.cell 4 29] := (rfl)
@[simp] theorem rt36 : Try.f36.resultTypes.toList = [29] := (rfl)
@[simp] theorem nt37 : Try.f37.ntmps = 6 := (rfl)
@[simp] theorem rs37 : Try.f37.results.toList = [.tmp 2] := (rfl)
@[simp] theorem rt37 : Try.f37.resultTypes.toList = [4] := (rfl)
@[simp] theorem nt38 : Try.f38.ntmps = 15 := (rfl)
@[simp] theorem rs38 : Try.f38.results.toList = [.tmp 6] := (rfl)
@[simp] theorem rt38 : Try.f38.resultTypes.toList = [4] := (rfl)
@[simp] theorem nt39 : Try.f39.ntmps = 15 := (rfl)
@[simp] theorem rs39 : Try.f39.results.toList = [.tmp 6] := (rfl)
@[simp] theorem rt39 : Try.f39.resultTypes.toList = [4] := (rfl)
@[simp] theorem nt40 : Try.f40.ntmps = 5 := (rfl)
@[simp] theorem rs40 : Try.f40.results.toList = [.tmp 2] := (rfl)
@[simp] theorem rt40 : Try.f40.resultTypes.toList = [4] := (rfl)
@[simp] theorem nt41 : Try.f41.ntmps = 8 := (rfl)
@[simp] theorem rs41 : Try.f41.results.toList = [.tmp 2] := (rfl)
@[simp] theorem rt41 : Try.f41.resultTypes.toList = [24] := (rfl)
@[simp] theorem nt42 : Try.f42.ntmps = 3 := (rfl)
@[simp] theorem rs42 : Try.f42.results.toList = [.cell 0 27] := (rfl)
@[simp] theorem rt42 : Try.f42.resultTypes.toList = [27] := (rfl)
@[simp] theorem nt43 : Try.f43.ntmps = 73 := (rfl)
@[simp] theorem rs43 : Try.f43.results.toList = [.tmp 2] := (rfl)
@[simp] theorem rt43 : Try.f43.resultTypes.toList = [4] := (rfl)
@[simp] theorem nt44 : Try.f44.ntmps = 74 := (rfl)
@[simp] theorem rs44 : Try.f44.results.toList = [.cell 2 45] := (rfl)
@[simp] theorem rt44 : Try.f44.resultTypes.toList = [45] := (rfl)
@[simp] theorem nt45 : Try.f45.ntmps = 64 := (rfl)
@[simp] theorem rs45 : Try.f45.results.toList = [.tmp 4] := (rfl)
@[simp] theorem rt45 : Try.f45.resultTypes.toList = [25] := (rfl)
@[simp] theorem nt46 : Try.f46.ntmps = 95 := (rfl)
@[simp] theorem rs46 : Try.f46.results.toList = [.cell 6 45, .tmp 7] := (rfl)
@[simp] theorem rt46 : Try.f46.resultTypes.toList = [45, 3] := (rfl)
@[simp] theorem nt47 : Try.f47.ntmps = 8 := (rfl)
@[simp] theorem rs47 : Try.f47.results.toList = [.tmp 2] := (rfl)
@[simp] theorem rt47 : Try.f47.resultTypes.toList = [25] := (rfl)
@[simp] theorem nt48 : Try.f48.ntmps = 39 := (rfl)
@[simp] theorem rs48 : Try.f48.results.toList = [.cell 4 45, .tmp 5] := (rfl)
@[simp] theorem rt48 : Try.f48.resultTypes.toList = [45, 4] := (rfl)
@[simp] theorem nt49 : Try.f49.ntmps = 17 := (rfl)
@[simp] theorem rs49 : Try.f49.results.toList = [.tmp 6] := (rfl)
@[simp] theorem rt49 : Try.f49.resultTypes.toList = [25] := (rfl)
@[simp] theorem nt50 : Try.f50.ntmps = 26 := (rfl)
@[simp] theorem rs50 : Try.f50.results.toList = [.tmp 4] := (rfl)
@[simp] theorem rt50 : Try.f50.resultTypes.toList = [4] := (rfl)
@[simp] theorem nt51 : Try.f51.ntmps = 28 := (rfl)
@[simp] theorem rs51 : Try.f51.results.toList = [.tmp 6] := (rfl)
@[simp] theorem rt51 : Try.f51.resultTypes.toList = [4] := (rfl)
@[simp] theorem nt52 : Try.f52.ntmps = 89 := (rfl)
@[simp] theorem rs52 : Try.f52.results.toList = [.tmp 2] := (rfl)
@[simp] theorem rt52 : Try.f52.resultTypes.toList = [79] := (rfl)
@[simp] theorem nt53 : Try.f53.ntmps = 38 := (rfl)
@[simp] theorem rs53 : Try.f53.results.toList = [.tmp 2, .cell 3 27] := (rfl)
@[simp] theorem rt53 : Try.f53.resultTypes.toList = [24, 27] := (rfl)
@[simp] theorem nt54 : Try.f54.ntmps = 58 := (rfl)
@[simp] theorem rs54 : Try.f54.results.toList = [.tmp 2] := (rfl)
@[simp] theorem rt54 : Try.f54.resultTypes.toList = [3] := (rfl)
@[simp] theorem nt55 : Try.f55.ntmps = 5 := (rfl)
@[simp] theorem rs55 : Try.f55.results.toList = [.tmp 2] := (rfl)
@[simp] theorem rt55 : Try.f55.resultTypes.toList = [4] := (rfl)
@[simp] theorem nt56 : Try.f56.ntmps = 61 := (rfl)
@[simp] theorem rs56 : Try.f56.results.toList = [.tmp 4] := (rfl)
@[simp] theorem rt56 : Try.f56.resultTypes.toList = [3] := (rfl)
@[simp] theorem nt57 : Try.f57.ntmps = 8 := (rfl)
@[simp] theorem rs57 : Try.f57.results.toList = [.cell 2 27] := (rfl)
@[simp] theorem rt57 : Try.f57.resultTypes.toList = [27] := (rfl)
@[simp] theorem nt58 : Try.f58.ntmps = 18 := (rfl)
@[simp] theorem rs58 : Try.f58.results.toList = [.cell 6 27] := (rfl)
@[simp] theorem rt58 : Try.f58.resultTypes.toList = [27] := (rfl)
@[simp] theorem nt59 : Try.f59.ntmps = 28 := (rfl)
@[simp] theorem rs59 : Try.f59.results.toList = [.tmp 4] := (rfl)
@[simp] theorem rt59 : Try.f59.resultTypes.toList = [4] := (rfl)
@[simp] theorem nt60 : Try.f60.ntmps = 18 := (rfl)
@[simp] theorem rs60 : Try.f60.results.toList = [.cell 4 27] := (rfl)
@[simp] theorem rt60 : Try.f60.resultTypes.toList = [27] := (rfl)
@[simp] theorem nt61 : Try.f61.ntmps = 5 := (rfl)
@[simp] theorem rs61 : Try.f61.results.toList = [.cell 2 27] := (rfl)
@[simp] theorem rt61 : Try.f61.resultTypes.toList = [27] := (rfl)
@[simp] theorem nt62 : Try.f62.ntmps = 87 := (rfl)
@[simp] theorem rs62 : Try.f62.results.toList = [.cell 4 27] := (rfl)
@[simp] theorem rt62 : Try.f62.resultTypes.toList = [27] := (rfl)
@[simp] theorem nt63 : Try.f63.ntmps = 9 := (rfl)
@[simp] theorem rs63 : Try.f63.results.toList = [.tmp 4] := (rfl)
@[simp] theorem rt63 : Try.f63.resultTypes.toList = [4] := (rfl)
@[simp] theorem nt64 : Try.f64.ntmps = 11 := (rfl)
@[simp] theorem rs64 : Try.f64.results.toList = [.tmp 4] := (rfl)
@[simp] theorem rt64 : Try.f64.resultTypes.toList = [4] := (rfl)
@[simp] theorem nt65 : Try.f65.ntmps = 95 := (rfl)
@[simp] theorem rs65 : Try.f65.results.toList = [.tmp 6] := (rfl)
@[simp] theorem rt65 : Try.f65.resultTypes.toList = [4] := (rfl)
@[simp] theorem nt66 : Try.f66.ntmps = 9 := (rfl)
@[simp] theorem rs66 : Try.f66.results.toList = [.tmp 4] := (rfl)
@[simp] theorem rt66 : Try.f66.resultTypes.toList = [4] := (rfl)
@[simp] theorem nt67 : Try.f67.ntmps = 6 := (rfl)
@[simp] theorem rs67 : Try.f67.results.toList = [.tmp 2] := (rfl)
@[simp] theorem rt67 : Try.f67.resultTypes.toList = [4] := (rfl)
@[simp] theorem nt68 : Try.f68.ntmps = 9 := (rfl)
@[simp] theorem rs68 : Try.f68.results.toList = [.tmp 4] := (rfl)
@[simp] theorem rt68 : Try.f68.resultTypes.toList = [4] := (rfl)
@[simp] theorem nt69 : Try.f69.ntmps = 6 := (rfl)
@[simp] theorem rs69 : Try.f69.results.toList = [.tmp 2] := (rfl)
@[simp] theorem rt69 : Try.f69.resultTypes.toList = [4] := (rfl)
@[simp] theorem nt70 : Try.f70.ntmps = 11 := (rfl)
@[simp] theorem rs70 : Try.f70.results.toList = [.tmp 2] := (rfl)
@[simp] theorem rt70 : Try.f70.resultTypes.toList = [4] := (rfl)
@[simp] theorem nt71 : Try.f71.ntmps = 53 := (rfl)
@[simp] theorem rs71 : Try.f71.results.toList = [.tmp 4] := (rfl)
@[simp] theorem rt71 : Try.f71.resultTypes.toList = [4] := (rfl)
@[simp] theorem nt72 : Try.f72.ntmps = 35 := (rfl)
@[simp] theorem rs72 : Try.f72.results.toList = [.tmp 6] := (rfl)
@[simp] theorem rt72 : Try.f72.resultTypes.toList = [4] := (rfl)
@[simp] theorem nt73 : Try.f73.ntmps = 84 := (rfl)
@[simp] theorem rs73 : Try.f73.results.toList = [.tmp 2] := (rfl)
@[simp] theorem rt73 : Try.f73.resultTypes.toList = [95] := (rfl)
@[simp] theorem nt74 : Try.f74.ntmps = 18 := (rfl)
@[simp] theorem rs74 : Try.f74.results.toList = [.tmp 2] := (rfl)
@[simp] theorem rt74 : Try.f74.resultTypes.toList = [3] := (rfl)
@[simp] theorem nt75 : Try.f75.ntmps = 8 := (rfl)
@[simp] theorem rs75 : Try.f75.results.toList = [.tmp 2] := (rfl)
@[simp] theorem rt75 : Try.f75.resultTypes.toList = [92] := (rfl)
@[simp] theorem nt76 : Try.f76.ntmps = 8 := (rfl)
@[simp] theorem rs76 : Try.f76.results.toList = [.tmp 2] := (rfl)
@[simp] theorem rt76 : Try.f76.resultTypes.toList = [54] := (rfl)
@[simp] theorem nt77 : Try.f77.ntmps = 106 := (rfl)
@[simp] theorem rs77 : Try.f77.results.toList = [.cell 6 29, .tmp 7] := (rfl)
@[simp] theorem rt77 : Try.f77.resultTypes.toList = [29, 3] := (rfl)
@[simp] theorem nt78 : Try.f78.ntmps = 39 := (rfl)
@[simp] theorem rs78 : Try.f78.results.toList = [.tmp 6] := (rfl)
@[simp] theorem rt78 : Try.f78.resultTypes.toList = [3] := (rfl)
@[simp] theorem nt79 : Try.f79.ntmps = 13 := (rfl)
@[simp] theorem rs79 : Try.f79.results.toList = [.tmp 4] := (rfl)
@[simp] theorem rt79 : Try.f79.resultTypes.toList = [4] := (rfl)
@[simp] theorem nt80 : Try.f80.ntmps = 139 := (rfl)
@[simp] theorem rs80 : Try.f80.results.toList = [.cell 4 45, .tmp 5] := (rfl)
@[simp] theorem rt80 : Try.f80.resultTypes.toList = [45, 4] := (rfl)
@[simp] theorem nt81 : Try.f81.ntmps = 24 := (rfl)
@[simp] theorem rs81 : Try.f81.results.toList = [.tmp 2] := (rfl)
@[simp] theorem rt81 : Try.f81.resultTypes.toList = [25] := (rfl)
@[simp] theorem nt82 : Try.f82.ntmps = 43 := (rfl)
@[simp] theorem rs82 : Try.f82.results.toList = [.tmp 4] := (rfl)
@[simp] theorem rt82 : Try.f82.resultTypes.toList = [25] := (rfl)
@[simp] theorem nt83 : Try.f83.ntmps = 22 := (rfl)
@[simp] theorem rs83 : Try.f83.results.toList = [] := (rfl)
@[simp] theorem rt83 : Try.f83.resultTypes.toList = [] := (rfl)
@[simp] theorem nt84 : Try.f84.ntmps = 37 := (rfl)
@[simp] theorem rs84 : Try.f84.results.toList = [.tmp 6] := (rfl)
@[simp] theorem rt84 : Try.f84.resultTypes.toList = [3] := (rfl)
@[simp] theorem nt85 : Try.f85.ntmps = 37 := (rfl)
@[simp] theorem rs85 : Try.f85.results.toList = [.tmp 2] := (rfl)
@[simp] theorem rt85 : Try.f85.resultTypes.toList = [24] := (rfl)
@[simp] theorem nt86 : Try.f86.ntmps = 3 := (rfl)
@[simp] theorem rs86 : Try.f86.results.toList = [.cell 0 27] := (rfl)
@[simp] theorem rt86 : Try.f86.resultTypes.toList = [27] := (rfl)
@[simp] theorem nt87 : Try.f87.ntmps = 151 := (rfl)
@[simp] theorem rs87 : Try.f87.results.toList = [.tmp 6] := (rfl)
@[simp] theorem rt87 : Try.f87.resultTypes.toList = [4] := (rfl)
@[simp] theorem nt88 : Try.f88.ntmps = 19 := (rfl)
@[simp] theorem rs88 : Try.f88.results.toList = [.tmp 4] := (rfl)
@[simp] theorem rt88 : Try.f88.resultTypes.toList = [3] := (rfl)
@[simp] theorem nt89 : Try.f89.ntmps = 24 := (rfl)
@[simp] theorem rs89 : Try.f89.results.toList = [.tmp 2, .tmp 3] := (rfl)
@[simp] theorem rt89 : Try.f89.resultTypes.toList = [9, 4] := (rfl)
@[simp] theorem nt90 : Try.f90.ntmps = 14 := (rfl)
@[simp] theorem rs90 : Try.f90.results.toList = [.tmp 4] := (rfl)
@[simp] theorem rt90 : Try.f90.resultTypes.toList = [4] := (rfl)
@[simp] theorem nt91 : Try.f91.ntmps = 16 := (rfl)
@[simp] theorem rs91 : Try.f91.results.toList = [.tmp 4] := (rfl)
@[simp] theorem rt91 : Try.f91.resultTypes.toList = [4] := (rfl)
@[simp] theorem nt92 : Try.f92.ntmps = 19 := (rfl)
@[simp] theorem rs92 : Try.f92.results.toList = [.tmp 4] := (rfl)
@[simp] theorem rt92 : Try.f92.resultTypes.toList = [3] := (rfl)
@[simp] theorem nt93 : Try.f93.ntmps = 19 := (rfl)
@[simp] theorem rs93 : Try.f93.results.toList = [.tmp 4] := (rfl)
@[simp] theorem rt93 : Try.f93.resultTypes.toList = [3] := (rfl)
@[simp] theorem nt94 : Try.f94.ntmps = 9 := (rfl)
@[simp] theorem rs94 : Try.f94.results.toList = [.tmp 4] := (rfl)
@[simp] theorem rt94 : Try.f94.resultTypes.toList = [4] := (rfl)
@[simp] theorem nt95 : Try.f95.ntmps = 16 := (rfl)
@[simp] theorem rs95 : Try.f95.results.toList = [.tmp 2] := (rfl)
@[simp] theorem rt95 : Try.f95.resultTypes.toList = [4] := (rfl)
@[simp] theorem nt96 : Try.f96.ntmps = 9 := (rfl)
@[simp] theorem rs96 : Try.f96.results.toList = [.tmp 4] := (rfl)
@[simp] theorem rt96 : Try.f96.resultTypes.toList = [4] := (rfl)
@[simp] theorem nt97 : Try.f97.ntmps = 21 := (rfl)
@[simp] theorem rs97 : Try.f97.results.toList = [.cell 4 27, .tmp 5] := (rfl)
@[simp] theorem rt97 : Try.f97.resultTypes.toList = [27, 4] := (rfl)
@[simp] theorem nt98 : Try.f98.ntmps = 31 := (rfl)
@[simp] theorem rs98 : Try.f98.results.toList = [.tmp 4] := (rfl)
@[simp] theorem rt98 : Try.f98.resultTypes.toList = [4] := (rfl)
@[simp] theorem nt99 : Try.f99.ntmps = 28 := (rfl)
@[simp] theorem rs99 : Try.f99.results.toList = [.tmp 6] := (rfl)
@[simp] theorem rt99 : Try.f99.resultTypes.toList = [25] := (rfl)
@[simp] theorem nt100 : Try.f100.ntmps = 26 := (rfl)
@[simp] theorem rs100 : Try.f100.results.toList = [.tmp 4] := (rfl)
@[simp] theorem rt100 : Try.f100.resultTypes.toList = [4] := (rfl)
@[simp] theorem nt101 : Try.f101.ntmps = 36 := (rfl)
@[simp] theorem rs101 : Try.f101.results.toList = [.tmp 2] := (rfl)
@[simp] theorem rt101 : Try.f101.resultTypes.toList = [25] := (rfl)
@[simp] theorem nt102 : Try.f102.ntmps = 23 := (rfl)
@[simp] theorem rs102 : Try.f102.results.toList = [.tmp 2] := (rfl)
@[simp] theorem rt102 : Try.f102.resultTypes.toList = [25] := (rfl)
@[simp] theorem nt103 : Try.f103.ntmps = 12 := (rfl)
@[simp] theorem rs103 : Try.f103.results.toList = [.tmp 6] := (rfl)
@[simp] theorem rt103 : Try.f103.resultTypes.toList = [3] := (rfl)
@[simp] theorem nt104 : Try.f104.ntmps = 41 := (rfl)
@[simp] theorem rs104 : Try.f104.results.toList = [.tmp 8, .tmp 9] := (rfl)
@[simp] theorem rt104 : Try.f104.resultTypes.toList = [3, 3] := (rfl)
@[simp] theorem nt105 : Try.f105.ntmps = 12 := (rfl)
@[simp] theorem rs105 : Try.f105.results.toList = [.tmp 4] := (rfl)
@[simp] theorem rt105 : Try.f105.resultTypes.toList = [4] := (rfl)
@[simp] theorem nt106 : Try.f106.ntmps = 25 := (rfl)
@[simp] theorem rs106 : Try.f106.results.toList = [.tmp 4] := (rfl)
@[simp] theorem rt106 : Try.f106.resultTypes.toList = [4] := (rfl)
@[simp] theorem nt107 : Try.f107.ntmps = 35 := (rfl)
@[simp] theorem rs107 : Try.f107.results.toList = [.tmp 8] := (rfl)
@[simp] theorem rt107 : Try.f107.resultTypes.toList = [3] := (rfl)
@[simp] theorem nt108 : Try.f108.ntmps = 29 := (rfl)
@[simp] theorem rs108 : Try.f108.results.toList = [.tmp 8] := (rfl)
@[simp] theorem rt108 : Try.f108.resultTypes.toList = [3] := (rfl)
@[simp] theorem nt109 : Try.f109.ntmps = 77 := (rfl)
@[simp] theorem rs109 : Try.f109.results.toList = [.tmp 6] := (rfl)
@[simp] theorem rt109 : Try.f109.resultTypes.toList = [24] := (rfl)
@[simp] theorem nt110 : Try.f110.ntmps = 9 := (rfl)
@[simp] theorem rs110 : Try.f110.results.toList = [.tmp 4] := (rfl)
@[simp] theorem rt110 : Try.f110.resultTypes.toList = [4] := (rfl)
@[simp] theorem nt111 : Try.f111.ntmps = 38 := (rfl)
@[simp] theorem rs111 : Try.f111.results.toList = [.cell 4 40] := (rfl)
@[simp] theorem rt111 : Try.f111.resultTypes.toList = [40] := (rfl)
@[simp] theorem nt112 : Try.f112.ntmps = 9 := (rfl)
@[simp] theorem rs112 : Try.f112.results.toList = [.tmp 4] := (rfl)
@[simp] theorem rt112 : Try.f112.resultTypes.toList = [4] := (rfl)
@[simp] theorem nt113 : Try.f113.ntmps = 19 := (rfl)
@[simp] theorem rs113 : Try.f113.results.toList = [.tmp 4] := (rfl)
@[simp] theorem rt113 : Try.f113.resultTypes.toList = [3] := (rfl)
@[simp] theorem nt114 : Try.f114.ntmps = 9 := (rfl)
@[simp] theorem rs114 : Try.f114.results.toList = [.tmp 4] := (rfl)
@[simp] theorem rt114 : Try.f114.resultTypes.toList = [4] := (rfl)
@[simp] theorem nt115 : Try.f115.ntmps = 20 := (rfl)
@[simp] theorem rs115 : Try.f115.results.toList = [.tmp 3] := (rfl)
@[simp] theorem rt115 : Try.f115.resultTypes.toList = [4] := (rfl)
@[simp] theorem nt116 : Try.f116.ntmps = 34 := (rfl)
@[simp] theorem rs116 : Try.f116.results.toList = [.cell 6 27, .tmp 7] := (rfl)
@[simp] theorem rt116 : Try.f116.resultTypes.toList = [27, 4] := (rfl)
@[simp] theorem nt117 : Try.f117.ntmps = 17 := (rfl)
@[simp] theorem rs117 : Try.f117.results.toList = [.tmp 6] := (rfl)
@[simp] theorem rt117 : Try.f117.resultTypes.toList = [4] := (rfl)
@[simp] theorem nt118 : Try.f118.ntmps = 27 := (rfl)
@[simp] theorem rs118 : Try.f118.results.toList = [.tmp 4] := (rfl)
@[simp] theorem rt118 : Try.f118.resultTypes.toList = [25] := (rfl)
@[simp] theorem nt119 : Try.f119.ntmps = 30 := (rfl)
@[simp] theorem rs119 : Try.f119.results.toList = [.tmp 4] := (rfl)
@[simp] theorem rt119 : Try.f119.resultTypes.toList = [4] := (rfl)
@[simp] theorem nt120 : Try.f120.ntmps = 77 := (rfl)
@[simp] theorem rs120 : Try.f120.results.toList = [.cell 6 40] := (rfl)
@[simp] theorem rt120 : Try.f120.resultTypes.toList = [40] := (rfl)
@[simp] theorem nt121 : Try.f121.ntmps = 19 := (rfl)
@[simp] theorem rs121 : Try.f121.results.toList = [.tmp 4] := (rfl)
@[simp] theorem rt121 : Try.f121.resultTypes.toList = [3] := (rfl)
@[simp] theorem nt122 : Try.f122.ntmps = 19 := (rfl)
@[simp] theorem rs122 : Try.f122.results.toList = [.tmp 4] := (rfl)
@[simp] theorem rt122 : Try.f122.resultTypes.toList = [3] := (rfl)
attribute [simp] op_fieldAddr op_indexAddr op_make op_slice m_build m_append op_build blt_len blt_len0 blt_lenS blt_cap
end Go.Proofs.Ytninncdacekfgaa.VM

