/- What the machine asks of the types and functions of the program. -/
import Derived.Test.YtkgkbkpgpbpjhaaV3w
import Derived.Test.YtkgkbkpgpbpjhaaProg
import Derived.KernelRfl
namespace Go.Proofs.Ytkgkbkpgpbpjhaa.VM
open Go Go.Proofs
set_option linter.unusedVariables false
set_option maxRecDepth 100000
attribute [simp] Try.underlying3
@[simp] theorem co3 : Try.prog.cellsOf 3 = 1 := by kernel_rfl
@[simp] theorem ft3 : fieldTypes Try.prog 3 = [3] := by unfold fieldTypes; rw [Try.underlying3]
@[simp] theorem ek3 : elemOk Try.prog 3 = true := by kernel_rfl
@[simp] theorem zt3 : zeroT Try.prog 3 = some [.v (.int .i64 0)] := by kernel_rfl
@[simp] theorem in3 : (Try.prog.info? 3).isSome = true := by kernel_rfl
attribute [simp] Try.underlying4
@[simp] theorem co4 : Try.prog.cellsOf 4 = 1 := by kernel_rfl
@[simp] theorem ft4 : fieldTypes Try.prog 4 = [4] := by unfold fieldTypes; rw [Try.underlying4]
@[simp] theorem ek4 : elemOk Try.prog 4 = true := by kernel_rfl
@[simp] theorem zt4 : zeroT Try.prog 4 = some [.v (.bool false)] := by kernel_rfl
@[simp] theorem in4 : (Try.prog.info? 4).isSome = true := by kernel_rfl
attribute [simp] Try.underlying5
@[simp] theorem co5 : Try.prog.cellsOf 5 = 1 := by kernel_rfl
@[simp] theorem ft5 : fieldTypes Try.prog 5 = [5] := by unfold fieldTypes; rw [Try.underlying5]
@[simp] theorem ek5 : elemOk Try.prog 5 = true := by kernel_rfl
@[simp] theorem zt5 : zeroT Try.prog 5 = some [.v (.int .u8 0)] := by kernel_rfl
@[simp] theorem in5 : (Try.prog.info? 5).isSome = true := by kernel_rfl
attribute [simp] Try.underlying9
@[simp] theorem co9 : Try.prog.cellsOf 9 = 1 := by kernel_rfl
@[simp] theorem ft9 : fieldTypes Try.prog 9 = [9] := by unfold fieldTypes; rw [Try.underlying9]
@[simp] theorem ek9 : elemOk Try.prog 9 = true := by kernel_rfl
@[simp] theorem zt9 : zeroT Try.prog 9 = some [.v (.string ByteArray.empty)] := by kernel_rfl
@[simp] theorem in9 : (Try.prog.info? 9).isSome = true := by kernel_rfl
attribute [simp] Try.underlying22
@[simp] theorem co22 : Try.prog.cellsOf 22 = 1 := by kernel_rfl
@[simp] theorem el22 : elemOf Try.prog 22 = 5 := by unfold elemOf; rw [Try.underlying22]
@[simp] theorem ft22 : fieldTypes Try.prog 22 = [22] := by unfold fieldTypes; rw [Try.underlying22]
@[simp] theorem ek22 : elemOk Try.prog 22 = true := by kernel_rfl
@[simp] theorem zt22 : zeroT Try.prog 22 = some [.z] := by kernel_rfl
@[simp] theorem in22 : (Try.prog.info? 22).isSome = true := by kernel_rfl
attribute [simp] Try.underlying24
@[simp] theorem co24 : Try.prog.cellsOf 24 = 1 := by kernel_rfl
@[simp] theorem el24 : elemOf Try.prog 24 = 29 := by unfold elemOf; rw [Try.underlying24]
@[simp] theorem ft24 : fieldTypes Try.prog 24 = [24] := by unfold fieldTypes; rw [Try.underlying24]
@[simp] theorem ek24 : elemOk Try.prog 24 = true := by kernel_rfl
@[simp] theorem zt24 : zeroT Try.prog 24 = some [.z] := by kernel_rfl
@[simp] theorem in24 : (Try.prog.info? 24).isSome = true := by kernel_rfl
attribute [simp] Try.underlying29
@[simp] theorem co29 : Try.prog.cellsOf 29 = 5 := by kernel_rfl
@[simp] theorem ft29 : fieldTypes Try.prog 29 = [3, 3, 3, 3, 3] := by unfold fieldTypes; rw [Try.underlying29]; rfl
@[simp] theorem ek29 : elemOk Try.prog 29 = true := by kernel_rfl
@[simp] theorem zt29 : zeroT Try.prog 29 = some [.v (.int .i64 0), .v (.int .i64 0), .v (.int .i64 0), .v (.int .i64 0), .v (.int .i64 0)] := by kernel_rfl
@[simp] theorem in29 : (Try.prog.info? 29).isSome = true := by kernel_rfl
attribute [simp] Try.underlying33
@[simp] theorem co33 : Try.prog.cellsOf 33 = 1 := by kernel_rfl
@[simp] theorem el33 : elemOf Try.prog 33 = 42 := by unfold elemOf; rw [Try.underlying33]
@[simp] theorem ft33 : fieldTypes Try.prog 33 = [33] := by unfold fieldTypes; rw [Try.underlying33]
@[simp] theorem ek33 : elemOk Try.prog 33 = true := by kernel_rfl
@[simp] theorem zt33 : zeroT Try.prog 33 = some [.z] := by kernel_rfl
@[simp] theorem in33 : (Try.prog.info? 33).isSome = true := by kernel_rfl
attribute [simp] Try.underlying36
@[simp] theorem co36 : Try.prog.cellsOf 36 = 1 := by kernel_rfl
@[simp] theorem el36 : elemOf Try.prog 36 = 3 := by unfold elemOf; rw [Try.underlying36]
@[simp] theorem ft36 : fieldTypes Try.prog 36 = [36] := by unfold fieldTypes; rw [Try.underlying36]
@[simp] theorem ek36 : elemOk Try.prog 36 = true := by kernel_rfl
@[simp] theorem zt36 : zeroT Try.prog 36 = some [.z] := by kernel_rfl
@[simp] theorem in36 : (Try.prog.info? 36).isSome = true := by kernel_rfl
attribute [simp] Try.underlying42
@[simp] theorem co42 : Try.prog.cellsOf 42 = 3 := by kernel_rfl
@[simp] theorem ft42 : fieldTypes Try.prog 42 = [3, 3, 3] := by unfold fieldTypes; rw [Try.underlying42]; rfl
@[simp] theorem ek42 : elemOk Try.prog 42 = true := by kernel_rfl
@[simp] theorem zt42 : zeroT Try.prog 42 = some [.v (.int .i64 0), .v (.int .i64 0), .v (.int .i64 0)] := by kernel_rfl
@[simp] theorem in42 : (Try.prog.info? 42).isSome = true := by kernel_rfl
attribute [simp] Try.underlying44
@[simp] theorem co44 : Try.prog.cellsOf 44 = 4 := by kernel_rfl
@[simp] theorem ft44 : fieldTypes Try.prog 44 = [3, 36, 36, 3] := by unfold fieldTypes; rw [Try.underlying44]; rfl
@[simp] theorem ek44 : elemOk Try.prog 44 = true := by kernel_rfl
@[simp] theorem zt44 : zeroT Try.prog 44 = some [.v (.int .i64 0), .z, .z, .v (.int .i64 0)] := by kernel_rfl
@[simp] theorem in44 : (Try.prog.info? 44).isSome = true := by kernel_rfl
attribute [simp] Try.underlying56
@[simp] theorem co56 : Try.prog.cellsOf 56 = 1 := by kernel_rfl
@[simp] theorem el56 : elemOf Try.prog 56 = 24 := by unfold elemOf; rw [Try.underlying56]
@[simp] theorem ft56 : fieldTypes Try.prog 56 = [56] := by unfold fieldTypes; rw [Try.underlying56]
@[simp] theorem ek56 : elemOk Try.prog 56 = true := by kernel_rfl
@[simp] theorem zt56 : zeroT Try.prog 56 = some [.z] := by kernel_rfl
@[simp] theorem in56 : (Try.prog.info? 56).isSome = true := by kernel_rfl
attribute [simp] Try.underlying58
@[simp] theorem co58 : Try.prog.cellsOf 58 = 1 := by kernel_rfl
@[simp] theorem el58 : elemOf Try.prog 58 = 44 := by unfold elemOf; rw [Try.underlying58]
@[simp] theorem ft58 : fieldTypes Try.prog 58 = [58] := by unfold fieldTypes; rw [Try.underlying58]
@[simp] theorem ek58 : elemOk Try.prog 58 = true := by kernel_rfl
@[simp] theorem zt58 : zeroT Try.prog 58 = some [.z] := by kernel_rfl
@[simp] theorem in58 : (Try.prog.info? 58).isSome = true := by kernel_rfl
attribute [simp] Try.underlying59
@[simp] theorem co59 : Try.prog.cellsOf 59 = 1 := by kernel_rfl
@[simp] theorem el59 : elemOf Try.prog 59 = 66 := by unfold elemOf; rw [Try.underlying59]
@[simp] theorem ft59 : fieldTypes Try.prog 59 = [59] := by unfold fieldTypes; rw [Try.underlying59]
@[simp] theorem ek59 : elemOk Try.prog 59 = true := by kernel_rfl
@[simp] theorem zt59 : zeroT Try.prog 59 = some [.z] := by kernel_rfl
@[simp] theorem in59 : (Try.prog.info? 59).isSome = true := by kernel_rfl
attribute [simp] Try.underlying60
@[simp] theorem co60 : Try.prog.cellsOf 60 = 1 := by kernel_rfl
@[simp] theorem el60 : elemOf Try.prog 60 = 33 := by unfold elemOf; rw [Try.underlying60]
@[simp] theorem ft60 : fieldTypes Try.prog 60 = [60] := by unfold fieldTypes; rw [Try.underlying60]
@[simp] theorem ek60 : elemOk Try.prog 60 = true := by kernel_rfl
@[simp] theorem zt60 : zeroT Try.prog 60 = some [.z] := by kernel_rfl
@[simp] theorem in60 : (Try.prog.info? 60).isSome = true := by kernel_rfl
attribute [simp] Try.underlying62
@[simp] theorem co62 : Try.prog.cellsOf 62 = 4 := by kernel_rfl
@[simp] theorem ft62 : fieldTypes Try.prog 62 = [56, 58, 59, 60] := by unfold fieldTypes; rw [Try.underlying62]; rfl
@[simp] theorem ek62 : elemOk Try.prog 62 = true := by kernel_rfl
@[simp] theorem zt62 : zeroT Try.prog 62 = some [.z, .z, .z, .z] := by kernel_rfl
@[simp] theorem in62 : (Try.prog.info? 62).isSome = true := by kernel_rfl
attribute [simp] Try.underlying66
@[simp] theorem co66 : Try.prog.cellsOf 66 = 1 := by kernel_rfl
@[simp] theorem el66 : elemOf Try.prog 66 = 113 := by unfold elemOf; rw [Try.underlying66]
@[simp] theorem ft66 : fieldTypes Try.prog 66 = [66] := by unfold fieldTypes; rw [Try.underlying66]
@[simp] theorem ek66 : elemOk Try.prog 66 = true := by kernel_rfl
@[simp] theorem zt66 : zeroT Try.prog 66 = some [.z] := by kernel_rfl
@[simp] theorem in66 : (Try.prog.info? 66).isSome = true := by kernel_rfl
attribute [simp] Try.underlying113
@[simp] theorem co113 : Try.prog.cellsOf 113 = 2 := by kernel_rfl
@[simp] theorem ft113 : fieldTypes Try.prog 113 = [4, 3] := by unfold fieldTypes; rw [Try.underlying113]; rfl
@[simp] theorem ek113 : elemOk Try.prog 113 = true := by kernel_rfl
@[simp] theorem zt113 : zeroT Try.prog 113 = some [.v (.bool false), .v (.int .i64 0)] := by kernel_rfl
@[simp] theorem in113 : (Try.prog.info? 113).isSome = true := by kernel_rfl
attribute [simp] Try.underlying118
@[simp] theorem co118 : Try.prog.cellsOf 118 = 1 := by kernel_rfl
@[simp] theorem el118 : elemOf Try.prog 118 = 146 := by unfold elemOf; rw [Try.underlying118]
@[simp] theorem ft118 : fieldTypes Try.prog 118 = [118] := by unfold fieldTypes; rw [Try.underlying118]
@[simp] theorem ek118 : elemOk Try.prog 118 = true := by kernel_rfl
@[simp] theorem zt118 : zeroT Try.prog 118 = some [.z] := by kernel_rfl
@[simp] theorem in118 : (Try.prog.info? 118).isSome = true := by kernel_rfl
attribute [simp] Try.underlying128
@[simp] theorem co128 : Try.prog.cellsOf 128 = 1 := by kernel_rfl
@[simp] theorem el128 : elemOf Try.prog 128 = 36 := by unfold elemOf; rw [Try.underlying128]
@[simp] theorem ft128 : fieldTypes Try.prog 128 = [128] := by unfold fieldTypes; rw [Try.underlying128]
@[simp] theorem ek128 : elemOk Try.prog 128 = true := by kernel_rfl
@[simp] theorem zt128 : zeroT Try.prog 128 = some [.z] := by kernel_rfl
@[simp] theorem in128 : (Try.prog.info? 128).isSome = true := by kernel_rfl
attribute [simp] Try.underlying129
@[simp] theorem co129 : Try.prog.cellsOf 129 = 1 := by kernel_rfl
@[simp] theorem el129 : elemOf Try.prog 129 = 128 := by unfold elemOf; rw [Try.underlying129]
@[simp] theorem ft129 : fieldTypes Try.prog 129 = [129] := by unfold fieldTypes; rw [Try.underlying129]
@[simp] theorem ek129 : elemOk Try.prog 129 = true := by kernel_rfl
@[simp] theorem zt129 : zeroT Try.prog 129 = some [.z] := by kernel_rfl
@[simp] theorem in129 : (Try.prog.info? 129).isSome = true := by kernel_rfl
attribute [simp] Try.underlying132
@[simp] theorem co132 : Try.prog.cellsOf 132 = 3 := by kernel_rfl
@[simp] theorem ft132 : fieldTypes Try.prog 132 = [22, 3, 3] := by unfold fieldTypes; rw [Try.underlying132]; rfl
@[simp] theorem ek132 : elemOk Try.prog 132 = true := by kernel_rfl
@[simp] theorem zt132 : zeroT Try.prog 132 = some [.z, .v (.int .i64 0), .v (.int .i64 0)] := by kernel_rfl
@[simp] theorem in132 : (Try.prog.info? 132).isSome = true := by kernel_rfl
attribute [simp] Try.underlying146
@[simp] theorem co146 : Try.prog.cellsOf 146 = 2 := by kernel_rfl
@[simp] theorem ft146 : fieldTypes Try.prog 146 = [3, 3] := by unfold fieldTypes; rw [Try.underlying146]; rfl
@[simp] theorem ek146 : elemOk Try.prog 146 = true := by kernel_rfl
@[simp] theorem zt146 : zeroT Try.prog 146 = some [.v (.int .i64 0), .v (.int .i64 0)] := by kernel_rfl
@[simp] theorem in146 : (Try.prog.info? 146).isSome = true := by kernel_rfl
attribute [simp] Try.underlying162
@[simp] theorem co162 : Try.prog.cellsOf 162 = 1 := by kernel_rfl
@[simp] theorem el162 : elemOf Try.prog 162 = 172 := by unfold elemOf; rw [Try.underlying162]
@[simp] theorem ft162 : fieldTypes Try.prog 162 = [162] := by unfold fieldTypes; rw [Try.underlying162]
@[simp] theorem ek162 : elemOk Try.prog 162 = true := by kernel_rfl
@[simp] theorem zt162 : zeroT Try.prog 162 = some [.z] := by kernel_rfl
@[simp] theorem in162 : (Try.prog.info? 162).isSome = true := by kernel_rfl
attribute [simp] Try.underlying172
@[simp] theorem co172 : Try.prog.cellsOf 172 = 2 := by kernel_rfl
@[simp] theorem ft172 : fieldTypes Try.prog 172 = [3, 3] := by unfold fieldTypes; rw [Try.underlying172]; rfl
@[simp] theorem ek172 : elemOk Try.prog 172 = true := by kernel_rfl
@[simp] theorem zt172 : zeroT Try.prog 172 = some [.v (.int .i64 0), .v (.int .i64 0)] := by kernel_rfl
@[simp] theorem in172 : (Try.prog.info? 172).isSome = true := by kernel_rfl
@[simp] theorem nt6 : Try.f6.ntmps = 86 := (rfl)
@[simp] theorem rs6 : Try.f6.results.toList = [.tmp 2] := (rfl)
@[simp] theorem rt6 : Try.f6.resultTypes.toList = [4] := (rfl)
@[simp] theorem nt8 : Try.f8.ntmps = 90 := (rfl)
@[simp] theorem rs8 : Try.f8.results.toList = [.tmp 2] := (rfl)
@[simp] theorem rt8 : Try.f8.resultTypes.toList = [4] := (rfl)
@[simp] theorem nt10 : Try.f10.ntmps = 6 := (rfl)
@[simp] theorem rs10 : Try.f10.results.toList = [.tmp 2] := (rfl)
@[simp] theorem rt10 : Try.f10.resultTypes.toList = [4] := (rfl)
@[simp] theorem nt12 : Try.f12.ntmps = 14 := (rfl)
@[simp] theorem rs12 : Try.f12.results.toList = [.tmp 4] := (rfl)
@[simp] theorem rt12 : Try.f12.resultTypes.toList = [4] := (rfl)
@[simp] theorem nt13 : Try.f13.ntmps = 28 := (rfl)
@[simp] theorem rs13 : Try.f13.results.toList = [.tmp 4] := (rfl)
@[simp] theorem rt13 : Try.f13.resultTypes.toList = [4] := (rfl)
@[simp] theorem nt15 : Try.f15.ntmps = 95 := (rfl)
@[simp] theorem rs15 : Try.f15.results.toList = [.tmp 6] := (rfl)
@[simp] theorem rt15 : Try.f15.resultTypes.toList = [4] := (rfl)
@[simp] theorem nt16 : Try.f16.ntmps = 151 := (rfl)
@[simp] theorem rs16 : Try.f16.results.toList = [.tmp 6] := (rfl)
@[simp] theorem rt16 : Try.f16.resultTypes.toList = [4] := (rfl)
@[simp] theorem nt18 : Try.f18.ntmps = 28 := (rfl)
@[simp] theorem rs18 : Try.f18.results.toList = [.tmp 6] := (rfl)
@[simp] theorem rt18 : Try.f18.resultTypes.toList = [36] := (rfl)
@[simp] theorem nt20 : Try.f20.ntmps = 26 := (rfl)
@[simp] theorem rs20 : Try.f20.results.toList = [.tmp 4] := (rfl)
@[simp] theorem rt20 : Try.f20.resultTypes.toList = [4] := (rfl)
@[simp] theorem nt21 : Try.f21.ntmps = 41 := (rfl)
@[simp] theorem rs21 : Try.f21.results.toList = [.tmp 6] := (rfl)
@[simp] theorem rt21 : Try.f21.resultTypes.toList = [36] := (rfl)
@[simp] theorem nt23 : Try.f23.ntmps = 12 := (rfl)
@[simp] theorem rs23 : Try.f23.results.toList = [.tmp 6] := (rfl)
@[simp] theorem rt23 : Try.f23.resultTypes.toList = [3] := (rfl)
@[simp] theorem nt25 : Try.f25.ntmps = 27 := (rfl)
@[simp] theorem rs25 : Try.f25.results.toList = [.cell 6 44, .tmp 7] := (rfl)
@[simp] theorem rt25 : Try.f25.resultTypes.toList = [44, 4] := (rfl)
@[simp] theorem nt26 : Try.f26.ntmps = 20 := (rfl)
@[simp] theorem rs26 : Try.f26.results.toList = [.cell 6 44, .tmp 7] := (rfl)
@[simp] theorem rt26 : Try.f26.resultTypes.toList = [44, 4] := (rfl)
@[simp] theorem nt27 : Try.f27.ntmps = 23 := (rfl)
@[simp] theorem rs27 : Try.f27.results.toList = [.cell 4 42] := (rfl)
@[simp] theorem rt27 : Try.f27.resultTypes.toList = [42] := (rfl)
@[simp] theorem nt28 : Try.f28.ntmps = 13 := (rfl)
@[simp] theorem rs28 : Try.f28.results.toList = [.cell 4 42] := (rfl)
@[simp] theorem rt28 : Try.f28.resultTypes.toList = [42] := (rfl)
@[simp] theorem nt29 : Try.f29.ntmps = 31 := (rfl)
@[simp] theorem rs29 : Try.f29.results.toList = [.tmp 4] := (rfl)
@[simp] theorem rt29 : Try.f29.resultTypes.toList = [4] := (rfl)
@[simp] theorem nt30 : Try.f30.ntmps = 38 := (rfl)
@[simp] theorem rs30 : Try.f30.results.toList = [.tmp 4] := (rfl)
@[simp] theorem rt30 : Try.f30.resultTypes.toList = [4] := (rfl)
@[simp] theorem nt31 : Try.f31.ntmps = 57 := (rfl)
@[simp] theorem rs31 : Try.f31.results.toList = [.tmp 4] := (rfl)
@[simp] theorem rt31 : Try.f31.resultTypes.toList = [4] := (rfl)
@[simp] theorem nt32 : Try.f32.ntmps = 52 := (rfl)
@[simp] theorem rs32 : Try.f32.results.toList = [.tmp 2, .tmp 3] := (rfl)
@[simp] theorem rt32 : Try.f32.resultTypes.toList = [24, 33] := (rfl)
@[simp] theorem nt33 : Try.f33.ntmps = 21 := (rfl)
@[simp] theorem rs33 : Try.f33.results.toList = [.cell 4 44, .tmp 5] := (rfl)
@[simp] theorem rt33 : Try.f33.resultTypes.toList = [44, 4] := (rfl)
@[simp] theorem nt34 : Try.f34.ntmps = 20 := (rfl)
@[simp] theorem rs34 : Try.f34.results.toList = [.cell 4 44, .tmp 5] := (rfl)
@[simp] theorem rt34 : Try.f34.resultTypes.toList = [44, 4] := (rfl)
@[simp] theorem nt35 : Try.f35.ntmps = 20 := (rfl)
@[simp] theorem rs35 : Try.f35.results.toList = [.tmp 4] := (rfl)
@[simp] theorem rt35 : Try.f35.resultTypes.toList = [3] := (rfl)
@[simp] theorem nt38 : Try.f38.ntmps = 37 := (rfl)
@[simp] theorem rs38 : Try.f38.results.toList = [.cell 2 62, .tmp 3] := (rfl)
@[simp] theorem rt38 : Try.f38.resultTypes.toList = [62, 4] := (rfl)
@[simp] theorem nt39 : Try.f39.ntmps = 3 := (rfl)
@[simp] theorem rs39 : Try.f39.results.toList = [.cell 0 44] := (rfl)
@[simp] theorem rt39 : Try.f39.resultTypes.toList = [44] := (rfl)
@[simp] theorem nt40 : Try.f40.ntmps = 20 := (rfl)
@[simp] theorem rs40 : Try.f40.results.toList = [.tmp 6] := (rfl)
@[simp] theorem rt40 : Try.f40.resultTypes.toList = [66] := (rfl)
@[simp] theorem nt41 : Try.f41.ntmps = 73 := (rfl)
@[simp] theorem rs41 : Try.f41.results.toList = [.tmp 2] := (rfl)
@[simp] theorem rt41 : Try.f41.resultTypes.toList = [4] := (rfl)
@[simp] theorem nt42 : Try.f42.ntmps = 27 := (rfl)
@[simp] theorem rs42 : Try.f42.results.toList = [.cell 2 62, .tmp 3, .tmp 4] := (rfl)
@[simp] theorem rt42 : Try.f42.resultTypes.toList = [62, 3, 3] := (rfl)
@[simp] theorem nt43 : Try.f43.ntmps = 46 := (rfl)
@[simp] theorem rs43 : Try.f43.results.toList = [.tmp 6] := (rfl)
@[simp] theorem rt43 : Try.f43.resultTypes.toList = [66] := (rfl)
@[simp] theorem nt44 : Try.f44.ntmps = 157 := (rfl)
@[simp] theorem rs44 : Try.f44.results.toList = [.tmp 2] := (rfl)
@[simp] theorem rt44 : Try.f44.resultTypes.toList = [4] := (rfl)
@[simp] theorem nt45 : Try.f45.ntmps = 24 := (rfl)
@[simp] theorem rs45 : Try.f45.results.toList = [.tmp 2] := (rfl)
@[simp] theorem rt45 : Try.f45.resultTypes.toList = [66] := (rfl)
@[simp] theorem nt46 : Try.f46.ntmps = 23 := (rfl)
@[simp] theorem rs46 : Try.f46.results.toList = [.tmp 2] := (rfl)
@[simp] theorem rt46 : Try.f46.resultTypes.toList = [36] := (rfl)
@[simp] theorem nt47 : Try.f47.ntmps = 27 := (rfl)
@[simp] theorem rs47 : Try.f47.results.toList = [.tmp 2] := (rfl)
@[simp] theorem rt47 : Try.f47.resultTypes.toList = [36] := (rfl)
@[simp] theorem nt55 : Try.f55.ntmps = 32 := (rfl)
@[simp] theorem rs55 : Try.f55.results.toList = [.tmp 2] := (rfl)
@[simp] theorem rt55 : Try.f55.resultTypes.toList = [79] := (rfl)
@[simp] theorem nt56 : Try.f56.ntmps = 37 := (rfl)
@[simp] theorem rs56 : Try.f56.results.toList = [.tmp 2] := (rfl)
@[simp] theorem rt56 : Try.f56.resultTypes.toList = [24] := (rfl)
@[simp] theorem nt57 : Try.f57.ntmps = 12 := (rfl)
@[simp] theorem rs57 : Try.f57.results.toList = [.tmp 4] := (rfl)
@[simp] theorem rt57 : Try.f57.resultTypes.toList = [3] := (rfl)
@[simp] theorem nt58 : Try.f58.ntmps = 15 := (rfl)
@[simp] theorem rs58 : Try.f58.results.toList = [.tmp 6] := (rfl)
@[simp] theorem rt58 : Try.f58.resultTypes.toList = [4] := (rfl)
@[simp] theorem nt59 : Try.f59.ntmps = 9 := (rfl)
@[simp] theorem rs59 : Try.f59.results.toList = [.tmp 4] := (rfl)
@[simp] theorem rt59 : Try.f59.resultTypes.toList = [4] := (rfl)
@[simp] theorem nt60 : Try.f60.ntmps = 11 := (rfl)
@[simp] theorem rs60 : Try.f60.results.toList = [.tmp 4] := (rfl)
@[simp] theorem rt60 : Try.f60.resultTypes.toList = [4] := (rfl)
@[simp] theorem nt61 : Try.f61.ntmps = 15 := (rfl)
@[simp] theorem rs61 : Try.f61.results.toList = [.tmp 6] := (rfl)
@[simp] theorem rt61 : Try.f61.resultTypes.toList = [4] := (rfl)
@[simp] theorem nt62 : Try.f62.ntmps = 77 := (rfl)
@[simp] theorem rs62 : Try.f62.results.toList = [.cell 6 29] := (rfl)
@[simp] theorem rt62 : Try.f62.resultTypes.toList = [29] := (rfl)
@[simp] theorem nt63 : Try.f63.ntmps = 9 := (rfl)
@[simp] theorem rs63 : Try.f63.results.toList = [.tmp 4] := (rfl)
@[simp] theorem rt63 : Try.f63.resultTypes.toList = [4] := (rfl)
@[simp] theorem nt64 : Try.f64.ntmps = 38 := (rfl)
@[simp] theorem rs64 : Try.f64.results.toList = [.cell 4 29] := (rfl)
@[simp] theorem rt64 : Try.f64.resultTypes.toList = [29] := (rfl)
@[simp] theorem nt65 : Try.f65.ntmps = 24 := (rfl)
@[simp] theorem rs65 : Try.f65.results.toList = [.tmp 2, .tmp 3] := (rfl)
@[simp] theorem rt65 : Try.f65.resultTypes.toList = [9, 4] := (rfl)
@[simp] theorem nt66 : Try.f66.ntmps = 14 := (rfl)
@[simp] theorem rs66 : Try.f66.results.toList = [.tmp 4] := (rfl)
@[simp] theorem rt66 : Try.f66.resultTypes.toList = [4] := (rfl)
@[simp] theorem nt67 : Try.f67.ntmps = 16 := (rfl)
@[simp] theorem rs67 : Try.f67.results.toList = [.tmp 4] := (rfl)
@[simp] theorem rt67 : Try.f67.resultTypes.toList = [4] := (rfl)
@[simp] theorem nt68 : Try.f68.ntmps = 5 := (rfl)
@[simp] theorem rs68 : Try.f68.results.toList = [.tmp 2] := (rfl)
@[simp] theorem rt68 : Try.f68.resultTypes.toList = [4] := (rfl)
@[simp] theorem nt69 : Try.f69.ntmps = 5 := (rfl)
@[simp] theorem rs69 : Try.f69.results.toList = [.tmp 2] := (rfl)
@[simp] theorem rt69 : Try.f69.resultTypes.toList = [4] := (rfl)
@[simp] theorem nt71 : Try.f71.ntmps = 37 := (rfl)
@[simp] theorem rs71 : Try.f71.results.toList = [.tmp 4] := (rfl)
@[simp] theorem rt71 : Try.f71.resultTypes.toList = [3] := (rfl)
@[simp] theorem nt72 : Try.f72.ntmps = 17 := (rfl)
@[simp] theorem rs72 : Try.f72.results.toList = [.tmp 6] := (rfl)
@[simp] theorem rt72 : Try.f72.resultTypes.toList = [4] := (rfl)
@[simp] theorem nt74 : Try.f74.ntmps = 41 := (rfl)
@[simp] theorem rs74 : Try.f74.results.toList = [.tmp 4] := (rfl)
@[simp] theorem rt74 : Try.f74.resultTypes.toList = [4] := (rfl)
@[simp] theorem nt75 : Try.f75.ntmps = 12 := (rfl)
@[simp] theorem rs75 : Try.f75.results.toList = [.cell 2 44] := (rfl)
@[simp] theorem rt75 : Try.f75.resultTypes.toList = [44] := (rfl)
@[simp] theorem nt76 : Try.f76.ntmps = 91 := (rfl)
@[simp] theorem rs76 : Try.f76.results.toList = [.cell 6 44] := (rfl)
@[simp] theorem rt76 : Try.f76.resultTypes.toList = [44] := (rfl)
@[simp] theorem nt77 : Try.f77.ntmps = 17 := (rfl)
@[simp] theorem rs77 : Try.f77.results.toList = [.tmp 4] := (rfl)
@[simp] theorem rt77 : Try.f77.resultTypes.toList = [4] := (rfl)
@[simp] theorem nt78 : Try.f78.ntmps = 14 := (rfl)
@[simp] theorem rs78 : Try.f78.results.toList = [.cell 2 44] := (rfl)
@[simp] theorem rt78 : Try.f78.resultTypes.toList = [44] := (rfl)
@[simp] theorem nt79 : Try.f79.ntmps = 96 := (rfl)
@[simp] theorem rs79 : Try.f79.results.toList = [.cell 6 44, .tmp 7] := (rfl)
@[simp] theorem rt79 : Try.f79.resultTypes.toList = [44, 4] := (rfl)
@[simp] theorem nt80 : Try.f80.ntmps = 39 := (rfl)
@[simp] theorem rs80 : Try.f80.results.toList = [.cell 4 42] := (rfl)
@[simp] theorem rt80 : Try.f80.resultTypes.toList = [42] := (rfl)
@[simp] theorem nt81 : Try.f81.ntmps = 39 := (rfl)
@[simp] theorem rs81 : Try.f81.results.toList = [.cell 4 42] := (rfl)
@[simp] theorem rt81 : Try.f81.resultTypes.toList = [42] := (rfl)
@[simp] theorem nt82 : Try.f82.ntmps = 6 := (rfl)
@[simp] theorem rs82 : Try.f82.results.toList = [.tmp 2] := (rfl)
@[simp] theorem rt82 : Try.f82.resultTypes.toList = [4] := (rfl)
@[simp] theorem nt83 : Try.f83.ntmps = 52 := (rfl)
@[simp] theorem rs83 : Try.f83.results.toList = [.tmp 4] := (rfl)
@[simp] theorem rt83 : Try.f83.resultTypes.toList = [33] := (rfl)
@[simp] theorem nt84 : Try.f84.ntmps = 34 := (rfl)
@[simp] theorem rs84 : Try.f84.results.toList = [.cell 6 44, .tmp 7] := (rfl)
@[simp] theorem rt84 : Try.f84.resultTypes.toList = [44, 4] := (rfl)
@[simp] theorem nt85 : Try.f85.ntmps = 36 := (rfl)
@[simp] theorem rs85 : Try.f85.results.toList = [.cell 4 44, .tmp 5] := (rfl)
@[simp] theorem rt85 : Try.f85.resultTypes.toList = [44, 4] := (rfl)
@[simp] theorem nt86 : Try.f86.ntmps = 77 := (rfl)
@[simp] theorem rs86 : Try.f86.results.toList = [.tmp 6] := (rfl)
@[simp] theorem rt86 : Try.f86.resultTypes.toList = [24] := (rfl)
@[simp] theorem nt87 : Try.f87.ntmps = 10 := (rfl)
@[simp] theorem rs87 : Try.f87.results.toList = [.tmp 4] := (rfl)
@[simp] theorem rt87 : Try.f87.resultTypes.toList = [3] := (rfl)
@[simp] theorem nt89 : Try.f89.ntmps = 8 := (rfl)
@[simp] theorem rs89 : Try.f89.results.toList = [.tmp 2] := (rfl)
@[simp] theorem rt89 : Try.f89.resultTypes.toList = [24] := (rfl)
@[simp] theorem nt90 : Try.f90.ntmps = 22 := (rfl)
@[simp] theorem rs90 : Try.f90.results.toList = [.tmp 2] := (rfl)
@[simp] theorem rt90 : Try.f90.resultTypes.toList = [56] := (rfl)
@[simp] theorem nt91 : Try.f91.ntmps = 3 := (rfl)
@[simp] theorem rs91 : Try.f91.results.toList = [.cell 0 44] := (rfl)
@[simp] theorem rt91 : Try.f91.resultTypes.toList = [44] := (rfl)
@[simp] theorem nt92 : Try.f92.ntmps = 39 := (rfl)
@[simp] theorem rs92 : Try.f92.results.toList = [.tmp 6] := (rfl)
@[simp] theorem rt92 : Try.f92.resultTypes.toList = [3] := (rfl)
@[simp] theorem nt93 : Try.f93.ntmps = 8 := (rfl)
@[simp] theorem rs93 : Try.f93.results.toList = [.tmp 2] := (rfl)
@[simp] theorem rt93 : Try.f93.resultTypes.toList = [66] := (rfl)
@[simp] theorem nt94 : Try.f94.ntmps = 9 := (rfl)
@[simp] theorem rs94 : Try.f94.results.toList = [.tmp 4] := (rfl)
@[simp] theorem rt94 : Try.f94.resultTypes.toList = [4] := (rfl)
@[simp] theorem nt95 : Try.f95.ntmps = 6 := (rfl)
@[simp] theorem rs95 : Try.f95.results.toList = [.tmp 2] := (rfl)
@[simp] theorem rt95 : Try.f95.resultTypes.toList = [4] := (rfl)
@[simp] theorem nt96 : Try.f96.ntmps = 11 := (rfl)
@[simp] theorem rs96 : Try.f96.results.toList = [.tmp 2] := (rfl)
@[simp] theorem rt96 : Try.f96.resultTypes.toList = [4] := (rfl)
@[simp] theorem nt97 : Try.f97.ntmps = 53 := (rfl)
@[simp] theorem rs97 : Try.f97.results.toList = [.tmp 4] := (rfl)
@[simp] theorem rt97 : Try.f97.resultTypes.toList = [4] := (rfl)
@[simp] theorem nt98 : Try.f98.ntmps = 35 := (rfl)
@[simp] theorem rs98 : Try.f98.results.toList = [.tmp 6] := (rfl)
@[simp] theorem rt98 : Try.f98.resultTypes.toList = [4] := (rfl)
@[simp] theorem nt99 : Try.f99.ntmps = 84 := (rfl)
@[simp] theorem rs99 : Try.f99.results.toList = [.tmp 2] := (rfl)
@[simp] theorem rt99 : Try.f99.resultTypes.toList = [118] := (rfl)
@[simp] theorem nt100 : Try.f100.ntmps = 18 := (rfl)
@[simp] theorem rs100 : Try.f100.results.toList = [.tmp 2] := (rfl)
@[simp] theorem rt100 : Try.f100.resultTypes.toList = [3] := (rfl)
@[simp] theorem nt101 : Try.f101.ntmps = 111 := (rfl)
@[simp] theorem rs101 : Try.f101.results.toList = [.cell 4 62] := (rfl)
@[simp] theorem rt101 : Try.f101.resultTypes.toList = [62] := (rfl)
@[simp] theorem nt102 : Try.f102.ntmps = 73 := (rfl)
@[simp] theorem rs102 : Try.f102.results.toList = [.tmp 4] := (rfl)
@[simp] theorem rt102 : Try.f102.resultTypes.toList = [4] := (rfl)
@[simp] theorem nt103 : Try.f103.ntmps = 69 := (rfl)
@[simp] theorem rs103 : Try.f103.results.toList = [.tmp 6] := (rfl)
@[simp] theorem rt103 : Try.f103.resultTypes.toList = [4] := (rfl)
@[simp] theorem nt104 : Try.f104.ntmps = 99 := (rfl)
@[simp] theorem rs104 : Try.f104.results.toList = [.tmp 2] := (rfl)
@[simp] theorem rt104 : Try.f104.resultTypes.toList = [4] := (rfl)
@[simp] theorem nt108 : Try.f108.ntmps = 8 := (rfl)
@[simp] theorem rs108 : Try.f108.results.toList = [.tmp 2] := (rfl)
@[simp] theorem rt108 : Try.f108.resultTypes.toList = [36] := (rfl)
@[simp] theorem nt114 : Try.f114.ntmps = 19 := (rfl)
@[simp] theorem rs114 : Try.f114.results.toList = [.tmp 4] := (rfl)
@[simp] theorem rt114 : Try.f114.resultTypes.toList = [3] := (rfl)
@[simp] theorem nt115 : Try.f115.ntmps = 9 := (rfl)
@[simp] theorem rs115 : Try.f115.results.toList = [.tmp 4] := (rfl)
@[simp] theorem rt115 : Try.f115.resultTypes.toList = [4] := (rfl)
@[simp] theorem nt116 : Try.f116.ntmps = 58 := (rfl)
@[simp] theorem rs116 : Try.f116.results.toList = [.tmp 2] := (rfl)
@[simp] theorem rt116 : Try.f116.resultTypes.toList = [3] := (rfl)
@[simp] theorem nt118 : Try.f118.ntmps = 61 := (rfl)
@[simp] theorem rs118 : Try.f118.results.toList = [.tmp 4] := (rfl)
@[simp] theorem rt118 : Try.f118.resultTypes.toList = [3] := (rfl)
@[simp] theorem nt119 : Try.f119.ntmps = 8 := (rfl)
@[simp] theorem rs119 : Try.f119.results.toList = [.cell 2 44] := (rfl)
@[simp] theorem rt119 : Try.f119.resultTypes.toList = [44] := (rfl)
@[simp] theorem nt120 : Try.f120.ntmps = 18 := (rfl)
@[simp] theorem rs120 : Try.f120.results.toList = [.cell 6 44] := (rfl)
@[simp] theorem rt120 : Try.f120.resultTypes.toList = [44] := (rfl)
@[simp] theorem nt121 : Try.f121.ntmps = 18 := (rfl)
@[simp] theorem rs121 : Try.f121.results.toList = [.cell 4 44] := (rfl)
@[simp] theorem rt121 : Try.f121.resultTypes.toList = [44] := (rfl)
@[simp] theorem nt122 : Try.f122.ntmps = 5 := (rfl)
@[simp] theorem rs122 : Try.f122.results.toList = [.cell 2 44] := (rfl)
@[simp] theorem rt122 : Try.f122.resultTypes.toList = [44] := (rfl)
@[simp] theorem nt123 : Try.f123.ntmps = 87 := (rfl)
@[simp] theorem rs123 : Try.f123.results.toList = [.cell 4 44] := (rfl)
@[simp] theorem rt123 : Try.f123.resultTypes.toList = [44] := (rfl)
@[simp] theorem nt124 : Try.f124.ntmps = 9 := (rfl)
@[simp] theorem rs124 : Try.f124.results.toList = [.tmp 4] := (rfl)
@[simp] theorem rt124 : Try.f124.resultTypes.toList = [4] := (rfl)
@[simp] theorem nt125 : Try.f125.ntmps = 6 := (rfl)
@[simp] theorem rs125 : Try.f125.results.toList = [.tmp 2] := (rfl)
@[simp] theorem rt125 : Try.f125.resultTypes.toList = [4] := (rfl)
@[simp] theorem nt126 : Try.f126.ntmps = 19 := (rfl)
@[simp] theorem rs126 : Try.f126.results.toList = [.tmp 4] := (rfl)
@[simp] theorem rt126 : Try.f126.resultTypes.toList = [3] := (rfl)
@[simp] theorem nt127 : Try.f127.ntmps = 9 := (rfl)
@[simp] theorem rs127 : Try.f127.results.toList = [.tmp 4] := (rfl)
@[simp] theorem rt127 : Try.f127.resultTypes.toList = [4] := (rfl)
@[simp] theorem nt128 : Try.f128.ntmps = 16 := (rfl)
@[simp] theorem rs128 : Try.f128.results.toList = [.tmp 2] := (rfl)
@[simp] theorem rt128 : Try.f128.resultTypes.toList = [4] := (rfl)
@[simp] theorem nt129 : Try.f129.ntmps = 9 := (rfl)
@[simp] theorem rs129 : Try.f129.results.toList = [.tmp 4] := (rfl)
@[simp] theorem rt129 : Try.f129.resultTypes.toList = [4] := (rfl)
@[simp] theorem nt130 : Try.f130.ntmps = 31 := (rfl)
@[simp] theorem rs130 : Try.f130.results.toList = [.tmp 4] := (rfl)
@[simp] theorem rt130 : Try.f130.resultTypes.toList = [4] := (rfl)
@[simp] theorem nt131 : Try.f131.ntmps = 26 := (rfl)
@[simp] theorem rs131 : Try.f131.results.toList = [.tmp 4] := (rfl)
@[simp] theorem rt131 : Try.f131.resultTypes.toList = [4] := (rfl)
@[simp] theorem nt132 : Try.f132.ntmps = 36 := (rfl)
@[simp] theorem rs132 : Try.f132.results.toList = [.tmp 2] := (rfl)
@[simp] theorem rt132 : Try.f132.resultTypes.toList = [36] := (rfl)
@[simp] theorem nt133 : Try.f133.ntmps = 17 := (rfl)
@[simp] theorem rs133 : Try.f133.results.toList = [.cell 4 62] := (rfl)
@[simp] theorem rt133 : Try.f133.resultTypes.toList = [62] := (rfl)
@[simp] theorem nt134 : Try.f134.ntmps = 12 := (rfl)
@[simp] theorem rs134 : Try.f134.results.toList = [.tmp 6] := (rfl)
@[simp] theorem rt134 : Try.f134.resultTypes.toList = [3] := (rfl)
@[simp] theorem nt135 : Try.f135.ntmps = 8 := (rfl)
@[simp] theorem rs135 : Try.f135.results.toList = [.tmp 2] := (rfl)
@[simp] theorem rt135 : Try.f135.resultTypes.toList = [33] := (rfl)
@[simp] theorem nt143 : Try.f143.ntmps = 19 := (rfl)
@[simp] theorem rs143 : Try.f143.results.toList = [.tmp 4] := (rfl)
@[simp] theorem rt143 : Try.f143.resultTypes.toList = [3] := (rfl)
@[simp] theorem nt144 : Try.f144.ntmps = 19 := (rfl)
@[simp] theorem rs144 : Try.f144.results.toList = [.tmp 4] := (rfl)
@[simp] theorem rt144 : Try.f144.resultTypes.toList = [3] := (rfl)
@[simp] theorem nt145 : Try.f145.ntmps = 19 := (rfl)
@[simp] theorem rs145 : Try.f145.results.toList = [.tmp 4] := (rfl)
@[simp] theorem rt145 : Try.f145.resultTypes.toList = [3] := (rfl)
@[simp] theorem nt146 : Try.f146.ntmps = 9 := (rfl)
@[simp] theorem rs146 : Try.f146.results.toList = [.tmp 4] := (rfl)
@[simp] theorem rt146 : Try.f146.resultTypes.toList = [4] := (rfl)
@[simp] theorem nt147 : Try.f147.ntmps = 20 := (rfl)
@[simp] theorem rs147 : Try.f147.results.toList = [.tmp 3] := (rfl)
@[simp] theorem rt147 : Try.f147.resultTypes.toList = [4] := (rfl)
@[simp] theorem nt148 : Try.f148.ntmps = 27 := (rfl)
@[simp] theorem rs148 : Try.f148.results.toList = [.tmp 4] := (rfl)
@[simp] theorem rt148 : Try.f148.resultTypes.toList = [36] := (rfl)
@[simp] theorem nt149 : Try.f149.ntmps = 50 := (rfl)
@[simp] theorem rs149 : Try.f149.results.toList = [.cell 4 62, .tmp 5, .cell 6 62] := (rfl)
@[simp] theorem rt149 : Try.f149.resultTypes.toList = [62, 162, 62] := (rfl)
@[simp] theorem nt150 : Try.f150.ntmps = 18 := (rfl)
@[simp] theorem rs150 : Try.f150.results.toList = [.tmp 6] := (rfl)
@[simp] theorem rt150 : Try.f150.resultTypes.toList = [3] := (rfl)
@[simp] theorem nt155 : Try.f155.ntmps = 19 := (rfl)
@[simp] theorem rs155 : Try.f155.results.toList = [.tmp 4] := (rfl)
@[simp] theorem rt155 : Try.f155.resultTypes.toList = [3] := (rfl)
@[simp] theorem nt156 : Try.f156.ntmps = 30 := (rfl)
@[simp] theorem rs156 : Try.f156.results.toList = [.cell 2 62] := (rfl)
@[simp] theorem rt156 : Try.f156.resultTypes.toList = [62] := (rfl)
@[simp] theorem nt157 : Try.f157.ntmps = 41 := (rfl)
@[simp] theorem rs157 : Try.f157.results.toList = [.cell 4 172] := (rfl)
@[simp] theorem rt157 : Try.f157.resultTypes.toList = [172] := (rfl)
@[simp] theorem nt158 : Try.f158.ntmps = 29 := (rfl)
@[simp] theorem rs158 : Try.f158.results.toList = [.cell 6 62, .tmp 7] := (rfl)
@[simp] theorem rt158 : Try.f158.resultTypes.toList = [62, 3] := (rfl)
@[simp] theorem nt160 : Try.f160.ntmps = 12 := (rfl)
@[simp] theorem rs160 : Try.f160.results.toList = [.tmp 4] := (rfl)
@[simp] theorem rt160 : Try.f160.resultTypes.toList = [36] := (rfl)
@[simp] theorem nt161 : Try.f161.ntmps = 163 := (rfl)
@[simp] theorem rs161 : Try.f161.results.toList = [.cell 6 62, .tmp 7] := (rfl)
@[simp] theorem rt161 : Try.f161.resultTypes.toList = [62, 3] := (rfl)
@[simp] theorem nt162 : Try.f162.ntmps = 51 := (rfl)
@[simp] theorem rs162 : Try.f162.results.toList = [.cell 2 62] := (rfl)
@[simp] theorem rt162 : Try.f162.resultTypes.toList = [62] := (rfl)
@[simp] theorem nt163 : Try.f163.ntmps = 71 := (rfl)
@[simp] theorem rs163 : Try.f163.results.toList = [.tmp 4] := (rfl)
@[simp] theorem rt163 : Try.f163.resultTypes.toList = [36] := (rfl)
@[simp] theorem nt164 : Try.f164.ntmps = 22 := (rfl)
@[simp] theorem rs164 : Try.f164.results.toList = [.tmp 2] := (rfl)
@[simp] theorem rt164 : Try.f164.resultTypes.toList = [60] := (rfl)
attribute [simp] op_fieldAddr op_indexAddr op_make op_slice m_build m_append op_build blt_len blt_len0 blt_lenS blt_cap
end Go.Proofs.Ytkgkbkpgpbpjhaa.VM
