/- What the machine asks of the types and functions of the program. -/
import Derived.Test.YtemghdnofgjnmaaDoorV3
import Derived.Test.YtemghdnofgjnmaaDoorProg
import Derived.KernelRfl
namespace Go.Proofs.YtemghdnofgjnmaaDoor.VM
open Go Go.Proofs
set_option linter.unusedVariables false
set_option maxRecDepth 100000
attribute [simp] Tryd.underlying3
@[simp] theorem co3 : Tryd.prog.cellsOf 3 = 1 := by kernel_rfl
@[simp] theorem ft3 : fieldTypes Tryd.prog 3 = [3] := by unfold fieldTypes; rw [Tryd.underlying3]
@[simp] theorem ek3 : elemOk Tryd.prog 3 = true := by kernel_rfl
@[simp] theorem zt3 : zeroT Tryd.prog 3 = some [.v (.int .i64 0)] := by kernel_rfl
@[simp] theorem in3 : (Tryd.prog.info? 3).isSome = true := by kernel_rfl
attribute [simp] Tryd.underlying4
@[simp] theorem co4 : Tryd.prog.cellsOf 4 = 1 := by kernel_rfl
@[simp] theorem ft4 : fieldTypes Tryd.prog 4 = [4] := by unfold fieldTypes; rw [Tryd.underlying4]
@[simp] theorem ek4 : elemOk Tryd.prog 4 = true := by kernel_rfl
@[simp] theorem zt4 : zeroT Tryd.prog 4 = some [.v (.bool false)] := by kernel_rfl
@[simp] theorem in4 : (Tryd.prog.info? 4).isSome = true := by kernel_rfl
attribute [simp] Tryd.underlying5
@[simp] theorem co5 : Tryd.prog.cellsOf 5 = 1 := by kernel_rfl
@[simp] theorem ft5 : fieldTypes Tryd.prog 5 = [5] := by unfold fieldTypes; rw [Tryd.underlying5]
@[simp] theorem ek5 : elemOk Tryd.prog 5 = true := by kernel_rfl
@[simp] theorem zt5 : zeroT Tryd.prog 5 = some [.v (.int .u8 0)] := by kernel_rfl
@[simp] theorem in5 : (Tryd.prog.info? 5).isSome = true := by kernel_rfl
attribute [simp] Tryd.underlying9
@[simp] theorem co9 : Tryd.prog.cellsOf 9 = 1 := by kernel_rfl
@[simp] theorem ft9 : fieldTypes Tryd.prog 9 = [9] := by unfold fieldTypes; rw [Tryd.underlying9]
@[simp] theorem ek9 : elemOk Tryd.prog 9 = true := by kernel_rfl
@[simp] theorem zt9 : zeroT Tryd.prog 9 = some [.v (.string ByteArray.empty)] := by kernel_rfl
@[simp] theorem in9 : (Tryd.prog.info? 9).isSome = true := by kernel_rfl
attribute [simp] Tryd.underlying23
@[simp] theorem co23 : Tryd.prog.cellsOf 23 = 5 := by kernel_rfl
@[simp] theorem ft23 : fieldTypes Tryd.prog 23 = [3, 3, 3, 3, 3] := by unfold fieldTypes; rw [Tryd.underlying23]; rfl
@[simp] theorem ek23 : elemOk Tryd.prog 23 = true := by kernel_rfl
@[simp] theorem zt23 : zeroT Tryd.prog 23 = some [.v (.int .i64 0), .v (.int .i64 0), .v (.int .i64 0), .v (.int .i64 0), .v (.int .i64 0)] := by kernel_rfl
@[simp] theorem in23 : (Tryd.prog.info? 23).isSome = true := by kernel_rfl
attribute [simp] Tryd.underlying28
@[simp] theorem co28 : Tryd.prog.cellsOf 28 = 1 := by kernel_rfl
@[simp] theorem el28 : elemOf Tryd.prog 28 = 5 := by unfold elemOf; rw [Tryd.underlying28]
@[simp] theorem ft28 : fieldTypes Tryd.prog 28 = [28] := by unfold fieldTypes; rw [Tryd.underlying28]
@[simp] theorem ek28 : elemOk Tryd.prog 28 = true := by kernel_rfl
@[simp] theorem zt28 : zeroT Tryd.prog 28 = some [.z] := by kernel_rfl
@[simp] theorem in28 : (Tryd.prog.info? 28).isSome = true := by kernel_rfl
attribute [simp] Tryd.underlying34
@[simp] theorem co34 : Tryd.prog.cellsOf 34 = 1 := by kernel_rfl
@[simp] theorem el34 : elemOf Tryd.prog 34 = 9 := by unfold elemOf; rw [Tryd.underlying34]
@[simp] theorem ft34 : fieldTypes Tryd.prog 34 = [34] := by unfold fieldTypes; rw [Tryd.underlying34]
@[simp] theorem ek34 : elemOk Tryd.prog 34 = true := by kernel_rfl
@[simp] theorem zt34 : zeroT Tryd.prog 34 = some [.z] := by kernel_rfl
@[simp] theorem in34 : (Tryd.prog.info? 34).isSome = true := by kernel_rfl
attribute [simp] Tryd.underlying37
@[simp] theorem co37 : Tryd.prog.cellsOf 37 = 1 := by kernel_rfl
@[simp] theorem el37 : elemOf Tryd.prog 37 = 3 := by unfold elemOf; rw [Tryd.underlying37]
@[simp] theorem ft37 : fieldTypes Tryd.prog 37 = [37] := by unfold fieldTypes; rw [Tryd.underlying37]
@[simp] theorem ek37 : elemOk Tryd.prog 37 = true := by kernel_rfl
@[simp] theorem zt37 : zeroT Tryd.prog 37 = some [.z] := by kernel_rfl
@[simp] theorem in37 : (Tryd.prog.info? 37).isSome = true := by kernel_rfl
attribute [simp] Tryd.underlying64
@[simp] theorem co64 : Tryd.prog.cellsOf 64 = 3 := by kernel_rfl
@[simp] theorem ft64 : fieldTypes Tryd.prog 64 = [28, 3, 3] := by unfold fieldTypes; rw [Tryd.underlying64]; rfl
@[simp] theorem ek64 : elemOk Tryd.prog 64 = true := by kernel_rfl
@[simp] theorem zt64 : zeroT Tryd.prog 64 = some [.z, .v (.int .i64 0), .v (.int .i64 0)] := by kernel_rfl
@[simp] theorem in64 : (Tryd.prog.info? 64).isSome = true := by kernel_rfl
@[simp] theorem nt3 : Tryd.f3.ntmps = 29 := (rfl)
@[simp] theorem rs3 : Tryd.f3.results.toList = [.tmp 2] := (rfl)
@[simp] theorem rt3 : Tryd.f3.resultTypes.toList = [4] := (rfl)
@[simp] theorem nt4 : Tryd.f4.ntmps = 76 := (rfl)
@[simp] theorem rs4 : Tryd.f4.results.toList = [.tmp 2] := (rfl)
@[simp] theorem rt4 : Tryd.f4.resultTypes.toList = [4] := (rfl)
@[simp] theorem nt5 : Tryd.f5.ntmps = 138 := (rfl)
@[simp] theorem rs5 : Tryd.f5.results.toList = [.cell 2 23, .tmp 3] := (rfl)
@[simp] theorem rt5 : Tryd.f5.resultTypes.toList = [23, 4] := (rfl)
@[simp] theorem nt6 : Tryd.f6.ntmps = 88 := (rfl)
@[simp] theorem rs6 : Tryd.f6.results.toList = [.cell 2 23, .tmp 3] := (rfl)
@[simp] theorem rt6 : Tryd.f6.resultTypes.toList = [23, 4] := (rfl)
@[simp] theorem nt7 : Tryd.f7.ntmps = 30 := (rfl)
@[simp] theorem rs7 : Tryd.f7.results.toList = [.tmp 4] := (rfl)
@[simp] theorem rt7 : Tryd.f7.resultTypes.toList = [4] := (rfl)
@[simp] theorem nt8 : Tryd.f8.ntmps = 6 := (rfl)
@[simp] theorem rs8 : Tryd.f8.results.toList = [.tmp 2] := (rfl)
@[simp] theorem rt8 : Tryd.f8.resultTypes.toList = [4] := (rfl)
@[simp] theorem nt9 : Tryd.f9.ntmps = 15 := (rfl)
@[simp] theorem rs9 : Tryd.f9.results.toList = [.cell 2 23] := (rfl)
@[simp] theorem rt9 : Tryd.f9.resultTypes.toList = [23] := (rfl)
@[simp] theorem nt10 : Tryd.f10.ntmps = 37 := (rfl)
@[simp] theorem rs10 : Tryd.f10.results.toList = [.tmp 2] := (rfl)
@[simp] theorem rt10 : Tryd.f10.resultTypes.toList = [9] := (rfl)
@[simp] theorem nt11 : Tryd.f11.ntmps = 92 := (rfl)
@[simp] theorem rs11 : Tryd.f11.results.toList = [.tmp 2] := (rfl)
@[simp] theorem rt11 : Tryd.f11.resultTypes.toList = [9] := (rfl)
@[simp] theorem nt12 : Tryd.f12.ntmps = 95 := (rfl)
@[simp] theorem rs12 : Tryd.f12.results.toList = [.tmp 6] := (rfl)
@[simp] theorem rt12 : Tryd.f12.resultTypes.toList = [4] := (rfl)
@[simp] theorem nt13 : Tryd.f13.ntmps = 37 := (rfl)
@[simp] theorem rs13 : Tryd.f13.results.toList = [.tmp 2] := (rfl)
@[simp] theorem rt13 : Tryd.f13.resultTypes.toList = [9] := (rfl)
@[simp] theorem nt14 : Tryd.f14.ntmps = 33 := (rfl)
@[simp] theorem rs14 : Tryd.f14.results.toList = [.tmp 2] := (rfl)
@[simp] theorem rt14 : Tryd.f14.resultTypes.toList = [34] := (rfl)
@[simp] theorem nt15 : Tryd.f15.ntmps = 2 := (rfl)
@[simp] theorem rs15 : Tryd.f15.results.toList = [.tmp 0] := (rfl)
@[simp] theorem rt15 : Tryd.f15.resultTypes.toList = [34] := (rfl)
@[simp] theorem nt16 : Tryd.f16.ntmps = 60 := (rfl)
@[simp] theorem rs16 : Tryd.f16.results.toList = [.tmp 2, .tmp 3] := (rfl)
@[simp] theorem rt16 : Tryd.f16.resultTypes.toList = [3, 4] := (rfl)
@[simp] theorem nt18 : Tryd.f18.ntmps = 19 := (rfl)
@[simp] theorem rs18 : Tryd.f18.results.toList = [.tmp 4] := (rfl)
@[simp] theorem rt18 : Tryd.f18.resultTypes.toList = [3] := (rfl)
@[simp] theorem nt19 : Tryd.f19.ntmps = 2 := (rfl)
@[simp] theorem rs19 : Tryd.f19.results.toList = [.tmp 0] := (rfl)
@[simp] theorem rt19 : Tryd.f19.resultTypes.toList = [34] := (rfl)
@[simp] theorem nt20 : Tryd.f20.ntmps = 24 := (rfl)
@[simp] theorem rs20 : Tryd.f20.results.toList = [.tmp 2, .tmp 3] := (rfl)
@[simp] theorem rt20 : Tryd.f20.resultTypes.toList = [9, 4] := (rfl)
@[simp] theorem nt22 : Tryd.f22.ntmps = 32 := (rfl)
@[simp] theorem rs22 : Tryd.f22.results.toList = [.tmp 2] := (rfl)
@[simp] theorem rt22 : Tryd.f22.resultTypes.toList = [48] := (rfl)
@[simp] theorem nt23 : Tryd.f23.ntmps = 77 := (rfl)
@[simp] theorem rs23 : Tryd.f23.results.toList = [.cell 6 23] := (rfl)
@[simp] theorem rt23 : Tryd.f23.resultTypes.toList = [23] := (rfl)
@[simp] theorem nt24 : Tryd.f24.ntmps = 9 := (rfl)
@[simp] theorem rs24 : Tryd.f24.results.toList = [.tmp 4] := (rfl)
@[simp] theorem rt24 : Tryd.f24.resultTypes.toList = [4] := (rfl)
@[simp] theorem nt25 : Tryd.f25.ntmps = 38 := (rfl)
@[simp] theorem rs25 : Tryd.f25.results.toList = [.cell 4 23] := (rfl)
@[simp] theorem rt25 : Tryd.f25.resultTypes.toList = [23] := (rfl)
@[simp] theorem nt26 : Tryd.f26.ntmps = 34 := (rfl)
@[simp] theorem rs26 : Tryd.f26.results.toList = [.tmp 4] := (rfl)
@[simp] theorem rt26 : Tryd.f26.resultTypes.toList = [9] := (rfl)
@[simp] theorem nt27 : Tryd.f27.ntmps = 151 := (rfl)
@[simp] theorem rs27 : Tryd.f27.results.toList = [.tmp 6] := (rfl)
@[simp] theorem rt27 : Tryd.f27.resultTypes.toList = [4] := (rfl)
@[simp] theorem nt28 : Tryd.f28.ntmps = 25 := (rfl)
@[simp] theorem rs28 : Tryd.f28.results.toList = [.tmp 2] := (rfl)
@[simp] theorem rt28 : Tryd.f28.resultTypes.toList = [9] := (rfl)
@[simp] theorem nt29 : Tryd.f29.ntmps = 15 := (rfl)
@[simp] theorem rs29 : Tryd.f29.results.toList = [.tmp 6] := (rfl)
@[simp] theorem rt29 : Tryd.f29.resultTypes.toList = [4] := (rfl)
@[simp] theorem nt30 : Tryd.f30.ntmps = 14 := (rfl)
@[simp] theorem rs30 : Tryd.f30.results.toList = [.tmp 4] := (rfl)
@[simp] theorem rt30 : Tryd.f30.resultTypes.toList = [4] := (rfl)
@[simp] theorem nt31 : Tryd.f31.ntmps = 16 := (rfl)
@[simp] theorem rs31 : Tryd.f31.results.toList = [.tmp 4] := (rfl)
@[simp] theorem rt31 : Tryd.f31.resultTypes.toList = [4] := (rfl)
@[simp] theorem nt32 : Tryd.f32.ntmps = 5 := (rfl)
@[simp] theorem rs32 : Tryd.f32.results.toList = [.tmp 2] := (rfl)
@[simp] theorem rt32 : Tryd.f32.resultTypes.toList = [4] := (rfl)
@[simp] theorem nt33 : Tryd.f33.ntmps = 37 := (rfl)
@[simp] theorem rs33 : Tryd.f33.results.toList = [.tmp 4] := (rfl)
@[simp] theorem rt33 : Tryd.f33.resultTypes.toList = [3] := (rfl)
@[simp] theorem nt34 : Tryd.f34.ntmps = 12 := (rfl)
@[simp] theorem rs34 : Tryd.f34.results.toList = [.tmp 4] := (rfl)
@[simp] theorem rt34 : Tryd.f34.resultTypes.toList = [9] := (rfl)
@[simp] theorem nt38 : Tryd.f38.ntmps = 12 := (rfl)
@[simp] theorem rs38 : Tryd.f38.results.toList = [.tmp 4] := (rfl)
@[simp] theorem rt38 : Tryd.f38.resultTypes.toList = [3] := (rfl)
@[simp] theorem nt40 : Tryd.f40.ntmps = 15 := (rfl)
@[simp] theorem rs40 : Tryd.f40.results.toList = [.tmp 6] := (rfl)
@[simp] theorem rt40 : Tryd.f40.resultTypes.toList = [4] := (rfl)
@[simp] theorem nt41 : Tryd.f41.ntmps = 5 := (rfl)
@[simp] theorem rs41 : Tryd.f41.results.toList = [.tmp 2] := (rfl)
@[simp] theorem rt41 : Tryd.f41.resultTypes.toList = [4] := (rfl)
@[simp] theorem nt42 : Tryd.f42.ntmps = 9 := (rfl)
@[simp] theorem rs42 : Tryd.f42.results.toList = [.tmp 4] := (rfl)
@[simp] theorem rt42 : Tryd.f42.resultTypes.toList = [4] := (rfl)
@[simp] theorem nt43 : Tryd.f43.ntmps = 58 := (rfl)
@[simp] theorem rs43 : Tryd.f43.results.toList = [.tmp 2] := (rfl)
@[simp] theorem rt43 : Tryd.f43.resultTypes.toList = [3] := (rfl)
@[simp] theorem nt53 : Tryd.f53.ntmps = 19 := (rfl)
@[simp] theorem rs53 : Tryd.f53.results.toList = [.tmp 4] := (rfl)
@[simp] theorem rt53 : Tryd.f53.resultTypes.toList = [3] := (rfl)
@[simp] theorem nt101 : Tryd.f101.ntmps = 0 := (rfl)
@[simp] theorem rs101 : Tryd.f101.results.toList = [] := (rfl)
@[simp] theorem rt101 : Tryd.f101.resultTypes.toList = [] := (rfl)
@[simp] theorem nt107 : Tryd.f107.ntmps = 0 := (rfl)
@[simp] theorem rs107 : Tryd.f107.results.toList = [] := (rfl)
@[simp] theorem rt107 : Tryd.f107.resultTypes.toList = [] := (rfl)
attribute [simp] op_fieldAddr op_indexAddr op_make op_slice m_build m_append op_build blt_len blt_len0 blt_lenS blt_cap
end Go.Proofs.YtemghdnofgjnmaaDoor.VM

