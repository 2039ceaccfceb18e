/- What the machine asks of the types and functions of the program. -/
import Derived.Test.YtninncdacekfgaaDoorV3
import Derived.Test.YtninncdacekfgaaDoorProg
import Derived.KernelRfl
namespace Go.Proofs.YtninncdacekfgaaDoor.VM
open Go Go.Proofs
set_option linter.unusedVariables false
set_option maxRecDepth 100000
attribute [simp] Tryd.underlying3
@[simp] theorem co3 : Tryd.prog.cellsOf 3 = 1 := by kernel_rfl
@[simp] theorem ft3 : fieldTypes Tryd.prog 3 = [3] := by unfold fieldTypes; rw [Tryd.underlying3]
@[simp] theorem ek3 : elemOk Tryd.prog 3 = true := by kernel_rfl
@[simp] theorem zt3 : zeroT Tryd.prog 3 = some [.v (.int .i64 0)] := by kernel_rfl
@[simp] theorem in3 : (Tryd.prog.info? 3).isSome = true := by kernel_rfl
attribute [simp] Tryd.underlying4
@[simp] theorem co4 : Tryd.prog.cellsOf 4 = 1 := by kernel_rfl
@[simp] theorem ft4 : fieldTypes Tryd.prog 4 = [4] := by unfold fieldTypes; rw [Tryd.underlying4]
@[simp] theorem ek4 : elemOk Tryd.prog 4 = true := by kernel_rfl
@[simp] theorem zt4 : zeroT Tryd.prog 4 = some [.v (.bool false)] := by kernel_rfl
@[simp] theorem in4 : (Tryd.prog.info? 4).isSome = true := by kernel_rfl
attribute [simp] Tryd.underlying5
@[simp] theorem co5 : Tryd.prog.cellsOf 5 = 1 := by kernel_rfl
@[simp] theorem ft5 : fieldTypes Tryd.prog 5 = [5] := by unfold fieldTypes; rw [Tryd.underlying5]
@[simp] theorem ek5 : elemOk Tryd.prog 5 = true := by kernel_rfl
@[simp] theorem zt5 : zeroT Tryd.prog 5 = some [.v (.int .u8 0)] := by kernel_rfl
@[simp] theorem in5 : (Tryd.prog.info? 5).isSome = true := by kernel_rfl
attribute [simp] Tryd.underlying9
@[simp] theorem co9 : Tryd.prog.cellsOf 9 = 1 := by kernel_rfl
@[simp] theorem ft9 : fieldTypes Tryd.prog 9 = [9] := by unfold fieldTypes; rw [Tryd.underlying9]
@[simp] theorem ek9 : elemOk Tryd.prog 9 = true := by kernel_rfl
@[simp] theorem zt9 : zeroT Tryd.prog 9 = some [.v (.string ByteArray.empty)] := by kernel_rfl
@[simp] theorem in9 : (Tryd.prog.info? 9).isSome = true := by kernel_rfl
attribute [simp] Tryd.underlying23
@[simp] theorem co23 : Tryd.prog.cellsOf 23 = 5 := by kernel_rfl
@[simp] theorem ft23 : fieldTypes Tryd.prog 23 = [3, 3, 3, 3, 3] := by unfold fieldTypes; rw [Tryd.underlying23]; rfl
@[simp] theorem ek23 : elemOk Tryd.prog 23 = true := by kernel_rfl
@[simp] theorem zt23 : zeroT Tryd.prog 23 = some [.v (.int .i64 0), .v (.int .i64 0), .v (.int .i64 0), .v (.int .i64 0), .v (.int .i64 0)] := by kernel_rfl
@[simp] theorem in23 : (Tryd.prog.info? 23).isSome = true := by kernel_rfl
attribute [simp] Tryd.underlying25
@[simp] theorem co25 : Tryd.prog.cellsOf 25 = 5 := by kernel_rfl
@[simp] theorem ft25 : fieldTypes Tryd.prog 25 = [3, 3, 3, 3, 3] := by unfold fieldTypes; rw [Tryd.underlying25]; rfl
@[simp] theorem ek25 : elemOk Tryd.prog 25 = true := by kernel_rfl
@[simp] theorem zt25 : zeroT Tryd.prog 25 = some [.v (.int .i64 0), .v (.int .i64 0), .v (.int .i64 0), .v (.int .i64 0), .v (.int .i64 0)] := by kernel_rfl
@[simp] theorem in25 : (Tryd.prog.info? 25).isSome = true := by kernel_rfl
attribute [simp] Tryd.underlying32
@[simp] theorem co32 : Tryd.prog.cellsOf 32 = 1 := by kernel_rfl
@[simp] theorem el32 : elemOf Tryd.prog 32 = 5 := by unfold elemOf; rw [Tryd.underlying32]
@[simp] theorem ft32 : fieldTypes Tryd.prog 32 = [32] := by unfold fieldTypes; rw [Tryd.underlying32]
@[simp] theorem ek32 : elemOk Tryd.prog 32 = true := by kernel_rfl
@[simp] theorem zt32 : zeroT Tryd.prog 32 = some [.z] := by kernel_rfl
@[simp] theorem in32 : (Tryd.prog.info? 32).isSome = true := by kernel_rfl
attribute [simp] Tryd.underlying37
@[simp] theorem co37 : Tryd.prog.cellsOf 37 = 1 := by kernel_rfl
@[simp] theorem el37 : elemOf Tryd.prog 37 = 9 := by unfold elemOf; rw [Tryd.underlying37]
@[simp] theorem ft37 : fieldTypes Tryd.prog 37 = [37] := by unfold fieldTypes; rw [Tryd.underlying37]
@[simp] theorem ek37 : elemOk Tryd.prog 37 = true := by kernel_rfl
@[simp] theorem zt37 : zeroT Tryd.prog 37 = some [.z] := by kernel_rfl
@[simp] theorem in37 : (Tryd.prog.info? 37).isSome = true := by kernel_rfl
attribute [simp] Tryd.underlying44
@[simp] theorem co44 : Tryd.prog.cellsOf 44 = 1 := by kernel_rfl
@[simp] theorem el44 : elemOf Tryd.prog 44 = 3 := by unfold elemOf; rw [Tryd.underlying44]
@[simp] theorem ft44 : fieldTypes Tryd.prog 44 = [44] := by unfold fieldTypes; rw [Tryd.underlying44]
@[simp] theorem ek44 : elemOk Tryd.prog 44 = true := by kernel_rfl
@[simp] theorem zt44 : zeroT Tryd.prog 44 = some [.z] := by kernel_rfl
@[simp] theorem in44 : (Tryd.prog.info? 44).isSome = true := by kernel_rfl
attribute [simp] Tryd.underlying67
@[simp] theorem co67 : Tryd.prog.cellsOf 67 = 3 := by kernel_rfl
@[simp] theorem ft67 : fieldTypes Tryd.prog 67 = [32, 3, 3] := by unfold fieldTypes; rw [Tryd.underlying67]; rfl
@[simp] theorem ek67 : elemOk Tryd.prog 67 = true := by kernel_rfl
@[simp] theorem zt67 : zeroT Tryd.prog 67 = some [.z, .v (.int .i64 0), .v (.int .i64 0)] := by kernel_rfl
@[simp] theorem in67 : (Tryd.prog.info? 67).isSome = true := by kernel_rfl
@[simp] theorem nt3 : Tryd.f3.ntmps = 14 := (rfl)
@[simp] theorem rs3 : Tryd.f3.results.toList = [.tmp 2] := (rfl)
@[simp] theorem rt3 : Tryd.f3.resultTypes.toList = [4] := (rfl)
@[simp] theorem nt4 : Tryd.f4.ntmps = 29 := (rfl)
@[simp] theorem rs4 : Tryd.f4.results.toList = [.tmp 2] := (rfl)
@[simp] theorem rt4 : Tryd.f4.resultTypes.toList = [4] := (rfl)
@[simp] theorem nt5 : Tryd.f5.ntmps = 76 := (rfl)
@[simp] theorem rs5 : Tryd.f5.results.toList = [.tmp 2] := (rfl)
@[simp] theorem rt5 : Tryd.f5.resultTypes.toList = [4] := (rfl)
@[simp] theorem nt6 : Tryd.f6.ntmps = 92 := (rfl)
@[simp] theorem rs6 : Tryd.f6.results.toList = [.tmp 2] := (rfl)
@[simp] theorem rt6 : Tryd.f6.resultTypes.toList = [9] := (rfl)
@[simp] theorem nt7 : Tryd.f7.ntmps = 20 := (rfl)
@[simp] theorem rs7 : Tryd.f7.results.toList = [.cell 2 25] := (rfl)
@[simp] theorem rt7 : Tryd.f7.resultTypes.toList = [25] := (rfl)
@[simp] theorem nt8 : Tryd.f8.ntmps = 37 := (rfl)
@[simp] theorem rs8 : Tryd.f8.results.toList = [.tmp 2] := (rfl)
@[simp] theorem rt8 : Tryd.f8.resultTypes.toList = [9] := (rfl)
@[simp] theorem nt9 : Tryd.f9.ntmps = 138 := (rfl)
@[simp] theorem rs9 : Tryd.f9.results.toList = [.cell 2 25, .tmp 3] := (rfl)
@[simp] theorem rt9 : Tryd.f9.resultTypes.toList = [25, 4] := (rfl)
@[simp] theorem nt10 : Tryd.f10.ntmps = 88 := (rfl)
@[simp] theorem rs10 : Tryd.f10.results.toList = [.cell 2 25, .tmp 3] := (rfl)
@[simp] theorem rt10 : Tryd.f10.resultTypes.toList = [25, 4] := (rfl)
@[simp] theorem nt11 : Tryd.f11.ntmps = 30 := (rfl)
@[simp] theorem rs11 : Tryd.f11.results.toList = [.tmp 4] := (rfl)
@[simp] theorem rt11 : Tryd.f11.resultTypes.toList = [4] := (rfl)
@[simp] theorem nt12 : Tryd.f12.ntmps = 6 := (rfl)
@[simp] theorem rs12 : Tryd.f12.results.toList = [.tmp 2] := (rfl)
@[simp] theorem rt12 : Tryd.f12.resultTypes.toList = [4] := (rfl)
@[simp] theorem nt13 : Tryd.f13.ntmps = 15 := (rfl)
@[simp] theorem rs13 : Tryd.f13.results.toList = [.cell 2 25] := (rfl)
@[simp] theorem rt13 : Tryd.f13.resultTypes.toList = [25] := (rfl)
@[simp] theorem nt14 : Tryd.f14.ntmps = 95 := (rfl)
@[simp] theorem rs14 : Tryd.f14.results.toList = [.tmp 6] := (rfl)
@[simp] theorem rt14 : Tryd.f14.resultTypes.toList = [4] := (rfl)
@[simp] theorem nt15 : Tryd.f15.ntmps = 37 := (rfl)
@[simp] theorem rs15 : Tryd.f15.results.toList = [.tmp 2] := (rfl)
@[simp] theorem rt15 : Tryd.f15.resultTypes.toList = [9] := (rfl)
@[simp] theorem nt16 : Tryd.f16.ntmps = 151 := (rfl)
@[simp] theorem rs16 : Tryd.f16.results.toList = [.tmp 6] := (rfl)
@[simp] theorem rt16 : Tryd.f16.resultTypes.toList = [4] := (rfl)
@[simp] theorem nt17 : Tryd.f17.ntmps = 2 := (rfl)
@[simp] theorem rs17 : Tryd.f17.results.toList = [.tmp 0] := (rfl)
@[simp] theorem rt17 : Tryd.f17.resultTypes.toList = [37] := (rfl)
@[simp] theorem nt18 : Tryd.f18.ntmps = 25 := (rfl)
@[simp] theorem rs18 : Tryd.f18.results.toList = [.tmp 2] := (rfl)
@[simp] theorem rt18 : Tryd.f18.resultTypes.toList = [9] := (rfl)
@[simp] theorem nt19 : Tryd.f19.ntmps = 2 := (rfl)
@[simp] theorem rs19 : Tryd.f19.results.toList = [.tmp 0] := (rfl)
@[simp] theorem rt19 : Tryd.f19.resultTypes.toList = [37] := (rfl)
@[simp] theorem nt20 : Tryd.f20.ntmps = 24 := (rfl)
@[simp] theorem rs20 : Tryd.f20.results.toList = [.tmp 2, .tmp 3] := (rfl)
@[simp] theorem rt20 : Tryd.f20.resultTypes.toList = [9, 4] := (rfl)
@[simp] theorem nt21 : Tryd.f21.ntmps = 34 := (rfl)
@[simp] theorem rs21 : Tryd.f21.results.toList = [.tmp 4] := (rfl)
@[simp] theorem rt21 : Tryd.f21.resultTypes.toList = [9] := (rfl)
@[simp] theorem nt22 : Tryd.f22.ntmps = 33 := (rfl)
@[simp] theorem rs22 : Tryd.f22.results.toList = [.tmp 2] := (rfl)
@[simp] theorem rt22 : Tryd.f22.resultTypes.toList = [37] := (rfl)
@[simp] theorem nt23 : Tryd.f23.ntmps = 60 := (rfl)
@[simp] theorem rs23 : Tryd.f23.results.toList = [.tmp 2, .tmp 3] := (rfl)
@[simp] theorem rt23 : Tryd.f23.resultTypes.toList = [3, 4] := (rfl)
@[simp] theorem nt25 : Tryd.f25.ntmps = 19 := (rfl)
@[simp] theorem rs25 : Tryd.f25.results.toList = [.tmp 4] := (rfl)
@[simp] theorem rt25 : Tryd.f25.resultTypes.toList = [3] := (rfl)
@[simp] theorem nt27 : Tryd.f27.ntmps = 32 := (rfl)
@[simp] theorem rs27 : Tryd.f27.results.toList = [.tmp 2] := (rfl)
@[simp] theorem rt27 : Tryd.f27.resultTypes.toList = [53] := (rfl)
@[simp] theorem nt28 : Tryd.f28.ntmps = 77 := (rfl)
@[simp] theorem rs28 : Tryd.f28.results.toList = [.cell 6 25] := (rfl)
@[simp] theorem rt28 : Tryd.f28.resultTypes.toList = [25] := (rfl)
@[simp] theorem nt29 : Tryd.f29.ntmps = 9 := (rfl)
@[simp] theorem rs29 : Tryd.f29.results.toList = [.tmp 4] := (rfl)
@[simp] theorem rt29 : Tryd.f29.resultTypes.toList = [4] := (rfl)
@[simp] theorem nt30 : Tryd.f30.ntmps = 38 := (rfl)
@[simp] theorem rs30 : Tryd.f30.results.toList = [.cell 4 25] := (rfl)
@[simp] theorem rt30 : Tryd.f30.resultTypes.toList = [25] := (rfl)
@[simp] theorem nt31 : Tryd.f31.ntmps = 15 := (rfl)
@[simp] theorem rs31 : Tryd.f31.results.toList = [.tmp 6] := (rfl)
@[simp] theorem rt31 : Tryd.f31.resultTypes.toList = [4] := (rfl)
@[simp] theorem nt32 : Tryd.f32.ntmps = 14 := (rfl)
@[simp] theorem rs32 : Tryd.f32.results.toList = [.tmp 4] := (rfl)
@[simp] theorem rt32 : Tryd.f32.resultTypes.toList = [4] := (rfl)
@[simp] theorem nt33 : Tryd.f33.ntmps = 16 := (rfl)
@[simp] theorem rs33 : Tryd.f33.results.toList = [.tmp 4] := (rfl)
@[simp] theorem rt33 : Tryd.f33.resultTypes.toList = [4] := (rfl)
@[simp] theorem nt34 : Tryd.f34.ntmps = 5 := (rfl)
@[simp] theorem rs34 : Tryd.f34.results.toList = [.tmp 2] := (rfl)
@[simp] theorem rt34 : Tryd.f34.resultTypes.toList = [4] := (rfl)
@[simp] theorem nt35 : Tryd.f35.ntmps = 37 := (rfl)
@[simp] theorem rs35 : Tryd.f35.results.toList = [.tmp 4] := (rfl)
@[simp] theorem rt35 : Tryd.f35.resultTypes.toList = [3] := (rfl)
@[simp] theorem nt36 : Tryd.f36.ntmps = 12 := (rfl)
@[simp] theorem rs36 : Tryd.f36.results.toList = [.tmp 4] := (rfl)
@[simp] theorem rt36 : Tryd.f36.resultTypes.toList = [9] := (rfl)
@[simp] theorem nt37 : Tryd.f37.ntmps = 15 := (rfl)
@[simp] theorem rs37 : Tryd.f37.results.toList = [.tmp 6] := (rfl)
@[simp] theorem rt37 : Tryd.f37.resultTypes.toList = [4] := (rfl)
@[simp] theorem nt38 : Tryd.f38.ntmps = 5 := (rfl)
@[simp] theorem rs38 : Tryd.f38.results.toList = [.tmp 2] := (rfl)
@[simp] theorem rt38 : Tryd.f38.resultTypes.toList = [4] := (rfl)
@[simp] theorem nt43 : Tryd.f43.ntmps = 12 := (rfl)
@[simp] theorem rs43 : Tryd.f43.results.toList = [.tmp 4] := (rfl)
@[simp] theorem rt43 : Tryd.f43.resultTypes.toList = [3] := (rfl)
@[simp] theorem nt44 : Tryd.f44.ntmps = 9 := (rfl)
@[simp] theorem rs44 : Tryd.f44.results.toList = [.tmp 4] := (rfl)
@[simp] theorem rt44 : Tryd.f44.resultTypes.toList = [4] := (rfl)
@[simp] theorem nt45 : Tryd.f45.ntmps = 58 := (rfl)
@[simp] theorem rs45 : Tryd.f45.results.toList = [.tmp 2] := (rfl)
@[simp] theorem rt45 : Tryd.f45.resultTypes.toList = [3] := (rfl)
@[simp] theorem nt55 : Tryd.f55.ntmps = 19 := (rfl)
@[simp] theorem rs55 : Tryd.f55.results.toList = [.tmp 4] := (rfl)
@[simp] theorem rt55 : Tryd.f55.resultTypes.toList = [3] := (rfl)
@[simp] theorem nt103 : Tryd.f103.ntmps = 0 := (rfl)
@[simp] theorem rs103 : Tryd.f103.results.toList = [] := (rfl)
@[simp] theorem rt103 : Tryd.f103.resultTypes.toList = [] := (rfl)
@[simp] theorem nt109 : Tryd.f109.ntmps = 0 := (rfl)
@[simp] theorem rs109 : Tryd.f109.results.toList = [] := (rfl)
@[simp] theorem rt109 : Tryd.f109.resultTypes.toList = [] := (rfl)
attribute [simp] op_fieldAddr op_indexAddr op_make op_slice m_build m_append op_build blt_len blt_len0 blt_lenS blt_cap
end Go.Proofs.YtninncdacekfgaaDoor.VM

