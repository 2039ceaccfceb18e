/- What the machine asks of the types and functions of the program. -/
import Derived.Test.YtbdidcfjaohglaaV3
import Derived.Test.YtbdidcfjaohglaaProg
import Derived.KernelRfl
namespace Go.Proofs.Ytbdidcfjaohglaa.VM
open Go Go.Proofs
set_option linter.unusedVariables false
set_option maxRecDepth 100000
attribute [simp] Try.underlying3
@[simp] theorem co3 : Try.prog.cellsOf 3 = 1 := by kernel_rfl
@[simp] theorem ft3 : fieldTypes Try.prog 3 = [3] := by unfold fieldTypes; rw [Try.underlying3]
@[simp] theorem ek3 : elemOk Try.prog 3 = true := by kernel_rfl
@[simp] theorem zt3 : zeroT Try.prog 3 = some [.v (.int .i64 0)] := by kernel_rfl
@[simp] theorem in3 : (Try.prog.info? 3).isSome = true := by kernel_rfl
attribute [simp] Try.underlying4
@[simp] theorem co4 : Try.prog.cellsOf 4 = 1 := by kernel_rfl
@[simp] theorem ft4 : fieldTypes Try.prog 4 = [4] := by unfold fieldTypes; rw [Try.underlying4]
@[simp] theorem ek4 : elemOk Try.prog 4 = true := by kernel_rfl
@[simp] theorem zt4 : zeroT Try.prog 4 = some [.v (.bool false)] := by kernel_rfl
@[simp] theorem in4 : (Try.prog.info? 4).isSome = true := by kernel_rfl
attribute [simp] Try.underlying5
@[simp] theorem co5 : Try.prog.cellsOf 5 = 1 := by kernel_rfl
@[simp] theorem ft5 : fieldTypes Try.prog 5 = [5] := by unfold fieldTypes; rw [Try.underlying5]
@[simp] theorem ek5 : elemOk Try.prog 5 = true := by kernel_rfl
@[simp] theorem zt5 : zeroT Try.prog 5 = some [.v (.int .u8 0)] := by kernel_rfl
@[simp] theorem in5 : (Try.prog.info? 5).isSome = true := by kernel_rfl
attribute [simp] Try.underlying9
@[simp] theorem co9 : Try.prog.cellsOf 9 = 1 := by kernel_rfl
@[simp] theorem ft9 : fieldTypes Try.prog 9 = [9] := by unfold fieldTypes; rw [Try.underlying9]
@[simp] theorem ek9 : elemOk Try.prog 9 = true := by kernel_rfl
@[simp] theorem zt9 : zeroT Try.prog 9 = some [.v (.string ByteArray.empty)] := by kernel_rfl
@[simp] theorem in9 : (Try.prog.info? 9).isSome = true := by kernel_rfl
attribute [simp] Try.underlying22
@[simp] theorem co22 : Try.prog.cellsOf 22 = 1 := by kernel_rfl
@[simp] theorem el22 : elemOf Try.prog 22 = 48 := by unfold elemOf; rw [Try.underlying22]
@[simp] theorem ft22 : fieldTypes Try.prog 22 = [22] := by unfold fieldTypes; rw [Try.underlying22]
@[simp] theorem ek22 : elemOk Try.prog 22 = true := by kernel_rfl
@[simp] theorem zt22 : zeroT Try.prog 22 = some [.z] := by kernel_rfl
@[simp] theorem in22 : (Try.prog.info? 22).isSome = true := by kernel_rfl
attribute [simp] Try.underlying23
@[simp] theorem co23 : Try.prog.cellsOf 23 = 1 := by kernel_rfl
@[simp] theorem el23 : elemOf Try.prog 23 = 50 := by unfold elemOf; rw [Try.underlying23]
@[simp] theorem ft23 : fieldTypes Try.prog 23 = [23] := by unfold fieldTypes; rw [Try.underlying23]
@[simp] theorem ek23 : elemOk Try.prog 23 = true := by kernel_rfl
@[simp] theorem zt23 : zeroT Try.prog 23 = some [.z] := by kernel_rfl
@[simp] theorem in23 : (Try.prog.info? 23).isSome = true := by kernel_rfl
attribute [simp] Try.underlying24
@[simp] theorem co24 : Try.prog.cellsOf 24 = 1 := by kernel_rfl
@[simp] theorem el24 : elemOf Try.prog 24 = 130 := by unfold elemOf; rw [Try.underlying24]
@[simp] theorem ft24 : fieldTypes Try.prog 24 = [24] := by unfold fieldTypes; rw [Try.underlying24]
@[simp] theorem ek24 : elemOk Try.prog 24 = true := by kernel_rfl
@[simp] theorem zt24 : zeroT Try.prog 24 = some [.z] := by kernel_rfl
@[simp] theorem in24 : (Try.prog.info? 24).isSome = true := by kernel_rfl
attribute [simp] Try.underlying25
@[simp] theorem co25 : Try.prog.cellsOf 25 = 1 := by kernel_rfl
@[simp] theorem el25 : elemOf Try.prog 25 = 74 := by unfold elemOf; rw [Try.underlying25]
@[simp] theorem ft25 : fieldTypes Try.prog 25 = [25] := by unfold fieldTypes; rw [Try.underlying25]
@[simp] theorem ek25 : elemOk Try.prog 25 = true := by kernel_rfl
@[simp] theorem zt25 : zeroT Try.prog 25 = some [.z] := by kernel_rfl
@[simp] theorem in25 : (Try.prog.info? 25).isSome = true := by kernel_rfl
attribute [simp] Try.underlying27
@[simp] theorem co27 : Try.prog.cellsOf 27 = 4 := by kernel_rfl
@[simp] theorem ft27 : fieldTypes Try.prog 27 = [22, 23, 24, 25] := by unfold fieldTypes; rw [Try.underlying27]; rfl
@[simp] theorem ek27 : elemOk Try.prog 27 = true := by kernel_rfl
@[simp] theorem zt27 : zeroT Try.prog 27 = some [.z, .z, .z, .z] := by kernel_rfl
@[simp] theorem in27 : (Try.prog.info? 27).isSome = true := by kernel_rfl
attribute [simp] Try.underlying29
@[simp] theorem co29 : Try.prog.cellsOf 29 = 1 := by kernel_rfl
@[simp] theorem el29 : elemOf Try.prog 29 = 3 := by unfold elemOf; rw [Try.underlying29]
@[simp] theorem ft29 : fieldTypes Try.prog 29 = [29] := by unfold fieldTypes; rw [Try.underlying29]
@[simp] theorem ek29 : elemOk Try.prog 29 = true := by kernel_rfl
@[simp] theorem zt29 : zeroT Try.prog 29 = some [.z] := by kernel_rfl
@[simp] theorem in29 : (Try.prog.info? 29).isSome = true := by kernel_rfl
attribute [simp] Try.underlying31
@[simp] theorem co31 : Try.prog.cellsOf 31 = 1 := by kernel_rfl
@[simp] theorem el31 : elemOf Try.prog 31 = 58 := by unfold elemOf; rw [Try.underlying31]
@[simp] theorem ft31 : fieldTypes Try.prog 31 = [31] := by unfold fieldTypes; rw [Try.underlying31]
@[simp] theorem ek31 : elemOk Try.prog 31 = true := by kernel_rfl
@[simp] theorem zt31 : zeroT Try.prog 31 = some [.z] := by kernel_rfl
@[simp] theorem in31 : (Try.prog.info? 31).isSome = true := by kernel_rfl
attribute [simp] Try.underlying32
@[simp] theorem co32 : Try.prog.cellsOf 32 = 1 := by kernel_rfl
@[simp] theorem el32 : elemOf Try.prog 32 = 55 := by unfold elemOf; rw [Try.underlying32]
@[simp] theorem ft32 : fieldTypes Try.prog 32 = [32] := by unfold fieldTypes; rw [Try.underlying32]
@[simp] theorem ek32 : elemOk Try.prog 32 = true := by kernel_rfl
@[simp] theorem zt32 : zeroT Try.prog 32 = some [.z] := by kernel_rfl
@[simp] theorem in32 : (Try.prog.info? 32).isSome = true := by kernel_rfl
attribute [simp] Try.underlying33
@[simp] theorem co33 : Try.prog.cellsOf 33 = 1 := by kernel_rfl
@[simp] theorem el33 : elemOf Try.prog 33 = 43 := by unfold elemOf; rw [Try.underlying33]
@[simp] theorem ft33 : fieldTypes Try.prog 33 = [33] := by unfold fieldTypes; rw [Try.underlying33]
@[simp] theorem ek33 : elemOk Try.prog 33 = true := by kernel_rfl
@[simp] theorem zt33 : zeroT Try.prog 33 = some [.z] := by kernel_rfl
@[simp] theorem in33 : (Try.prog.info? 33).isSome = true := by kernel_rfl
attribute [simp] Try.underlying34
@[simp] theorem co34 : Try.prog.cellsOf 34 = 1 := by kernel_rfl
@[simp] theorem el34 : elemOf Try.prog 34 = 77 := by unfold elemOf; rw [Try.underlying34]
@[simp] theorem ft34 : fieldTypes Try.prog 34 = [34] := by unfold fieldTypes; rw [Try.underlying34]
@[simp] theorem ek34 : elemOk Try.prog 34 = true := by kernel_rfl
@[simp] theorem zt34 : zeroT Try.prog 34 = some [.z] := by kernel_rfl
@[simp] theorem in34 : (Try.prog.info? 34).isSome = true := by kernel_rfl
attribute [simp] Try.underlying36
@[simp] theorem co36 : Try.prog.cellsOf 36 = 4 := by kernel_rfl
@[simp] theorem ft36 : fieldTypes Try.prog 36 = [31, 32, 33, 34] := by unfold fieldTypes; rw [Try.underlying36]; rfl
@[simp] theorem ek36 : elemOk Try.prog 36 = true := by kernel_rfl
@[simp] theorem zt36 : zeroT Try.prog 36 = some [.z, .z, .z, .z] := by kernel_rfl
@[simp] theorem in36 : (Try.prog.info? 36).isSome = true := by kernel_rfl
attribute [simp] Try.underlying43
@[simp] theorem co43 : Try.prog.cellsOf 43 = 1 := by kernel_rfl
@[simp] theorem el43 : elemOf Try.prog 43 = 106 := by unfold elemOf; rw [Try.underlying43]
@[simp] theorem ft43 : fieldTypes Try.prog 43 = [43] := by unfold fieldTypes; rw [Try.underlying43]
@[simp] theorem ek43 : elemOk Try.prog 43 = true := by kernel_rfl
@[simp] theorem zt43 : zeroT Try.prog 43 = some [.z] := by kernel_rfl
@[simp] theorem in43 : (Try.prog.info? 43).isSome = true := by kernel_rfl
attribute [simp] Try.underlying48
@[simp] theorem co48 : Try.prog.cellsOf 48 = 1 := by kernel_rfl
@[simp] theorem el48 : elemOf Try.prog 48 = 112 := by unfold elemOf; rw [Try.underlying48]
@[simp] theorem ft48 : fieldTypes Try.prog 48 = [48] := by unfold fieldTypes; rw [Try.underlying48]
@[simp] theorem ek48 : elemOk Try.prog 48 = true := by kernel_rfl
@[simp] theorem zt48 : zeroT Try.prog 48 = some [.z] := by kernel_rfl
@[simp] theorem in48 : (Try.prog.info? 48).isSome = true := by kernel_rfl
attribute [simp] Try.underlying50
@[simp] theorem co50 : Try.prog.cellsOf 50 = 4 := by kernel_rfl
@[simp] theorem ft50 : fieldTypes Try.prog 50 = [3, 29, 29, 3] := by unfold fieldTypes; rw [Try.underlying50]; rfl
@[simp] theorem ek50 : elemOk Try.prog 50 = true := by kernel_rfl
@[simp] theorem zt50 : zeroT Try.prog 50 = some [.v (.int .i64 0), .z, .z, .v (.int .i64 0)] := by kernel_rfl
@[simp] theorem in50 : (Try.prog.info? 50).isSome = true := by kernel_rfl
attribute [simp] Try.underlying52
@[simp] theorem co52 : Try.prog.cellsOf 52 = 3 := by kernel_rfl
@[simp] theorem ft52 : fieldTypes Try.prog 52 = [3, 3, 3] := by unfold fieldTypes; rw [Try.underlying52]; rfl
@[simp] theorem ek52 : elemOk Try.prog 52 = true := by kernel_rfl
@[simp] theorem zt52 : zeroT Try.prog 52 = some [.v (.int .i64 0), .v (.int .i64 0), .v (.int .i64 0)] := by kernel_rfl
@[simp] theorem in52 : (Try.prog.info? 52).isSome = true := by kernel_rfl
attribute [simp] Try.underlying55
@[simp] theorem co55 : Try.prog.cellsOf 55 = 4 := by kernel_rfl
@[simp] theorem ft55 : fieldTypes Try.prog 55 = [3, 29, 29, 3] := by unfold fieldTypes; rw [Try.underlying55]; rfl
@[simp] theorem ek55 : elemOk Try.prog 55 = true := by kernel_rfl
@[simp] theorem zt55 : zeroT Try.prog 55 = some [.v (.int .i64 0), .z, .z, .v (.int .i64 0)] := by kernel_rfl
@[simp] theorem in55 : (Try.prog.info? 55).isSome = true := by kernel_rfl
attribute [simp] Try.underlying58
@[simp] theorem co58 : Try.prog.cellsOf 58 = 1 := by kernel_rfl
@[simp] theorem el58 : elemOf Try.prog 58 = 110 := by unfold elemOf; rw [Try.underlying58]
@[simp] theorem ft58 : fieldTypes Try.prog 58 = [58] := by unfold fieldTypes; rw [Try.underlying58]
@[simp] theorem ek58 : elemOk Try.prog 58 = true := by kernel_rfl
@[simp] theorem zt58 : zeroT Try.prog 58 = some [.z] := by kernel_rfl
@[simp] theorem in58 : (Try.prog.info? 58).isSome = true := by kernel_rfl
attribute [simp] Try.underlying61
@[simp] theorem co61 : Try.prog.cellsOf 61 = 3 := by kernel_rfl
@[simp] theorem ft61 : fieldTypes Try.prog 61 = [3, 3, 3] := by unfold fieldTypes; rw [Try.underlying61]; rfl
@[simp] theorem ek61 : elemOk Try.prog 61 = true := by kernel_rfl
@[simp] theorem zt61 : zeroT Try.prog 61 = some [.v (.int .i64 0), .v (.int .i64 0), .v (.int .i64 0)] := by kernel_rfl
@[simp] theorem in61 : (Try.prog.info? 61).isSome = true := by kernel_rfl
attribute [simp] Try.underlying68
@[simp] theorem co68 : Try.prog.cellsOf 68 = 1 := by kernel_rfl
@[simp] theorem el68 : elemOf Try.prog 68 = 5 := by unfold elemOf; rw [Try.underlying68]
@[simp] theorem ft68 : fieldTypes Try.prog 68 = [68] := by unfold fieldTypes; rw [Try.underlying68]
@[simp] theorem ek68 : elemOk Try.prog 68 = true := by kernel_rfl
@[simp] theorem zt68 : zeroT Try.prog 68 = some [.z] := by kernel_rfl
@[simp] theorem in68 : (Try.prog.info? 68).isSome = true := by kernel_rfl
attribute [simp] Try.underlying74
@[simp] theorem co74 : Try.prog.cellsOf 74 = 1 := by kernel_rfl
@[simp] theorem el74 : elemOf Try.prog 74 = 52 := by unfold elemOf; rw [Try.underlying74]
@[simp] theorem ft74 : fieldTypes Try.prog 74 = [74] := by unfold fieldTypes; rw [Try.underlying74]
@[simp] theorem ek74 : elemOk Try.prog 74 = true := by kernel_rfl
@[simp] theorem zt74 : zeroT Try.prog 74 = some [.z] := by kernel_rfl
@[simp] theorem in74 : (Try.prog.info? 74).isSome = true := by kernel_rfl
attribute [simp] Try.underlying77
@[simp] theorem co77 : Try.prog.cellsOf 77 = 1 := by kernel_rfl
@[simp] theorem el77 : elemOf Try.prog 77 = 61 := by unfold elemOf; rw [Try.underlying77]
@[simp] theorem ft77 : fieldTypes Try.prog 77 = [77] := by unfold fieldTypes; rw [Try.underlying77]
@[simp] theorem ek77 : elemOk Try.prog 77 = true := by kernel_rfl
@[simp] theorem zt77 : zeroT Try.prog 77 = some [.z] := by kernel_rfl
@[simp] theorem in77 : (Try.prog.info? 77).isSome = true := by kernel_rfl
attribute [simp] Try.underlying106
@[simp] theorem co106 : Try.prog.cellsOf 106 = 2 := by kernel_rfl
@[simp] theorem ft106 : fieldTypes Try.prog 106 = [4, 3] := by unfold fieldTypes; rw [Try.underlying106]; rfl
@[simp] theorem ek106 : elemOk Try.prog 106 = true := by kernel_rfl
@[simp] theorem zt106 : zeroT Try.prog 106 = some [.v (.bool false), .v (.int .i64 0)] := by kernel_rfl
@[simp] theorem in106 : (Try.prog.info? 106).isSome = true := by kernel_rfl
attribute [simp] Try.underlying110
@[simp] theorem co110 : Try.prog.cellsOf 110 = 5 := by kernel_rfl
@[simp] theorem ft110 : fieldTypes Try.prog 110 = [3, 3, 3, 3, 3] := by unfold fieldTypes; rw [Try.underlying110]; rfl
@[simp] theorem ek110 : elemOk Try.prog 110 = true := by kernel_rfl
@[simp] theorem zt110 : zeroT Try.prog 110 = some [.v (.int .i64 0), .v (.int .i64 0), .v (.int .i64 0), .v (.int .i64 0), .v (.int .i64 0)] := by kernel_rfl
@[simp] theorem in110 : (Try.prog.info? 110).isSome = true := by kernel_rfl
attribute [simp] Try.underlying112
@[simp] theorem co112 : Try.prog.cellsOf 112 = 5 := by kernel_rfl
@[simp] theorem ft112 : fieldTypes Try.prog 112 = [3, 3, 3, 3, 3] := by unfold fieldTypes; rw [Try.underlying112]; rfl
@[simp] theorem ek112 : elemOk Try.prog 112 = true := by kernel_rfl
@[simp] theorem zt112 : zeroT Try.prog 112 = some [.v (.int .i64 0), .v (.int .i64 0), .v (.int .i64 0), .v (.int .i64 0), .v (.int .i64 0)] := by kernel_rfl
@[simp] theorem in112 : (Try.prog.info? 112).isSome = true := by kernel_rfl
attribute [simp] Try.underlying130
@[simp] theorem co130 : Try.prog.cellsOf 130 = 1 := by kernel_rfl
@[simp] theorem el130 : elemOf Try.prog 130 = 146 := by unfold elemOf; rw [Try.underlying130]
@[simp] theorem ft130 : fieldTypes Try.prog 130 = [130] := by unfold fieldTypes; rw [Try.underlying130]
@[simp] theorem ek130 : elemOk Try.prog 130 = true := by kernel_rfl
@[simp] theorem zt130 : zeroT Try.prog 130 = some [.z] := by kernel_rfl
@[simp] theorem in130 : (Try.prog.info? 130).isSome = true := by kernel_rfl
attribute [simp] Try.underlying136
@[simp] theorem co136 : Try.prog.cellsOf 136 = 3 := by kernel_rfl
@[simp] theorem ft136 : fieldTypes Try.prog 136 = [68, 3, 3] := by unfold fieldTypes; rw [Try.underlying136]; rfl
@[simp] theorem ek136 : elemOk Try.prog 136 = true := by kernel_rfl
@[simp] theorem zt136 : zeroT Try.prog 136 = some [.z, .v (.int .i64 0), .v (.int .i64 0)] := by kernel_rfl
@[simp] theorem in136 : (Try.prog.info? 136).isSome = true := by kernel_rfl
attribute [simp] Try.underlying146
@[simp] theorem co146 : Try.prog.cellsOf 146 = 2 := by kernel_rfl
@[simp] theorem ft146 : fieldTypes Try.prog 146 = [4, 3] := by unfold fieldTypes; rw [Try.underlying146]; rfl
@[simp] theorem ek146 : elemOk Try.prog 146 = true := by kernel_rfl
@[simp] theorem zt146 : zeroT Try.prog 146 = some [.v (.bool false), .v (.int .i64 0)] := by kernel_rfl
@[simp] theorem in146 : (Try.prog.info? 146).isSome = true := by kernel_rfl
@[simp] theorem nt3 : Try.f3.ntmps = 74 := (rfl)
@[simp] theorem rs3 : Try.f3.results.toList = [.tmp 4] := (rfl)
@[simp] theorem rt3 : Try.f3.resultTypes.toList = [4] := (rfl)
@[simp] theorem nt4 : Try.f4.ntmps = 79 := (rfl)
@[simp] theorem rs4 : Try.f4.results.toList = [.tmp 6] := (rfl)
@[simp] theorem rt4 : Try.f4.resultTypes.toList = [4] := (rfl)
@[simp] theorem nt5 : Try.f5.ntmps = 127 := (rfl)
@[simp] theorem rs5 : Try.f5.results.toList = [.tmp 6] := (rfl)
@[simp] theorem rt5 : Try.f5.resultTypes.toList = [4] := (rfl)
@[simp] theorem nt6 : Try.f6.ntmps = 81 := (rfl)
@[simp] theorem rs6 : Try.f6.results.toList = [.tmp 2] := (rfl)
@[simp] theorem rt6 : Try.f6.resultTypes.toList = [4] := (rfl)
@[simp] theorem nt7 : Try.f7.ntmps = 119 := (rfl)
@[simp] theorem rs7 : Try.f7.results.toList = [.tmp 4] := (rfl)
@[simp] theorem rt7 : Try.f7.resultTypes.toList = [4] := (rfl)
@[simp] theorem nt8 : Try.f8.ntmps = 86 := (rfl)
@[simp] theorem rs8 : Try.f8.results.toList = [.tmp 2] := (rfl)
@[simp] theorem rt8 : Try.f8.resultTypes.toList = [4] := (rfl)
@[simp] theorem nt9 : Try.f9.ntmps = 30 := (rfl)
@[simp] theorem rs9 : Try.f9.results.toList = [.tmp 4] := (rfl)
@[simp] theorem rt9 : Try.f9.resultTypes.toList = [3] := (rfl)
@[simp] theorem nt10 : Try.f10.ntmps = 21 := (rfl)
@[simp] theorem rs10 : Try.f10.results.toList = [.tmp 4] := (rfl)
@[simp] theorem rt10 : Try.f10.resultTypes.toList = [29] := (rfl)
@[simp] theorem nt11 : Try.f11.ntmps = 21 := (rfl)
@[simp] theorem rs11 : Try.f11.results.toList = [.cell 2 36] := (rfl)
@[simp] theorem rt11 : Try.f11.resultTypes.toList = [36] := (rfl)
@[simp] theorem nt12 : Try.f12.ntmps = 19 := (rfl)
@[simp] theorem rs12 : Try.f12.results.toList = [.tmp 4] := (rfl)
@[simp] theorem rt12 : Try.f12.resultTypes.toList = [29] := (rfl)
@[simp] theorem nt13 : Try.f13.ntmps = 26 := (rfl)
@[simp] theorem rs13 : Try.f13.results.toList = [.tmp 4] := (rfl)
@[simp] theorem rt13 : Try.f13.resultTypes.toList = [4] := (rfl)
@[simp] theorem nt14 : Try.f14.ntmps = 29 := (rfl)
@[simp] theorem rs14 : Try.f14.results.toList = [.tmp 4] := (rfl)
@[simp] theorem rt14 : Try.f14.resultTypes.toList = [4] := (rfl)
@[simp] theorem nt15 : Try.f15.ntmps = 22 := (rfl)
@[simp] theorem rs15 : Try.f15.results.toList = [.tmp 4] := (rfl)
@[simp] theorem rt15 : Try.f15.resultTypes.toList = [3] := (rfl)
@[simp] theorem nt16 : Try.f16.ntmps = 19 := (rfl)
@[simp] theorem rs16 : Try.f16.results.toList = [.tmp 4] := (rfl)
@[simp] theorem rt16 : Try.f16.resultTypes.toList = [3] := (rfl)
@[simp] theorem nt17 : Try.f17.ntmps = 21 := (rfl)
@[simp] theorem rs17 : Try.f17.results.toList = [.tmp 4] := (rfl)
@[simp] theorem rt17 : Try.f17.resultTypes.toList = [3] := (rfl)
@[simp] theorem nt18 : Try.f18.ntmps = 46 := (rfl)
@[simp] theorem rs18 : Try.f18.results.toList = [.tmp 6] := (rfl)
@[simp] theorem rt18 : Try.f18.resultTypes.toList = [43] := (rfl)
@[simp] theorem nt19 : Try.f19.ntmps = 20 := (rfl)
@[simp] theorem rs19 : Try.f19.results.toList = [.tmp 6] := (rfl)
@[simp] theorem rt19 : Try.f19.resultTypes.toList = [43] := (rfl)
@[simp] theorem nt20 : Try.f20.ntmps = 27 := (rfl)
@[simp] theorem rs20 : Try.f20.results.toList = [.tmp 4] := (rfl)
@[simp] theorem rt20 : Try.f20.resultTypes.toList = [4] := (rfl)
@[simp] theorem nt21 : Try.f21.ntmps = 29 := (rfl)
@[simp] theorem rs21 : Try.f21.results.toList = [.tmp 4] := (rfl)
@[simp] theorem rt21 : Try.f21.resultTypes.toList = [3] := (rfl)
@[simp] theorem nt22 : Try.f22.ntmps = 33 := (rfl)
@[simp] theorem rs22 : Try.f22.results.toList = [.tmp 4] := (rfl)
@[simp] theorem rt22 : Try.f22.resultTypes.toList = [3] := (rfl)
@[simp] theorem nt23 : Try.f23.ntmps = 12 := (rfl)
@[simp] theorem rs23 : Try.f23.results.toList = [.tmp 4] := (rfl)
@[simp] theorem rt23 : Try.f23.resultTypes.toList = [3] := (rfl)
@[simp] theorem nt24 : Try.f24.ntmps = 18 := (rfl)
@[simp] theorem rs24 : Try.f24.results.toList = [.tmp 4] := (rfl)
@[simp] theorem rt24 : Try.f24.resultTypes.toList = [3] := (rfl)
@[simp] theorem nt25 : Try.f25.ntmps = 20 := (rfl)
@[simp] theorem rs25 : Try.f25.results.toList = [.cell 6 55, .tmp 7] := (rfl)
@[simp] theorem rt25 : Try.f25.resultTypes.toList = [55, 4] := (rfl)
@[simp] theorem nt26 : Try.f26.ntmps = 23 := (rfl)
@[simp] theorem rs26 : Try.f26.results.toList = [.tmp 2] := (rfl)
@[simp] theorem rt26 : Try.f26.resultTypes.toList = [58] := (rfl)
@[simp] theorem nt27 : Try.f27.ntmps = 19 := (rfl)
@[simp] theorem rs27 : Try.f27.results.toList = [.cell 2 55] := (rfl)
@[simp] theorem rt27 : Try.f27.resultTypes.toList = [55] := (rfl)
@[simp] theorem nt28 : Try.f28.ntmps = 14 := (rfl)
@[simp] theorem rs28 : Try.f28.results.toList = [.cell 2 61] := (rfl)
@[simp] theorem rt28 : Try.f28.resultTypes.toList = [61] := (rfl)
@[simp] theorem nt29 : Try.f29.ntmps = 27 := (rfl)
@[simp] theorem rs29 : Try.f29.results.toList = [.cell 6 55, .tmp 7] := (rfl)
@[simp] theorem rt29 : Try.f29.resultTypes.toList = [55, 4] := (rfl)
@[simp] theorem nt30 : Try.f30.ntmps = 27 := (rfl)
@[simp] theorem rs30 : Try.f30.results.toList = [.tmp 4] := (rfl)
@[simp] theorem rt30 : Try.f30.resultTypes.toList = [4] := (rfl)
@[simp] theorem nt31 : Try.f31.ntmps = 27 := (rfl)
@[simp] theorem rs31 : Try.f31.results.toList = [.tmp 4] := (rfl)
@[simp] theorem rt31 : Try.f31.resultTypes.toList = [4] := (rfl)
@[simp] theorem nt32 : Try.f32.ntmps = 48 := (rfl)
@[simp] theorem rs32 : Try.f32.results.toList = [.tmp 4] := (rfl)
@[simp] theorem rt32 : Try.f32.resultTypes.toList = [3] := (rfl)
@[simp] theorem nt33 : Try.f33.ntmps = 14 := (rfl)
@[simp] theorem rs33 : Try.f33.results.toList = [.tmp 4] := (rfl)
@[simp] theorem rt33 : Try.f33.resultTypes.toList = [3] := (rfl)
@[simp] theorem nt34 : Try.f34.ntmps = 18 := (rfl)
@[simp] theorem rs34 : Try.f34.results.toList = [.tmp 4] := (rfl)
@[simp] theorem rt34 : Try.f34.resultTypes.toList = [3] := (rfl)
@[simp] theorem nt35 : Try.f35.ntmps = 6 := (rfl)
@[simp] theorem rs35 : Try.f35.results.toList = [.tmp 2] := (rfl)
@[simp] theorem rt35 : Try.f35.resultTypes.toList = [4] := (rfl)
@[simp] theorem nt36 : Try.f36.ntmps = 52 := (rfl)
@[simp] theorem rs36 : Try.f36.results.toList = [.tmp 2, .cell 3 55, .cell 4 61] := (rfl)
@[simp] theorem rt36 : Try.f36.resultTypes.toList = [58, 55, 61] := (rfl)
@[simp] theorem nt37 : Try.f37.ntmps = 23 := (rfl)
@[simp] theorem rs37 : Try.f37.results.toList = [.cell 4 61] := (rfl)
@[simp] theorem rt37 : Try.f37.resultTypes.toList = [61] := (rfl)
@[simp] theorem nt38 : Try.f38.ntmps = 13 := (rfl)
@[simp] theorem rs38 : Try.f38.results.toList = [.cell 4 61] := (rfl)
@[simp] theorem rt38 : Try.f38.resultTypes.toList = [61] := (rfl)
@[simp] theorem nt39 : Try.f39.ntmps = 31 := (rfl)
@[simp] theorem rs39 : Try.f39.results.toList = [.tmp 4] := (rfl)
@[simp] theorem rt39 : Try.f39.resultTypes.toList = [4] := (rfl)
@[simp] theorem nt40 : Try.f40.ntmps = 38 := (rfl)
@[simp] theorem rs40 : Try.f40.results.toList = [.tmp 4] := (rfl)
@[simp] theorem rt40 : Try.f40.resultTypes.toList = [4] := (rfl)
@[simp] theorem nt41 : Try.f41.ntmps = 57 := (rfl)
@[simp] theorem rs41 : Try.f41.results.toList = [.tmp 4] := (rfl)
@[simp] theorem rt41 : Try.f41.resultTypes.toList = [4] := (rfl)
@[simp] theorem nt42 : Try.f42.ntmps = 12 := (rfl)
@[simp] theorem rs42 : Try.f42.results.toList = [.tmp 4] := (rfl)
@[simp] theorem rt42 : Try.f42.resultTypes.toList = [3] := (rfl)
@[simp] theorem nt43 : Try.f43.ntmps = 20 := (rfl)
@[simp] theorem rs43 : Try.f43.results.toList = [.cell 4 55, .tmp 5] := (rfl)
@[simp] theorem rt43 : Try.f43.resultTypes.toList = [55, 4] := (rfl)
@[simp] theorem nt44 : Try.f44.ntmps = 23 := (rfl)
@[simp] theorem rs44 : Try.f44.results.toList = [.tmp 2] := (rfl)
@[simp] theorem rt44 : Try.f44.resultTypes.toList = [77] := (rfl)
@[simp] theorem nt45 : Try.f45.ntmps = 21 := (rfl)
@[simp] theorem rs45 : Try.f45.results.toList = [.cell 4 55, .tmp 5] := (rfl)
@[simp] theorem rt45 : Try.f45.resultTypes.toList = [55, 4] := (rfl)
@[simp] theorem nt46 : Try.f46.ntmps = 27 := (rfl)
@[simp] theorem rs46 : Try.f46.results.toList = [.tmp 4] := (rfl)
@[simp] theorem rt46 : Try.f46.resultTypes.toList = [4] := (rfl)
@[simp] theorem nt47 : Try.f47.ntmps = 34 := (rfl)
@[simp] theorem rs47 : Try.f47.results.toList = [.tmp 4] := (rfl)
@[simp] theorem rt47 : Try.f47.resultTypes.toList = [3] := (rfl)
@[simp] theorem nt48 : Try.f48.ntmps = 52 := (rfl)
@[simp] theorem rs48 : Try.f48.results.toList = [.tmp 2, .tmp 3] := (rfl)
@[simp] theorem rt48 : Try.f48.resultTypes.toList = [58, 77] := (rfl)
@[simp] theorem nt49 : Try.f49.ntmps = 20 := (rfl)
@[simp] theorem rs49 : Try.f49.results.toList = [.tmp 4] := (rfl)
@[simp] theorem rt49 : Try.f49.resultTypes.toList = [3] := (rfl)
@[simp] theorem nt50 : Try.f50.ntmps = 27 := (rfl)
@[simp] theorem rs50 : Try.f50.results.toList = [.tmp 4] := (rfl)
@[simp] theorem rt50 : Try.f50.resultTypes.toList = [3] := (rfl)
@[simp] theorem nt51 : Try.f51.ntmps = 27 := (rfl)
@[simp] theorem rs51 : Try.f51.results.toList = [.tmp 4] := (rfl)
@[simp] theorem rt51 : Try.f51.resultTypes.toList = [3] := (rfl)
@[simp] theorem nt52 : Try.f52.ntmps = 27 := (rfl)
@[simp] theorem rs52 : Try.f52.results.toList = [.tmp 4] := (rfl)
@[simp] theorem rt52 : Try.f52.resultTypes.toList = [3] := (rfl)
@[simp] theorem nt53 : Try.f53.ntmps = 27 := (rfl)
@[simp] theorem rs53 : Try.f53.results.toList = [.tmp 4] := (rfl)
@[simp] theorem rt53 : Try.f53.resultTypes.toList = [3] := (rfl)
@[simp] theorem nt54 : Try.f54.ntmps = 15 := (rfl)
@[simp] theorem rs54 : Try.f54.results.toList = [.tmp 6] := (rfl)
@[simp] theorem rt54 : Try.f54.resultTypes.toList = [4] := (rfl)
@[simp] theorem nt55 : Try.f55.ntmps = 23 := (rfl)
@[simp] theorem rs55 : Try.f55.results.toList = [.tmp 2] := (rfl)
@[simp] theorem rt55 : Try.f55.resultTypes.toList = [31] := (rfl)
@[simp] theorem nt56 : Try.f56.ntmps = 23 := (rfl)
@[simp] theorem rs56 : Try.f56.results.toList = [.tmp 2] := (rfl)
@[simp] theorem rt56 : Try.f56.resultTypes.toList = [32] := (rfl)
@[simp] theorem nt57 : Try.f57.ntmps = 23 := (rfl)
@[simp] theorem rs57 : Try.f57.results.toList = [.tmp 2] := (rfl)
@[simp] theorem rt57 : Try.f57.resultTypes.toList = [33] := (rfl)
@[simp] theorem nt58 : Try.f58.ntmps = 23 := (rfl)
@[simp] theorem rs58 : Try.f58.results.toList = [.tmp 2] := (rfl)
@[simp] theorem rt58 : Try.f58.resultTypes.toList = [34] := (rfl)
@[simp] theorem nt59 : Try.f59.ntmps = 15 := (rfl)
@[simp] theorem rs59 : Try.f59.results.toList = [.tmp 6] := (rfl)
@[simp] theorem rt59 : Try.f59.resultTypes.toList = [4] := (rfl)
@[simp] theorem nt60 : Try.f60.ntmps = 8 := (rfl)
@[simp] theorem rs60 : Try.f60.results.toList = [.tmp 2] := (rfl)
@[simp] theorem rt60 : Try.f60.resultTypes.toList = [29] := (rfl)
@[simp] theorem nt61 : Try.f61.ntmps = 27 := (rfl)
@[simp] theorem rs61 : Try.f61.results.toList = [.tmp 4] := (rfl)
@[simp] theorem rt61 : Try.f61.resultTypes.toList = [4] := (rfl)
@[simp] theorem nt62 : Try.f62.ntmps = 27 := (rfl)
@[simp] theorem rs62 : Try.f62.results.toList = [.tmp 4] := (rfl)
@[simp] theorem rt62 : Try.f62.resultTypes.toList = [4] := (rfl)
@[simp] theorem nt63 : Try.f63.ntmps = 27 := (rfl)
@[simp] theorem rs63 : Try.f63.results.toList = [.tmp 4] := (rfl)
@[simp] theorem rt63 : Try.f63.resultTypes.toList = [4] := (rfl)
@[simp] theorem nt64 : Try.f64.ntmps = 27 := (rfl)
@[simp] theorem rs64 : Try.f64.results.toList = [.tmp 4] := (rfl)
@[simp] theorem rt64 : Try.f64.resultTypes.toList = [4] := (rfl)
@[simp] theorem nt65 : Try.f65.ntmps = 19 := (rfl)
@[simp] theorem rs65 : Try.f65.results.toList = [.tmp 4] := (rfl)
@[simp] theorem rt65 : Try.f65.resultTypes.toList = [3] := (rfl)
@[simp] theorem nt66 : Try.f66.ntmps = 41 := (rfl)
@[simp] theorem rs66 : Try.f66.results.toList = [.tmp 4] := (rfl)
@[simp] theorem rt66 : Try.f66.resultTypes.toList = [3] := (rfl)
@[simp] theorem nt67 : Try.f67.ntmps = 19 := (rfl)
@[simp] theorem rs67 : Try.f67.results.toList = [.tmp 4] := (rfl)
@[simp] theorem rt67 : Try.f67.resultTypes.toList = [3] := (rfl)
@[simp] theorem nt68 : Try.f68.ntmps = 19 := (rfl)
@[simp] theorem rs68 : Try.f68.results.toList = [.tmp 4] := (rfl)
@[simp] theorem rt68 : Try.f68.resultTypes.toList = [3] := (rfl)
@[simp] theorem nt69 : Try.f69.ntmps = 39 := (rfl)
@[simp] theorem rs69 : Try.f69.results.toList = [.tmp 6] := (rfl)
@[simp] theorem rt69 : Try.f69.resultTypes.toList = [3] := (rfl)
@[simp] theorem nt70 : Try.f70.ntmps = 8 := (rfl)
@[simp] theorem rs70 : Try.f70.results.toList = [.tmp 2] := (rfl)
@[simp] theorem rt70 : Try.f70.resultTypes.toList = [43] := (rfl)
@[simp] theorem nt71 : Try.f71.ntmps = 15 := (rfl)
@[simp] theorem rs71 : Try.f71.results.toList = [.tmp 4] := (rfl)
@[simp] theorem rt71 : Try.f71.resultTypes.toList = [4] := (rfl)
@[simp] theorem nt72 : Try.f72.ntmps = 12 := (rfl)
@[simp] theorem rs72 : Try.f72.results.toList = [.tmp 4] := (rfl)
@[simp] theorem rt72 : Try.f72.resultTypes.toList = [3] := (rfl)
@[simp] theorem nt73 : Try.f73.ntmps = 17 := (rfl)
@[simp] theorem rs73 : Try.f73.results.toList = [.tmp 4] := (rfl)
@[simp] theorem rt73 : Try.f73.resultTypes.toList = [4] := (rfl)
@[simp] theorem nt74 : Try.f74.ntmps = 14 := (rfl)
@[simp] theorem rs74 : Try.f74.results.toList = [.cell 2 55] := (rfl)
@[simp] theorem rt74 : Try.f74.resultTypes.toList = [55] := (rfl)
@[simp] theorem nt75 : Try.f75.ntmps = 96 := (rfl)
@[simp] theorem rs75 : Try.f75.results.toList = [.cell 6 55, .tmp 7] := (rfl)
@[simp] theorem rt75 : Try.f75.resultTypes.toList = [55, 4] := (rfl)
@[simp] theorem nt76 : Try.f76.ntmps = 20 := (rfl)
@[simp] theorem rs76 : Try.f76.results.toList = [.cell 2 110] := (rfl)
@[simp] theorem rt76 : Try.f76.resultTypes.toList = [110] := (rfl)
@[simp] theorem nt77 : Try.f77.ntmps = 22 := (rfl)
@[simp] theorem rs77 : Try.f77.results.toList = [.tmp 2] := (rfl)
@[simp] theorem rt77 : Try.f77.resultTypes.toList = [29] := (rfl)
@[simp] theorem nt78 : Try.f78.ntmps = 41 := (rfl)
@[simp] theorem rs78 : Try.f78.results.toList = [.tmp 4] := (rfl)
@[simp] theorem rt78 : Try.f78.resultTypes.toList = [4] := (rfl)
@[simp] theorem nt79 : Try.f79.ntmps = 12 := (rfl)
@[simp] theorem rs79 : Try.f79.results.toList = [.cell 2 55] := (rfl)
@[simp] theorem rt79 : Try.f79.resultTypes.toList = [55] := (rfl)
@[simp] theorem nt80 : Try.f80.ntmps = 91 := (rfl)
@[simp] theorem rs80 : Try.f80.results.toList = [.cell 6 55] := (rfl)
@[simp] theorem rt80 : Try.f80.resultTypes.toList = [55] := (rfl)
@[simp] theorem nt81 : Try.f81.ntmps = 30 := (rfl)
@[simp] theorem rs81 : Try.f81.results.toList = [.tmp 4] := (rfl)
@[simp] theorem rt81 : Try.f81.resultTypes.toList = [4] := (rfl)
@[simp] theorem nt82 : Try.f82.ntmps = 32 := (rfl)
@[simp] theorem rs82 : Try.f82.results.toList = [.tmp 2] := (rfl)
@[simp] theorem rt82 : Try.f82.resultTypes.toList = [116] := (rfl)
@[simp] theorem nt83 : Try.f83.ntmps = 49 := (rfl)
@[simp] theorem rs83 : Try.f83.results.toList = [.tmp 2, .cell 3 55] := (rfl)
@[simp] theorem rt83 : Try.f83.resultTypes.toList = [58, 55] := (rfl)
@[simp] theorem nt84 : Try.f84.ntmps = 37 := (rfl)
@[simp] theorem rs84 : Try.f84.results.toList = [.tmp 4] := (rfl)
@[simp] theorem rt84 : Try.f84.resultTypes.toList = [3] := (rfl)
@[simp] theorem nt85 : Try.f85.ntmps = 12 := (rfl)
@[simp] theorem rs85 : Try.f85.results.toList = [.tmp 4] := (rfl)
@[simp] theorem rt85 : Try.f85.resultTypes.toList = [3] := (rfl)
@[simp] theorem nt86 : Try.f86.ntmps = 14 := (rfl)
@[simp] theorem rs86 : Try.f86.results.toList = [.tmp 4] := (rfl)
@[simp] theorem rt86 : Try.f86.resultTypes.toList = [4] := (rfl)
@[simp] theorem nt87 : Try.f87.ntmps = 39 := (rfl)
@[simp] theorem rs87 : Try.f87.results.toList = [.cell 4 61] := (rfl)
@[simp] theorem rt87 : Try.f87.resultTypes.toList = [61] := (rfl)
@[simp] theorem nt88 : Try.f88.ntmps = 39 := (rfl)
@[simp] theorem rs88 : Try.f88.results.toList = [.cell 4 61] := (rfl)
@[simp] theorem rt88 : Try.f88.resultTypes.toList = [61] := (rfl)
@[simp] theorem nt89 : Try.f89.ntmps = 26 := (rfl)
@[simp] theorem rs89 : Try.f89.results.toList = [.tmp 4] := (rfl)
@[simp] theorem rt89 : Try.f89.resultTypes.toList = [4] := (rfl)
@[simp] theorem nt90 : Try.f90.ntmps = 6 := (rfl)
@[simp] theorem rs90 : Try.f90.results.toList = [.tmp 2] := (rfl)
@[simp] theorem rt90 : Try.f90.resultTypes.toList = [4] := (rfl)
@[simp] theorem nt91 : Try.f91.ntmps = 5 := (rfl)
@[simp] theorem rs91 : Try.f91.results.toList = [.tmp 2] := (rfl)
@[simp] theorem rt91 : Try.f91.resultTypes.toList = [4] := (rfl)
@[simp] theorem nt92 : Try.f92.ntmps = 28 := (rfl)
@[simp] theorem rs92 : Try.f92.results.toList = [.tmp 4] := (rfl)
@[simp] theorem rt92 : Try.f92.resultTypes.toList = [4] := (rfl)
@[simp] theorem nt93 : Try.f93.ntmps = 36 := (rfl)
@[simp] theorem rs93 : Try.f93.results.toList = [.cell 4 55, .tmp 5] := (rfl)
@[simp] theorem rt93 : Try.f93.resultTypes.toList = [55, 4] := (rfl)
@[simp] theorem nt94 : Try.f94.ntmps = 34 := (rfl)
@[simp] theorem rs94 : Try.f94.results.toList = [.cell 6 55, .tmp 7] := (rfl)
@[simp] theorem rt94 : Try.f94.resultTypes.toList = [55, 4] := (rfl)
@[simp] theorem nt95 : Try.f95.ntmps = 3 := (rfl)
@[simp] theorem rs95 : Try.f95.results.toList = [.cell 0 55] := (rfl)
@[simp] theorem rt95 : Try.f95.resultTypes.toList = [55] := (rfl)
@[simp] theorem nt96 : Try.f96.ntmps = 20 := (rfl)
@[simp] theorem rs96 : Try.f96.results.toList = [.tmp 4] := (rfl)
@[simp] theorem rt96 : Try.f96.resultTypes.toList = [4] := (rfl)
@[simp] theorem nt97 : Try.f97.ntmps = 37 := (rfl)
@[simp] theorem rs97 : Try.f97.results.toList = [.tmp 2] := (rfl)
@[simp] theorem rt97 : Try.f97.resultTypes.toList = [58] := (rfl)
@[simp] theorem nt98 : Try.f98.ntmps = 52 := (rfl)
@[simp] theorem rs98 : Try.f98.results.toList = [.tmp 4] := (rfl)
@[simp] theorem rt98 : Try.f98.resultTypes.toList = [77] := (rfl)
@[simp] theorem nt99 : Try.f99.ntmps = 12 := (rfl)
@[simp] theorem rs99 : Try.f99.results.toList = [.tmp 4] := (rfl)
@[simp] theorem rt99 : Try.f99.resultTypes.toList = [3] := (rfl)
@[simp] theorem nt100 : Try.f100.ntmps = 23 := (rfl)
@[simp] theorem rs100 : Try.f100.results.toList = [.tmp 2] := (rfl)
@[simp] theorem rt100 : Try.f100.resultTypes.toList = [43] := (rfl)
@[simp] theorem nt101 : Try.f101.ntmps = 18 := (rfl)
@[simp] theorem rs101 : Try.f101.results.toList = [.cell 4 55] := (rfl)
@[simp] theorem rt101 : Try.f101.resultTypes.toList = [55] := (rfl)
@[simp] theorem nt102 : Try.f102.ntmps = 5 := (rfl)
@[simp] theorem rs102 : Try.f102.results.toList = [.cell 2 55] := (rfl)
@[simp] theorem rt102 : Try.f102.resultTypes.toList = [55] := (rfl)
@[simp] theorem nt103 : Try.f103.ntmps = 87 := (rfl)
@[simp] theorem rs103 : Try.f103.results.toList = [.cell 4 55] := (rfl)
@[simp] theorem rt103 : Try.f103.resultTypes.toList = [55] := (rfl)
@[simp] theorem nt104 : Try.f104.ntmps = 5 := (rfl)
@[simp] theorem rs104 : Try.f104.results.toList = [.tmp 2] := (rfl)
@[simp] theorem rt104 : Try.f104.resultTypes.toList = [4] := (rfl)
@[simp] theorem nt105 : Try.f105.ntmps = 61 := (rfl)
@[simp] theorem rs105 : Try.f105.results.toList = [.tmp 4] := (rfl)
@[simp] theorem rt105 : Try.f105.resultTypes.toList = [3] := (rfl)
@[simp] theorem nt106 : Try.f106.ntmps = 8 := (rfl)
@[simp] theorem rs106 : Try.f106.results.toList = [.cell 2 55] := (rfl)
@[simp] theorem rt106 : Try.f106.resultTypes.toList = [55] := (rfl)
@[simp] theorem nt107 : Try.f107.ntmps = 18 := (rfl)
@[simp] theorem rs107 : Try.f107.results.toList = [.cell 6 55] := (rfl)
@[simp] theorem rt107 : Try.f107.resultTypes.toList = [55] := (rfl)
@[simp] theorem nt108 : Try.f108.ntmps = 38 := (rfl)
@[simp] theorem rs108 : Try.f108.results.toList = [.tmp 2, .cell 3 55] := (rfl)
@[simp] theorem rt108 : Try.f108.resultTypes.toList = [58, 55] := (rfl)
@[simp] theorem nt109 : Try.f109.ntmps = 58 := (rfl)
@[simp] theorem rs109 : Try.f109.results.toList = [.tmp 2] := (rfl)
@[simp] theorem rt109 : Try.f109.resultTypes.toList = [3] := (rfl)
@[simp] theorem nt110 : Try.f110.ntmps = 9 := (rfl)
@[simp] theorem rs110 : Try.f110.results.toList = [.tmp 4] := (rfl)
@[simp] theorem rt110 : Try.f110.resultTypes.toList = [4] := (rfl)
@[simp] theorem nt111 : Try.f111.ntmps = 11 := (rfl)
@[simp] theorem rs111 : Try.f111.results.toList = [.tmp 4] := (rfl)
@[simp] theorem rt111 : Try.f111.resultTypes.toList = [4] := (rfl)
@[simp] theorem nt112 : Try.f112.ntmps = 95 := (rfl)
@[simp] theorem rs112 : Try.f112.results.toList = [.tmp 6] := (rfl)
@[simp] theorem rt112 : Try.f112.resultTypes.toList = [4] := (rfl)
@[simp] theorem nt113 : Try.f113.ntmps = 9 := (rfl)
@[simp] theorem rs113 : Try.f113.results.toList = [.tmp 4] := (rfl)
@[simp] theorem rt113 : Try.f113.resultTypes.toList = [4] := (rfl)
@[simp] theorem nt114 : Try.f114.ntmps = 6 := (rfl)
@[simp] theorem rs114 : Try.f114.results.toList = [.tmp 2] := (rfl)
@[simp] theorem rt114 : Try.f114.resultTypes.toList = [4] := (rfl)
@[simp] theorem nt115 : Try.f115.ntmps = 151 := (rfl)
@[simp] theorem rs115 : Try.f115.results.toList = [.tmp 6] := (rfl)
@[simp] theorem rt115 : Try.f115.resultTypes.toList = [4] := (rfl)
@[simp] theorem nt116 : Try.f116.ntmps = 3 := (rfl)
@[simp] theorem rs116 : Try.f116.results.toList = [.cell 0 55] := (rfl)
@[simp] theorem rt116 : Try.f116.resultTypes.toList = [55] := (rfl)
@[simp] theorem nt117 : Try.f117.ntmps = 77 := (rfl)
@[simp] theorem rs117 : Try.f117.results.toList = [.tmp 6] := (rfl)
@[simp] theorem rt117 : Try.f117.resultTypes.toList = [58] := (rfl)
@[simp] theorem nt118 : Try.f118.ntmps = 9 := (rfl)
@[simp] theorem rs118 : Try.f118.results.toList = [.tmp 4] := (rfl)
@[simp] theorem rt118 : Try.f118.resultTypes.toList = [4] := (rfl)
@[simp] theorem nt119 : Try.f119.ntmps = 38 := (rfl)
@[simp] theorem rs119 : Try.f119.results.toList = [.cell 4 110] := (rfl)
@[simp] theorem rt119 : Try.f119.resultTypes.toList = [110] := (rfl)
@[simp] theorem nt120 : Try.f120.ntmps = 11 := (rfl)
@[simp] theorem rs120 : Try.f120.results.toList = [.cell 2 106] := (rfl)
@[simp] theorem rt120 : Try.f120.resultTypes.toList = [106] := (rfl)
@[simp] theorem nt121 : Try.f121.ntmps = 19 := (rfl)
@[simp] theorem rs121 : Try.f121.results.toList = [.tmp 4] := (rfl)
@[simp] theorem rt121 : Try.f121.resultTypes.toList = [3] := (rfl)
@[simp] theorem nt122 : Try.f122.ntmps = 24 := (rfl)
@[simp] theorem rs122 : Try.f122.results.toList = [.tmp 2, .tmp 3] := (rfl)
@[simp] theorem rt122 : Try.f122.resultTypes.toList = [9, 4] := (rfl)
@[simp] theorem nt123 : Try.f123.ntmps = 14 := (rfl)
@[simp] theorem rs123 : Try.f123.results.toList = [.tmp 4] := (rfl)
@[simp] theorem rt123 : Try.f123.resultTypes.toList = [4] := (rfl)
@[simp] theorem nt124 : Try.f124.ntmps = 16 := (rfl)
@[simp] theorem rs124 : Try.f124.results.toList = [.tmp 4] := (rfl)
@[simp] theorem rt124 : Try.f124.resultTypes.toList = [4] := (rfl)
@[simp] theorem nt125 : Try.f125.ntmps = 19 := (rfl)
@[simp] theorem rs125 : Try.f125.results.toList = [.tmp 4] := (rfl)
@[simp] theorem rt125 : Try.f125.resultTypes.toList = [3] := (rfl)
@[simp] theorem nt126 : Try.f126.ntmps = 77 := (rfl)
@[simp] theorem rs126 : Try.f126.results.toList = [.cell 6 110] := (rfl)
@[simp] theorem rt126 : Try.f126.resultTypes.toList = [110] := (rfl)
@[simp] theorem nt127 : Try.f127.ntmps = 9 := (rfl)
@[simp] theorem rs127 : Try.f127.results.toList = [.tmp 4] := (rfl)
@[simp] theorem rt127 : Try.f127.resultTypes.toList = [4] := (rfl)
@[simp] theorem nt128 : Try.f128.ntmps = 19 := (rfl)
@[simp] theorem rs128 : Try.f128.results.toList = [.tmp 4] := (rfl)
@[simp] theorem rt128 : Try.f128.resultTypes.toList = [3] := (rfl)
attribute [simp] op_fieldAddr op_indexAddr op_make op_slice m_build m_append op_build blt_len blt_len0 blt_lenS blt_cap
end Go.Proofs.Ytbdidcfjaohglaa.VM

