/- What the machine asks of the types and functions of the program. -/
import Derived.Test.YtninncdacekfgaaGreatV3s
import Derived.Test.YtninncdacekfgaaGreatProg
import Derived.KernelRfl
set_option linter.unusedVariables false
set_option maxRecDepth 100000
namespace Go.Proofs.YtninncdacekfgaaGreat.VM
open Go Go.Proofs
attribute [simp] Tryz.underlying3
@[simp] theorem co3 : Tryz.prog.cellsOf 3 = 1 := by kernel_rfl
@[simp] theorem ft3 : fieldTypes Tryz.prog 3 = [3] := by unfold fieldTypes; rw [Tryz.underlying3]
@[simp] theorem ek3 : elemOk Tryz.prog 3 = true := by kernel_rfl
@[simp] theorem zt3 : zeroT Tryz.prog 3 = some [.v (.int .i64 0)] := by kernel_rfl
@[simp] theorem in3 : (Tryz.prog.info? 3).isSome = true := by kernel_rfl
attribute [simp] Tryz.underlying4
@[simp] theorem co4 : Tryz.prog.cellsOf 4 = 1 := by kernel_rfl
@[simp] theorem ft4 : fieldTypes Tryz.prog 4 = [4] := by unfold fieldTypes; rw [Tryz.underlying4]
@[simp] theorem ek4 : elemOk Tryz.prog 4 = true := by kernel_rfl
@[simp] theorem zt4 : zeroT Tryz.prog 4 = some [.v (.bool false)] := by kernel_rfl
@[simp] theorem in4 : (Tryz.prog.info? 4).isSome = true := by kernel_rfl
attribute [simp] Tryz.underlying5
@[simp] theorem co5 : Tryz.prog.cellsOf 5 = 1 := by kernel_rfl
@[simp] theorem ft5 : fieldTypes Tryz.prog 5 = [5] := by unfold fieldTypes; rw [Tryz.underlying5]
@[simp] theorem ek5 : elemOk Tryz.prog 5 = true := by kernel_rfl
@[simp] theorem zt5 : zeroT Tryz.prog 5 = some [.v (.int .u8 0)] := by kernel_rfl
@[simp] theorem in5 : (Tryz.prog.info? 5).isSome = true := by kernel_rfl
attribute [simp] Tryz.underlying9
@[simp] theorem co9 : Tryz.prog.cellsOf 9 = 1 := by kernel_rfl
@[simp] theorem ft9 : fieldTypes Tryz.prog 9 = [9] := by unfold fieldTypes; rw [Tryz.underlying9]
@[simp] theorem ek9 : elemOk Tryz.prog 9 = true := by kernel_rfl
@[simp] theorem zt9 : zeroT Tryz.prog 9 = some [.v (.string ByteArray.empty)] := by kernel_rfl
@[simp] theorem in9 : (Tryz.prog.info? 9).isSome = true := by kernel_rfl
attribute [simp] Tryz.underlying22
@[simp] theorem co22 : Tryz.prog.cellsOf 22 = 1 := by kernel_rfl
@[simp] theorem el22 : elemOf Tryz.prog 22 = 5 := by unfold elemOf; rw [Tryz.underlying22]
@[simp] theorem ft22 : fieldTypes Tryz.prog 22 = [22] := by unfold fieldTypes; rw [Tryz.underlying22]
@[simp] theorem ek22 : elemOk Tryz.prog 22 = true := by kernel_rfl
@[simp] theorem zt22 : zeroT Tryz.prog 22 = some [.z] := by kernel_rfl
@[simp] theorem in22 : (Tryz.prog.info? 22).isSome = true := by kernel_rfl
attribute [simp] Tryz.underlying24
@[simp] theorem co24 : Tryz.prog.cellsOf 24 = 1 := by kernel_rfl
@[simp] theorem el24 : elemOf Tryz.prog 24 = 100 := by unfold elemOf; rw [Tryz.underlying24]
@[simp] theorem ft24 : fieldTypes Tryz.prog 24 = [24] := by unfold fieldTypes; rw [Tryz.underlying24]
@[simp] theorem ek24 : elemOk Tryz.prog 24 = true := by kernel_rfl
@[simp] theorem zt24 : zeroT Tryz.prog 24 = some [.z] := by kernel_rfl
@[simp] theorem in24 : (Tryz.prog.info? 24).isSome = true := by kernel_rfl
attribute [simp] Tryz.underlying25
@[simp] theorem co25 : Tryz.prog.cellsOf 25 = 1 := by kernel_rfl
@[simp] theorem el25 : elemOf Tryz.prog 25 = 71 := by unfold elemOf; rw [Tryz.underlying25]
@[simp] theorem ft25 : fieldTypes Tryz.prog 25 = [25] := by unfold fieldTypes; rw [Tryz.underlying25]
@[simp] theorem ek25 : elemOk Tryz.prog 25 = true := by kernel_rfl
@[simp] theorem zt25 : zeroT Tryz.prog 25 = some [.z] := by kernel_rfl
@[simp] theorem in25 : (Tryz.prog.info? 25).isSome = true := by kernel_rfl
attribute [simp] Tryz.underlying26
@[simp] theorem co26 : Tryz.prog.cellsOf 26 = 1 := by kernel_rfl
@[simp] theorem el26 : elemOf Tryz.prog 26 = 97 := by unfold elemOf; rw [Tryz.underlying26]
@[simp] theorem ft26 : fieldTypes Tryz.prog 26 = [26] := by unfold fieldTypes; rw [Tryz.underlying26]
@[simp] theorem ek26 : elemOk Tryz.prog 26 = true := by kernel_rfl
@[simp] theorem zt26 : zeroT Tryz.prog 26 = some [.z] := by kernel_rfl
@[simp] theorem in26 : (Tryz.prog.info? 26).isSome = true := by kernel_rfl
attribute [simp] Tryz.underlying27
@[simp] theorem co27 : Tryz.prog.cellsOf 27 = 1 := by kernel_rfl
@[simp] theorem el27 : elemOf Tryz.prog 27 = 68 := by unfold elemOf; rw [Tryz.underlying27]
@[simp] theorem ft27 : fieldTypes Tryz.prog 27 = [27] := by unfold fieldTypes; rw [Tryz.underlying27]
@[simp] theorem ek27 : elemOk Tryz.prog 27 = true := by kernel_rfl
@[simp] theorem zt27 : zeroT Tryz.prog 27 = some [.z] := by kernel_rfl
@[simp] theorem in27 : (Tryz.prog.info? 27).isSome = true := by kernel_rfl
attribute [simp] Tryz.underlying29
@[simp] theorem co29 : Tryz.prog.cellsOf 29 = 4 := by kernel_rfl
@[simp] theorem ft29 : fieldTypes Tryz.prog 29 = [24, 25, 26, 27] := by unfold fieldTypes; rw [Tryz.underlying29]; rfl
@[simp] theorem ek29 : elemOk Tryz.prog 29 = true := by kernel_rfl
@[simp] theorem zt29 : zeroT Tryz.prog 29 = some [.z, .z, .z, .z] := by kernel_rfl
@[simp] theorem in29 : (Tryz.prog.info? 29).isSome = true := by kernel_rfl
attribute [simp] Tryz.underlying30
@[simp] theorem co30 : Tryz.prog.cellsOf 30 = 1 := by kernel_rfl
@[simp] theorem el30 : elemOf Tryz.prog 30 = 62 := by unfold elemOf; rw [Tryz.underlying30]
@[simp] theorem ft30 : fieldTypes Tryz.prog 30 = [30] := by unfold fieldTypes; rw [Tryz.underlying30]
@[simp] theorem ek30 : elemOk Tryz.prog 30 = true := by kernel_rfl
@[simp] theorem zt30 : zeroT Tryz.prog 30 = some [.z] := by kernel_rfl
@[simp] theorem in30 : (Tryz.prog.info? 30).isSome = true := by kernel_rfl
attribute [simp] Tryz.underlying33
@[simp] theorem co33 : Tryz.prog.cellsOf 33 = 1 := by kernel_rfl
@[simp] theorem el33 : elemOf Tryz.prog 33 = 3 := by unfold elemOf; rw [Tryz.underlying33]
@[simp] theorem ft33 : fieldTypes Tryz.prog 33 = [33] := by unfold fieldTypes; rw [Tryz.underlying33]
@[simp] theorem ek33 : elemOk Tryz.prog 33 = true := by kernel_rfl
@[simp] theorem zt33 : zeroT Tryz.prog 33 = some [.z] := by kernel_rfl
@[simp] theorem in33 : (Tryz.prog.info? 33).isSome = true := by kernel_rfl
attribute [simp] Tryz.underlying39
@[simp] theorem co39 : Tryz.prog.cellsOf 39 = 1 := by kernel_rfl
@[simp] theorem el39 : elemOf Tryz.prog 39 = 129 := by unfold elemOf; rw [Tryz.underlying39]
@[simp] theorem ft39 : fieldTypes Tryz.prog 39 = [39] := by unfold fieldTypes; rw [Tryz.underlying39]
@[simp] theorem ek39 : elemOk Tryz.prog 39 = true := by kernel_rfl
@[simp] theorem zt39 : zeroT Tryz.prog 39 = some [.z] := by kernel_rfl
@[simp] theorem in39 : (Tryz.prog.info? 39).isSome = true := by kernel_rfl
attribute [simp] Tryz.underlying40
@[simp] theorem co40 : Tryz.prog.cellsOf 40 = 1 := by kernel_rfl
@[simp] theorem el40 : elemOf Tryz.prog 40 = 131 := by unfold elemOf; rw [Tryz.underlying40]
@[simp] theorem ft40 : fieldTypes Tryz.prog 40 = [40] := by unfold fieldTypes; rw [Tryz.underlying40]
@[simp] theorem ek40 : elemOk Tryz.prog 40 = true := by kernel_rfl
@[simp] theorem zt40 : zeroT Tryz.prog 40 = some [.z] := by kernel_rfl
@[simp] theorem in40 : (Tryz.prog.info? 40).isSome = true := by kernel_rfl
attribute [simp] Tryz.underlying41
@[simp] theorem co41 : Tryz.prog.cellsOf 41 = 1 := by kernel_rfl
@[simp] theorem el41 : elemOf Tryz.prog 41 = 133 := by unfold elemOf; rw [Tryz.underlying41]
@[simp] theorem ft41 : fieldTypes Tryz.prog 41 = [41] := by unfold fieldTypes; rw [Tryz.underlying41]
@[simp] theorem ek41 : elemOk Tryz.prog 41 = true := by kernel_rfl
@[simp] theorem zt41 : zeroT Tryz.prog 41 = some [.z] := by kernel_rfl
@[simp] theorem in41 : (Tryz.prog.info? 41).isSome = true := by kernel_rfl
attribute [simp] Tryz.underlying42
@[simp] theorem co42 : Tryz.prog.cellsOf 42 = 1 := by kernel_rfl
@[simp] theorem el42 : elemOf Tryz.prog 42 = 135 := by unfold elemOf; rw [Tryz.underlying42]
@[simp] theorem ft42 : fieldTypes Tryz.prog 42 = [42] := by unfold fieldTypes; rw [Tryz.underlying42]
@[simp] theorem ek42 : elemOk Tryz.prog 42 = true := by kernel_rfl
@[simp] theorem zt42 : zeroT Tryz.prog 42 = some [.z] := by kernel_rfl
@[simp] theorem in42 : (Tryz.prog.info? 42).isSome = true := by kernel_rfl
attribute [simp] Tryz.underlying44
@[simp] theorem co44 : Tryz.prog.cellsOf 44 = 4 := by kernel_rfl
@[simp] theorem ft44 : fieldTypes Tryz.prog 44 = [39, 40, 41, 42] := by unfold fieldTypes; rw [Tryz.underlying44]; rfl
@[simp] theorem ek44 : elemOk Tryz.prog 44 = true := by kernel_rfl
@[simp] theorem zt44 : zeroT Tryz.prog 44 = some [.z, .z, .z, .z] := by kernel_rfl
@[simp] theorem in44 : (Tryz.prog.info? 44).isSome = true := by kernel_rfl
attribute [simp] Tryz.underlying62
@[simp] theorem co62 : Tryz.prog.cellsOf 62 = 2 := by kernel_rfl
@[simp] theorem ft62 : fieldTypes Tryz.prog 62 = [3, 3] := by unfold fieldTypes; rw [Tryz.underlying62]; rfl
@[simp] theorem ek62 : elemOk Tryz.prog 62 = true := by kernel_rfl
@[simp] theorem zt62 : zeroT Tryz.prog 62 = some [.v (.int .i64 0), .v (.int .i64 0)] := by kernel_rfl
@[simp] theorem in62 : (Tryz.prog.info? 62).isSome = true := by kernel_rfl
attribute [simp] Tryz.underlying68
@[simp] theorem co68 : Tryz.prog.cellsOf 68 = 1 := by kernel_rfl
@[simp] theorem el68 : elemOf Tryz.prog 68 = 96 := by unfold elemOf; rw [Tryz.underlying68]
@[simp] theorem ft68 : fieldTypes Tryz.prog 68 = [68] := by unfold fieldTypes; rw [Tryz.underlying68]
@[simp] theorem ek68 : elemOk Tryz.prog 68 = true := by kernel_rfl
@[simp] theorem zt68 : zeroT Tryz.prog 68 = some [.z] := by kernel_rfl
@[simp] theorem in68 : (Tryz.prog.info? 68).isSome = true := by kernel_rfl
attribute [simp] Tryz.underlying71
@[simp] theorem co71 : Tryz.prog.cellsOf 71 = 4 := by kernel_rfl
@[simp] theorem ft71 : fieldTypes Tryz.prog 71 = [3, 33, 33, 3] := by unfold fieldTypes; rw [Tryz.underlying71]; rfl
@[simp] theorem ek71 : elemOk Tryz.prog 71 = true := by kernel_rfl
@[simp] theorem zt71 : zeroT Tryz.prog 71 = some [.v (.int .i64 0), .z, .z, .v (.int .i64 0)] := by kernel_rfl
@[simp] theorem in71 : (Tryz.prog.info? 71).isSome = true := by kernel_rfl
attribute [simp] Tryz.underlying91
@[simp] theorem co91 : Tryz.prog.cellsOf 91 = 3 := by kernel_rfl
@[simp] theorem ft91 : fieldTypes Tryz.prog 91 = [22, 3, 3] := by unfold fieldTypes; rw [Tryz.underlying91]; rfl
@[simp] theorem ek91 : elemOk Tryz.prog 91 = true := by kernel_rfl
@[simp] theorem zt91 : zeroT Tryz.prog 91 = some [.z, .v (.int .i64 0), .v (.int .i64 0)] := by kernel_rfl
@[simp] theorem in91 : (Tryz.prog.info? 91).isSome = true := by kernel_rfl
attribute [simp] Tryz.underlying96
@[simp] theorem co96 : Tryz.prog.cellsOf 96 = 3 := by kernel_rfl
@[simp] theorem ft96 : fieldTypes Tryz.prog 96 = [3, 3, 3] := by unfold fieldTypes; rw [Tryz.underlying96]; rfl
@[simp] theorem ek96 : elemOk Tryz.prog 96 = true := by kernel_rfl
@[simp] theorem zt96 : zeroT Tryz.prog 96 = some [.v (.int .i64 0), .v (.int .i64 0), .v (.int .i64 0)] := by kernel_rfl
@[simp] theorem in96 : (Tryz.prog.info? 96).isSome = true := by kernel_rfl
attribute [simp] Tryz.underlying97
@[simp] theorem co97 : Tryz.prog.cellsOf 97 = 1 := by kernel_rfl
@[simp] theorem el97 : elemOf Tryz.prog 97 = 99 := by unfold elemOf; rw [Tryz.underlying97]
@[simp] theorem ft97 : fieldTypes Tryz.prog 97 = [97] := by unfold fieldTypes; rw [Tryz.underlying97]
@[simp] theorem ek97 : elemOk Tryz.prog 97 = true := by kernel_rfl
@[simp] theorem zt97 : zeroT Tryz.prog 97 = some [.z] := by kernel_rfl
@[simp] theorem in97 : (Tryz.prog.info? 97).isSome = true := by kernel_rfl
attribute [simp] Tryz.underlying99
@[simp] theorem co99 : Tryz.prog.cellsOf 99 = 2 := by kernel_rfl
@[simp] theorem ft99 : fieldTypes Tryz.prog 99 = [4, 3] := by unfold fieldTypes; rw [Tryz.underlying99]; rfl
@[simp] theorem ek99 : elemOk Tryz.prog 99 = true := by kernel_rfl
@[simp] theorem zt99 : zeroT Tryz.prog 99 = some [.v (.bool false), .v (.int .i64 0)] := by kernel_rfl
@[simp] theorem in99 : (Tryz.prog.info? 99).isSome = true := by kernel_rfl
attribute [simp] Tryz.underlying100
@[simp] theorem co100 : Tryz.prog.cellsOf 100 = 1 := by kernel_rfl
@[simp] theorem el100 : elemOf Tryz.prog 100 = 105 := by unfold elemOf; rw [Tryz.underlying100]
@[simp] theorem ft100 : fieldTypes Tryz.prog 100 = [100] := by unfold fieldTypes; rw [Tryz.underlying100]
@[simp] theorem ek100 : elemOk Tryz.prog 100 = true := by kernel_rfl
@[simp] theorem zt100 : zeroT Tryz.prog 100 = some [.z] := by kernel_rfl
@[simp] theorem in100 : (Tryz.prog.info? 100).isSome = true := by kernel_rfl
attribute [simp] Tryz.underlying105
@[simp] theorem co105 : Tryz.prog.cellsOf 105 = 5 := by kernel_rfl
@[simp] theorem ft105 : fieldTypes Tryz.prog 105 = [3, 3, 3, 3, 3] := by unfold fieldTypes; rw [Tryz.underlying105]; rfl
@[simp] theorem ek105 : elemOk Tryz.prog 105 = true := by kernel_rfl
@[simp] theorem zt105 : zeroT Tryz.prog 105 = some [.v (.int .i64 0), .v (.int .i64 0), .v (.int .i64 0), .v (.int .i64 0), .v (.int .i64 0)] := by kernel_rfl
@[simp] theorem in105 : (Tryz.prog.info? 105).isSome = true := by kernel_rfl
attribute [simp] Tryz.underlying114
@[simp] theorem co114 : Tryz.prog.cellsOf 114 = 1 := by kernel_rfl
@[simp] theorem el114 : elemOf Tryz.prog 114 = 159 := by unfold elemOf; rw [Tryz.underlying114]
@[simp] theorem ft114 : fieldTypes Tryz.prog 114 = [114] := by unfold fieldTypes; rw [Tryz.underlying114]
@[simp] theorem ek114 : elemOk Tryz.prog 114 = true := by kernel_rfl
@[simp] theorem zt114 : zeroT Tryz.prog 114 = some [.z] := by kernel_rfl
@[simp] theorem in114 : (Tryz.prog.info? 114).isSome = true := by kernel_rfl
attribute [simp] Tryz.underlying129
@[simp] theorem co129 : Tryz.prog.cellsOf 129 = 1 := by kernel_rfl
@[simp] theorem el129 : elemOf Tryz.prog 129 = 169 := by unfold elemOf; rw [Tryz.underlying129]
@[simp] theorem ft129 : fieldTypes Tryz.prog 129 = [129] := by unfold fieldTypes; rw [Tryz.underlying129]
@[simp] theorem ek129 : elemOk Tryz.prog 129 = true := by kernel_rfl
@[simp] theorem zt129 : zeroT Tryz.prog 129 = some [.z] := by kernel_rfl
@[simp] theorem in129 : (Tryz.prog.info? 129).isSome = true := by kernel_rfl
attribute [simp] Tryz.underlying131
@[simp] theorem co131 : Tryz.prog.cellsOf 131 = 4 := by kernel_rfl
@[simp] theorem ft131 : fieldTypes Tryz.prog 131 = [3, 33, 33, 3] := by unfold fieldTypes; rw [Tryz.underlying131]; rfl
@[simp] theorem ek131 : elemOk Tryz.prog 131 = true := by kernel_rfl
@[simp] theorem zt131 : zeroT Tryz.prog 131 = some [.v (.int .i64 0), .z, .z, .v (.int .i64 0)] := by kernel_rfl
@[simp] theorem in131 : (Tryz.prog.info? 131).isSome = true := by kernel_rfl
attribute [simp] Tryz.underlying133
@[simp] theorem co133 : Tryz.prog.cellsOf 133 = 1 := by kernel_rfl
@[simp] theorem el133 : elemOf Tryz.prog 133 = 171 := by unfold elemOf; rw [Tryz.underlying133]
@[simp] theorem ft133 : fieldTypes Tryz.prog 133 = [133] := by unfold fieldTypes; rw [Tryz.underlying133]
@[simp] theorem ek133 : elemOk Tryz.prog 133 = true := by kernel_rfl
@[simp] theorem zt133 : zeroT Tryz.prog 133 = some [.z] := by kernel_rfl
@[simp] theorem in133 : (Tryz.prog.info? 133).isSome = true := by kernel_rfl
attribute [simp] Tryz.underlying135
@[simp] theorem co135 : Tryz.prog.cellsOf 135 = 1 := by kernel_rfl
@[simp] theorem el135 : elemOf Tryz.prog 135 = 173 := by unfold elemOf; rw [Tryz.underlying135]
@[simp] theorem ft135 : fieldTypes Tryz.prog 135 = [135] := by unfold fieldTypes; rw [Tryz.underlying135]
@[simp] theorem ek135 : elemOk Tryz.prog 135 = true := by kernel_rfl
@[simp] theorem zt135 : zeroT Tryz.prog 135 = some [.z] := by kernel_rfl
@[simp] theorem in135 : (Tryz.prog.info? 135).isSome = true := by kernel_rfl
attribute [simp] Tryz.underlying159
@[simp] theorem co159 : Tryz.prog.cellsOf 159 = 2 := by kernel_rfl
@[simp] theorem ft159 : fieldTypes Tryz.prog 159 = [3, 3] := by unfold fieldTypes; rw [Tryz.underlying159]; rfl
@[simp] theorem ek159 : elemOk Tryz.prog 159 = true := by kernel_rfl
@[simp] theorem zt159 : zeroT Tryz.prog 159 = some [.v (.int .i64 0), .v (.int .i64 0)] := by kernel_rfl
@[simp] theorem in159 : (Tryz.prog.info? 159).isSome = true := by kernel_rfl
attribute [simp] Tryz.underlying169
@[simp] theorem co169 : Tryz.prog.cellsOf 169 = 5 := by kernel_rfl
@[simp] theorem ft169 : fieldTypes Tryz.prog 169 = [3, 3, 3, 3, 3] := by unfold fieldTypes; rw [Tryz.underlying169]; rfl
@[simp] theorem ek169 : elemOk Tryz.prog 169 = true := by kernel_rfl
@[simp] theorem zt169 : zeroT Tryz.prog 169 = some [.v (.int .i64 0), .v (.int .i64 0), .v (.int .i64 0), .v (.int .i64 0), .v (.int .i64 0)] := by kernel_rfl
@[simp] theorem in169 : (Tryz.prog.info? 169).isSome = true := by kernel_rfl
attribute [simp] Tryz.underlying171
@[simp] theorem co171 : Tryz.prog.cellsOf 171 = 2 := by kernel_rfl
@[simp] theorem ft171 : fieldTypes Tryz.prog 171 = [4, 3] := by unfold fieldTypes; rw [Tryz.underlying171]; rfl
@[simp] theorem ek171 : elemOk Tryz.prog 171 = true := by kernel_rfl
@[simp] theorem zt171 : zeroT Tryz.prog 171 = some [.v (.bool false), .v (.int .i64 0)] := by kernel_rfl
@[simp] theorem in171 : (Tryz.prog.info? 171).isSome = true := by kernel_rfl
attribute [simp] Tryz.underlying173
@[simp] theorem co173 : Tryz.prog.cellsOf 173 = 3 := by kernel_rfl
@[simp] theorem ft173 : fieldTypes Tryz.prog 173 = [3, 3, 3] := by unfold fieldTypes; rw [Tryz.underlying173]; rfl
@[simp] theorem ek173 : elemOk Tryz.prog 173 = true := by kernel_rfl
@[simp] theorem zt173 : zeroT Tryz.prog 173 = some [.v (.int .i64 0), .v (.int .i64 0), .v (.int .i64 0)] := by kernel_rfl
@[simp] theorem in173 : (Tryz.prog.info? 173).isSome = true := by kernel_rfl
attribute [simp] Tryz.underlying187
@[simp] theorem co187 : Tryz.prog.cellsOf 187 = 1 := by kernel_rfl
@[simp] theorem el187 : elemOf Tryz.prog 187 = 33 := by unfold elemOf; rw [Tryz.underlying187]
@[simp] theorem ft187 : fieldTypes Tryz.prog 187 = [187] := by unfold fieldTypes; rw [Tryz.underlying187]
@[simp] theorem ek187 : elemOk Tryz.prog 187 = true := by kernel_rfl
@[simp] theorem zt187 : zeroT Tryz.prog 187 = some [.z] := by kernel_rfl
@[simp] theorem in187 : (Tryz.prog.info? 187).isSome = true := by kernel_rfl
@[simp] theorem nt3 : Tryz.f3.ntmps = 89 := (rfl)
@[simp] theorem rs3 : Tryz.f3.results.toList = [.tmp 2] := (rfl)
@[simp] theorem rt3 : Tryz.f3.resultTypes.toList = [4] := (rfl)
@[simp] theorem nt5 : Tryz.f5.ntmps = 6 := (rfl)
@[simp] theorem rs5 : Tryz.f5.results.toList = [.tmp 2] := (rfl)
@[simp] theorem rt5 : Tryz.f5.resultTypes.toList = [4] := (rfl)
@[simp] theorem nt6 : Tryz.f6.ntmps = 37 := (rfl)
@[simp] theorem rs6 : Tryz.f6.results.toList = [.cell 2 29, .tmp 3] := (rfl)
@[simp] theorem rt6 : Tryz.f6.resultTypes.toList = [29, 30] := (rfl)
@[simp] theorem nt7 : Tryz.f7.ntmps = 47 := (rfl)
@[simp] theorem rs7 : Tryz.f7.results.toList = [.cell 4 29, .tmp 5] := (rfl)
@[simp] theorem rt7 : Tryz.f7.resultTypes.toList = [29, 33] := (rfl)
@[simp] theorem nt8 : Tryz.f8.ntmps = 54 := (rfl)
@[simp] theorem rs8 : Tryz.f8.results.toList = [.cell 4 29, .tmp 5] := (rfl)
@[simp] theorem rt8 : Tryz.f8.resultTypes.toList = [29, 33] := (rfl)
@[simp] theorem nt9 : Tryz.f9.ntmps = 26 := (rfl)
@[simp] theorem rs9 : Tryz.f9.results.toList = [.tmp 4] := (rfl)
@[simp] theorem rt9 : Tryz.f9.resultTypes.toList = [4] := (rfl)
@[simp] theorem nt10 : Tryz.f10.ntmps = 32 := (rfl)
@[simp] theorem rs10 : Tryz.f10.results.toList = [.tmp 4] := (rfl)
@[simp] theorem rt10 : Tryz.f10.resultTypes.toList = [4] := (rfl)
@[simp] theorem nt11 : Tryz.f11.ntmps = 20 := (rfl)
@[simp] theorem rs11 : Tryz.f11.results.toList = [.tmp 4] := (rfl)
@[simp] theorem rt11 : Tryz.f11.resultTypes.toList = [3] := (rfl)
@[simp] theorem nt12 : Tryz.f12.ntmps = 32 := (rfl)
@[simp] theorem rs12 : Tryz.f12.results.toList = [.tmp 4] := (rfl)
@[simp] theorem rt12 : Tryz.f12.resultTypes.toList = [4] := (rfl)
@[simp] theorem nt23 : Tryz.f23.ntmps = 32 := (rfl)
@[simp] theorem rs23 : Tryz.f23.results.toList = [.tmp 2] := (rfl)
@[simp] theorem rt23 : Tryz.f23.resultTypes.toList = [53] := (rfl)
@[simp] theorem nt24 : Tryz.f24.ntmps = 50 := (rfl)
@[simp] theorem rs24 : Tryz.f24.results.toList = [.cell 4 29, .tmp 5, .cell 6 29] := (rfl)
@[simp] theorem rt24 : Tryz.f24.resultTypes.toList = [29, 30, 29] := (rfl)
@[simp] theorem nt25 : Tryz.f25.ntmps = 18 := (rfl)
@[simp] theorem rs25 : Tryz.f25.results.toList = [.tmp 6] := (rfl)
@[simp] theorem rt25 : Tryz.f25.resultTypes.toList = [3] := (rfl)
@[simp] theorem nt26 : Tryz.f26.ntmps = 9 := (rfl)
@[simp] theorem rs26 : Tryz.f26.results.toList = [.tmp 4] := (rfl)
@[simp] theorem rt26 : Tryz.f26.resultTypes.toList = [4] := (rfl)
@[simp] theorem nt27 : Tryz.f27.ntmps = 111 := (rfl)
@[simp] theorem rs27 : Tryz.f27.results.toList = [.cell 4 29] := (rfl)
@[simp] theorem rt27 : Tryz.f27.resultTypes.toList = [29] := (rfl)
@[simp] theorem nt28 : Tryz.f28.ntmps = 37 := (rfl)
@[simp] theorem rs28 : Tryz.f28.results.toList = [.tmp 4] := (rfl)
@[simp] theorem rt28 : Tryz.f28.resultTypes.toList = [3] := (rfl)
@[simp] theorem nt29 : Tryz.f29.ntmps = 74 := (rfl)
@[simp] theorem rs29 : Tryz.f29.results.toList = [.cell 2 29] := (rfl)
@[simp] theorem rt29 : Tryz.f29.resultTypes.toList = [29] := (rfl)
@[simp] theorem nt30 : Tryz.f30.ntmps = 73 := (rfl)
@[simp] theorem rs30 : Tryz.f30.results.toList = [.tmp 2] := (rfl)
@[simp] theorem rt30 : Tryz.f30.resultTypes.toList = [4] := (rfl)
@[simp] theorem nt31 : Tryz.f31.ntmps = 95 := (rfl)
@[simp] theorem rs31 : Tryz.f31.results.toList = [.cell 6 29, .tmp 7] := (rfl)
@[simp] theorem rt31 : Tryz.f31.resultTypes.toList = [29, 3] := (rfl)
@[simp] theorem nt32 : Tryz.f32.ntmps = 51 := (rfl)
@[simp] theorem rs32 : Tryz.f32.results.toList = [.cell 2 29] := (rfl)
@[simp] theorem rt32 : Tryz.f32.resultTypes.toList = [29] := (rfl)
@[simp] theorem nt33 : Tryz.f33.ntmps = 157 := (rfl)
@[simp] theorem rs33 : Tryz.f33.results.toList = [.tmp 2] := (rfl)
@[simp] theorem rt33 : Tryz.f33.resultTypes.toList = [4] := (rfl)
@[simp] theorem nt34 : Tryz.f34.ntmps = 29 := (rfl)
@[simp] theorem rs34 : Tryz.f34.results.toList = [.cell 6 29, .tmp 7] := (rfl)
@[simp] theorem rt34 : Tryz.f34.resultTypes.toList = [29, 3] := (rfl)
@[simp] theorem nt35 : Tryz.f35.ntmps = 26 := (rfl)
@[simp] theorem rs35 : Tryz.f35.results.toList = [.tmp 4] := (rfl)
@[simp] theorem rt35 : Tryz.f35.resultTypes.toList = [4] := (rfl)
@[simp] theorem nt36 : Tryz.f36.ntmps = 31 := (rfl)
@[simp] theorem rs36 : Tryz.f36.results.toList = [.tmp 4] := (rfl)
@[simp] theorem rt36 : Tryz.f36.resultTypes.toList = [4] := (rfl)
@[simp] theorem nt61 : Tryz.f61.ntmps = 30 := (rfl)
@[simp] theorem rs61 : Tryz.f61.results.toList = [.cell 2 29] := (rfl)
@[simp] theorem rt61 : Tryz.f61.resultTypes.toList = [29] := (rfl)
@[simp] theorem nt62 : Tryz.f62.ntmps = 41 := (rfl)
@[simp] theorem rs62 : Tryz.f62.results.toList = [.cell 4 62] := (rfl)
@[simp] theorem rt62 : Tryz.f62.resultTypes.toList = [62] := (rfl)
@[simp] theorem nt63 : Tryz.f63.ntmps = 17 := (rfl)
@[simp] theorem rs63 : Tryz.f63.results.toList = [.cell 4 29] := (rfl)
@[simp] theorem rt63 : Tryz.f63.resultTypes.toList = [29] := (rfl)
@[simp] theorem nt64 : Tryz.f64.ntmps = 10 := (rfl)
@[simp] theorem rs64 : Tryz.f64.results.toList = [.tmp 4] := (rfl)
@[simp] theorem rt64 : Tryz.f64.resultTypes.toList = [3] := (rfl)
@[simp] theorem nt65 : Tryz.f65.ntmps = 37 := (rfl)
@[simp] theorem rs65 : Tryz.f65.results.toList = [.tmp 2] := (rfl)
@[simp] theorem rt65 : Tryz.f65.resultTypes.toList = [100] := (rfl)
@[simp] theorem nt66 : Tryz.f66.ntmps = 58 := (rfl)
@[simp] theorem rs66 : Tryz.f66.results.toList = [.tmp 2] := (rfl)
@[simp] theorem rt66 : Tryz.f66.resultTypes.toList = [3] := (rfl)
@[simp] theorem nt67 : Tryz.f67.ntmps = 8 := (rfl)
@[simp] theorem rs67 : Tryz.f67.results.toList = [.tmp 2] := (rfl)
@[simp] theorem rt67 : Tryz.f67.resultTypes.toList = [100] := (rfl)
@[simp] theorem nt68 : Tryz.f68.ntmps = 12 := (rfl)
@[simp] theorem rs68 : Tryz.f68.results.toList = [.cell 2 71] := (rfl)
@[simp] theorem rt68 : Tryz.f68.resultTypes.toList = [71] := (rfl)
@[simp] theorem nt69 : Tryz.f69.ntmps = 8 := (rfl)
@[simp] theorem rs69 : Tryz.f69.results.toList = [.tmp 2] := (rfl)
@[simp] theorem rt69 : Tryz.f69.resultTypes.toList = [97] := (rfl)
@[simp] theorem nt70 : Tryz.f70.ntmps = 8 := (rfl)
@[simp] theorem rs70 : Tryz.f70.results.toList = [.tmp 2] := (rfl)
@[simp] theorem rt70 : Tryz.f70.resultTypes.toList = [68] := (rfl)
@[simp] theorem nt71 : Tryz.f71.ntmps = 15 := (rfl)
@[simp] theorem rs71 : Tryz.f71.results.toList = [.tmp 6] := (rfl)
@[simp] theorem rt71 : Tryz.f71.resultTypes.toList = [4] := (rfl)
@[simp] theorem nt72 : Tryz.f72.ntmps = 9 := (rfl)
@[simp] theorem rs72 : Tryz.f72.results.toList = [.tmp 4] := (rfl)
@[simp] theorem rt72 : Tryz.f72.resultTypes.toList = [4] := (rfl)
@[simp] theorem nt73 : Tryz.f73.ntmps = 6 := (rfl)
@[simp] theorem rs73 : Tryz.f73.results.toList = [.tmp 2] := (rfl)
@[simp] theorem rt73 : Tryz.f73.resultTypes.toList = [4] := (rfl)
@[simp] theorem nt74 : Tryz.f74.ntmps = 11 := (rfl)
@[simp] theorem rs74 : Tryz.f74.results.toList = [.tmp 2] := (rfl)
@[simp] theorem rt74 : Tryz.f74.resultTypes.toList = [4] := (rfl)
@[simp] theorem nt75 : Tryz.f75.ntmps = 53 := (rfl)
@[simp] theorem rs75 : Tryz.f75.results.toList = [.tmp 4] := (rfl)
@[simp] theorem rt75 : Tryz.f75.resultTypes.toList = [4] := (rfl)
@[simp] theorem nt76 : Tryz.f76.ntmps = 35 := (rfl)
@[simp] theorem rs76 : Tryz.f76.results.toList = [.tmp 6] := (rfl)
@[simp] theorem rt76 : Tryz.f76.resultTypes.toList = [4] := (rfl)
@[simp] theorem nt77 : Tryz.f77.ntmps = 84 := (rfl)
@[simp] theorem rs77 : Tryz.f77.results.toList = [.tmp 2] := (rfl)
@[simp] theorem rt77 : Tryz.f77.resultTypes.toList = [114] := (rfl)
@[simp] theorem nt78 : Tryz.f78.ntmps = 18 := (rfl)
@[simp] theorem rs78 : Tryz.f78.results.toList = [.tmp 2] := (rfl)
@[simp] theorem rt78 : Tryz.f78.resultTypes.toList = [3] := (rfl)
@[simp] theorem nt79 : Tryz.f79.ntmps = 106 := (rfl)
@[simp] theorem rs79 : Tryz.f79.results.toList = [.cell 6 96, .tmp 7] := (rfl)
@[simp] theorem rt79 : Tryz.f79.resultTypes.toList = [96, 3] := (rfl)
@[simp] theorem nt80 : Tryz.f80.ntmps = 91 := (rfl)
@[simp] theorem rs80 : Tryz.f80.results.toList = [.cell 6 71] := (rfl)
@[simp] theorem rt80 : Tryz.f80.resultTypes.toList = [71] := (rfl)
@[simp] theorem nt81 : Tryz.f81.ntmps = 39 := (rfl)
@[simp] theorem rs81 : Tryz.f81.results.toList = [.tmp 6] := (rfl)
@[simp] theorem rt81 : Tryz.f81.resultTypes.toList = [3] := (rfl)
@[simp] theorem nt82 : Tryz.f82.ntmps = 22 := (rfl)
@[simp] theorem rs82 : Tryz.f82.results.toList = [.tmp 2] := (rfl)
@[simp] theorem rt82 : Tryz.f82.resultTypes.toList = [24] := (rfl)
@[simp] theorem nt83 : Tryz.f83.ntmps = 22 := (rfl)
@[simp] theorem rs83 : Tryz.f83.results.toList = [.tmp 2] := (rfl)
@[simp] theorem rt83 : Tryz.f83.resultTypes.toList = [27] := (rfl)
@[simp] theorem nt84 : Tryz.f84.ntmps = 14 := (rfl)
@[simp] theorem rs84 : Tryz.f84.results.toList = [.cell 2 71] := (rfl)
@[simp] theorem rt84 : Tryz.f84.resultTypes.toList = [71] := (rfl)
@[simp] theorem nt85 : Tryz.f85.ntmps = 15 := (rfl)
@[simp] theorem rs85 : Tryz.f85.results.toList = [.tmp 6] := (rfl)
@[simp] theorem rt85 : Tryz.f85.resultTypes.toList = [4] := (rfl)
@[simp] theorem nt86 : Tryz.f86.ntmps = 28 := (rfl)
@[simp] theorem rs86 : Tryz.f86.results.toList = [.tmp 4] := (rfl)
@[simp] theorem rt86 : Tryz.f86.resultTypes.toList = [4] := (rfl)
@[simp] theorem nt87 : Tryz.f87.ntmps = 20 := (rfl)
@[simp] theorem rs87 : Tryz.f87.results.toList = [.cell 4 71, .tmp 5] := (rfl)
@[simp] theorem rt87 : Tryz.f87.resultTypes.toList = [71, 4] := (rfl)
@[simp] theorem nt88 : Tryz.f88.ntmps = 73 := (rfl)
@[simp] theorem rs88 : Tryz.f88.results.toList = [.tmp 4] := (rfl)
@[simp] theorem rt88 : Tryz.f88.resultTypes.toList = [4] := (rfl)
@[simp] theorem nt89 : Tryz.f89.ntmps = 41 := (rfl)
@[simp] theorem rs89 : Tryz.f89.results.toList = [.tmp 6] := (rfl)
@[simp] theorem rt89 : Tryz.f89.resultTypes.toList = [33] := (rfl)
@[simp] theorem nt90 : Tryz.f90.ntmps = 69 := (rfl)
@[simp] theorem rs90 : Tryz.f90.results.toList = [.tmp 6] := (rfl)
@[simp] theorem rt90 : Tryz.f90.resultTypes.toList = [4] := (rfl)
@[simp] theorem nt91 : Tryz.f91.ntmps = 99 := (rfl)
@[simp] theorem rs91 : Tryz.f91.results.toList = [.tmp 2] := (rfl)
@[simp] theorem rt91 : Tryz.f91.resultTypes.toList = [4] := (rfl)
@[simp] theorem nt92 : Tryz.f92.ntmps = 163 := (rfl)
@[simp] theorem rs92 : Tryz.f92.results.toList = [.cell 6 29, .tmp 7] := (rfl)
@[simp] theorem rt92 : Tryz.f92.resultTypes.toList = [29, 3] := (rfl)
@[simp] theorem nt99 : Tryz.f99.ntmps = 12 := (rfl)
@[simp] theorem rs99 : Tryz.f99.results.toList = [.tmp 6] := (rfl)
@[simp] theorem rt99 : Tryz.f99.resultTypes.toList = [3] := (rfl)
@[simp] theorem nt106 : Tryz.f106.ntmps = 21 := (rfl)
@[simp] theorem rs106 : Tryz.f106.results.toList = [.cell 4 71, .tmp 5] := (rfl)
@[simp] theorem rt106 : Tryz.f106.resultTypes.toList = [71, 4] := (rfl)
@[simp] theorem nt107 : Tryz.f107.ntmps = 9 := (rfl)
@[simp] theorem rs107 : Tryz.f107.results.toList = [.tmp 4] := (rfl)
@[simp] theorem rt107 : Tryz.f107.resultTypes.toList = [4] := (rfl)
@[simp] theorem nt108 : Tryz.f108.ntmps = 28 := (rfl)
@[simp] theorem rs108 : Tryz.f108.results.toList = [.tmp 6] := (rfl)
@[simp] theorem rt108 : Tryz.f108.resultTypes.toList = [33] := (rfl)
@[simp] theorem nt109 : Tryz.f109.ntmps = 12 := (rfl)
@[simp] theorem rs109 : Tryz.f109.results.toList = [.tmp 6] := (rfl)
@[simp] theorem rt109 : Tryz.f109.resultTypes.toList = [3] := (rfl)
@[simp] theorem nt121 : Tryz.f121.ntmps = 77 := (rfl)
@[simp] theorem rs121 : Tryz.f121.results.toList = [.tmp 6] := (rfl)
@[simp] theorem rt121 : Tryz.f121.resultTypes.toList = [100] := (rfl)
@[simp] theorem nt122 : Tryz.f122.ntmps = 37 := (rfl)
@[simp] theorem rs122 : Tryz.f122.results.toList = [.cell 2 29, .tmp 3] := (rfl)
@[simp] theorem rt122 : Tryz.f122.resultTypes.toList = [29, 4] := (rfl)
@[simp] theorem nt123 : Tryz.f123.ntmps = 12 := (rfl)
@[simp] theorem rs123 : Tryz.f123.results.toList = [.tmp 4] := (rfl)
@[simp] theorem rt123 : Tryz.f123.resultTypes.toList = [33] := (rfl)
@[simp] theorem nt124 : Tryz.f124.ntmps = 38 := (rfl)
@[simp] theorem rs124 : Tryz.f124.results.toList = [.cell 4 105] := (rfl)
@[simp] theorem rt124 : Tryz.f124.resultTypes.toList = [105] := (rfl)
@[simp] theorem nt125 : Tryz.f125.ntmps = 8 := (rfl)
@[simp] theorem rs125 : Tryz.f125.results.toList = [.tmp 2] := (rfl)
@[simp] theorem rt125 : Tryz.f125.resultTypes.toList = [33] := (rfl)
@[simp] theorem nt126 : Tryz.f126.ntmps = 19 := (rfl)
@[simp] theorem rs126 : Tryz.f126.results.toList = [.tmp 4] := (rfl)
@[simp] theorem rt126 : Tryz.f126.resultTypes.toList = [3] := (rfl)
@[simp] theorem nt127 : Tryz.f127.ntmps = 9 := (rfl)
@[simp] theorem rs127 : Tryz.f127.results.toList = [.tmp 4] := (rfl)
@[simp] theorem rt127 : Tryz.f127.resultTypes.toList = [4] := (rfl)
@[simp] theorem nt128 : Tryz.f128.ntmps = 16 := (rfl)
@[simp] theorem rs128 : Tryz.f128.results.toList = [.tmp 2] := (rfl)
@[simp] theorem rt128 : Tryz.f128.resultTypes.toList = [4] := (rfl)
@[simp] theorem nt129 : Tryz.f129.ntmps = 5 := (rfl)
@[simp] theorem rs129 : Tryz.f129.results.toList = [.tmp 2] := (rfl)
@[simp] theorem rt129 : Tryz.f129.resultTypes.toList = [4] := (rfl)
@[simp] theorem nt130 : Tryz.f130.ntmps = 14 := (rfl)
@[simp] theorem rs130 : Tryz.f130.results.toList = [.tmp 4] := (rfl)
@[simp] theorem rt130 : Tryz.f130.resultTypes.toList = [4] := (rfl)
@[simp] theorem nt131 : Tryz.f131.ntmps = 31 := (rfl)
@[simp] theorem rs131 : Tryz.f131.results.toList = [.tmp 4] := (rfl)
@[simp] theorem rt131 : Tryz.f131.resultTypes.toList = [4] := (rfl)
@[simp] theorem nt132 : Tryz.f132.ntmps = 26 := (rfl)
@[simp] theorem rs132 : Tryz.f132.results.toList = [.tmp 4] := (rfl)
@[simp] theorem rt132 : Tryz.f132.resultTypes.toList = [4] := (rfl)
@[simp] theorem nt133 : Tryz.f133.ntmps = 36 := (rfl)
@[simp] theorem rs133 : Tryz.f133.results.toList = [.tmp 2] := (rfl)
@[simp] theorem rt133 : Tryz.f133.resultTypes.toList = [33] := (rfl)
@[simp] theorem nt134 : Tryz.f134.ntmps = 23 := (rfl)
@[simp] theorem rs134 : Tryz.f134.results.toList = [.tmp 2] := (rfl)
@[simp] theorem rt134 : Tryz.f134.resultTypes.toList = [33] := (rfl)
@[simp] theorem nt135 : Tryz.f135.ntmps = 39 := (rfl)
@[simp] theorem rs135 : Tryz.f135.results.toList = [.cell 4 96] := (rfl)
@[simp] theorem rt135 : Tryz.f135.resultTypes.toList = [96] := (rfl)
@[simp] theorem nt136 : Tryz.f136.ntmps = 41 := (rfl)
@[simp] theorem rs136 : Tryz.f136.results.toList = [.tmp 8, .tmp 9] := (rfl)
@[simp] theorem rt136 : Tryz.f136.resultTypes.toList = [3, 3] := (rfl)
@[simp] theorem nt137 : Tryz.f137.ntmps = 61 := (rfl)
@[simp] theorem rs137 : Tryz.f137.results.toList = [.tmp 4] := (rfl)
@[simp] theorem rt137 : Tryz.f137.resultTypes.toList = [3] := (rfl)
@[simp] theorem nt138 : Tryz.f138.ntmps = 8 := (rfl)
@[simp] theorem rs138 : Tryz.f138.results.toList = [.cell 2 71] := (rfl)
@[simp] theorem rt138 : Tryz.f138.resultTypes.toList = [71] := (rfl)
@[simp] theorem nt139 : Tryz.f139.ntmps = 18 := (rfl)
@[simp] theorem rs139 : Tryz.f139.results.toList = [.cell 6 71] := (rfl)
@[simp] theorem rt139 : Tryz.f139.resultTypes.toList = [71] := (rfl)
@[simp] theorem nt140 : Tryz.f140.ntmps = 151 := (rfl)
@[simp] theorem rs140 : Tryz.f140.results.toList = [.tmp 6] := (rfl)
@[simp] theorem rt140 : Tryz.f140.resultTypes.toList = [4] := (rfl)
@[simp] theorem nt141 : Tryz.f141.ntmps = 36 := (rfl)
@[simp] theorem rs141 : Tryz.f141.results.toList = [.cell 4 71, .tmp 5] := (rfl)
@[simp] theorem rt141 : Tryz.f141.resultTypes.toList = [71, 4] := (rfl)
@[simp] theorem nt142 : Tryz.f142.ntmps = 5 := (rfl)
@[simp] theorem rs142 : Tryz.f142.results.toList = [.tmp 2] := (rfl)
@[simp] theorem rt142 : Tryz.f142.resultTypes.toList = [4] := (rfl)
@[simp] theorem nt143 : Tryz.f143.ntmps = 27 := (rfl)
@[simp] theorem rs143 : Tryz.f143.results.toList = [.tmp 2] := (rfl)
@[simp] theorem rt143 : Tryz.f143.resultTypes.toList = [33] := (rfl)
@[simp] theorem nt144 : Tryz.f144.ntmps = 39 := (rfl)
@[simp] theorem rs144 : Tryz.f144.results.toList = [.cell 4 96] := (rfl)
@[simp] theorem rt144 : Tryz.f144.resultTypes.toList = [96] := (rfl)
@[simp] theorem nt145 : Tryz.f145.ntmps = 96 := (rfl)
@[simp] theorem rs145 : Tryz.f145.results.toList = [.cell 6 71, .tmp 7] := (rfl)
@[simp] theorem rt145 : Tryz.f145.resultTypes.toList = [71, 4] := (rfl)
@[simp] theorem nt154 : Tryz.f154.ntmps = 34 := (rfl)
@[simp] theorem rs154 : Tryz.f154.results.toList = [.cell 6 71, .tmp 7] := (rfl)
@[simp] theorem rt154 : Tryz.f154.resultTypes.toList = [71, 4] := (rfl)
@[simp] theorem nt155 : Tryz.f155.ntmps = 3 := (rfl)
@[simp] theorem rs155 : Tryz.f155.results.toList = [.cell 0 71] := (rfl)
@[simp] theorem rt155 : Tryz.f155.resultTypes.toList = [71] := (rfl)
@[simp] theorem nt156 : Tryz.f156.ntmps = 9 := (rfl)
@[simp] theorem rs156 : Tryz.f156.results.toList = [.tmp 4] := (rfl)
@[simp] theorem rt156 : Tryz.f156.resultTypes.toList = [4] := (rfl)
@[simp] theorem nt157 : Tryz.f157.ntmps = 20 := (rfl)
@[simp] theorem rs157 : Tryz.f157.results.toList = [.tmp 3] := (rfl)
@[simp] theorem rt157 : Tryz.f157.resultTypes.toList = [4] := (rfl)
@[simp] theorem nt158 : Tryz.f158.ntmps = 17 := (rfl)
@[simp] theorem rs158 : Tryz.f158.results.toList = [.tmp 6] := (rfl)
@[simp] theorem rt158 : Tryz.f158.resultTypes.toList = [4] := (rfl)
@[simp] theorem nt162 : Tryz.f162.ntmps = 77 := (rfl)
@[simp] theorem rs162 : Tryz.f162.results.toList = [.cell 6 105] := (rfl)
@[simp] theorem rt162 : Tryz.f162.resultTypes.toList = [105] := (rfl)
@[simp] theorem nt163 : Tryz.f163.ntmps = 12 := (rfl)
@[simp] theorem rs163 : Tryz.f163.results.toList = [.tmp 4] := (rfl)
@[simp] theorem rt163 : Tryz.f163.resultTypes.toList = [3] := (rfl)
@[simp] theorem nt164 : Tryz.f164.ntmps = 3 := (rfl)
@[simp] theorem rs164 : Tryz.f164.results.toList = [.cell 0 71] := (rfl)
@[simp] theorem rt164 : Tryz.f164.resultTypes.toList = [71] := (rfl)
@[simp] theorem nt165 : Tryz.f165.ntmps = 71 := (rfl)
@[simp] theorem rs165 : Tryz.f165.results.toList = [.tmp 4] := (rfl)
@[simp] theorem rt165 : Tryz.f165.resultTypes.toList = [33] := (rfl)
@[simp] theorem nt166 : Tryz.f166.ntmps = 19 := (rfl)
@[simp] theorem rs166 : Tryz.f166.results.toList = [.tmp 4] := (rfl)
@[simp] theorem rt166 : Tryz.f166.resultTypes.toList = [3] := (rfl)
@[simp] theorem nt167 : Tryz.f167.ntmps = 9 := (rfl)
@[simp] theorem rs167 : Tryz.f167.results.toList = [.tmp 4] := (rfl)
@[simp] theorem rt167 : Tryz.f167.resultTypes.toList = [4] := (rfl)
@[simp] theorem nt168 : Tryz.f168.ntmps = 11 := (rfl)
@[simp] theorem rs168 : Tryz.f168.results.toList = [.tmp 4] := (rfl)
@[simp] theorem rt168 : Tryz.f168.resultTypes.toList = [4] := (rfl)
@[simp] theorem nt169 : Tryz.f169.ntmps = 95 := (rfl)
@[simp] theorem rs169 : Tryz.f169.results.toList = [.tmp 6] := (rfl)
@[simp] theorem rt169 : Tryz.f169.resultTypes.toList = [4] := (rfl)
@[simp] theorem nt170 : Tryz.f170.ntmps = 27 := (rfl)
@[simp] theorem rs170 : Tryz.f170.results.toList = [.tmp 4] := (rfl)
@[simp] theorem rt170 : Tryz.f170.resultTypes.toList = [33] := (rfl)
@[simp] theorem nt171 : Tryz.f171.ntmps = 18 := (rfl)
@[simp] theorem rs171 : Tryz.f171.results.toList = [.cell 4 71] := (rfl)
@[simp] theorem rt171 : Tryz.f171.resultTypes.toList = [71] := (rfl)
@[simp] theorem nt172 : Tryz.f172.ntmps = 5 := (rfl)
@[simp] theorem rs172 : Tryz.f172.results.toList = [.cell 2 71] := (rfl)
@[simp] theorem rt172 : Tryz.f172.resultTypes.toList = [71] := (rfl)
@[simp] theorem nt173 : Tryz.f173.ntmps = 87 := (rfl)
@[simp] theorem rs173 : Tryz.f173.results.toList = [.cell 4 71] := (rfl)
@[simp] theorem rt173 : Tryz.f173.resultTypes.toList = [71] := (rfl)
@[simp] theorem nt176 : Tryz.f176.ntmps = 41 := (rfl)
@[simp] theorem rs176 : Tryz.f176.results.toList = [.tmp 4] := (rfl)
@[simp] theorem rt176 : Tryz.f176.resultTypes.toList = [4] := (rfl)
@[simp] theorem nt177 : Tryz.f177.ntmps = 19 := (rfl)
@[simp] theorem rs177 : Tryz.f177.results.toList = [.tmp 4] := (rfl)
@[simp] theorem rt177 : Tryz.f177.resultTypes.toList = [3] := (rfl)
@[simp] theorem nt178 : Tryz.f178.ntmps = 19 := (rfl)
@[simp] theorem rs178 : Tryz.f178.results.toList = [.tmp 4] := (rfl)
@[simp] theorem rt178 : Tryz.f178.resultTypes.toList = [3] := (rfl)
@[simp] theorem nt179 : Tryz.f179.ntmps = 24 := (rfl)
@[simp] theorem rs179 : Tryz.f179.results.toList = [.tmp 2, .tmp 3] := (rfl)
@[simp] theorem rt179 : Tryz.f179.resultTypes.toList = [9, 4] := (rfl)
@[simp] theorem nt180 : Tryz.f180.ntmps = 14 := (rfl)
@[simp] theorem rs180 : Tryz.f180.results.toList = [.tmp 4] := (rfl)
@[simp] theorem rt180 : Tryz.f180.resultTypes.toList = [4] := (rfl)
@[simp] theorem nt181 : Tryz.f181.ntmps = 16 := (rfl)
@[simp] theorem rs181 : Tryz.f181.results.toList = [.tmp 4] := (rfl)
@[simp] theorem rt181 : Tryz.f181.resultTypes.toList = [4] := (rfl)
@[simp] theorem nt182 : Tryz.f182.ntmps = 9 := (rfl)
@[simp] theorem rs182 : Tryz.f182.results.toList = [.tmp 4] := (rfl)
@[simp] theorem rt182 : Tryz.f182.resultTypes.toList = [4] := (rfl)
@[simp] theorem nt183 : Tryz.f183.ntmps = 19 := (rfl)
@[simp] theorem rs183 : Tryz.f183.results.toList = [.tmp 4] := (rfl)
@[simp] theorem rt183 : Tryz.f183.resultTypes.toList = [3] := (rfl)
attribute [simp] op_fieldAddr op_indexAddr op_make op_slice m_build m_append op_build blt_len blt_len0 blt_lenS blt_cap
end Go.Proofs.YtninncdacekfgaaGreat.VM
