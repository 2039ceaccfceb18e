/- What the machine asks of the types and functions of the program. -/
import Derived.Test.YtkgkbkpgpbpjhaaGreatV3g
import Derived.Test.YtkgkbkpgpbpjhaaGreatProg
import Derived.KernelRfl
set_option linter.unusedVariables false
set_option maxRecDepth 100000
namespace Go.Proofs.YtkgkbkpgpbpjhaaGreat.VM
open Go Go.Proofs
attribute [simp] Tryz.underlying3
@[simp] theorem co3 : Tryz.prog.cellsOf 3 = 1 := by kernel_rfl
@[simp] theorem ft3 : fieldTypes Tryz.prog 3 = [3] := by unfold fieldTypes; rw [Tryz.underlying3]
@[simp] theorem ek3 : elemOk Tryz.prog 3 = true := by kernel_rfl
@[simp] theorem zt3 : zeroT Tryz.prog 3 = some [.v (.int .i64 0)] := by kernel_rfl
@[simp] theorem in3 : (Tryz.prog.info? 3).isSome = true := by kernel_rfl
attribute [simp] Tryz.underlying4
@[simp] theorem co4 : Tryz.prog.cellsOf 4 = 1 := by kernel_rfl
@[simp] theorem ft4 : fieldTypes Tryz.prog 4 = [4] := by unfold fieldTypes; rw [Tryz.underlying4]
@[simp] theorem ek4 : elemOk Tryz.prog 4 = true := by kernel_rfl
@[simp] theorem zt4 : zeroT Tryz.prog 4 = some [.v (.bool false)] := by kernel_rfl
@[simp] theorem in4 : (Tryz.prog.info? 4).isSome = true := by kernel_rfl
attribute [simp] Tryz.underlying5
@[simp] theorem co5 : Tryz.prog.cellsOf 5 = 1 := by kernel_rfl
@[simp] theorem ft5 : fieldTypes Tryz.prog 5 = [5] := by unfold fieldTypes; rw [Tryz.underlying5]
@[simp] theorem ek5 : elemOk Tryz.prog 5 = true := by kernel_rfl
@[simp] theorem zt5 : zeroT Tryz.prog 5 = some [.v (.int .u8 0)] := by kernel_rfl
@[simp] theorem in5 : (Tryz.prog.info? 5).isSome = true := by kernel_rfl
attribute [simp] Tryz.underlying9
@[simp] theorem co9 : Tryz.prog.cellsOf 9 = 1 := by kernel_rfl
@[simp] theorem ft9 : fieldTypes Tryz.prog 9 = [9] := by unfold fieldTypes; rw [Tryz.underlying9]
@[simp] theorem ek9 : elemOk Tryz.prog 9 = true := by kernel_rfl
@[simp] theorem zt9 : zeroT Tryz.prog 9 = some [.v (.string ByteArray.empty)] := by kernel_rfl
@[simp] theorem in9 : (Tryz.prog.info? 9).isSome = true := by kernel_rfl
attribute [simp] Tryz.underlying22
@[simp] theorem co22 : Tryz.prog.cellsOf 22 = 1 := by kernel_rfl
@[simp] theorem el22 : elemOf Tryz.prog 22 = 5 := by unfold elemOf; rw [Tryz.underlying22]
@[simp] theorem ft22 : fieldTypes Tryz.prog 22 = [22] := by unfold fieldTypes; rw [Tryz.underlying22]
@[simp] theorem ek22 : elemOk Tryz.prog 22 = true := by kernel_rfl
@[simp] theorem zt22 : zeroT Tryz.prog 22 = some [.z] := by kernel_rfl
@[simp] theorem in22 : (Tryz.prog.info? 22).isSome = true := by kernel_rfl
attribute [simp] Tryz.underlying24
@[simp] theorem co24 : Tryz.prog.cellsOf 24 = 1 := by kernel_rfl
@[simp] theorem el24 : elemOf Tryz.prog 24 = 108 := by unfold elemOf; rw [Tryz.underlying24]
@[simp] theorem ft24 : fieldTypes Tryz.prog 24 = [24] := by unfold fieldTypes; rw [Tryz.underlying24]
@[simp] theorem ek24 : elemOk Tryz.prog 24 = true := by kernel_rfl
@[simp] theorem zt24 : zeroT Tryz.prog 24 = some [.z] := by kernel_rfl
@[simp] theorem in24 : (Tryz.prog.info? 24).isSome = true := by kernel_rfl
attribute [simp] Tryz.underlying25
@[simp] theorem co25 : Tryz.prog.cellsOf 25 = 1 := by kernel_rfl
@[simp] theorem el25 : elemOf Tryz.prog 25 = 39 := by unfold elemOf; rw [Tryz.underlying25]
@[simp] theorem ft25 : fieldTypes Tryz.prog 25 = [25] := by unfold fieldTypes; rw [Tryz.underlying25]
@[simp] theorem ek25 : elemOk Tryz.prog 25 = true := by kernel_rfl
@[simp] theorem zt25 : zeroT Tryz.prog 25 = some [.z] := by kernel_rfl
@[simp] theorem in25 : (Tryz.prog.info? 25).isSome = true := by kernel_rfl
attribute [simp] Tryz.underlying26
@[simp] theorem co26 : Tryz.prog.cellsOf 26 = 1 := by kernel_rfl
@[simp] theorem el26 : elemOf Tryz.prog 26 = 95 := by unfold elemOf; rw [Tryz.underlying26]
@[simp] theorem ft26 : fieldTypes Tryz.prog 26 = [26] := by unfold fieldTypes; rw [Tryz.underlying26]
@[simp] theorem ek26 : elemOk Tryz.prog 26 = true := by kernel_rfl
@[simp] theorem zt26 : zeroT Tryz.prog 26 = some [.z] := by kernel_rfl
@[simp] theorem in26 : (Tryz.prog.info? 26).isSome = true := by kernel_rfl
attribute [simp] Tryz.underlying27
@[simp] theorem co27 : Tryz.prog.cellsOf 27 = 1 := by kernel_rfl
@[simp] theorem el27 : elemOf Tryz.prog 27 = 35 := by unfold elemOf; rw [Tryz.underlying27]
@[simp] theorem ft27 : fieldTypes Tryz.prog 27 = [27] := by unfold fieldTypes; rw [Tryz.underlying27]
@[simp] theorem ek27 : elemOk Tryz.prog 27 = true := by kernel_rfl
@[simp] theorem zt27 : zeroT Tryz.prog 27 = some [.z] := by kernel_rfl
@[simp] theorem in27 : (Tryz.prog.info? 27).isSome = true := by kernel_rfl
attribute [simp] Tryz.underlying29
@[simp] theorem co29 : Tryz.prog.cellsOf 29 = 4 := by kernel_rfl
@[simp] theorem ft29 : fieldTypes Tryz.prog 29 = [24, 25, 26, 27] := by unfold fieldTypes; rw [Tryz.underlying29]; rfl
@[simp] theorem ek29 : elemOk Tryz.prog 29 = true := by kernel_rfl
@[simp] theorem zt29 : zeroT Tryz.prog 29 = some [.z, .z, .z, .z] := by kernel_rfl
@[simp] theorem in29 : (Tryz.prog.info? 29).isSome = true := by kernel_rfl
attribute [simp] Tryz.underlying35
@[simp] theorem co35 : Tryz.prog.cellsOf 35 = 1 := by kernel_rfl
@[simp] theorem el35 : elemOf Tryz.prog 35 = 65 := by unfold elemOf; rw [Tryz.underlying35]
@[simp] theorem ft35 : fieldTypes Tryz.prog 35 = [35] := by unfold fieldTypes; rw [Tryz.underlying35]
@[simp] theorem ek35 : elemOk Tryz.prog 35 = true := by kernel_rfl
@[simp] theorem zt35 : zeroT Tryz.prog 35 = some [.z] := by kernel_rfl
@[simp] theorem in35 : (Tryz.prog.info? 35).isSome = true := by kernel_rfl
attribute [simp] Tryz.underlying37
@[simp] theorem co37 : Tryz.prog.cellsOf 37 = 1 := by kernel_rfl
@[simp] theorem el37 : elemOf Tryz.prog 37 = 3 := by unfold elemOf; rw [Tryz.underlying37]
@[simp] theorem ft37 : fieldTypes Tryz.prog 37 = [37] := by unfold fieldTypes; rw [Tryz.underlying37]
@[simp] theorem ek37 : elemOk Tryz.prog 37 = true := by kernel_rfl
@[simp] theorem zt37 : zeroT Tryz.prog 37 = some [.z] := by kernel_rfl
@[simp] theorem in37 : (Tryz.prog.info? 37).isSome = true := by kernel_rfl
attribute [simp] Tryz.underlying39
@[simp] theorem co39 : Tryz.prog.cellsOf 39 = 4 := by kernel_rfl
@[simp] theorem ft39 : fieldTypes Tryz.prog 39 = [3, 37, 37, 3] := by unfold fieldTypes; rw [Tryz.underlying39]; rfl
@[simp] theorem ek39 : elemOk Tryz.prog 39 = true := by kernel_rfl
@[simp] theorem zt39 : zeroT Tryz.prog 39 = some [.v (.int .i64 0), .z, .z, .v (.int .i64 0)] := by kernel_rfl
@[simp] theorem in39 : (Tryz.prog.info? 39).isSome = true := by kernel_rfl
attribute [simp] Tryz.underlying41
@[simp] theorem co41 : Tryz.prog.cellsOf 41 = 1 := by kernel_rfl
@[simp] theorem el41 : elemOf Tryz.prog 41 = 87 := by unfold elemOf; rw [Tryz.underlying41]
@[simp] theorem ft41 : fieldTypes Tryz.prog 41 = [41] := by unfold fieldTypes; rw [Tryz.underlying41]
@[simp] theorem ek41 : elemOk Tryz.prog 41 = true := by kernel_rfl
@[simp] theorem zt41 : zeroT Tryz.prog 41 = some [.z] := by kernel_rfl
@[simp] theorem in41 : (Tryz.prog.info? 41).isSome = true := by kernel_rfl
attribute [simp] Tryz.underlying65
@[simp] theorem co65 : Tryz.prog.cellsOf 65 = 3 := by kernel_rfl
@[simp] theorem ft65 : fieldTypes Tryz.prog 65 = [3, 3, 3] := by unfold fieldTypes; rw [Tryz.underlying65]; rfl
@[simp] theorem ek65 : elemOk Tryz.prog 65 = true := by kernel_rfl
@[simp] theorem zt65 : zeroT Tryz.prog 65 = some [.v (.int .i64 0), .v (.int .i64 0), .v (.int .i64 0)] := by kernel_rfl
@[simp] theorem in65 : (Tryz.prog.info? 65).isSome = true := by kernel_rfl
attribute [simp] Tryz.underlying66
@[simp] theorem co66 : Tryz.prog.cellsOf 66 = 1 := by kernel_rfl
@[simp] theorem el66 : elemOf Tryz.prog 66 = 174 := by unfold elemOf; rw [Tryz.underlying66]
@[simp] theorem ft66 : fieldTypes Tryz.prog 66 = [66] := by unfold fieldTypes; rw [Tryz.underlying66]
@[simp] theorem ek66 : elemOk Tryz.prog 66 = true := by kernel_rfl
@[simp] theorem zt66 : zeroT Tryz.prog 66 = some [.z] := by kernel_rfl
@[simp] theorem in66 : (Tryz.prog.info? 66).isSome = true := by kernel_rfl
attribute [simp] Tryz.underlying67
@[simp] theorem co67 : Tryz.prog.cellsOf 67 = 1 := by kernel_rfl
@[simp] theorem el67 : elemOf Tryz.prog 67 = 176 := by unfold elemOf; rw [Tryz.underlying67]
@[simp] theorem ft67 : fieldTypes Tryz.prog 67 = [67] := by unfold fieldTypes; rw [Tryz.underlying67]
@[simp] theorem ek67 : elemOk Tryz.prog 67 = true := by kernel_rfl
@[simp] theorem zt67 : zeroT Tryz.prog 67 = some [.z] := by kernel_rfl
@[simp] theorem in67 : (Tryz.prog.info? 67).isSome = true := by kernel_rfl
attribute [simp] Tryz.underlying68
@[simp] theorem co68 : Tryz.prog.cellsOf 68 = 1 := by kernel_rfl
@[simp] theorem el68 : elemOf Tryz.prog 68 = 178 := by unfold elemOf; rw [Tryz.underlying68]
@[simp] theorem ft68 : fieldTypes Tryz.prog 68 = [68] := by unfold fieldTypes; rw [Tryz.underlying68]
@[simp] theorem ek68 : elemOk Tryz.prog 68 = true := by kernel_rfl
@[simp] theorem zt68 : zeroT Tryz.prog 68 = some [.z] := by kernel_rfl
@[simp] theorem in68 : (Tryz.prog.info? 68).isSome = true := by kernel_rfl
attribute [simp] Tryz.underlying69
@[simp] theorem co69 : Tryz.prog.cellsOf 69 = 1 := by kernel_rfl
@[simp] theorem el69 : elemOf Tryz.prog 69 = 180 := by unfold elemOf; rw [Tryz.underlying69]
@[simp] theorem ft69 : fieldTypes Tryz.prog 69 = [69] := by unfold fieldTypes; rw [Tryz.underlying69]
@[simp] theorem ek69 : elemOk Tryz.prog 69 = true := by kernel_rfl
@[simp] theorem zt69 : zeroT Tryz.prog 69 = some [.z] := by kernel_rfl
@[simp] theorem in69 : (Tryz.prog.info? 69).isSome = true := by kernel_rfl
attribute [simp] Tryz.underlying71
@[simp] theorem co71 : Tryz.prog.cellsOf 71 = 4 := by kernel_rfl
@[simp] theorem ft71 : fieldTypes Tryz.prog 71 = [66, 67, 68, 69] := by unfold fieldTypes; rw [Tryz.underlying71]; rfl
@[simp] theorem ek71 : elemOk Tryz.prog 71 = true := by kernel_rfl
@[simp] theorem zt71 : zeroT Tryz.prog 71 = some [.z, .z, .z, .z] := by kernel_rfl
@[simp] theorem in71 : (Tryz.prog.info? 71).isSome = true := by kernel_rfl
attribute [simp] Tryz.underlying87
@[simp] theorem co87 : Tryz.prog.cellsOf 87 = 2 := by kernel_rfl
@[simp] theorem ft87 : fieldTypes Tryz.prog 87 = [3, 3] := by unfold fieldTypes; rw [Tryz.underlying87]; rfl
@[simp] theorem ek87 : elemOk Tryz.prog 87 = true := by kernel_rfl
@[simp] theorem zt87 : zeroT Tryz.prog 87 = some [.v (.int .i64 0), .v (.int .i64 0)] := by kernel_rfl
@[simp] theorem in87 : (Tryz.prog.info? 87).isSome = true := by kernel_rfl
attribute [simp] Tryz.underlying95
@[simp] theorem co95 : Tryz.prog.cellsOf 95 = 1 := by kernel_rfl
@[simp] theorem el95 : elemOf Tryz.prog 95 = 142 := by unfold elemOf; rw [Tryz.underlying95]
@[simp] theorem ft95 : fieldTypes Tryz.prog 95 = [95] := by unfold fieldTypes; rw [Tryz.underlying95]
@[simp] theorem ek95 : elemOk Tryz.prog 95 = true := by kernel_rfl
@[simp] theorem zt95 : zeroT Tryz.prog 95 = some [.z] := by kernel_rfl
@[simp] theorem in95 : (Tryz.prog.info? 95).isSome = true := by kernel_rfl
attribute [simp] Tryz.underlying99
@[simp] theorem co99 : Tryz.prog.cellsOf 99 = 1 := by kernel_rfl
@[simp] theorem el99 : elemOf Tryz.prog 99 = 161 := by unfold elemOf; rw [Tryz.underlying99]
@[simp] theorem ft99 : fieldTypes Tryz.prog 99 = [99] := by unfold fieldTypes; rw [Tryz.underlying99]
@[simp] theorem ek99 : elemOk Tryz.prog 99 = true := by kernel_rfl
@[simp] theorem zt99 : zeroT Tryz.prog 99 = some [.z] := by kernel_rfl
@[simp] theorem in99 : (Tryz.prog.info? 99).isSome = true := by kernel_rfl
attribute [simp] Tryz.underlying108
@[simp] theorem co108 : Tryz.prog.cellsOf 108 = 1 := by kernel_rfl
@[simp] theorem el108 : elemOf Tryz.prog 108 = 116 := by unfold elemOf; rw [Tryz.underlying108]
@[simp] theorem ft108 : fieldTypes Tryz.prog 108 = [108] := by unfold fieldTypes; rw [Tryz.underlying108]
@[simp] theorem ek108 : elemOk Tryz.prog 108 = true := by kernel_rfl
@[simp] theorem zt108 : zeroT Tryz.prog 108 = some [.z] := by kernel_rfl
@[simp] theorem in108 : (Tryz.prog.info? 108).isSome = true := by kernel_rfl
attribute [simp] Tryz.underlying116
@[simp] theorem co116 : Tryz.prog.cellsOf 116 = 5 := by kernel_rfl
@[simp] theorem ft116 : fieldTypes Tryz.prog 116 = [3, 3, 3, 3, 3] := by unfold fieldTypes; rw [Tryz.underlying116]; rfl
@[simp] theorem ek116 : elemOk Tryz.prog 116 = true := by kernel_rfl
@[simp] theorem zt116 : zeroT Tryz.prog 116 = some [.v (.int .i64 0), .v (.int .i64 0), .v (.int .i64 0), .v (.int .i64 0), .v (.int .i64 0)] := by kernel_rfl
@[simp] theorem in116 : (Tryz.prog.info? 116).isSome = true := by kernel_rfl
attribute [simp] Tryz.underlying119
@[simp] theorem co119 : Tryz.prog.cellsOf 119 = 1 := by kernel_rfl
@[simp] theorem el119 : elemOf Tryz.prog 119 = 37 := by unfold elemOf; rw [Tryz.underlying119]
@[simp] theorem ft119 : fieldTypes Tryz.prog 119 = [119] := by unfold fieldTypes; rw [Tryz.underlying119]
@[simp] theorem ek119 : elemOk Tryz.prog 119 = true := by kernel_rfl
@[simp] theorem zt119 : zeroT Tryz.prog 119 = some [.z] := by kernel_rfl
@[simp] theorem in119 : (Tryz.prog.info? 119).isSome = true := by kernel_rfl
attribute [simp] Tryz.underlying120
@[simp] theorem co120 : Tryz.prog.cellsOf 120 = 1 := by kernel_rfl
@[simp] theorem el120 : elemOf Tryz.prog 120 = 119 := by unfold elemOf; rw [Tryz.underlying120]
@[simp] theorem ft120 : fieldTypes Tryz.prog 120 = [120] := by unfold fieldTypes; rw [Tryz.underlying120]
@[simp] theorem ek120 : elemOk Tryz.prog 120 = true := by kernel_rfl
@[simp] theorem zt120 : zeroT Tryz.prog 120 = some [.z] := by kernel_rfl
@[simp] theorem in120 : (Tryz.prog.info? 120).isSome = true := by kernel_rfl
attribute [simp] Tryz.underlying140
@[simp] theorem co140 : Tryz.prog.cellsOf 140 = 3 := by kernel_rfl
@[simp] theorem ft140 : fieldTypes Tryz.prog 140 = [22, 3, 3] := by unfold fieldTypes; rw [Tryz.underlying140]; rfl
@[simp] theorem ek140 : elemOk Tryz.prog 140 = true := by kernel_rfl
@[simp] theorem zt140 : zeroT Tryz.prog 140 = some [.z, .v (.int .i64 0), .v (.int .i64 0)] := by kernel_rfl
@[simp] theorem in140 : (Tryz.prog.info? 140).isSome = true := by kernel_rfl
attribute [simp] Tryz.underlying142
@[simp] theorem co142 : Tryz.prog.cellsOf 142 = 2 := by kernel_rfl
@[simp] theorem ft142 : fieldTypes Tryz.prog 142 = [4, 3] := by unfold fieldTypes; rw [Tryz.underlying142]; rfl
@[simp] theorem ek142 : elemOk Tryz.prog 142 = true := by kernel_rfl
@[simp] theorem zt142 : zeroT Tryz.prog 142 = some [.v (.bool false), .v (.int .i64 0)] := by kernel_rfl
@[simp] theorem in142 : (Tryz.prog.info? 142).isSome = true := by kernel_rfl
attribute [simp] Tryz.underlying161
@[simp] theorem co161 : Tryz.prog.cellsOf 161 = 2 := by kernel_rfl
@[simp] theorem ft161 : fieldTypes Tryz.prog 161 = [3, 3] := by unfold fieldTypes; rw [Tryz.underlying161]; rfl
@[simp] theorem ek161 : elemOk Tryz.prog 161 = true := by kernel_rfl
@[simp] theorem zt161 : zeroT Tryz.prog 161 = some [.v (.int .i64 0), .v (.int .i64 0)] := by kernel_rfl
@[simp] theorem in161 : (Tryz.prog.info? 161).isSome = true := by kernel_rfl
attribute [simp] Tryz.underlying174
@[simp] theorem co174 : Tryz.prog.cellsOf 174 = 1 := by kernel_rfl
@[simp] theorem el174 : elemOf Tryz.prog 174 = 207 := by unfold elemOf; rw [Tryz.underlying174]
@[simp] theorem ft174 : fieldTypes Tryz.prog 174 = [174] := by unfold fieldTypes; rw [Tryz.underlying174]
@[simp] theorem ek174 : elemOk Tryz.prog 174 = true := by kernel_rfl
@[simp] theorem zt174 : zeroT Tryz.prog 174 = some [.z] := by kernel_rfl
@[simp] theorem in174 : (Tryz.prog.info? 174).isSome = true := by kernel_rfl
attribute [simp] Tryz.underlying176
@[simp] theorem co176 : Tryz.prog.cellsOf 176 = 4 := by kernel_rfl
@[simp] theorem ft176 : fieldTypes Tryz.prog 176 = [3, 37, 37, 3] := by unfold fieldTypes; rw [Tryz.underlying176]; rfl
@[simp] theorem ek176 : elemOk Tryz.prog 176 = true := by kernel_rfl
@[simp] theorem zt176 : zeroT Tryz.prog 176 = some [.v (.int .i64 0), .z, .z, .v (.int .i64 0)] := by kernel_rfl
@[simp] theorem in176 : (Tryz.prog.info? 176).isSome = true := by kernel_rfl
attribute [simp] Tryz.underlying178
@[simp] theorem co178 : Tryz.prog.cellsOf 178 = 1 := by kernel_rfl
@[simp] theorem el178 : elemOf Tryz.prog 178 = 209 := by unfold elemOf; rw [Tryz.underlying178]
@[simp] theorem ft178 : fieldTypes Tryz.prog 178 = [178] := by unfold fieldTypes; rw [Tryz.underlying178]
@[simp] theorem ek178 : elemOk Tryz.prog 178 = true := by kernel_rfl
@[simp] theorem zt178 : zeroT Tryz.prog 178 = some [.z] := by kernel_rfl
@[simp] theorem in178 : (Tryz.prog.info? 178).isSome = true := by kernel_rfl
attribute [simp] Tryz.underlying180
@[simp] theorem co180 : Tryz.prog.cellsOf 180 = 1 := by kernel_rfl
@[simp] theorem el180 : elemOf Tryz.prog 180 = 211 := by unfold elemOf; rw [Tryz.underlying180]
@[simp] theorem ft180 : fieldTypes Tryz.prog 180 = [180] := by unfold fieldTypes; rw [Tryz.underlying180]
@[simp] theorem ek180 : elemOk Tryz.prog 180 = true := by kernel_rfl
@[simp] theorem zt180 : zeroT Tryz.prog 180 = some [.z] := by kernel_rfl
@[simp] theorem in180 : (Tryz.prog.info? 180).isSome = true := by kernel_rfl
attribute [simp] Tryz.underlying207
@[simp] theorem co207 : Tryz.prog.cellsOf 207 = 5 := by kernel_rfl
@[simp] theorem ft207 : fieldTypes Tryz.prog 207 = [3, 3, 3, 3, 3] := by unfold fieldTypes; rw [Tryz.underlying207]; rfl
@[simp] theorem ek207 : elemOk Tryz.prog 207 = true := by kernel_rfl
@[simp] theorem zt207 : zeroT Tryz.prog 207 = some [.v (.int .i64 0), .v (.int .i64 0), .v (.int .i64 0), .v (.int .i64 0), .v (.int .i64 0)] := by kernel_rfl
@[simp] theorem in207 : (Tryz.prog.info? 207).isSome = true := by kernel_rfl
attribute [simp] Tryz.underlying209
@[simp] theorem co209 : Tryz.prog.cellsOf 209 = 2 := by kernel_rfl
@[simp] theorem ft209 : fieldTypes Tryz.prog 209 = [4, 3] := by unfold fieldTypes; rw [Tryz.underlying209]; rfl
@[simp] theorem ek209 : elemOk Tryz.prog 209 = true := by kernel_rfl
@[simp] theorem zt209 : zeroT Tryz.prog 209 = some [.v (.bool false), .v (.int .i64 0)] := by kernel_rfl
@[simp] theorem in209 : (Tryz.prog.info? 209).isSome = true := by kernel_rfl
attribute [simp] Tryz.underlying211
@[simp] theorem co211 : Tryz.prog.cellsOf 211 = 3 := by kernel_rfl
@[simp] theorem ft211 : fieldTypes Tryz.prog 211 = [3, 3, 3] := by unfold fieldTypes; rw [Tryz.underlying211]; rfl
@[simp] theorem ek211 : elemOk Tryz.prog 211 = true := by kernel_rfl
@[simp] theorem zt211 : zeroT Tryz.prog 211 = some [.v (.int .i64 0), .v (.int .i64 0), .v (.int .i64 0)] := by kernel_rfl
@[simp] theorem in211 : (Tryz.prog.info? 211).isSome = true := by kernel_rfl
@[simp] theorem nt9 : Tryz.f9.ntmps = 129 := (rfl)
@[simp] theorem rs9 : Tryz.f9.results.toList = [.tmp 2] := (rfl)
@[simp] theorem rt9 : Tryz.f9.resultTypes.toList = [4] := (rfl)
@[simp] theorem nt10 : Tryz.f10.ntmps = 94 := (rfl)
@[simp] theorem rs10 : Tryz.f10.results.toList = [.tmp 2] := (rfl)
@[simp] theorem rt10 : Tryz.f10.resultTypes.toList = [4] := (rfl)
@[simp] theorem nt11 : Tryz.f11.ntmps = 139 := (rfl)
@[simp] theorem rs11 : Tryz.f11.results.toList = [.tmp 2] := (rfl)
@[simp] theorem rt11 : Tryz.f11.resultTypes.toList = [4] := (rfl)
@[simp] theorem nt12 : Tryz.f12.ntmps = 101 := (rfl)
@[simp] theorem rs12 : Tryz.f12.results.toList = [.tmp 2] := (rfl)
@[simp] theorem rt12 : Tryz.f12.resultTypes.toList = [4] := (rfl)
@[simp] theorem nt18 : Tryz.f18.ntmps = 6 := (rfl)
@[simp] theorem rs18 : Tryz.f18.results.toList = [.tmp 2] := (rfl)
@[simp] theorem rt18 : Tryz.f18.resultTypes.toList = [4] := (rfl)
@[simp] theorem nt21 : Tryz.f21.ntmps = 29 := (rfl)
@[simp] theorem rs21 : Tryz.f21.results.toList = [.cell 6 29, .tmp 7] := (rfl)
@[simp] theorem rt21 : Tryz.f21.resultTypes.toList = [29, 3] := (rfl)
@[simp] theorem nt25 : Tryz.f25.ntmps = 73 := (rfl)
@[simp] theorem rs25 : Tryz.f25.results.toList = [.tmp 2] := (rfl)
@[simp] theorem rt25 : Tryz.f25.resultTypes.toList = [4] := (rfl)
@[simp] theorem nt29 : Tryz.f29.ntmps = 26 := (rfl)
@[simp] theorem rs29 : Tryz.f29.results.toList = [.tmp 4] := (rfl)
@[simp] theorem rt29 : Tryz.f29.resultTypes.toList = [4] := (rfl)
@[simp] theorem nt33 : Tryz.f33.ntmps = 12 := (rfl)
@[simp] theorem rs33 : Tryz.f33.results.toList = [.tmp 4] := (rfl)
@[simp] theorem rt33 : Tryz.f33.resultTypes.toList = [37] := (rfl)
@[simp] theorem nt41 : Tryz.f41.ntmps = 157 := (rfl)
@[simp] theorem rs41 : Tryz.f41.results.toList = [.tmp 2] := (rfl)
@[simp] theorem rt41 : Tryz.f41.resultTypes.toList = [4] := (rfl)
@[simp] theorem nt48 : Tryz.f48.ntmps = 27 := (rfl)
@[simp] theorem rs48 : Tryz.f48.results.toList = [.cell 2 29, .tmp 3] := (rfl)
@[simp] theorem rt48 : Tryz.f48.resultTypes.toList = [29, 37] := (rfl)
@[simp] theorem nt49 : Tryz.f49.ntmps = 13 := (rfl)
@[simp] theorem rs49 : Tryz.f49.results.toList = [.cell 2 29, .tmp 3] := (rfl)
@[simp] theorem rt49 : Tryz.f49.resultTypes.toList = [29, 37] := (rfl)
@[simp] theorem nt50 : Tryz.f50.ntmps = 13 := (rfl)
@[simp] theorem rs50 : Tryz.f50.results.toList = [.tmp 4] := (rfl)
@[simp] theorem rt50 : Tryz.f50.resultTypes.toList = [4] := (rfl)
@[simp] theorem nt51 : Tryz.f51.ntmps = 13 := (rfl)
@[simp] theorem rs51 : Tryz.f51.results.toList = [.tmp 4] := (rfl)
@[simp] theorem rt51 : Tryz.f51.resultTypes.toList = [4] := (rfl)
@[simp] theorem nt52 : Tryz.f52.ntmps = 12 := (rfl)
@[simp] theorem rs52 : Tryz.f52.results.toList = [.tmp 4] := (rfl)
@[simp] theorem rt52 : Tryz.f52.resultTypes.toList = [4] := (rfl)
@[simp] theorem nt53 : Tryz.f53.ntmps = 12 := (rfl)
@[simp] theorem rs53 : Tryz.f53.results.toList = [.tmp 4] := (rfl)
@[simp] theorem rt53 : Tryz.f53.resultTypes.toList = [4] := (rfl)
@[simp] theorem nt54 : Tryz.f54.ntmps = 24 := (rfl)
@[simp] theorem rs54 : Tryz.f54.results.toList = [.tmp 2] := (rfl)
@[simp] theorem rt54 : Tryz.f54.resultTypes.toList = [37] := (rfl)
@[simp] theorem nt55 : Tryz.f55.ntmps = 9 := (rfl)
@[simp] theorem rs55 : Tryz.f55.results.toList = [.tmp 2] := (rfl)
@[simp] theorem rt55 : Tryz.f55.resultTypes.toList = [37] := (rfl)
@[simp] theorem nt56 : Tryz.f56.ntmps = 43 := (rfl)
@[simp] theorem rs56 : Tryz.f56.results.toList = [.tmp 4] := (rfl)
@[simp] theorem rt56 : Tryz.f56.resultTypes.toList = [37] := (rfl)
@[simp] theorem nt57 : Tryz.f57.ntmps = 17 := (rfl)
@[simp] theorem rs57 : Tryz.f57.results.toList = [.cell 2 29, .tmp 3, .tmp 4] := (rfl)
@[simp] theorem rt57 : Tryz.f57.resultTypes.toList = [29, 3, 3] := (rfl)
@[simp] theorem nt58 : Tryz.f58.ntmps = 21 := (rfl)
@[simp] theorem rs58 : Tryz.f58.results.toList = [.tmp 6] := (rfl)
@[simp] theorem rt58 : Tryz.f58.resultTypes.toList = [37] := (rfl)
@[simp] theorem nt59 : Tryz.f59.ntmps = 23 := (rfl)
@[simp] theorem rs59 : Tryz.f59.results.toList = [.tmp 6] := (rfl)
@[simp] theorem rt59 : Tryz.f59.resultTypes.toList = [37] := (rfl)
@[simp] theorem nt60 : Tryz.f60.ntmps = 13 := (rfl)
@[simp] theorem rs60 : Tryz.f60.results.toList = [.cell 2 29, .tmp 3] := (rfl)
@[simp] theorem rt60 : Tryz.f60.resultTypes.toList = [29, 37] := (rfl)
@[simp] theorem nt61 : Tryz.f61.ntmps = 13 := (rfl)
@[simp] theorem rs61 : Tryz.f61.results.toList = [.tmp 4] := (rfl)
@[simp] theorem rt61 : Tryz.f61.resultTypes.toList = [37] := (rfl)
@[simp] theorem nt62 : Tryz.f62.ntmps = 25 := (rfl)
@[simp] theorem rs62 : Tryz.f62.results.toList = [.cell 2 29, .tmp 3, .tmp 4, .tmp 5, .tmp 6] := (rfl)
@[simp] theorem rt62 : Tryz.f62.resultTypes.toList = [29, 3, 3, 3, 3] := (rfl)
@[simp] theorem nt63 : Tryz.f63.ntmps = 46 := (rfl)
@[simp] theorem rs63 : Tryz.f63.results.toList = [.tmp 10] := (rfl)
@[simp] theorem rt63 : Tryz.f63.resultTypes.toList = [4] := (rfl)
@[simp] theorem nt64 : Tryz.f64.ntmps = 46 := (rfl)
@[simp] theorem rs64 : Tryz.f64.results.toList = [.tmp 10] := (rfl)
@[simp] theorem rt64 : Tryz.f64.resultTypes.toList = [4] := (rfl)
@[simp] theorem nt65 : Tryz.f65.ntmps = 16 := (rfl)
@[simp] theorem rs65 : Tryz.f65.results.toList = [.tmp 6] := (rfl)
@[simp] theorem rt65 : Tryz.f65.resultTypes.toList = [3] := (rfl)
@[simp] theorem nt66 : Tryz.f66.ntmps = 16 := (rfl)
@[simp] theorem rs66 : Tryz.f66.results.toList = [.tmp 6] := (rfl)
@[simp] theorem rt66 : Tryz.f66.resultTypes.toList = [3] := (rfl)
@[simp] theorem nt67 : Tryz.f67.ntmps = 25 := (rfl)
@[simp] theorem rs67 : Tryz.f67.results.toList = [.cell 2 29, .tmp 3, .tmp 4, .tmp 5, .tmp 6] := (rfl)
@[simp] theorem rt67 : Tryz.f67.resultTypes.toList = [29, 3, 3, 3, 3] := (rfl)
@[simp] theorem nt68 : Tryz.f68.ntmps = 49 := (rfl)
@[simp] theorem rs68 : Tryz.f68.results.toList = [.tmp 10] := (rfl)
@[simp] theorem rt68 : Tryz.f68.resultTypes.toList = [4] := (rfl)
@[simp] theorem nt69 : Tryz.f69.ntmps = 49 := (rfl)
@[simp] theorem rs69 : Tryz.f69.results.toList = [.tmp 10] := (rfl)
@[simp] theorem rt69 : Tryz.f69.resultTypes.toList = [4] := (rfl)
@[simp] theorem nt81 : Tryz.f81.ntmps = 32 := (rfl)
@[simp] theorem rs81 : Tryz.f81.results.toList = [.tmp 2] := (rfl)
@[simp] theorem rt81 : Tryz.f81.resultTypes.toList = [83] := (rfl)
@[simp] theorem nt82 : Tryz.f82.ntmps = 111 := (rfl)
@[simp] theorem rs82 : Tryz.f82.results.toList = [.cell 4 29] := (rfl)
@[simp] theorem rt82 : Tryz.f82.resultTypes.toList = [29] := (rfl)
@[simp] theorem nt83 : Tryz.f83.ntmps = 41 := (rfl)
@[simp] theorem rs83 : Tryz.f83.results.toList = [.cell 4 87] := (rfl)
@[simp] theorem rt83 : Tryz.f83.resultTypes.toList = [87] := (rfl)
@[simp] theorem nt84 : Tryz.f84.ntmps = 9 := (rfl)
@[simp] theorem rs84 : Tryz.f84.results.toList = [.tmp 4] := (rfl)
@[simp] theorem rt84 : Tryz.f84.resultTypes.toList = [4] := (rfl)
@[simp] theorem nt85 : Tryz.f85.ntmps = 12 := (rfl)
@[simp] theorem rs85 : Tryz.f85.results.toList = [.tmp 4] := (rfl)
@[simp] theorem rt85 : Tryz.f85.resultTypes.toList = [3] := (rfl)
@[simp] theorem nt87 : Tryz.f87.ntmps = 163 := (rfl)
@[simp] theorem rs87 : Tryz.f87.results.toList = [.cell 6 29, .tmp 7] := (rfl)
@[simp] theorem rt87 : Tryz.f87.resultTypes.toList = [29, 3] := (rfl)
@[simp] theorem nt88 : Tryz.f88.ntmps = 51 := (rfl)
@[simp] theorem rs88 : Tryz.f88.results.toList = [.cell 2 29] := (rfl)
@[simp] theorem rt88 : Tryz.f88.resultTypes.toList = [29] := (rfl)
@[simp] theorem nt90 : Tryz.f90.ntmps = 15 := (rfl)
@[simp] theorem rs90 : Tryz.f90.results.toList = [.tmp 6] := (rfl)
@[simp] theorem rt90 : Tryz.f90.resultTypes.toList = [4] := (rfl)
@[simp] theorem nt91 : Tryz.f91.ntmps = 9 := (rfl)
@[simp] theorem rs91 : Tryz.f91.results.toList = [.tmp 4] := (rfl)
@[simp] theorem rt91 : Tryz.f91.resultTypes.toList = [4] := (rfl)
@[simp] theorem nt92 : Tryz.f92.ntmps = 6 := (rfl)
@[simp] theorem rs92 : Tryz.f92.results.toList = [.tmp 2] := (rfl)
@[simp] theorem rt92 : Tryz.f92.resultTypes.toList = [4] := (rfl)
@[simp] theorem nt93 : Tryz.f93.ntmps = 11 := (rfl)
@[simp] theorem rs93 : Tryz.f93.results.toList = [.tmp 2] := (rfl)
@[simp] theorem rt93 : Tryz.f93.resultTypes.toList = [4] := (rfl)
@[simp] theorem nt94 : Tryz.f94.ntmps = 53 := (rfl)
@[simp] theorem rs94 : Tryz.f94.results.toList = [.tmp 4] := (rfl)
@[simp] theorem rt94 : Tryz.f94.resultTypes.toList = [4] := (rfl)
@[simp] theorem nt95 : Tryz.f95.ntmps = 35 := (rfl)
@[simp] theorem rs95 : Tryz.f95.results.toList = [.tmp 6] := (rfl)
@[simp] theorem rt95 : Tryz.f95.resultTypes.toList = [4] := (rfl)
@[simp] theorem nt96 : Tryz.f96.ntmps = 84 := (rfl)
@[simp] theorem rs96 : Tryz.f96.results.toList = [.tmp 2] := (rfl)
@[simp] theorem rt96 : Tryz.f96.resultTypes.toList = [99] := (rfl)
@[simp] theorem nt97 : Tryz.f97.ntmps = 18 := (rfl)
@[simp] theorem rs97 : Tryz.f97.results.toList = [.tmp 2] := (rfl)
@[simp] theorem rt97 : Tryz.f97.resultTypes.toList = [3] := (rfl)
@[simp] theorem nt98 : Tryz.f98.ntmps = 50 := (rfl)
@[simp] theorem rs98 : Tryz.f98.results.toList = [.cell 4 29, .tmp 5, .cell 6 29] := (rfl)
@[simp] theorem rt98 : Tryz.f98.resultTypes.toList = [29, 41, 29] := (rfl)
@[simp] theorem nt99 : Tryz.f99.ntmps = 18 := (rfl)
@[simp] theorem rs99 : Tryz.f99.results.toList = [.tmp 6] := (rfl)
@[simp] theorem rt99 : Tryz.f99.resultTypes.toList = [3] := (rfl)
@[simp] theorem nt100 : Tryz.f100.ntmps = 37 := (rfl)
@[simp] theorem rs100 : Tryz.f100.results.toList = [.tmp 4] := (rfl)
@[simp] theorem rt100 : Tryz.f100.resultTypes.toList = [3] := (rfl)
@[simp] theorem nt102 : Tryz.f102.ntmps = 9 := (rfl)
@[simp] theorem rs102 : Tryz.f102.results.toList = [.tmp 2] := (rfl)
@[simp] theorem rt102 : Tryz.f102.resultTypes.toList = [37] := (rfl)
@[simp] theorem nt104 : Tryz.f104.ntmps = 71 := (rfl)
@[simp] theorem rs104 : Tryz.f104.results.toList = [.tmp 4] := (rfl)
@[simp] theorem rt104 : Tryz.f104.resultTypes.toList = [37] := (rfl)
@[simp] theorem nt106 : Tryz.f106.ntmps = 15 := (rfl)
@[simp] theorem rs106 : Tryz.f106.results.toList = [.tmp 6] := (rfl)
@[simp] theorem rt106 : Tryz.f106.resultTypes.toList = [4] := (rfl)
@[simp] theorem nt107 : Tryz.f107.ntmps = 28 := (rfl)
@[simp] theorem rs107 : Tryz.f107.results.toList = [.tmp 4] := (rfl)
@[simp] theorem rt107 : Tryz.f107.resultTypes.toList = [4] := (rfl)
@[simp] theorem nt108 : Tryz.f108.ntmps = 20 := (rfl)
@[simp] theorem rs108 : Tryz.f108.results.toList = [.cell 4 39, .tmp 5] := (rfl)
@[simp] theorem rt108 : Tryz.f108.resultTypes.toList = [39, 4] := (rfl)
@[simp] theorem nt109 : Tryz.f109.ntmps = 73 := (rfl)
@[simp] theorem rs109 : Tryz.f109.results.toList = [.tmp 4] := (rfl)
@[simp] theorem rt109 : Tryz.f109.resultTypes.toList = [4] := (rfl)
@[simp] theorem nt110 : Tryz.f110.ntmps = 41 := (rfl)
@[simp] theorem rs110 : Tryz.f110.results.toList = [.tmp 6] := (rfl)
@[simp] theorem rt110 : Tryz.f110.resultTypes.toList = [37] := (rfl)
@[simp] theorem nt111 : Tryz.f111.ntmps = 69 := (rfl)
@[simp] theorem rs111 : Tryz.f111.results.toList = [.tmp 6] := (rfl)
@[simp] theorem rt111 : Tryz.f111.resultTypes.toList = [4] := (rfl)
@[simp] theorem nt112 : Tryz.f112.ntmps = 99 := (rfl)
@[simp] theorem rs112 : Tryz.f112.results.toList = [.tmp 2] := (rfl)
@[simp] theorem rt112 : Tryz.f112.resultTypes.toList = [4] := (rfl)
@[simp] theorem nt113 : Tryz.f113.ntmps = 8 := (rfl)
@[simp] theorem rs113 : Tryz.f113.results.toList = [.tmp 2] := (rfl)
@[simp] theorem rt113 : Tryz.f113.resultTypes.toList = [37] := (rfl)
@[simp] theorem nt122 : Tryz.f122.ntmps = 52 := (rfl)
@[simp] theorem rs122 : Tryz.f122.results.toList = [.tmp 4] := (rfl)
@[simp] theorem rt122 : Tryz.f122.resultTypes.toList = [37] := (rfl)
@[simp] theorem nt123 : Tryz.f123.ntmps = 40 := (rfl)
@[simp] theorem rs123 : Tryz.f123.results.toList = [.tmp 4] := (rfl)
@[simp] theorem rt123 : Tryz.f123.resultTypes.toList = [37] := (rfl)
@[simp] theorem nt124 : Tryz.f124.ntmps = 15 := (rfl)
@[simp] theorem rs124 : Tryz.f124.results.toList = [.cell 2 29, .tmp 3] := (rfl)
@[simp] theorem rt124 : Tryz.f124.resultTypes.toList = [29, 37] := (rfl)
@[simp] theorem nt125 : Tryz.f125.ntmps = 25 := (rfl)
@[simp] theorem rs125 : Tryz.f125.results.toList = [.tmp 4] := (rfl)
@[simp] theorem rt125 : Tryz.f125.resultTypes.toList = [4] := (rfl)
@[simp] theorem nt126 : Tryz.f126.ntmps = 25 := (rfl)
@[simp] theorem rs126 : Tryz.f126.results.toList = [.tmp 4] := (rfl)
@[simp] theorem rt126 : Tryz.f126.resultTypes.toList = [4] := (rfl)
@[simp] theorem nt127 : Tryz.f127.ntmps = 30 := (rfl)
@[simp] theorem rs127 : Tryz.f127.results.toList = [.tmp 4] := (rfl)
@[simp] theorem rt127 : Tryz.f127.resultTypes.toList = [4] := (rfl)
@[simp] theorem nt128 : Tryz.f128.ntmps = 30 := (rfl)
@[simp] theorem rs128 : Tryz.f128.results.toList = [.tmp 4] := (rfl)
@[simp] theorem rt128 : Tryz.f128.resultTypes.toList = [4] := (rfl)
@[simp] theorem nt129 : Tryz.f129.ntmps = 23 := (rfl)
@[simp] theorem rs129 : Tryz.f129.results.toList = [.tmp 2] := (rfl)
@[simp] theorem rt129 : Tryz.f129.resultTypes.toList = [37] := (rfl)
@[simp] theorem nt130 : Tryz.f130.ntmps = 35 := (rfl)
@[simp] theorem rs130 : Tryz.f130.results.toList = [.tmp 8] := (rfl)
@[simp] theorem rt130 : Tryz.f130.resultTypes.toList = [3] := (rfl)
@[simp] theorem nt131 : Tryz.f131.ntmps = 23 := (rfl)
@[simp] theorem rs131 : Tryz.f131.results.toList = [.cell 2 29, .tmp 3, .tmp 4] := (rfl)
@[simp] theorem rt131 : Tryz.f131.resultTypes.toList = [29, 3, 3] := (rfl)
@[simp] theorem nt132 : Tryz.f132.ntmps = 28 := (rfl)
@[simp] theorem rs132 : Tryz.f132.results.toList = [.tmp 6] := (rfl)
@[simp] theorem rt132 : Tryz.f132.resultTypes.toList = [4] := (rfl)
@[simp] theorem nt133 : Tryz.f133.ntmps = 89 := (rfl)
@[simp] theorem rs133 : Tryz.f133.results.toList = [.tmp 2] := (rfl)
@[simp] theorem rt133 : Tryz.f133.resultTypes.toList = [120] := (rfl)
@[simp] theorem nt134 : Tryz.f134.ntmps = 28 := (rfl)
@[simp] theorem rs134 : Tryz.f134.results.toList = [.tmp 6] := (rfl)
@[simp] theorem rt134 : Tryz.f134.resultTypes.toList = [4] := (rfl)
@[simp] theorem nt135 : Tryz.f135.ntmps = 101 := (rfl)
@[simp] theorem rs135 : Tryz.f135.results.toList = [.tmp 2] := (rfl)
@[simp] theorem rt135 : Tryz.f135.resultTypes.toList = [120] := (rfl)
@[simp] theorem nt136 : Tryz.f136.ntmps = 35 := (rfl)
@[simp] theorem rs136 : Tryz.f136.results.toList = [.cell 2 29, .tmp 3, .tmp 4, .tmp 5, .tmp 6] := (rfl)
@[simp] theorem rt136 : Tryz.f136.resultTypes.toList = [29, 3, 3, 3, 3] := (rfl)
@[simp] theorem nt137 : Tryz.f137.ntmps = 37 := (rfl)
@[simp] theorem rs137 : Tryz.f137.results.toList = [.tmp 6] := (rfl)
@[simp] theorem rt137 : Tryz.f137.resultTypes.toList = [3] := (rfl)
@[simp] theorem nt138 : Tryz.f138.ntmps = 37 := (rfl)
@[simp] theorem rs138 : Tryz.f138.results.toList = [.tmp 6] := (rfl)
@[simp] theorem rt138 : Tryz.f138.resultTypes.toList = [3] := (rfl)
@[simp] theorem nt161 : Tryz.f161.ntmps = 17 := (rfl)
@[simp] theorem rs161 : Tryz.f161.results.toList = [.cell 4 29] := (rfl)
@[simp] theorem rt161 : Tryz.f161.resultTypes.toList = [29] := (rfl)
@[simp] theorem nt162 : Tryz.f162.ntmps = 10 := (rfl)
@[simp] theorem rs162 : Tryz.f162.results.toList = [.tmp 4] := (rfl)
@[simp] theorem rt162 : Tryz.f162.resultTypes.toList = [3] := (rfl)
@[simp] theorem nt163 : Tryz.f163.ntmps = 37 := (rfl)
@[simp] theorem rs163 : Tryz.f163.results.toList = [.tmp 2] := (rfl)
@[simp] theorem rt163 : Tryz.f163.resultTypes.toList = [108] := (rfl)
@[simp] theorem nt165 : Tryz.f165.ntmps = 91 := (rfl)
@[simp] theorem rs165 : Tryz.f165.results.toList = [.cell 6 39] := (rfl)
@[simp] theorem rt165 : Tryz.f165.resultTypes.toList = [39] := (rfl)
@[simp] theorem nt166 : Tryz.f166.ntmps = 39 := (rfl)
@[simp] theorem rs166 : Tryz.f166.results.toList = [.tmp 6] := (rfl)
@[simp] theorem rt166 : Tryz.f166.resultTypes.toList = [3] := (rfl)
@[simp] theorem nt167 : Tryz.f167.ntmps = 39 := (rfl)
@[simp] theorem rs167 : Tryz.f167.results.toList = [.cell 4 65] := (rfl)
@[simp] theorem rt167 : Tryz.f167.resultTypes.toList = [65] := (rfl)
@[simp] theorem nt168 : Tryz.f168.ntmps = 96 := (rfl)
@[simp] theorem rs168 : Tryz.f168.results.toList = [.cell 6 39, .tmp 7] := (rfl)
@[simp] theorem rt168 : Tryz.f168.resultTypes.toList = [39, 4] := (rfl)
@[simp] theorem nt169 : Tryz.f169.ntmps = 22 := (rfl)
@[simp] theorem rs169 : Tryz.f169.results.toList = [.tmp 2] := (rfl)
@[simp] theorem rt169 : Tryz.f169.resultTypes.toList = [24] := (rfl)
@[simp] theorem nt170 : Tryz.f170.ntmps = 22 := (rfl)
@[simp] theorem rs170 : Tryz.f170.results.toList = [.tmp 2] := (rfl)
@[simp] theorem rt170 : Tryz.f170.resultTypes.toList = [27] := (rfl)
@[simp] theorem nt171 : Tryz.f171.ntmps = 14 := (rfl)
@[simp] theorem rs171 : Tryz.f171.results.toList = [.cell 2 39] := (rfl)
@[simp] theorem rt171 : Tryz.f171.resultTypes.toList = [39] := (rfl)
@[simp] theorem nt172 : Tryz.f172.ntmps = 19 := (rfl)
@[simp] theorem rs172 : Tryz.f172.results.toList = [.tmp 4] := (rfl)
@[simp] theorem rt172 : Tryz.f172.resultTypes.toList = [3] := (rfl)
@[simp] theorem nt173 : Tryz.f173.ntmps = 9 := (rfl)
@[simp] theorem rs173 : Tryz.f173.results.toList = [.tmp 4] := (rfl)
@[simp] theorem rt173 : Tryz.f173.resultTypes.toList = [4] := (rfl)
@[simp] theorem nt174 : Tryz.f174.ntmps = 16 := (rfl)
@[simp] theorem rs174 : Tryz.f174.results.toList = [.tmp 2] := (rfl)
@[simp] theorem rt174 : Tryz.f174.resultTypes.toList = [4] := (rfl)
@[simp] theorem nt175 : Tryz.f175.ntmps = 5 := (rfl)
@[simp] theorem rs175 : Tryz.f175.results.toList = [.tmp 2] := (rfl)
@[simp] theorem rt175 : Tryz.f175.resultTypes.toList = [4] := (rfl)
@[simp] theorem nt176 : Tryz.f176.ntmps = 14 := (rfl)
@[simp] theorem rs176 : Tryz.f176.results.toList = [.tmp 4] := (rfl)
@[simp] theorem rt176 : Tryz.f176.resultTypes.toList = [4] := (rfl)
@[simp] theorem nt177 : Tryz.f177.ntmps = 9 := (rfl)
@[simp] theorem rs177 : Tryz.f177.results.toList = [.tmp 4] := (rfl)
@[simp] theorem rt177 : Tryz.f177.resultTypes.toList = [4] := (rfl)
@[simp] theorem nt178 : Tryz.f178.ntmps = 21 := (rfl)
@[simp] theorem rs178 : Tryz.f178.results.toList = [.cell 4 39, .tmp 5] := (rfl)
@[simp] theorem rt178 : Tryz.f178.resultTypes.toList = [39, 4] := (rfl)
@[simp] theorem nt179 : Tryz.f179.ntmps = 31 := (rfl)
@[simp] theorem rs179 : Tryz.f179.results.toList = [.tmp 4] := (rfl)
@[simp] theorem rt179 : Tryz.f179.resultTypes.toList = [4] := (rfl)
@[simp] theorem nt180 : Tryz.f180.ntmps = 28 := (rfl)
@[simp] theorem rs180 : Tryz.f180.results.toList = [.tmp 6] := (rfl)
@[simp] theorem rt180 : Tryz.f180.resultTypes.toList = [37] := (rfl)
@[simp] theorem nt181 : Tryz.f181.ntmps = 26 := (rfl)
@[simp] theorem rs181 : Tryz.f181.results.toList = [.tmp 4] := (rfl)
@[simp] theorem rt181 : Tryz.f181.resultTypes.toList = [4] := (rfl)
@[simp] theorem nt182 : Tryz.f182.ntmps = 36 := (rfl)
@[simp] theorem rs182 : Tryz.f182.results.toList = [.tmp 2] := (rfl)
@[simp] theorem rt182 : Tryz.f182.resultTypes.toList = [37] := (rfl)
@[simp] theorem nt183 : Tryz.f183.ntmps = 23 := (rfl)
@[simp] theorem rs183 : Tryz.f183.results.toList = [.tmp 2] := (rfl)
@[simp] theorem rt183 : Tryz.f183.resultTypes.toList = [37] := (rfl)
@[simp] theorem nt184 : Tryz.f184.ntmps = 12 := (rfl)
@[simp] theorem rs184 : Tryz.f184.results.toList = [.tmp 6] := (rfl)
@[simp] theorem rt184 : Tryz.f184.resultTypes.toList = [3] := (rfl)
@[simp] theorem nt185 : Tryz.f185.ntmps = 30 := (rfl)
@[simp] theorem rs185 : Tryz.f185.results.toList = [.cell 2 29] := (rfl)
@[simp] theorem rt185 : Tryz.f185.resultTypes.toList = [29] := (rfl)
@[simp] theorem nt186 : Tryz.f186.ntmps = 58 := (rfl)
@[simp] theorem rs186 : Tryz.f186.results.toList = [.tmp 2] := (rfl)
@[simp] theorem rt186 : Tryz.f186.resultTypes.toList = [3] := (rfl)
@[simp] theorem nt187 : Tryz.f187.ntmps = 8 := (rfl)
@[simp] theorem rs187 : Tryz.f187.results.toList = [.tmp 2] := (rfl)
@[simp] theorem rt187 : Tryz.f187.resultTypes.toList = [108] := (rfl)
@[simp] theorem nt188 : Tryz.f188.ntmps = 12 := (rfl)
@[simp] theorem rs188 : Tryz.f188.results.toList = [.cell 2 39] := (rfl)
@[simp] theorem rt188 : Tryz.f188.resultTypes.toList = [39] := (rfl)
@[simp] theorem nt189 : Tryz.f189.ntmps = 8 := (rfl)
@[simp] theorem rs189 : Tryz.f189.results.toList = [.tmp 2] := (rfl)
@[simp] theorem rt189 : Tryz.f189.resultTypes.toList = [95] := (rfl)
@[simp] theorem nt190 : Tryz.f190.ntmps = 8 := (rfl)
@[simp] theorem rs190 : Tryz.f190.results.toList = [.tmp 2] := (rfl)
@[simp] theorem rt190 : Tryz.f190.resultTypes.toList = [35] := (rfl)
@[simp] theorem nt191 : Tryz.f191.ntmps = 151 := (rfl)
@[simp] theorem rs191 : Tryz.f191.results.toList = [.tmp 6] := (rfl)
@[simp] theorem rt191 : Tryz.f191.resultTypes.toList = [4] := (rfl)
@[simp] theorem nt192 : Tryz.f192.ntmps = 36 := (rfl)
@[simp] theorem rs192 : Tryz.f192.results.toList = [.cell 4 39, .tmp 5] := (rfl)
@[simp] theorem rt192 : Tryz.f192.resultTypes.toList = [39, 4] := (rfl)
@[simp] theorem nt193 : Tryz.f193.ntmps = 5 := (rfl)
@[simp] theorem rs193 : Tryz.f193.results.toList = [.tmp 2] := (rfl)
@[simp] theorem rt193 : Tryz.f193.resultTypes.toList = [4] := (rfl)
@[simp] theorem nt194 : Tryz.f194.ntmps = 27 := (rfl)
@[simp] theorem rs194 : Tryz.f194.results.toList = [.tmp 2] := (rfl)
@[simp] theorem rt194 : Tryz.f194.resultTypes.toList = [37] := (rfl)
@[simp] theorem nt195 : Tryz.f195.ntmps = 12 := (rfl)
@[simp] theorem rs195 : Tryz.f195.results.toList = [.tmp 6] := (rfl)
@[simp] theorem rt195 : Tryz.f195.resultTypes.toList = [3] := (rfl)
@[simp] theorem nt196 : Tryz.f196.ntmps = 44 := (rfl)
@[simp] theorem rs196 : Tryz.f196.results.toList = [.tmp 8] := (rfl)
@[simp] theorem rt196 : Tryz.f196.resultTypes.toList = [3] := (rfl)
@[simp] theorem nt197 : Tryz.f197.ntmps = 29 := (rfl)
@[simp] theorem rs197 : Tryz.f197.results.toList = [.tmp 8] := (rfl)
@[simp] theorem rt197 : Tryz.f197.resultTypes.toList = [3] := (rfl)
@[simp] theorem nt198 : Tryz.f198.ntmps = 40 := (rfl)
@[simp] theorem rs198 : Tryz.f198.results.toList = [.tmp 4, .tmp 5] := (rfl)
@[simp] theorem rt198 : Tryz.f198.resultTypes.toList = [3, 3] := (rfl)
@[simp] theorem nt199 : Tryz.f199.ntmps = 22 := (rfl)
@[simp] theorem rs199 : Tryz.f199.results.toList = [] := (rfl)
@[simp] theorem rt199 : Tryz.f199.resultTypes.toList = [] := (rfl)
@[simp] theorem nt200 : Tryz.f200.ntmps = 27 := (rfl)
@[simp] theorem rs200 : Tryz.f200.results.toList = [.tmp 4] := (rfl)
@[simp] theorem rt200 : Tryz.f200.resultTypes.toList = [37] := (rfl)
@[simp] theorem nt201 : Tryz.f201.ntmps = 37 := (rfl)
@[simp] theorem rs201 : Tryz.f201.results.toList = [.tmp 8] := (rfl)
@[simp] theorem rt201 : Tryz.f201.resultTypes.toList = [3] := (rfl)
@[simp] theorem nt220 : Tryz.f220.ntmps = 77 := (rfl)
@[simp] theorem rs220 : Tryz.f220.results.toList = [.tmp 6] := (rfl)
@[simp] theorem rt220 : Tryz.f220.resultTypes.toList = [108] := (rfl)
@[simp] theorem nt221 : Tryz.f221.ntmps = 38 := (rfl)
@[simp] theorem rs221 : Tryz.f221.results.toList = [.cell 4 116] := (rfl)
@[simp] theorem rt221 : Tryz.f221.resultTypes.toList = [116] := (rfl)
@[simp] theorem nt222 : Tryz.f222.ntmps = 39 := (rfl)
@[simp] theorem rs222 : Tryz.f222.results.toList = [.cell 4 65] := (rfl)
@[simp] theorem rt222 : Tryz.f222.resultTypes.toList = [65] := (rfl)
@[simp] theorem nt224 : Tryz.f224.ntmps = 61 := (rfl)
@[simp] theorem rs224 : Tryz.f224.results.toList = [.tmp 4] := (rfl)
@[simp] theorem rt224 : Tryz.f224.resultTypes.toList = [3] := (rfl)
@[simp] theorem nt225 : Tryz.f225.ntmps = 8 := (rfl)
@[simp] theorem rs225 : Tryz.f225.results.toList = [.cell 2 39] := (rfl)
@[simp] theorem rt225 : Tryz.f225.resultTypes.toList = [39] := (rfl)
@[simp] theorem nt226 : Tryz.f226.ntmps = 18 := (rfl)
@[simp] theorem rs226 : Tryz.f226.results.toList = [.cell 6 39] := (rfl)
@[simp] theorem rt226 : Tryz.f226.resultTypes.toList = [39] := (rfl)
@[simp] theorem nt227 : Tryz.f227.ntmps = 18 := (rfl)
@[simp] theorem rs227 : Tryz.f227.results.toList = [.cell 4 39] := (rfl)
@[simp] theorem rt227 : Tryz.f227.resultTypes.toList = [39] := (rfl)
@[simp] theorem nt228 : Tryz.f228.ntmps = 5 := (rfl)
@[simp] theorem rs228 : Tryz.f228.results.toList = [.cell 2 39] := (rfl)
@[simp] theorem rt228 : Tryz.f228.resultTypes.toList = [39] := (rfl)
@[simp] theorem nt229 : Tryz.f229.ntmps = 87 := (rfl)
@[simp] theorem rs229 : Tryz.f229.results.toList = [.cell 4 39] := (rfl)
@[simp] theorem rt229 : Tryz.f229.resultTypes.toList = [39] := (rfl)
@[simp] theorem nt230 : Tryz.f230.ntmps = 19 := (rfl)
@[simp] theorem rs230 : Tryz.f230.results.toList = [.tmp 4] := (rfl)
@[simp] theorem rt230 : Tryz.f230.resultTypes.toList = [3] := (rfl)
@[simp] theorem nt231 : Tryz.f231.ntmps = 9 := (rfl)
@[simp] theorem rs231 : Tryz.f231.results.toList = [.tmp 4] := (rfl)
@[simp] theorem rt231 : Tryz.f231.resultTypes.toList = [4] := (rfl)
@[simp] theorem nt232 : Tryz.f232.ntmps = 11 := (rfl)
@[simp] theorem rs232 : Tryz.f232.results.toList = [.tmp 4] := (rfl)
@[simp] theorem rt232 : Tryz.f232.resultTypes.toList = [4] := (rfl)
@[simp] theorem nt233 : Tryz.f233.ntmps = 95 := (rfl)
@[simp] theorem rs233 : Tryz.f233.results.toList = [.tmp 6] := (rfl)
@[simp] theorem rt233 : Tryz.f233.resultTypes.toList = [4] := (rfl)
@[simp] theorem nt234 : Tryz.f234.ntmps = 9 := (rfl)
@[simp] theorem rs234 : Tryz.f234.results.toList = [.tmp 4] := (rfl)
@[simp] theorem rt234 : Tryz.f234.resultTypes.toList = [4] := (rfl)
@[simp] theorem nt235 : Tryz.f235.ntmps = 20 := (rfl)
@[simp] theorem rs235 : Tryz.f235.results.toList = [.tmp 3] := (rfl)
@[simp] theorem rt235 : Tryz.f235.resultTypes.toList = [4] := (rfl)
@[simp] theorem nt236 : Tryz.f236.ntmps = 34 := (rfl)
@[simp] theorem rs236 : Tryz.f236.results.toList = [.cell 6 39, .tmp 7] := (rfl)
@[simp] theorem rt236 : Tryz.f236.resultTypes.toList = [39, 4] := (rfl)
@[simp] theorem nt237 : Tryz.f237.ntmps = 3 := (rfl)
@[simp] theorem rs237 : Tryz.f237.results.toList = [.cell 0 39] := (rfl)
@[simp] theorem rt237 : Tryz.f237.resultTypes.toList = [39] := (rfl)
@[simp] theorem nt238 : Tryz.f238.ntmps = 17 := (rfl)
@[simp] theorem rs238 : Tryz.f238.results.toList = [.tmp 6] := (rfl)
@[simp] theorem rt238 : Tryz.f238.resultTypes.toList = [4] := (rfl)
@[simp] theorem nt239 : Tryz.f239.ntmps = 27 := (rfl)
@[simp] theorem rs239 : Tryz.f239.results.toList = [.tmp 4] := (rfl)
@[simp] theorem rt239 : Tryz.f239.resultTypes.toList = [37] := (rfl)
@[simp] theorem nt240 : Tryz.f240.ntmps = 37 := (rfl)
@[simp] theorem rs240 : Tryz.f240.results.toList = [.cell 2 29, .tmp 3] := (rfl)
@[simp] theorem rt240 : Tryz.f240.resultTypes.toList = [29, 4] := (rfl)
@[simp] theorem nt241 : Tryz.f241.ntmps = 3 := (rfl)
@[simp] theorem rs241 : Tryz.f241.results.toList = [.cell 0 39] := (rfl)
@[simp] theorem rt241 : Tryz.f241.resultTypes.toList = [39] := (rfl)
@[simp] theorem nt249 : Tryz.f249.ntmps = 77 := (rfl)
@[simp] theorem rs249 : Tryz.f249.results.toList = [.cell 6 116] := (rfl)
@[simp] theorem rt249 : Tryz.f249.resultTypes.toList = [116] := (rfl)
@[simp] theorem nt250 : Tryz.f250.ntmps = 19 := (rfl)
@[simp] theorem rs250 : Tryz.f250.results.toList = [.tmp 4] := (rfl)
@[simp] theorem rt250 : Tryz.f250.resultTypes.toList = [3] := (rfl)
@[simp] theorem nt251 : Tryz.f251.ntmps = 24 := (rfl)
@[simp] theorem rs251 : Tryz.f251.results.toList = [.tmp 2, .tmp 3] := (rfl)
@[simp] theorem rt251 : Tryz.f251.resultTypes.toList = [9, 4] := (rfl)
@[simp] theorem nt252 : Tryz.f252.ntmps = 14 := (rfl)
@[simp] theorem rs252 : Tryz.f252.results.toList = [.tmp 4] := (rfl)
@[simp] theorem rt252 : Tryz.f252.resultTypes.toList = [4] := (rfl)
@[simp] theorem nt253 : Tryz.f253.ntmps = 16 := (rfl)
@[simp] theorem rs253 : Tryz.f253.results.toList = [.tmp 4] := (rfl)
@[simp] theorem rt253 : Tryz.f253.resultTypes.toList = [4] := (rfl)
@[simp] theorem nt254 : Tryz.f254.ntmps = 19 := (rfl)
@[simp] theorem rs254 : Tryz.f254.results.toList = [.tmp 4] := (rfl)
@[simp] theorem rt254 : Tryz.f254.resultTypes.toList = [3] := (rfl)
@[simp] theorem nt255 : Tryz.f255.ntmps = 41 := (rfl)
@[simp] theorem rs255 : Tryz.f255.results.toList = [.tmp 4] := (rfl)
@[simp] theorem rt255 : Tryz.f255.resultTypes.toList = [4] := (rfl)
@[simp] theorem nt256 : Tryz.f256.ntmps = 9 := (rfl)
@[simp] theorem rs256 : Tryz.f256.results.toList = [.tmp 4] := (rfl)
@[simp] theorem rt256 : Tryz.f256.resultTypes.toList = [4] := (rfl)
@[simp] theorem nt257 : Tryz.f257.ntmps = 19 := (rfl)
@[simp] theorem rs257 : Tryz.f257.results.toList = [.tmp 4] := (rfl)
@[simp] theorem rt257 : Tryz.f257.resultTypes.toList = [3] := (rfl)
attribute [simp] op_fieldAddr op_indexAddr op_make op_slice m_build m_append op_build blt_len blt_len0 blt_lenS blt_cap
end Go.Proofs.YtkgkbkpgpbpjhaaGreat.VM
