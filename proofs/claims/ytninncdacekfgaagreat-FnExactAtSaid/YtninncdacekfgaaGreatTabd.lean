/- Tables of the machine: which arguments are the function's own; what is kept at a loop's head. -/
import Derived.Test.YtninncdacekfgaaGreatMks
import Derived.Test.YtninncdacekfgaaGreatTabs
import Derived.Test.YtninncdacekfgaaGreatV3d
import Derived.Test.YtninncdacekfgaaGreatFxd
import Derived.Test.YtninncdacekfgaaGreatMkd
set_option linter.unusedVariables false
namespace Go.Proofs.YtninncdacekfgaaGreat.VM
open Go
@[simp] theorem h0_21_a (r : Nat) : hint0 21 r = ([0,1,5],[0]) := rfl
@[simp] theorem h0_118_a (r : Nat) : hint0 118 r = ([0,1,5],[0]) := rfl
@[simp] theorem h0_19_a (r : Nat) : hint0 19 r = ([0,1,5],[0,1]) := rfl
@[simp] theorem h0_110_a (r : Nat) : hint0 110 r = ([0,1,5],[0,1]) := rfl
@[simp] theorem h0_100_a (r : Nat) : hint0 100 r = ([0,3,4],[0,512]) := rfl
@[simp] theorem h0_16_a (r : Nat) : hint0 16 r = ([0,3,4],[0,512]) := rfl
@[simp] theorem h0_103_a (r : Nat) : hint0 103 r = ([0,3,4],[0,512]) := rfl
@[simp] theorem h0_102_a (r : Nat) : hint0 102 r = ([0,3,4],[0,512]) := rfl
@[simp] theorem h0_43_a (r : Nat) : hint0 43 r = ([0,3,4],[0,512]) := rfl
@[simp] theorem h0_44_a (r : Nat) : hint0 44 r = ([0,3,4],[0,512]) := rfl
@[simp] theorem h0_45_a (r : Nat) : hint0 45 r = ([0,3,4],[0,512]) := rfl
@[simp] theorem h0_46_a (r : Nat) : hint0 46 r = ([0,3,4],[0,512]) := rfl
@[simp] theorem h0_37_a (r : Nat) : hint0 37 r = ([0,1,5],[0]) := rfl
@[simp] theorem h0_38_a (r : Nat) : hint0 38 r = ([0,1,5],[0]) := rfl
@[simp] theorem h0_39_a (r : Nat) : hint0 39 r = ([0,1,5],[0]) := rfl
@[simp] theorem h0_40_a (r : Nat) : hint0 40 r = ([0,1,5],[0]) := rfl
@[simp] theorem h0_113_a (r : Nat) : hint0 113 r = ([0,1,5],[0,1]) := rfl
@[simp] theorem h0_112_a (r : Nat) : hint0 112 r = ([0,1,5],[0,1]) := rfl
@[simp] theorem h0_49_a (r : Nat) : hint0 49 r = ([0,1,5],[0,1]) := rfl
@[simp] theorem h0_50_a (r : Nat) : hint0 50 r = ([0,1,5],[0,1]) := rfl
@[simp] theorem h0_51_a (r : Nat) : hint0 51 r = ([0,1,5],[0,1]) := rfl
@[simp] theorem h0_52_a (r : Nat) : hint0 52 r = ([0,1,5],[0,1]) := rfl
@[simp] theorem h0_114_a (r : Nat) : hint0 114 r = ([0,1,5],[0]) := rfl
@[simp] theorem h0_116_a (r : Nat) : hint0 116 r = ([0,1,5],[0]) := rfl
@[simp] theorem h0_115_a (r : Nat) : hint0 115 r = ([0,1,5],[0]) := rfl
@[simp] theorem h0_119_a (r : Nat) : hint0 119 r = ([0,1,5],[0]) := rfl
@[simp] theorem h0_53_a (r : Nat) : hint0 53 r = ([0,1,5],[0]) := rfl
@[simp] theorem h0_54_a (r : Nat) : hint0 54 r = ([0,1,5],[0]) := rfl
@[simp] theorem h0_55_a (r : Nat) : hint0 55 r = ([0,1,5],[0]) := rfl
@[simp] theorem h0_56_a (r : Nat) : hint0 56 r = ([0,1,5],[0]) := rfl
@[simp] theorem h0_147_a (r : Nat) : hint0 147 r = ([1,2,5],[0,1,2,3,4,192]) := rfl
@[simp] theorem h0_152_a (r : Nat) : hint0 152 r = ([1,2,13,14,15],[0,1,2,3,4,192]) := rfl
@[simp] theorem h0_98_2 : hint0 98 2 = ([1,2,5],[0,1,2,3,4,192]) := rfl
@[simp] theorem h0_98_5 : hint0 98 5 = ([1,2,5,6],[0,1,2,3,4,192]) := rfl
@[simp] theorem h0_105_2 : hint0 105 2 = ([1,2,8,9],[0,1,2,3,4,192]) := rfl
@[simp] theorem h0_105_5 : hint0 105 5 = ([1,2,5,8,9,13,14],[0,1,2,3,4,192]) := rfl
@[simp] theorem h0_174_a (r : Nat) : hint0 174 r = ([0,1,2,3,9],[0]) := rfl
@[simp] theorem h0_175_a (r : Nat) : hint0 175 r = ([1,2,3,11,12,13],[0]) := rfl
@[simp] theorem h0_57_a (r : Nat) : hint0 57 r = ([0,1,5],[0]) := rfl
@[simp] theorem h0_58_a (r : Nat) : hint0 58 r = ([0,1,5],[0]) := rfl
@[simp] theorem h0_59_a (r : Nat) : hint0 59 r = ([0,1,5],[0]) := rfl
@[simp] theorem h0_60_a (r : Nat) : hint0 60 r = ([0,1,5],[0]) := rfl
@[simp] theorem h0_117_a (r : Nat) : hint0 117 r = ([0,1,5],[0]) := rfl
@[simp] theorem h0_120_a (r : Nat) : hint0 120 r = ([0,1,5],[0]) := rfl
@[simp] theorem h0_42_4 : hint0 42 4 = ([1,2,4,6,7,8],[0,1,2,3,4,192,320,512,1472,1728,3840,4224]) := rfl
@[simp] theorem h0_42_11 : hint0 42 11 = ([4,6,7,12],[320,512,1472,1728,3840,4224]) := rfl
@[simp] theorem h0_42_14 : hint0 42 14 = ([4,6,7,12,13],[320,512,1472,1728,3840,4224]) := rfl
@[simp] theorem h0_42_19 : hint0 42 19 = ([4,6,7,12,13,14,15,16],[320,512,1472,1728,3840,4224,5376]) := rfl
@[simp] theorem h0_17_a (r : Nat) : hint0 17 r = ([2,4,6,15,16,17],[0,1,2,3,4,192,320,960]) := rfl
@[simp] theorem h0_48_4 : hint0 48 4 = ([0,1,4,6,7,25,26,27],[0,1,320,512,1536,3776,4160,4800]) := rfl
@[simp] theorem h0_48_14 : hint0 48 14 = ([4,6,7,77,78],[320,512,1536,3776,4160,4800]) := rfl
@[simp] theorem h0_48_17 : hint0 48 17 = ([4,6,7,12,77,78,81,82],[320,512,1536,3776,4160,4800]) := rfl
@[simp] theorem h0_48_22 : hint0 48 22 = ([4,6,7,12,13,77,78,81,82,104,105,106],[320,512,1536,3776,4160,4800,5888]) := rfl
end Go.Proofs.YtninncdacekfgaaGreat.VM
