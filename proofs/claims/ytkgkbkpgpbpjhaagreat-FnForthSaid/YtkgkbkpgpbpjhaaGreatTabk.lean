/- Tables of the machine: which arguments are the function's own; what is kept at a loop's head. -/
import Derived.Test.YtkgkbkpgpbpjhaaGreatMkg
import Derived.Test.YtkgkbkpgpbpjhaaGreatTabg
import Derived.Test.YtkgkbkpgpbpjhaaGreatFxk
set_option linter.unusedVariables false
namespace Go.Proofs.YtkgkbkpgpbpjhaaGreat.VM
open Go
@[simp] theorem h0_120_a (r : Nat) : hint0 120 r = ([0,1,5],[0,1]) := rfl
@[simp] theorem h0_121_a (r : Nat) : hint0 121 r = ([0,1,5],[0,1]) := rfl
@[simp] theorem h0_116_a (r : Nat) : hint0 116 r = ([1,2,15,16,17],[0,1]) := rfl
@[simp] theorem h0_118_a (r : Nat) : hint0 118 r = ([0,1,12,13],[0,1]) := rfl
@[simp] theorem h0_119_a (r : Nat) : hint0 119 r = ([0,1,12,13],[0,1]) := rfl
@[simp] theorem h0_46_a (r : Nat) : hint0 46 r = ([2,3,24,25,26],[0,1,2,3,4,5,6,7,192,256]) := rfl
@[simp] theorem h0_47_a (r : Nat) : hint0 47 r = ([2,3,5],[0,1,2,3,4,5,6,7,192,256]) := rfl
@[simp] theorem h0_89_a (r : Nat) : hint0 89 r = ([0,1,5],[0,1]) := rfl
@[simp] theorem h0_22_a (r : Nat) : hint0 22 r = ([2,3,5],[0,1,2,3,4,5,6,7,192,256]) := rfl
@[simp] theorem h0_7_a (r : Nat) : hint0 7 r = ([3,4,6],[256,320,768,769,770,771,772,773,774,775]) := rfl
@[simp] theorem h0_159_4 : hint0 159 4 = ([1,2,4,6,7,8],[0,1,2,3,4,192,320,512,1472,1728,3840,4224]) := rfl
@[simp] theorem h0_159_11 : hint0 159 11 = ([4,6,7,12],[320,512,1472,1728,3840,4224]) := rfl
@[simp] theorem h0_159_14 : hint0 159 14 = ([4,6,7,12,13],[320,512,1472,1728,3840,4224]) := rfl
@[simp] theorem h0_159_19 : hint0 159 19 = ([4,6,7,12,13,14,15,16],[320,512,1472,1728,3840,4224,5376]) := rfl
end Go.Proofs.YtkgkbkpgpbpjhaaGreat.VM
