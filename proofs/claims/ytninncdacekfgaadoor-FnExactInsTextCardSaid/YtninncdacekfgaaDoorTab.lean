/- Tables of the machine: which arguments are the function's own; what is kept at a loop's head. -/
import Derived.Test.YtninncdacekfgaaDoorMk
namespace Go.Proofs.YtninncdacekfgaaDoor.VM
open Go
set_option linter.unusedVariables false
def own1 (f i : Nat) : Bool := decide (f = 27 ∧ i = 99)
@[simp] theorem own99 (f : Nat) : own1 f 99 = (decide (f = 27)) := by simp [own1]
def far1 (f : Nat) : Bool := false
def hint0 (f r : Nat) : List Nat × List Nat := match f, r with
  | 55, _ => ([0,1,7,8],[0])
  | 18, _ => ([0,3],[])
  | 8, _ => ([1,3,23,24,25],[128,1536])
  | _, _ => ([], [])
@[simp] theorem h0_55_a (r : Nat) : hint0 55 r = ([0,1,7,8],[0]) := rfl
@[simp] theorem h0_18_a (r : Nat) : hint0 18 r = ([0,3],[]) := rfl
@[simp] theorem h0_8_a (r : Nat) : hint0 8 r = ([1,3,23,24,25],[128,1536]) := rfl
/-- By a cursor that stands where it began, or not. -/
def skipAt (xs : List A) (K L : List Nat) : List Nat := match xs with
  | .box _ (_ :: .v (.int _ 0) :: _) :: _ => K
  | _ => L
def skip1 (k f : Nat) (xs : List A) : List Nat := []
@[simp] theorem skip1_eq (k f : Nat) (xs : List A) : skip1 k f xs = [] := rfl
def hint1 : Nat → Nat → List Nat × List Nat := hint0
def badL : List Nat := [66]
end Go.Proofs.YtninncdacekfgaaDoor.VM
