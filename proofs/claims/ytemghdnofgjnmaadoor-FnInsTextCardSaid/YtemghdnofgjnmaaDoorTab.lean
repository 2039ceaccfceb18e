/- Tables of the machine: which arguments are the function's own; what is kept at a loop's head. -/
import Derived.Test.YtemghdnofgjnmaaDoorMk
namespace Go.Proofs.YtemghdnofgjnmaaDoor.VM
open Go
set_option linter.unusedVariables false
def own1 (f i : Nat) : Bool := decide (f = 22 ∧ i = 99)
@[simp] theorem own99 (f : Nat) : own1 f 99 = (decide (f = 22)) := by simp [own1]
def far1 (f : Nat) : Bool := false
def hint0 (f r : Nat) : List Nat × List Nat := match f, r with
  | 53, _ => ([0,1,7,8],[0])
  | 28, _ => ([0,3],[])
  | 10, _ => ([1,3,23,24,25],[128,1536])
  | 14, _ => ([0,3,4,5],[448])
  | 16, _ => ([0,4,5,6],[])
  | 5, 5 => ([0,2,4,5,6,7],[192,384,896,1024])
  | 5, 11 => ([0,2,4,5,8,9],[192,384,896,2112])
  | 6, _ => ([0,2,5,6,38,39,40],[192,384,896])
  | 18, _ => ([0,1,7,8],[0])
  | _, _ => ([], [])
@[simp] theorem h0_53_a (r : Nat) : hint0 53 r = ([0,1,7,8],[0]) := rfl
@[simp] theorem h0_28_a (r : Nat) : hint0 28 r = ([0,3],[]) := rfl
@[simp] theorem h0_10_a (r : Nat) : hint0 10 r = ([1,3,23,24,25],[128,1536]) := rfl
@[simp] theorem h0_14_a (r : Nat) : hint0 14 r = ([0,3,4,5],[448]) := rfl
@[simp] theorem h0_16_a (r : Nat) : hint0 16 r = ([0,4,5,6],[]) := rfl
@[simp] theorem h0_5_5 : hint0 5 5 = ([0,2,4,5,6,7],[192,384,896,1024]) := rfl
@[simp] theorem h0_5_11 : hint0 5 11 = ([0,2,4,5,8,9],[192,384,896,2112]) := rfl
@[simp] theorem h0_6_a (r : Nat) : hint0 6 r = ([0,2,5,6,38,39,40],[192,384,896]) := rfl
@[simp] theorem h0_18_a (r : Nat) : hint0 18 r = ([0,1,7,8],[0]) := rfl
/-- By a cursor that stands where it began, or not. -/
def skipAt (xs : List A) (K L : List Nat) : List Nat := match xs with
  | .box _ (_ :: .v (.int _ 0) :: _) :: _ => K
  | _ => L
def skip1 (k f : Nat) (xs : List A) : List Nat := []
@[simp] theorem skip1_eq (k f : Nat) (xs : List A) : skip1 k f xs = [] := rfl
def hint1 : Nat → Nat → List Nat × List Nat := hint0
def badL : List Nat := [71]
end Go.Proofs.YtemghdnofgjnmaaDoor.VM
