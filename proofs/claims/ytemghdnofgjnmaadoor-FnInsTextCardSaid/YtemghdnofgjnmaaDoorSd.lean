/- A line read as an instruction: the words' values. -/
import Derived.Test.YtemghdnofgjnmaaDoorRr
import Derived.Test.YtemghdnofgjnmaaDoorTi
namespace Go.Proofs.YtemghdnofgjnmaaDoor.VM
open Go Go.Proofs
set_option linter.unusedSimpArgs false
set_option linter.unusedVariables false
set_option maxRecDepth 100000
set_option maxHeartbeats 40000000
def anyS : ByteArray := strL [97, 110, 121]
def zI : Ins := ⟨0, 0, 0, 0, 0⟩
/-- Which name it is, of the first ones. -/
def opR (w : ByteArray) : Nat → Int
  | 0 => 0
  | i + 1 => if (strL (nameL ((i : Int) + 1)) == w) = true then (i : Int) + 1 else opR w i
def valR (w : ByteArray) : Int := if (w == anyS) = true then 9 else (readR w).1
def okR (w : ByteArray) : Bool := (w == anyS) || (readR w).2
def fillI (op a b c : Int) : Ins := if op = 1 ∨ op = 7 then ⟨op, a, 0, 0, b⟩ else if op = 2 ∨ op = 3 ∨ op = 4 ∨ op = 5 then ⟨op, a, b, c, 0⟩ else if op = 6 then ⟨op, 0, b, 0, a⟩ else if op = 8 then ⟨op, 0, a, 0, 0⟩ else if op = 9 then ⟨op, 0, 0, 0, a⟩ else if op = 10 then ⟨op, 0, a, 0, b⟩ else ⟨op, 0, 0, 0, 0⟩
/-- The number at a place, 0 behind the last one. -/
def nthQ (l : List Int) (i : Nat) : Int := ((l ++ [0, 0, 0])[i]?).getD 0
def outI (line : ByteArray) (x : Ins) : Ins × Bool := if (line == strL []) = true ∨ (textS x != line) = true then (zI, false) else (x, true)
def specI (line w0 : ByteArray) (ws : List ByteArray) : Ins × Bool := if (ws.take 4).all okR = true then outI line (fillI (opR w0 11) (nthQ ((ws.take 4).map valR) 0) (nthQ ((ws.take 4).map valR) 1) (nthQ ((ws.take 4).map valR) 2)) else (zI, false)
theorem opR_le (w : ByteArray) : ∀ i, 0 ≤ opR w i ∧ opR w i ≤ i
  | 0 => by simp [opR]
  | i + 1 => by
    have := opR_le w i
    rw [opR]
    split <;> omega
theorem nth3 (l : List Int) : ∃ r, l ++ [0, 0, 0] = nthQ l 0 :: nthQ l 1 :: nthQ l 2 :: r := by
  unfold nthQ
  match l with
  | [] => exact ⟨[], rfl⟩
  | [a] => exact ⟨[0], rfl⟩
  | [a, b] => exact ⟨[0, 0], rfl⟩
  | a :: b :: c :: l => exact ⟨l ++ [0, 0, 0], rfl⟩
def zT5 (op : Int) : List T := [.v (.int .i64 op), .v (.int .i64 0), .v (.int .i64 0), .v (.int .i64 0), .v (.int .i64 0)]
end Go.Proofs.YtemghdnofgjnmaaDoor.VM
