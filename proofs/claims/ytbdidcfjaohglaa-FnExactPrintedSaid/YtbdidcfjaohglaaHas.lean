/- The machine, and what it is told of one function by hand: which parts an instruction has. -/
import Derived.Test.YtbdidcfjaohglaaTab
import Derived.Test.YtbdidcfjaohglaaPr2
namespace Go.Proofs.Ytbdidcfjaohglaa.VM
open Go Go.Proofs
set_option linter.unusedSimpArgs false
set_option linter.unusedVariables false
set_option maxRecDepth 100000
noncomputable def M0 : Mach := mach Try.prog badL own1 hint1 (fun _ => false)
theorem M0_ok : MachOk M0 := mach_ok (by kernel_rfl) (by kernel_rfl)
@[simp] theorem M0P : M0.P = Try.prog := rfl
@[simp] theorem M0own : M0.own = own1 := by unfold M0 mach; rfl
@[simp] theorem M0hint : M0.hint = hint1 := by unfold M0 mach; rfl
@[simp] theorem M0far (f : Nat) : M0.far f = false := rfl
/-- The parts of an instruction. -/
def formL (op : Int) : List UInt8 := if op = 1 then [82, 78] else if op = 2 ∨ op = 3 ∨ op = 4 ∨ op = 5 then [82, 65, 66] else if op = 6 then [80, 65] else if op = 7 then [82, 84] else if op = 8 then [65] else if op = 9 then [76] else if op = 10 then [65, 76] else []
def formS (op : Int) : ByteArray := ⟨(formL op).toArray⟩
def formB (op : Int) : Bool := decide (1 ≤ op ∧ op ≤ 11)
def hasB (op p : Int) : Bool := (formL op).any fun b => p == (b.toNat : Int)
theorem form63 {j : Nat} (op : Int) : M0.run (j + 1) 122 [.c (.v (.int .i64 op))] = some ([.c (.v (.string (formS op))), .c (.v (.bool (formB op)))], [.c (.v (.int .i64 op))]) := by
  rw [m_run (fn := Try.f122) (i0 := 0) rfl Try.func122 rfl rfl (by simp)]
  by_cases h1 : op = 1
  · subst h1; simp -implicitDefEqProofs [formS, formL, formB]
  by_cases h2 : op = 2
  · subst h2; simp -implicitDefEqProofs [formS, formL, formB]
  by_cases h3 : op = 3
  · subst h3; simp -implicitDefEqProofs [formS, formL, formB]
  by_cases h4 : op = 4
  · subst h4; simp -implicitDefEqProofs [formS, formL, formB]
  by_cases h5 : op = 5
  · subst h5; simp -implicitDefEqProofs [formS, formL, formB]
  by_cases h6 : op = 6
  · subst h6; simp -implicitDefEqProofs [formS, formL, formB]
  by_cases h7 : op = 7
  · subst h7; simp -implicitDefEqProofs [formS, formL, formB]
  by_cases h8 : op = 8
  · subst h8; simp -implicitDefEqProofs [formS, formL, formB]
  by_cases h9 : op = 9
  · subst h9; simp -implicitDefEqProofs [formS, formL, formB]
  by_cases h10 : op = 10
  · subst h10; simp -implicitDefEqProofs [formS, formL, formB]
  rw [show formS op = ⟨#[]⟩ by simp [formS, formL, h1, h2, h3, h4, h5, h6, h7, h8, h9, h10], show formB op = (op == 11) by rw [Bool.eq_iff_iff]; simp [formB]; omega]
  simp -implicitDefEqProofs [h1, h2, h3, h4, h5, h6, h7, h8, h9, h10]
/-- Bytes as numbers. -/
def by8 (xs : List UInt8) : List T := xs.map fun b => .v (.int .u8 b.toNat)
@[simp] theorem by8_len (xs : List UInt8) : (by8 xs).length = xs.length := by simp [by8]
@[simp] theorem by8_take (xs : List UInt8) (n : Nat) : (by8 xs).take n = by8 (xs.take n) := by simp [by8, List.map_take]
@[simp] theorem ros_by8 : ∀ (xs : List UInt8), ros (by8 xs) = by8 xs
  | [] => rfl
  | x :: xs => by
    show ros (.v _ :: by8 xs) = .v _ :: by8 xs
    rw [ros, ros_by8 xs]
    rfl
theorem by8_get {xs : List UInt8} {i : Nat} (h : i < xs.length) : (by8 xs)[i]? = some (.v (.int .u8 xs[i].toNat)) := by simp [by8, h]
@[simp] theorem by8_at {xs : List UInt8} {i : Nat} (h : i < (by8 xs).length) : (by8 xs)[i] = .v (.int .u8 (xs[i]'(by simpa using h)).toNat) := by simp [by8]
def H94 (xs : List UInt8) (p : Int) (i : Nat) : St := ⟨[(0, .c (.sl 0 [] 0 xs.length)), (1, .c (.v (.int .u8 p))), (7, .c (.v (.int .i64 xs.length))), (8, .c (.v (.int .i64 i)))], [(0, ⟨.ro, 5, by8 xs⟩)]⟩
theorem run94 {j : Nat} (hj : big ≤ j) (xs : List UInt8) (p : Int) (hl : xs.length ≤ 1048576) : ∃ n : Int, M0.run (j + 1) 128 [.c (.r 5 xs.length (by8 xs)), .c (.v (.int .u8 p))] = some ([.c (.v (.int .i64 n))], [.c (.r 5 xs.length (by8 xs)), .c (.v (.int .u8 p))]) ∧ decide (0 ≤ n) = xs.any fun b => p == (b.toNat : Int) := by
  rcases first_bad (fun b : UInt8 => !(p == (b.toNat : Int))) xs with hc | ⟨n, hn, hc, hg⟩
  · refine ⟨-1, ?_, ?_⟩
    · rw [m_run (fn := Try.f128) (i0 := 0) rfl Try.func128 rfl rfl (by simp)]
      simp -implicitDefEqProofs
      rw [loop_to (H94 xs p) xs.length (by simp -implicitDefEqProofs [H94, hint1]) (by simp [big] at hj; omega) (fun i hi => by
        have := hc i hi
        simp at this
        simp -implicitDefEqProofs [H94, hint1, hi, w64 (x := (i : Int) + 1) (by omega), this, own1]) (by simp -implicitDefEqProofs [H94, stops, hint1])]
      simp -implicitDefEqProofs [H94]
    · have := all_of (p := fun b : UInt8 => !(p == (b.toNat : Int))) (xs := xs) hc
      simp only [List.all_eq_true] at this
      symm
      simp only [show decide ((0 : Int) ≤ -1) = false from rfl, List.any_eq_false]
      intro x hx
      have := this x hx
      simpa using this
  · refine ⟨n, ?_, ?_⟩
    · have hc' : p = (xs[n].toNat : Int) := by simpa using hc
      rw [m_run (fn := Try.f128) (i0 := 0) rfl Try.func128 rfl rfl (by simp)]
      simp -implicitDefEqProofs
      rw [loop_to (H94 xs p) n (by simp -implicitDefEqProofs [H94, hint1]) (by simp [big] at hj; omega) (fun i hi => by
        have := hg i hi
        simp at this
        simp -implicitDefEqProofs [H94, hint1, show i < xs.length by omega, w64 (x := (i : Int) + 1) (by omega), this, own1]) (by simp -implicitDefEqProofs [H94, stops, hn, ← hc', own1])]
      simp -implicitDefEqProofs [H94, hn, ← hc', own1]
    · have hc' : p = (xs[n].toNat : Int) := by simpa using hc
      have : (xs.any fun b => p == (b.toNat : Int)) = true := List.any_eq_true.2 ⟨xs[n], List.getElem_mem hn, by simp [hc']⟩
      rw [this]
      simp
theorem run87 {j : Nat} (hj : big ≤ j) (xs : List UInt8) (p : Int) (hl : xs.length ≤ 1048576) : M0.run (j + 2) 127 [.c (.r 5 xs.length (by8 xs)), .c (.v (.int .u8 p))] = some ([.c (.v (.bool (xs.any fun b => p == (b.toNat : Int))))], [.c (.r 5 xs.length (by8 xs)), .c (.v (.int .u8 p))]) := by
  obtain ⟨n, h1, h2⟩ := run94 hj xs p hl
  rw [m_run (fn := Try.f127) (i0 := 0) rfl Try.func127 rfl rfl (by simp)]
  simp -implicitDefEqProofs [h1, own1, ← h2]
end Go.Proofs.Ytbdidcfjaohglaa.VM
