/- A machine over this program: its tables, and that they are right. -/
import Derived.Test.YtkfdfjjcjcadgaaFx
namespace Go.Proofs.Ytkfdfjjcjcadgaa.VM
open Go Go.Proofs
set_option linter.unusedVariables false
set_option maxRecDepth 100000

def okF (P : Program) (f : FuncId) : Bool := match P.funcs[f]? with
  | some fn => !(fn.name == "runtime.NumGoroutine") && (match fn.body with | some c => codeOk c | none => true)
  | none => true
def allOk (P : Program) (bad : List FuncId) : Bool := P.follows .mixedOrders && (List.range P.funcs.size).all fun f => bad.contains f || okF P f
def nameOk (P : Program) : Bool := P.funcs.all fun fn => !(fn.name == "runtime.NumGoroutine")
/-- The machine: of the functions in 'bad' it says nothing. -/
def mach (P : Program) (bad : List FuncId) (own : FuncId → Nat → Bool) (hint : FuncId → Nat → List Nat × List Nat) (far : FuncId → Bool) : Mach := ⟨P, own, hint, fun f => if bad.contains f = true then some (fun _ => none) else none, far⟩
theorem mach_ok {P : Program} {bad : List FuncId} {own : FuncId → Nat → Bool} {hint : FuncId → Nat → List Nat × List Nat} {far : FuncId → Bool} (h : allOk P bad = true) (hn : nameOk P = true) : MachOk (mach P bad own hint far) := by
  unfold allOk at h
  rw [Bool.and_eq_true] at h
  refine ⟨fun f fn hf => ?_, fun f g hp xs rs ys hg => ?_, fun f fn c hp hf hb => ?_, h.1⟩
  · have := Array.all_eq_true_iff_forall_mem.1 hn fn (Array.mem_of_getElem? hf)
    simpa using this
  · unfold mach at hp
    simp only at hp
    split at hp
    · injection hp with hp
      subst hp
      simp at hg
    · simp at hp
  · have hf' : P.funcs[f]? = some fn := hf
    have hlt : f < P.funcs.size := (Array.getElem?_eq_some_iff.1 hf').1
    have := List.all_eq_true.1 h.2 f (List.mem_range.2 hlt)
    have hbad : bad.contains f = false := by
      unfold mach at hp
      simp only at hp
      split at hp
      · simp at hp
      · rename_i hc
        simpa using hc
    rw [hbad, Bool.false_or] at this
    unfold okF at this
    rw [hf'] at this
    simp only [hb, Bool.and_eq_true] at this
    exact this.2
theorem nob {w : World} : ∀ b ∈ ([] : List Nat), b < w.heap.size := fun b hb => by simp at hb
theorem both {w : World} {l m : List Nat} (h1 : ∀ b ∈ l, b < w.heap.size) (h2 : ∀ b ∈ m, b < w.heap.size) : ∀ b ∈ l ++ m, b < w.heap.size := fun b hb => (List.mem_append.1 hb).elim (h1 b) (h2 b)
theorem i64_wf {n : Int} (h : (Lit.int .i64 n).wf = true) : -9223372036854775808 ≤ n ∧ n ≤ 9223372036854775807 := by
  simp only [Lit.wf, Bool.and_eq_true, decide_eq_true_eq] at h
  exact h
/-- Fuel enough for all loops. -/
def big : Nat := 9223372036854775808
theorem big_lt {n k : Nat} (h : n ≤ 9223372036854775807) (hk : big ≤ k) : n < k := by unfold big at hk; omega
/-- Rows of numbers. -/
def ints (xs : List Int) : List T := xs.map fun n => .v (.int .i64 n)
@[simp] theorem ints_len (xs : List Int) : (ints xs).length = xs.length := by simp [ints]
@[simp] theorem ints_nil : ints [] = [] := rfl
@[simp] theorem allV_ints : ∀ (xs : List Int), allV (ints xs) = true
  | [] => rfl
  | x :: xs => by
    show allV (.v _ :: ints xs) = true
    rw [allV]
    exact allV_ints xs
theorem ints_get {xs : List Int} {i : Nat} (h : i < xs.length) : (ints xs)[i]? = some (.v (.int .i64 xs[i])) := by simp [ints, h]
@[simp] theorem ints_at {xs : List Int} {i : Nat} (h : i < (ints xs).length) : (ints xs)[i] = .v (.int .i64 (xs[i]'(by simpa using h))) := by simp [ints]
@[simp] theorem ints_take (xs : List Int) (n : Nat) : (ints xs).take n = ints (xs.take n) := by simp [ints, List.map_take]
@[simp] theorem ints_drop (xs : List Int) (n : Nat) : (ints xs).drop n = ints (xs.drop n) := by simp [ints, List.map_drop]
@[simp] theorem ints_set (xs : List Int) (i : Nat) (n : Int) : (ints xs).set i (.v (.int .i64 n)) = ints (xs.set i n) := by simp [ints, List.map_set]
/-- Numbers from k on. -/
def upto (k : Int) (n : Nat) : List Int := (List.range n).map fun j : Nat => k + (j : Int)
@[simp] theorem upto_len (k : Int) (n : Nat) : (upto k n).length = n := by simp [upto]
@[simp] theorem upto_zero (k : Int) : upto k 0 = [] := rfl
theorem upto_succ (k : Int) (n : Nat) : upto k (n + 1) = upto k n ++ [k + n] := by simp [upto, List.range_succ]
@[simp] theorem upto_at {k : Int} {n i : Nat} (h : i < (upto k n).length) : (upto k n)[i] = k + i := by simp [upto]
@[simp] theorem upto_take (k : Int) (n : Nat) : (upto k n).take n = upto k n := List.take_of_length_le (by simp)
theorem set_mid {α : Type} {l : List α} {x : α} {r : List α} {i : Nat} (h : l.length = i) (hi : 0 < r.length) : (l ++ r).set i x = (l ++ [x]) ++ r.drop 1 := by
  subst h
  cases r with
  | nil => simp at hi
  | cons y r => simp
theorem ints_append (xs ys : List Int) : ints (xs ++ ys) = ints xs ++ ints ys := by simp [ints]
@[simp] theorem ros_nil : ros [] = [] := rfl
@[simp] theorem ros_ints : ∀ (xs : List Int), ros (ints xs) = ints xs
  | [] => rfl
  | x :: xs => by
    show ros (.v _ :: ints xs) = .v _ :: ints xs
    rw [ros, ros_ints xs]
    rfl
end Go.Proofs.Ytkfdfjjcjcadgaa.VM
