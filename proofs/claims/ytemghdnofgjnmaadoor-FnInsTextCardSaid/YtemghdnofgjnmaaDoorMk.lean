/- A machine over this program: its tables, and that they are right. -/
import Derived.Test.YtemghdnofgjnmaaDoorFx
namespace Go.Proofs.YtemghdnofgjnmaaDoor.VM
open Go Go.Proofs
set_option linter.unusedVariables false
set_option maxRecDepth 100000

def okF (P : Program) (f : FuncId) : Bool := match P.funcs[f]? with
  | some fn => !(fn.name == "runtime.NumGoroutine") && (match fn.body with | some c => codeOk c | none => true)
  | none => true
def allOk (P : Program) (bad : List FuncId) : Bool := P.follows .mixedOrders && (List.range P.funcs.size).all fun f => bad.contains f || okF P f
def nameOk (P : Program) : Bool := P.funcs.all fun fn => !(fn.name == "runtime.NumGoroutine")
/-- The machine: of the functions in 'bad' it says nothing. -/
def mach (P : Program) (bad : List FuncId) (own : FuncId → Nat → Bool) (hint : FuncId → Nat → List Nat × List Nat) (far : FuncId → Bool) : Mach := ⟨P, own, hint, fun f => if bad.contains f = true then some (fun _ => none) else none, far, fun _ _ _ => []⟩
theorem mach_ok {gd : Guard} {P : Program} {bad : List FuncId} {own : FuncId → Nat → Bool} {hint : FuncId → Nat → List Nat × List Nat} {far : FuncId → Bool} (h : allOk P bad = true) (hn : nameOk P = true) : MachOk gd (mach P bad own hint far) := by
  unfold allOk at h
  rw [Bool.and_eq_true] at h
  refine ⟨fun f fn hf => ?_, fun f g hp xs rs ys hg => ?_, fun f fn c hp hf hb => ?_, h.1⟩
  · have := Array.all_eq_true_iff_forall_mem.1 hn fn (Array.mem_of_getElem? hf)
    simpa using this
  · unfold mach at hp
    simp only at hp
    split at hp
    · injection hp with hp
      subst hp
      simp at hg
    · simp at hp
  · have hf' : P.funcs[f]? = some fn := hf
    have hlt : f < P.funcs.size := (Array.getElem?_eq_some_iff.1 hf').1
    have := List.all_eq_true.1 h.2 f (List.mem_range.2 hlt)
    have hbad : bad.contains f = false := by
      unfold mach at hp
      simp only at hp
      split at hp
      · simp at hp
      · rename_i hc
        simpa using hc
    rw [hbad, Bool.false_or] at this
    unfold okF at this
    rw [hf'] at this
    simp only [hb, Bool.and_eq_true] at this
    exact this.2
theorem nob {w : World} : ∀ b ∈ ([] : List Nat), b < w.heap.size := fun b hb => by simp at hb
theorem both {w : World} {l m : List Nat} (h1 : ∀ b ∈ l, b < w.heap.size) (h2 : ∀ b ∈ m, b < w.heap.size) : ∀ b ∈ l ++ m, b < w.heap.size := fun b hb => (List.mem_append.1 hb).elim (h1 b) (h2 b)
theorem i64_wf {n : Int} (h : (Lit.int .i64 n).wf = true) : -9223372036854775808 ≤ n ∧ n ≤ 9223372036854775807 := by
  simp only [Lit.wf, Bool.and_eq_true, decide_eq_true_eq] at h
  exact h
/-- Fuel enough for all loops. -/
def big : Nat := 9223372036854775808
theorem big_lt {n k : Nat} (h : n ≤ 9223372036854775807) (hk : big ≤ k) : n < k := by unfold big at hk; omega
/-- Rows of numbers. -/
def ints (xs : List Int) : List T := xs.map fun n => .v (.int .i64 n)
@[simp] theorem ints_len (xs : List Int) : (ints xs).length = xs.length := by simp [ints]
@[simp] theorem ints_nil : ints [] = [] := rfl
@[simp] theorem allV_ints : ∀ (xs : List Int), allV (ints xs) = true
  | [] => rfl
  | x :: xs => by
    show allV (.v _ :: ints xs) = true
    rw [allV]
    exact allV_ints xs
theorem ints_get {xs : List Int} {i : Nat} (h : i < xs.length) : (ints xs)[i]? = some (.v (.int .i64 xs[i])) := by simp [ints, h]
@[simp] theorem ints_at {xs : List Int} {i : Nat} (h : i < (ints xs).length) : (ints xs)[i] = .v (.int .i64 (xs[i]'(by simpa using h))) := by simp [ints]
@[simp] theorem ints_take (xs : List Int) (n : Nat) : (ints xs).take n = ints (xs.take n) := by simp [ints, List.map_take]
@[simp] theorem ints_drop (xs : List Int) (n : Nat) : (ints xs).drop n = ints (xs.drop n) := by simp [ints, List.map_drop]
@[simp] theorem ints_set (xs : List Int) (i : Nat) (n : Int) : (ints xs).set i (.v (.int .i64 n)) = ints (xs.set i n) := by simp [ints, List.map_set]
/-- Numbers from k on. -/
def upto (k : Int) (n : Nat) : List Int := (List.range n).map fun j : Nat => k + (j : Int)
@[simp] theorem upto_len (k : Int) (n : Nat) : (upto k n).length = n := by simp [upto]
@[simp] theorem upto_zero (k : Int) : upto k 0 = [] := rfl
theorem upto_succ (k : Int) (n : Nat) : upto k (n + 1) = upto k n ++ [k + n] := by simp [upto, List.range_succ]
@[simp] theorem upto_at {k : Int} {n i : Nat} (h : i < (upto k n).length) : (upto k n)[i] = k + i := by simp [upto]
@[simp] theorem upto_take (k : Int) (n : Nat) : (upto k n).take n = upto k n := List.take_of_length_le (by simp)
theorem set_mid {α : Type} {l : List α} {x : α} {r : List α} {i : Nat} (h : l.length = i) (hi : 0 < r.length) : (l ++ r).set i x = (l ++ [x]) ++ r.drop 1 := by
  subst h
  cases r with
  | nil => simp at hi
  | cons y r => simp
theorem ints_append (xs ys : List Int) : ints (xs ++ ys) = ints xs ++ ints ys := by simp [ints]
@[simp] theorem ros_nil : ros [] = [] := rfl
@[simp] theorem ros_ints : ∀ (xs : List Int), ros (ints xs) = ints xs
  | [] => rfl
  | x :: xs => by
    show ros (.v _ :: ints xs) = .v _ :: ints xs
    rw [ros, ros_ints xs]
    rfl
/-! ### Rows of structs -/
section
variable {α : Type} {tr : α → List T} {k : Nat}
theorem fm_len (h : ∀ x, (tr x).length = k) : ∀ xs : List α, (xs.flatMap tr).length = xs.length * k
  | [] => by simp
  | x :: xs => by rw [List.flatMap_cons, List.length_append, fm_len h xs, h, List.length_cons, Nat.add_mul, Nat.one_mul, Nat.add_comm]
theorem fm_drop (h : ∀ x, (tr x).length = k) : ∀ (xs : List α) (i : Nat), (xs.flatMap tr).drop (i * k) = (xs.drop i).flatMap tr
  | xs, 0 => by simp
  | [], i + 1 => by simp
  | x :: xs, i + 1 => by
    have e : (i + 1) * k = (tr x).length + i * k := by rw [h, Nat.add_mul, Nat.one_mul, Nat.add_comm]
    rw [List.flatMap_cons, List.drop_succ_cons, ← fm_drop h xs i, e, List.drop_append]
    simp
theorem fm_take (h : ∀ x, (tr x).length = k) : ∀ (xs : List α) (i : Nat), (xs.flatMap tr).take (i * k) = (xs.take i).flatMap tr
  | xs, 0 => by simp
  | [], i + 1 => by simp
  | x :: xs, i + 1 => by
    have e : (i + 1) * k = (tr x).length + i * k := by rw [h, Nat.add_mul, Nat.one_mul, Nat.add_comm]
    rw [List.flatMap_cons, List.take_succ_cons, List.flatMap_cons, ← fm_take h xs i, e, List.take_append, List.take_of_length_le (Nat.le_add_right _ _)]
    simp
theorem fm_at (h : ∀ x, (tr x).length = k) {xs : List α} {i : Nat} (hi : i < xs.length) : ((xs.flatMap tr).drop (i * k)).take k = tr xs[i] := by
  rw [fm_drop h, List.drop_eq_getElem_cons hi, List.flatMap_cons, List.take_append_of_le_length (by rw [h]; exact Nat.le_refl _), List.take_of_length_le (by rw [h]; exact Nat.le_refl _)]
theorem fm_get (h : ∀ x, (tr x).length = k) {xs : List α} {i o : Nat} (hi : i < xs.length) (ho : o < k) : (xs.flatMap tr)[i * k + o]? = (tr xs[i])[o]? := by
  rw [← fm_at h hi, List.getElem?_take_of_lt ho, List.getElem?_drop]
theorem fm_set (h : ∀ x, (tr x).length = k) {xs : List α} {i : Nat} (hi : i < xs.length) (y : α) : setCells (xs.flatMap tr) (i * k) (tr y) = (xs.set i y).flatMap tr := by
  have hl : (i + 1) * k ≤ xs.length * k := Nat.mul_le_mul_right _ (by omega)
  have e : (i + 1) * k = i * k + k := by rw [Nat.add_mul, Nat.one_mul]
  rw [setCells_eq _ _ _ (by rw [h, fm_len h]; omega), h, ← e, fm_take h, fm_drop h, List.set_eq_take_append_cons_drop, if_pos hi, List.flatMap_append, List.flatMap_cons, List.append_assoc]
theorem fm_rep (n : Nat) (x : α) : (List.replicate n (tr x)).flatten = (List.replicate n x).flatMap tr := by rw [List.flatMap_def, List.map_replicate]
theorem allV_app : ∀ (xs ys : List T), allV (xs ++ ys) = (allV xs && allV ys)
  | [], ys => by simp [allV]
  | .v _ :: xs, ys => by simp only [List.cons_append, allV]; exact allV_app xs ys
  | .s _ _ _ :: xs, ys => by simp [allV]
  | .r _ _ _ :: xs, ys => by simp [allV]
  | .z :: xs, ys => by simp [allV]
  | .l _ _ _ _ :: xs, ys => by simp [allV]
  | .h :: xs, ys => by simp [allV]
theorem ros_app : ∀ (xs ys : List T), ros (xs ++ ys) = ros xs ++ ros ys
  | [], ys => by simp [ros]
  | x :: xs, ys => by simp only [List.cons_append, ros]; rw [ros_app xs ys]
theorem fm_v (h : ∀ x, allV (tr x) = true) : ∀ xs : List α, allV (xs.flatMap tr) = true
  | [] => rfl
  | x :: xs => by rw [List.flatMap_cons, allV_app, h, fm_v h xs]; rfl
theorem fm_ros (h : ∀ x, ros (tr x) = tr x) : ∀ xs : List α, ros (xs.flatMap tr) = xs.flatMap tr
  | [] => rfl
  | x :: xs => by rw [List.flatMap_cons, ros_app, h, fm_ros h xs]
end
theorem take_put {α : Type} {xs : List α} {r : List α} {i : Nat} (hi : i < xs.length) (hr : 0 < r.length) : (xs.take i ++ r).set i xs[i] = xs.take (i + 1) ++ r.drop 1 := by
  rw [set_mid (by simp; omega) hr, List.take_succ_eq_append_getElem hi]
/-- The first i of a row, and zeros behind them. -/
def tp {α : Type} (xs : List α) (z : α) (i : Nat) : List α := xs.take i ++ List.replicate (xs.length - i) z
section
variable {α : Type} (xs : List α) (z : α)
@[simp] theorem tp_len (i : Nat) : (tp xs z i).length = xs.length := by simp [tp]; omega
@[simp] theorem tp_zero : tp xs z 0 = List.replicate xs.length z := by simp [tp]
@[simp] theorem tp_full : tp xs z xs.length = xs := by simp [tp]
@[simp] theorem tp_set {i : Nat} (h : i < xs.length) : (tp xs z i).set i xs[i] = tp xs z (i + 1) := by
  unfold tp
  rw [take_put h (by simp; omega), List.drop_replicate, Nat.sub_sub]
end
theorem ints_rep (n : Nat) (x : Int) : List.replicate n (T.v (.int .i64 x)) = ints (List.replicate n x) := by simp [ints]
theorem le_most {n : Nat} (h : n ≤ 1048576) : n ≤ most := by unfold most; omega
/-- Not on its way to the next round. -/
def stops : Option (Ex × St) → Bool
  | some (.normal, _) => false
  | some _ => true
  | none => false
/-- A loop whose n rounds lead from H 0 to H n: it does there what its body does. -/
theorem loop_to {E : Env} {k : Nat} {h : Nat → List Nat × List Nat} {a : Code} {σ : St} (H : Nat → St) (n : Nat) (h0 : σ.keep (h (firstR a)) = H 0) (hk : n < k) (hstep : ∀ i, i < n → (E.exec k h a (H i)).bind (keepC (h (firstR a))) = some (.normal, H (i + 1))) (hend : stops (E.exec k h a (H n)) = true) : loopE E k h a σ = E.exec k h a (H n) := by
  cases e : E.exec k h a (H n) with
  | none => rw [e] at hend; simp [stops] at hend
  | some y =>
    obtain ⟨x, F⟩ := y
    rw [e] at hend
    exact loop_up H n x F (fun hx => by subst hx; simp [stops] at hend) h0 hk hstep e
theorem first_bad {α : Type} (p : α → Bool) (xs : List α) : (∀ i (h : i < xs.length), p xs[i] = true) ∨ ∃ n, ∃ h : n < xs.length, p xs[n] = false ∧ ∀ i (h : i < n), p (xs[i]'(by omega)) = true := by
  induction xs with
  | nil => exact .inl fun i h => by simp at h
  | cons x xs ih =>
    by_cases hx : p x = true
    · rcases ih with h | ⟨n, hn, h1, h2⟩
      · refine .inl fun i hi => ?_
        cases i with
        | zero => exact hx
        | succ i => exact h i (by simpa using hi)
      · refine .inr ⟨n + 1, by simpa using hn, by simpa using h1, fun i hi => ?_⟩
        cases i with
        | zero => exact hx
        | succ i => exact h2 i (by omega)
    · exact .inr ⟨0, by simp, by simpa using hx, fun i hi => by omega⟩
theorem all_of {α : Type} {p : α → Bool} {xs : List α} (h : ∀ i (h : i < xs.length), p xs[i] = true) : xs.all p = true := by
  rw [List.all_eq_true]
  intro x hx
  obtain ⟨i, hi, rfl⟩ := List.getElem_of_mem hx
  exact h i hi
theorem not_all {α : Type} {p : α → Bool} {xs : List α} {n : Nat} (hn : n < xs.length) (h : p xs[n] = false) : xs.all p = false := by
  rw [List.all_eq_false]
  exact ⟨xs[n], List.getElem_mem hn, by simp [h]⟩
end Go.Proofs.YtemghdnofgjnmaaDoor.VM
