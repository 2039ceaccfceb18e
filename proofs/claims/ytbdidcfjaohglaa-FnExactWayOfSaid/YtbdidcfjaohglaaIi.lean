/- Rows of items: measured, copied, compared, marked, held. -/
import Derived.Test.YtbdidcfjaohglaaIe
namespace Go.Proofs.Ytbdidcfjaohglaa.VM
open Go Go.Proofs
set_option linter.unusedSimpArgs false
set_option linter.unusedVariables false
set_option maxRecDepth 100000
set_option maxHeartbeats 4000000
def itT (l : List Itm) : List T := l.flatMap tItem
theorem tItem_len (x : Itm) : (tItem x).length = 2 := rfl
@[simp] theorem itT_len (l : List Itm) : (itT l).length = l.length * 2 := fm_len tItem_len l
theorem itT_rep (n : Nat) : (List.replicate n [T.v (Value.bool false), T.v (Value.int IntKind.i64 0)]).flatten = itT (List.replicate n ⟨false, 0⟩) := fm_rep (tr := tItem) n ⟨false, 0⟩
@[simp] theorem itT_take (l : List Itm) (n : Nat) : (itT l).take (n * 2) = itT (l.take n) := fm_take tItem_len l n
@[simp] theorem itT_drop (l : List Itm) (n : Nat) : (itT l).drop (n * 2) = itT (l.drop n) := fm_drop tItem_len l n
@[simp] theorem itT_at {l : List Itm} {i : Nat} (hi : i < l.length) : (itT (l.drop i)).take 2 = tItem l[i] := by rw [← itT_drop]; exact fm_at tItem_len hi
@[simp] theorem itT_v (l : List Itm) : allV (itT l) = true := fm_v (fun _ => rfl) l
@[simp] theorem itT_ros (l : List Itm) : ros (itT l) = itT l := fm_ros (fun _ => rfl) l
theorem itT_set {l : List Itm} {i : Nat} (hi : i < l.length) (x : Itm) : ((itT l).set (i * 2) (.v (.bool x.mark))).set (i * 2 + 1) (.v (.int .i64 x.v)) = itT (l.set i x) := by
  exact fm_set tItem_len hi x
theorem itT_0 {l : List Itm} {i : Nat} (hi : i < l.length) : (itT l)[i * 2]? = some (.v (.bool l[i].mark)) := by
  have := fm_get (o := 0) tItem_len hi (by omega)
  exact this
theorem itT_1 {l : List Itm} {i : Nat} (hi : i < l.length) : (itT l)[i * 2 + 1]? = some (.v (.int .i64 l[i].v)) := fm_get tItem_len hi (by omega)
theorem run_toItem {j : Nat} (x : Itm) : M.run (j + 1) 120 [.agg (tItem x)] = some ([.agg (tItem x)], [.agg (tItem x)]) := by
  rw [m_run (fn := Try.f120) (i0 := 0) rfl Try.func120 rfl rfl (by simp [tItem])]
  simp -implicitDefEqProofs [tItem]
theorem run_eqItem {j : Nat} (x : Itm) : M.run (j + 1) 71 [.agg (tItem x), .agg (tItem x)] = some ([.c (.v (.bool true))], [.agg (tItem x), .agg (tItem x)]) := by
  rw [m_run (fn := Try.f71) (i0 := 0) rfl Try.func71 rfl rfl (by simp [tItem])]
  simp -implicitDefEqProofs [tItem]
theorem run_szItemS {j : Nat} (n : Nat) (l : List T) (k : Int) (hn : n ≤ 9223372036854775807) (hk : 0 ≤ k ∧ k ≤ 1048576) :
    M.run (j + 1) 99 [.c (.r 146 n l), .c (.v (.int .i64 k))] = some ([.c (.v (.int .i64 (if k - n < 0 then -1 else k - n)))], [.c (.r 146 n l), .c (.v (.int .i64 k))]) := by
  rw [m_run (fn := Try.f99) (i0 := 0) rfl Try.func99 rfl rfl (by simp)]
  by_cases h : k - n < 0 <;> simp -implicitDefEqProofs [h, w64 (x := k - n) (by omega)]
def H_toItemS (xs : List Itm) (i : Nat) : St := ⟨[(0, .c (.sl 0 [] 0 xs.length)), (3, .c (.sl 512 [] 0 xs.length)), (4, .c (.v (.int .i64 i)))], [(0, ⟨.ro, 146, itT xs⟩), (512, ⟨.own, 106, itT (tp xs ⟨false, 0⟩ i)⟩)]⟩
theorem run_toItemS {j : Nat} (hj : big ≤ j) (xs : List Itm) (hl : xs.length ≤ 1048576) :
    M.run (j + 2) 100 [.c (.r 146 xs.length (itT xs))] = some ([.c (.s 106 xs.length (itT xs))], [.c (.r 146 xs.length (itT xs))]) := by
  rw [m_run (fn := Try.f100) (i0 := 0) rfl Try.func100 rfl rfl (by simp)]
  simp -implicitDefEqProofs [le_most hl, itT_rep]
  rw [loop_to (H_toItemS xs) xs.length (by simp -implicitDefEqProofs [H_toItemS, hint1]) (by simp [big] at hj; omega) (fun i hi => by
    have e := run_toItem (j := j) xs[i]
    have e2 := itT_set (l := tp xs ⟨false, 0⟩ i) (i := i) (by simpa using hi) xs[i]
    rw [tp_set xs _ hi] at e2
    simp only [tItem] at e
    simp -implicitDefEqProofs [H_toItemS, hint1, hi, w64 (x := (i : Int) + 1) (by omega), show i * 2 + 2 ≤ xs.length * 2 by omega, tItem, e, e2, own1]) (by simp -implicitDefEqProofs [H_toItemS, stops])]
  simp -implicitDefEqProofs [H_toItemS]
def H_eqItemS (xs : List Itm) (i : Nat) : St := ⟨[(0, .c (.sl 0 [] 0 xs.length)), (1, .c (.sl 1 [] 0 xs.length)), (5, .c (.v (.int .i64 i)))], [(0, ⟨.ro, 106, itT xs⟩), (1, ⟨.ro, 106, itT xs⟩)]⟩
theorem run_eqItemS {j : Nat} (hj : big ≤ j) (xs : List Itm) (hl : xs.length ≤ 1048576) :
    M.run (j + 2) 20 [.c (.r 106 xs.length (itT xs)), .c (.r 106 xs.length (itT xs))] = some ([.c (.v (.bool true))], [.c (.r 106 xs.length (itT xs)), .c (.r 106 xs.length (itT xs))]) := by
  rw [m_run (fn := Try.f20) (i0 := 0) rfl Try.func20 rfl rfl (by simp)]
  simp -implicitDefEqProofs
  rw [loop_to (H_eqItemS xs) xs.length (by simp -implicitDefEqProofs [H_eqItemS, hint1]) (by simp [big] at hj; omega) (fun i hi => by
    have e := run_eqItem (j := j) xs[i]
    simp only [tItem] at e
    simp -implicitDefEqProofs [H_eqItemS, hint1, hi, w64 (x := (i : Int) + 1) (by omega), show i * 2 + 2 ≤ xs.length * 2 by omega, tItem, e, own1]) (by simp -implicitDefEqProofs [H_eqItemS, stops])]
  simp -implicitDefEqProofs [H_eqItemS]
def itUp (k : Int) (n : Nat) : List Itm := (List.range n).map fun j : Nat => ⟨Int.tmod (k + 2 * (j : Int)) 3 == 0, k + 2 * (j : Int) + 1⟩
@[simp] theorem itUp_len (k : Int) (n : Nat) : (itUp k n).length = n := by simp [itUp]
@[simp] theorem itUp_zero (k : Int) : itUp k 0 = [] := rfl
theorem itUp_succ (k : Int) (n : Nat) : itUp k (n + 1) = itUp k n ++ [⟨Int.tmod (k + 2 * (n : Int)) 3 == 0, k + 2 * (n : Int) + 1⟩] := by simp [itUp, List.range_succ]
theorem itUp_at {k : Int} {n i : Nat} (h : i < (itUp k n).length) : (itUp k n)[i] = ⟨Int.tmod (k + 2 * (i : Int)) 3 == 0, k + 2 * (i : Int) + 1⟩ := by simp [itUp]
def H_markItemS (k : Int) (l : List Itm) (i : Nat) : St := ⟨[(0, .c (.sl 0 [] 0 l.length)), (1, .c (.v (.int .i64 (k + 2 * i)))), (5, .c (.v (.int .i64 i)))], [(0, ⟨.own, 106, itT (itUp k i ++ l.drop i)⟩)]⟩
theorem run_markItemS {j : Nat} (hj : big ≤ j) (l : List Itm) (k : Int) (hk : 0 ≤ k ∧ k + 2 * l.length ≤ 4611686018427387904) :
    M.run (j + 1) 21 [.c (.s 106 l.length (itT l)), .c (.v (.int .i64 k))] = some ([.c (.v (.int .i64 (k + 2 * l.length)))], [.c (.s 106 l.length (itT (itUp k l.length))), .c (.v (.int .i64 k))]) := by
  rw [m_run (fn := Try.f21) (i0 := 0) rfl Try.func21 rfl rfl (by simp)]
  simp -implicitDefEqProofs
  rw [loop_to (H_markItemS k l) l.length (by simp -implicitDefEqProofs [H_markItemS, hint1]) (by simp [big] at hj; omega) (fun i hi => by
    have e := itT_set (l := itUp k i ++ l.drop i) (i := i) (by simp; omega) ⟨Int.tmod (k + 2 * (i : Int)) 3 == 0, k + 2 * (i : Int) + 1⟩
    rw [set_mid (l := itUp k i) (itUp_len k i) (r := l.drop i) (by simp; omega), ← itUp_succ] at e
    simp -implicitDefEqProofs at e
    simp -implicitDefEqProofs [H_markItemS, hint1, hi, w64 (x := (i : Int) + 1) (by omega), w64 (x := k + 2 * (i : Int) + 1) (by omega), w64 (x := k + 2 * (i : Int) + 1 + 1) (by omega), show i + (l.length - i) = l.length by omega, show i * 2 + 1 ≤ l.length * 2 by omega, show i * 2 + 1 + 1 ≤ l.length * 2 by omega, e]
    omega) (by simp -implicitDefEqProofs [H_markItemS, stops])]
  simp -implicitDefEqProofs [H_markItemS]
def H_heldItemS (k : Int) (n : Nat) (i : Nat) : St := ⟨[(0, .c (.sl 0 [] 0 n)), (1, .c (.v (.int .i64 (k + 2 * i)))), (5, .c (.v (.int .i64 i)))], [(0, ⟨.ro, 106, itT (itUp k n)⟩)]⟩
theorem run_heldItemS {j : Nat} (hj : big ≤ j) (n : Nat) (k : Int) (hk : 0 ≤ k ∧ k + 2 * n ≤ 4611686018427387904) :
    M.run (j + 1) 22 [.c (.r 106 n (itT (itUp k n))), .c (.v (.int .i64 k))] = some ([.c (.v (.int .i64 (k + 2 * n)))], [.c (.r 106 n (itT (itUp k n))), .c (.v (.int .i64 k))]) := by
  rw [m_run (fn := Try.f22) (i0 := 0) rfl Try.func22 rfl rfl (by simp)]
  simp -implicitDefEqProofs
  rw [loop_to (H_heldItemS k n) n (by simp -implicitDefEqProofs [H_heldItemS, hint1]) (by simp [big] at hj; omega) (fun i hi => by
    have e0 := itT_0 (l := itUp k n) (i := i) (by simpa using hi)
    have e1 := itT_1 (l := itUp k n) (i := i) (by simpa using hi)
    rw [itUp_at] at e0 e1
    have f0 : ∀ h : i * 2 < (itT (itUp k n)).length, (itT (itUp k n))[i * 2] = .v (.bool (Int.tmod (k + 2 * (i : Int)) 3 == 0)) := fun h => by
      rw [List.getElem?_eq_getElem h] at e0
      exact Option.some.inj e0
    have f1 : ∀ h : i * 2 + 1 < (itT (itUp k n)).length, (itT (itUp k n))[i * 2 + 1] = .v (.int .i64 (k + 2 * (i : Int) + 1)) := fun h => by
      rw [List.getElem?_eq_getElem h] at e1
      exact Option.some.inj e1
    simp -implicitDefEqProofs [H_heldItemS, hint1, hi, w64 (x := (i : Int) + 1) (by omega), w64 (x := k + 2 * (i : Int) + 1) (by omega), w64 (x := k + 2 * (i : Int) + 1 + 1) (by omega), f0, f1, e0, e1]
    omega) (by simp -implicitDefEqProofs [H_heldItemS, stops])]
  simp -implicitDefEqProofs [H_heldItemS]
end Go.Proofs.Ytbdidcfjaohglaa.VM
