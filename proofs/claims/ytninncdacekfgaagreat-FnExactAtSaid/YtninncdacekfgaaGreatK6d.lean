/- Rows of events and items. -/
import Derived.Test.YtninncdacekfgaaGreatK5s
import Derived.Test.YtninncdacekfgaaGreatK2s
import Derived.Test.YtninncdacekfgaaGreatK4s
import Derived.Test.YtninncdacekfgaaGreatK6s
import Derived.Test.YtninncdacekfgaaGreatV3d
import Derived.Test.YtninncdacekfgaaGreatFxd
import Derived.Test.YtninncdacekfgaaGreatMkd
import Derived.Test.YtninncdacekfgaaGreatTabd
import Derived.Test.YtninncdacekfgaaGreatK0d
import Derived.Test.YtninncdacekfgaaGreatK2d
import Derived.Test.YtninncdacekfgaaGreatK4d
import Derived.Test.YtninncdacekfgaaGreatK5d
set_option linter.unusedSimpArgs false
set_option linter.unusedVariables false
set_option maxRecDepth 100000
set_option maxHeartbeats 40000000
namespace Go.Proofs.YtninncdacekfgaaGreat.VM
open Go Go.Proofs
theorem run_toEvent {j : Nat} (e : Ev) : M.run (j + 1) 151 [.agg (tEv e)] = some ([.agg (tEv e)], [.agg (tEv e)]) := by
 rw [m_run (fn := Tryz.f151) (i0 := 0) rfl Tryz.func151 rfl rfl (by simp [tEv])]
 simp -implicitDefEqProofs [tEv]
theorem goF_len (n : Nat) (s : Sta) (k : Int) : (goF n s k).regs.length = s.regs.length ∧ (goF n s k).out.length = s.out.length := by
 unfold goF
 split <;> exact ⟨rfl, rfl⟩
theorem didF_len (x : Ins) (n : Nat) (s : Sta) (v : Int) : (didF x n s v).regs.length = s.regs.length ∧ (didF x n s v).out.length ≤ s.out.length + 1 := by
 unfold didF
 (repeat' split) <;> simp [goF_len]
end Go.Proofs.YtninncdacekfgaaGreat.VM
namespace Go.Proofs.YtninncdacekfgaaGreat.VM
open Go Go.Proofs
end Go.Proofs.YtninncdacekfgaaGreat.VM
namespace Go.Proofs.YtninncdacekfgaaGreat.VM
open Go Go.Proofs
theorem run_szEventS {j : Nat} (n : Nat) (l : List T) (k : Int) (hn : n ≤ 9223372036854775807) (hk : 0 ≤ k ∧ k ≤ 1048576) :
  M.run (j + 1) 96 [.c (.r 173 n l), .c (.v (.int .i64 k))] = some ([.c (.v (.int .i64 (if k - n < 0 then -1 else k - n)))], [.c (.r 173 n l), .c (.v (.int .i64 k))]) := by
 rw [m_run (fn := Tryz.f96) (i0 := 0) rfl Tryz.func96 rfl rfl (by simp)]
 by_cases h : k - n < 0 <;> simp -implicitDefEqProofs [h, w64 (x := k - n) (by omega)]
def H_toEventS (xs : List Ev) (i : Nat) : St := ⟨[(0, .c (.sl 0 [] 0 xs.length)), (3, .c (.sl 512 [] 0 xs.length)), (4, .c (.v (.int .i64 i)))], [(0, ⟨.ro, 173, evT xs⟩), (512, ⟨.own, 96, evT (tp xs ⟨0,0,0⟩ i)⟩)]⟩
theorem run_toEventS {j : Nat} (hj : big ≤ j) (xs : List Ev) (hl : xs.length ≤ 1048576) :
  M.run (j + 2) 103 [.c (.r 173 xs.length (evT xs))] = some ([.c (.s 96 xs.length (evT xs))], [.c (.r 173 xs.length (evT xs))]) := by
 rw [m_run (fn := Tryz.f103) (i0 := 0) rfl Tryz.func103 rfl rfl (by simp)]
 simp -implicitDefEqProofs [le_most hl, evT_rep]
 rw [loop_to (H_toEventS xs) xs.length (by simp -implicitDefEqProofs [H_toEventS, hint1]) (by simp [big] at hj; omega) (fun i hi => by
  have e := run_toEvent (j := j) xs[i]
  have e2 := evT_set (l := tp xs ⟨0,0,0⟩ i) (i := i) (by simpa using hi) xs[i]
  rw [tp_set xs _ hi] at e2
  simp only [tEv] at e
  simp -implicitDefEqProofs [H_toEventS, hint1, hi, w64 (x := (i : Int) + 1) (by omega), show i * 3 + 3 ≤ xs.length * 3 by omega, tEv, e, e2, own1]) (by simp -implicitDefEqProofs [H_toEventS, stops])]
 simp -implicitDefEqProofs [H_toEventS]
def H_eqEventS (xs : List Ev) (i : Nat) : St := ⟨[(0, .c (.sl 0 [] 0 xs.length)), (1, .c (.sl 1 [] 0 xs.length)), (5, .c (.v (.int .i64 i)))], [(0, ⟨.ro, 96, evT xs⟩), (1, ⟨.ro, 96, evT xs⟩)]⟩
theorem run_eqEventS {j : Nat} (hj : big ≤ j) (xs : List Ev) (hl : xs.length ≤ 1048576) :
  M.run (j + 2) 113 [.c (.r 96 xs.length (evT xs)), .c (.r 96 xs.length (evT xs))] = some ([.c (.v (.bool true))], [.c (.r 96 xs.length (evT xs)), .c (.r 96 xs.length (evT xs))]) := by
 rw [m_run (fn := Tryz.f113) (i0 := 0) rfl Tryz.func113 rfl rfl (by simp)]
 simp -implicitDefEqProofs
 rw [loop_to (H_eqEventS xs) xs.length (by simp -implicitDefEqProofs [H_eqEventS, hint1]) (by simp [big] at hj; omega) (fun i hi => by
  have e := run56 (j := j) xs[i]
  simp only [tEv] at e
  simp -implicitDefEqProofs [H_eqEventS, hint1, hi, w64 (x := (i : Int) + 1) (by omega), show i * 3 + 3 ≤ xs.length * 3 by omega, tEv, e, own1]) (by simp -implicitDefEqProofs [H_eqEventS, stops])]
 simp -implicitDefEqProofs [H_eqEventS]
theorem evUp_succ (k : Int) (n : Nat) : evUp k (n + 1) = evUp k n ++ [⟨k + 3 * (n : Int), k + 3 * (n : Int) + 1, k + 3 * (n : Int) + 1 + 1⟩] := by simp [evUp, List.range_succ]
def H_markEventS (k : Int) (l : List Ev) (i : Nat) : St := ⟨[(0, .c (.sl 0 [] 0 l.length)), (1, .c (.v (.int .i64 (k + 3 * i)))), (5, .c (.v (.int .i64 i)))], [(0, ⟨.own, 96, evT (evUp k i ++ l.drop i)⟩)]⟩
theorem run_markEventS {j : Nat} (hj : big ≤ j) (l : List Ev) (k : Int) (hk : 0 ≤ k ∧ k + 3 * l.length ≤ 4611686018427387904) :
  M.run (j + 1) 116 [.c (.s 96 l.length (evT l)), .c (.v (.int .i64 k))] = some ([.c (.v (.int .i64 (k + 3 * l.length)))], [.c (.s 96 l.length (evT (evUp k l.length))), .c (.v (.int .i64 k))]) := by
 rw [m_run (fn := Tryz.f116) (i0 := 0) rfl Tryz.func116 rfl rfl (by simp)]
 simp -implicitDefEqProofs
 rw [loop_to (H_markEventS k l) l.length (by simp -implicitDefEqProofs [H_markEventS, hint1]) (by simp [big] at hj; omega) (fun i hi => by
  have e := evT_set (l := evUp k i ++ l.drop i) (i := i) (by simp; omega) ⟨k + 3 * (i : Int), k + 3 * (i : Int) + 1, k + 3 * (i : Int) + 1 + 1⟩
  rw [set_mid (l := evUp k i) (evUp_len k i) (r := l.drop i) (by simp; omega), ← evUp_succ] at e
  simp -implicitDefEqProofs at e
  simp -implicitDefEqProofs [H_markEventS, hint1, hi, w64 (x := (i : Int) + 1) (by omega), w64 (x := k + 3 * (i : Int) + 1) (by omega), w64 (x := k + 3 * (i : Int) + 1 + 1) (by omega), w64 (x := k + 3 * (i : Int) + 1 + 1 + 1) (by omega), show i + (l.length - i) = l.length by omega, show i * 3 + 1 ≤ l.length * 3 by omega, show i * 3 + 1 + 1 ≤ l.length * 3 by omega, show i * 3 + 2 + 1 ≤ l.length * 3 by omega, e]
  omega) (by simp -implicitDefEqProofs [H_markEventS, stops])]
 simp -implicitDefEqProofs [H_markEventS]
end Go.Proofs.YtninncdacekfgaaGreat.VM
namespace Go.Proofs.YtninncdacekfgaaGreat.VM
open Go Go.Proofs
theorem run_toItem {j : Nat} (x : Itm) : M.run (j + 1) 150 [.agg (tItem x)] = some ([.agg (tItem x)], [.agg (tItem x)]) := by
 rw [m_run (fn := Tryz.f150) (i0 := 0) rfl Tryz.func150 rfl rfl (by simp [tItem])]
 simp -implicitDefEqProofs [tItem]
theorem run_eqItem {j : Nat} (x : Itm) : M.run (j + 1) 160 [.agg (tItem x), .agg (tItem x)] = some ([.c (.v (.bool true))], [.agg (tItem x), .agg (tItem x)]) := by
 rw [m_run (fn := Tryz.f160) (i0 := 0) rfl Tryz.func160 rfl rfl (by simp [tItem])]
 simp -implicitDefEqProofs [tItem]
theorem run_szItemS {j : Nat} (n : Nat) (l : List T) (k : Int) (hn : n ≤ 9223372036854775807) (hk : 0 ≤ k ∧ k ≤ 1048576) :
  M.run (j + 1) 95 [.c (.r 171 n l), .c (.v (.int .i64 k))] = some ([.c (.v (.int .i64 (if k - n < 0 then -1 else k - n)))], [.c (.r 171 n l), .c (.v (.int .i64 k))]) := by
 rw [m_run (fn := Tryz.f95) (i0 := 0) rfl Tryz.func95 rfl rfl (by simp)]
 by_cases h : k - n < 0 <;> simp -implicitDefEqProofs [h, w64 (x := k - n) (by omega)]
def H_toItemS (xs : List Itm) (i : Nat) : St := ⟨[(0, .c (.sl 0 [] 0 xs.length)), (3, .c (.sl 512 [] 0 xs.length)), (4, .c (.v (.int .i64 i)))], [(0, ⟨.ro, 171, itT xs⟩), (512, ⟨.own, 99, itT (tp xs ⟨false, 0⟩ i)⟩)]⟩
theorem run_toItemS {j : Nat} (hj : big ≤ j) (xs : List Itm) (hl : xs.length ≤ 1048576) :
  M.run (j + 2) 102 [.c (.r 171 xs.length (itT xs))] = some ([.c (.s 99 xs.length (itT xs))], [.c (.r 171 xs.length (itT xs))]) := by
 rw [m_run (fn := Tryz.f102) (i0 := 0) rfl Tryz.func102 rfl rfl (by simp)]
 simp -implicitDefEqProofs [le_most hl, itT_rep]
 rw [loop_to (H_toItemS xs) xs.length (by simp -implicitDefEqProofs [H_toItemS, hint1]) (by simp [big] at hj; omega) (fun i hi => by
  have e := run_toItem (j := j) xs[i]
  have e2 := itT_set (l := tp xs ⟨false, 0⟩ i) (i := i) (by simpa using hi) xs[i]
  rw [tp_set xs _ hi] at e2
  simp only [tItem] at e
  simp -implicitDefEqProofs [H_toItemS, hint1, hi, w64 (x := (i : Int) + 1) (by omega), show i * 2 + 2 ≤ xs.length * 2 by omega, tItem, e, e2, own1]) (by simp -implicitDefEqProofs [H_toItemS, stops])]
 simp -implicitDefEqProofs [H_toItemS]
def H_eqItemS (xs : List Itm) (i : Nat) : St := ⟨[(0, .c (.sl 0 [] 0 xs.length)), (1, .c (.sl 1 [] 0 xs.length)), (5, .c (.v (.int .i64 i)))], [(0, ⟨.ro, 99, itT xs⟩), (1, ⟨.ro, 99, itT xs⟩)]⟩
theorem run_eqItemS {j : Nat} (hj : big ≤ j) (xs : List Itm) (hl : xs.length ≤ 1048576) :
  M.run (j + 2) 112 [.c (.r 99 xs.length (itT xs)), .c (.r 99 xs.length (itT xs))] = some ([.c (.v (.bool true))], [.c (.r 99 xs.length (itT xs)), .c (.r 99 xs.length (itT xs))]) := by
 rw [m_run (fn := Tryz.f112) (i0 := 0) rfl Tryz.func112 rfl rfl (by simp)]
 simp -implicitDefEqProofs
 rw [loop_to (H_eqItemS xs) xs.length (by simp -implicitDefEqProofs [H_eqItemS, hint1]) (by simp [big] at hj; omega) (fun i hi => by
  have e := run_eqItem (j := j) xs[i]
  simp only [tItem] at e
  simp -implicitDefEqProofs [H_eqItemS, hint1, hi, w64 (x := (i : Int) + 1) (by omega), show i * 2 + 2 ≤ xs.length * 2 by omega, tItem, e, own1]) (by simp -implicitDefEqProofs [H_eqItemS, stops])]
 simp -implicitDefEqProofs [H_eqItemS]
theorem itUp_succ (k : Int) (n : Nat) : itUp k (n + 1) = itUp k n ++ [⟨Int.tmod (k + 2 * (n : Int)) 3 == 0, k + 2 * (n : Int) + 1⟩] := by simp [itUp, List.range_succ]
theorem itUp_at {k : Int} {n i : Nat} (h : i < (itUp k n).length) : (itUp k n)[i] = ⟨Int.tmod (k + 2 * (i : Int)) 3 == 0, k + 2 * (i : Int) + 1⟩ := by simp [itUp]
def H_markItemS (k : Int) (l : List Itm) (i : Nat) : St := ⟨[(0, .c (.sl 0 [] 0 l.length)), (1, .c (.v (.int .i64 (k + 2 * i)))), (5, .c (.v (.int .i64 i)))], [(0, ⟨.own, 99, itT (itUp k i ++ l.drop i)⟩)]⟩
theorem run_markItemS {j : Nat} (hj : big ≤ j) (l : List Itm) (k : Int) (hk : 0 ≤ k ∧ k + 2 * l.length ≤ 4611686018427387904) :
  M.run (j + 1) 115 [.c (.s 99 l.length (itT l)), .c (.v (.int .i64 k))] = some ([.c (.v (.int .i64 (k + 2 * l.length)))], [.c (.s 99 l.length (itT (itUp k l.length))), .c (.v (.int .i64 k))]) := by
 rw [m_run (fn := Tryz.f115) (i0 := 0) rfl Tryz.func115 rfl rfl (by simp)]
 simp -implicitDefEqProofs
 rw [loop_to (H_markItemS k l) l.length (by simp -implicitDefEqProofs [H_markItemS, hint1]) (by simp [big] at hj; omega) (fun i hi => by
  have e := itT_set (l := itUp k i ++ l.drop i) (i := i) (by simp; omega) ⟨Int.tmod (k + 2 * (i : Int)) 3 == 0, k + 2 * (i : Int) + 1⟩
  rw [set_mid (l := itUp k i) (itUp_len k i) (r := l.drop i) (by simp; omega), ← itUp_succ] at e
  simp -implicitDefEqProofs at e
  simp -implicitDefEqProofs [H_markItemS, hint1, hi, w64 (x := (i : Int) + 1) (by omega), w64 (x := k + 2 * (i : Int) + 1) (by omega), w64 (x := k + 2 * (i : Int) + 1 + 1) (by omega), show i + (l.length - i) = l.length by omega, show i * 2 + 1 ≤ l.length * 2 by omega, show i * 2 + 1 + 1 ≤ l.length * 2 by omega, e]
  omega) (by simp -implicitDefEqProofs [H_markItemS, stops])]
 simp -implicitDefEqProofs [H_markItemS]
def H_heldItemS (k : Int) (n : Nat) (i : Nat) : St := ⟨[(0, .c (.sl 0 [] 0 n)), (1, .c (.v (.int .i64 (k + 2 * i)))), (5, .c (.v (.int .i64 i)))], [(0, ⟨.ro, 99, itT (itUp k n)⟩)]⟩
theorem run_heldItemS {j : Nat} (hj : big ≤ j) (n : Nat) (k : Int) (hk : 0 ≤ k ∧ k + 2 * n ≤ 4611686018427387904) :
  M.run (j + 1) 119 [.c (.r 99 n (itT (itUp k n))), .c (.v (.int .i64 k))] = some ([.c (.v (.int .i64 (k + 2 * n)))], [.c (.r 99 n (itT (itUp k n))), .c (.v (.int .i64 k))]) := by
 rw [m_run (fn := Tryz.f119) (i0 := 0) rfl Tryz.func119 rfl rfl (by simp)]
 simp -implicitDefEqProofs
 rw [loop_to (H_heldItemS k n) n (by simp -implicitDefEqProofs [H_heldItemS, hint1]) (by simp [big] at hj; omega) (fun i hi => by
  have e0 := itT_0 (l := itUp k n) (i := i) (by simpa using hi)
  have e1 := itT_1 (l := itUp k n) (i := i) (by simpa using hi)
  rw [itUp_at] at e0 e1
  have f0 : ∀ h : i * 2 < (itT (itUp k n)).length, (itT (itUp k n))[i * 2] = .v (.bool (Int.tmod (k + 2 * (i : Int)) 3 == 0)) := fun h => by
   rw [List.getElem?_eq_getElem h] at e0
   exact Option.some.inj e0
  have f1 : ∀ h : i * 2 + 1 < (itT (itUp k n)).length, (itT (itUp k n))[i * 2 + 1] = .v (.int .i64 (k + 2 * (i : Int) + 1)) := fun h => by
   rw [List.getElem?_eq_getElem h] at e1
   exact Option.some.inj e1
  simp -implicitDefEqProofs [H_heldItemS, hint1, hi, w64 (x := (i : Int) + 1) (by omega), w64 (x := k + 2 * (i : Int) + 1) (by omega), w64 (x := k + 2 * (i : Int) + 1 + 1) (by omega), f0, f1, e0, e1]
  omega) (by simp -implicitDefEqProofs [H_heldItemS, stops])]
 simp -implicitDefEqProofs [H_heldItemS]
end Go.Proofs.YtninncdacekfgaaGreat.VM
