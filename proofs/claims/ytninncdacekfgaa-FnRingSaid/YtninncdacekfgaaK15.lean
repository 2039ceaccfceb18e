/- Forth: reckoned; its law. -/
import Derived.Test.YtninncdacekfgaaK14
/- Forth: reckoned; its law. -/
namespace Go.Proofs.Ytninncdacekfgaa.VM
open Go Go.Proofs
set_option linter.unusedSimpArgs false
set_option linter.unusedVariables false
set_option maxRecDepth 100000
set_option maxHeartbeats 40000000
/-! ### rows of events and of instructions compared -/
noncomputable instance decEv : DecidableEq Ev := fun a b => Classical.propDecidable _
noncomputable instance decIns : DecidableEq Ins := fun a b => Classical.propDecidable _
theorem flatEv : flatS Try.prog 29 = some (fieldsOf Try.prog 29) := flat75
def evE (a b : Ev) : Bool := evB a.kind a.peer a.v b.kind b.peer b.v
theorem evE_iff {a b : Ev} : evE a b = true ↔ a = b := by
 obtain ⟨a1, a2, a3⟩ := a
 obtain ⟨b1, b2, b3⟩ := b
 simp [evE, evB]
theorem ext_all {α : Type} {xs ys : List α} (hl : xs.length = ys.length) (h : ∀ i, i < xs.length → xs[i]? = ys[i]?) : xs = ys := by
 apply List.ext_getElem?
 intro i
 rcases Nat.lt_or_ge i xs.length with h' | h'
 ·exact h i h'
 ·rw [List.getElem?_eq_none h', List.getElem?_eq_none (by omega)]
def sameAt (xs ys : List Ev) (i : Nat) : Bool := evE (evAt xs i) (evAt ys i)
noncomputable def eqE (xs ys : List Ev) : Bool := decide (xs = ys)
theorem eqE_all {xs ys : List Ev} (hl : xs.length = ys.length) : eqE xs ys = allTo (sameAt xs ys) xs.length := by
 unfold eqE
 rw [Bool.eq_iff_iff, decide_eq_true_eq]
 constructor
 ·rintro rfl
  exact allTo_to fun i hi => evE_iff.2 rfl
 ·intro h
  have h := allTo_of h
  refine ext_all hl fun i hi => ?_
  have := evE_iff.1 (h i hi)
  rw [evAt_of hi, evAt_of (by omega)] at this
  rw [List.getElem?_eq_getElem hi, List.getElem?_eq_getElem (by omega), this]
theorem sameAt_of {xs ys : List Ev} {i : Nat} (h1 : i < xs.length) (h2 : i < ys.length) : sameAt xs ys i = evB xs[i].kind xs[i].peer xs[i].v ys[i].kind ys[i].peer ys[i].v := by
 unfold sameAt evE
 rw [evAt_of h1, evAt_of h2]
def H_eqEv (xs ys : List Ev) (i : Nat) : St := ⟨[(0, .c (.sl 0 [] 0 xs.length)), (1, .c (.sl 1 [] 0 ys.length)), (12, .c (.v (.int .i64 xs.length))), (13, .c (.v (.int .i64 i)))], [(0, ⟨.ro, 29, evT xs⟩), (1, ⟨.ro, 29, evT ys⟩)]⟩
/-! ### instructions -/
def insE (x y : Ins) : Bool := x.op == y.op && (x.r == y.r && (x.a == y.a && (x.b == y.b && (x.n == y.n && true))))
theorem insE_iff {a b : Ins} : insE a b = true ↔ a = b := by
 obtain ⟨a1, a2, a3, a4, a5⟩ := a
 obtain ⟨b1, b2, b3, b4, b5⟩ := b
 simp [insE]
def insK (xs : List Ins) (i : Nat) : Ins := (xs[i]?).getD ⟨0, 0, 0, 0, 0⟩
theorem insK_of {xs : List Ins} {i : Nat} (h : i < xs.length) : insK xs i = xs[i] := by simp [insK, h]
def sameIn (xs ys : List Ins) (i : Nat) : Bool := insE (insK xs i) (insK ys i)
noncomputable def eqN (xs ys : List Ins) : Bool := decide (xs = ys)
theorem eqN_all {xs ys : List Ins} (hl : xs.length = ys.length) : eqN xs ys = allTo (sameIn xs ys) xs.length := by
 unfold eqN
 rw [Bool.eq_iff_iff, decide_eq_true_eq]
 constructor
 ·rintro rfl
  exact allTo_to fun i hi => insE_iff.2 rfl
 ·intro h
  have h := allTo_of h
  refine ext_all hl fun i hi => ?_
  have := insE_iff.1 (h i hi)
  rw [insK_of hi, insK_of (by omega)] at this
  rw [List.getElem?_eq_getElem hi, List.getElem?_eq_getElem (by omega), this]
theorem sameIn_of {xs ys : List Ins} {i : Nat} (h1 : i < xs.length) (h2 : i < ys.length) : sameIn xs ys i = (xs[i].op == ys[i].op && (xs[i].r == ys[i].r && (xs[i].a == ys[i].a && (xs[i].b == ys[i].b && (xs[i].n == ys[i].n && true))))) := by
 unfold sameIn insE
 rw [insK_of h1, insK_of h2]
def H_eqIn (xs ys : List Ins) (i : Nat) : St := ⟨[(0, .c (.sl 0 [] 0 xs.length)), (1, .c (.sl 1 [] 0 ys.length)), (12, .c (.v (.int .i64 xs.length))), (13, .c (.v (.int .i64 i)))], [(0, ⟨.ro, 40, insT xs⟩), (1, ⟨.ro, 40, insT ys⟩)]⟩
def rowK (l : List (List Ins)) (p : Nat) : List Ins := (l[p]?).getD []
theorem rowK_of {l : List (List Ins)} {p : Nat} (h : p < l.length) : rowK l p = l[p] := by simp [rowK, h]
noncomputable def sameP (xss yss : List (List Ins)) (p : Nat) : Bool := eqN (rowK xss p) (rowK yss p)
noncomputable def eqSS (xss yss : List (List Ins)) : Bool := decide (xss.length = yss.length) && allTo (sameP xss yss) xss.length
/-! ### the specification's -/
theorem eqN_min {xs ys : List Ins} : eqN xs ys = (allTo (sameIn xs ys) (min xs.length ys.length) && decide (xs.length = ys.length)) := by
 by_cases hl : xs.length = ys.length
 ·rw [eqN_all hl, decide_eq_true hl, Bool.and_true, ← hl, Nat.min_self]
 ·rw [decide_eq_false hl, Bool.and_false]
  unfold eqN
  rw [decide_eq_false_iff_not]
  intro e
  exact hl (by rw [e])
def H_l9P (xs ys : List Ins) (i : Nat) : St := ⟨[(0, .c (.sl 0 [] 0 xs.length)), (1, .c (.sl 1 [] 0 ys.length)), (5, .c (.v (.int .i64 i)))], [(0, ⟨.ro, 40, insT xs⟩), (1, ⟨.ro, 40, insT ys⟩)]⟩
noncomputable def begB (xs ys : List Ev) : Bool := decide (xs.length ≤ ys.length) && eqE xs (ys.take xs.length)
theorem begB_min {xs ys : List Ev} : begB xs ys = (allTo (sameAt xs ys) (min xs.length ys.length) && decide (xs.length ≤ ys.length)) := by
 unfold begB
 by_cases hl : xs.length ≤ ys.length
 ·rw [decide_eq_true hl, Bool.and_true, Bool.true_and, eqE_all (by rw [List.length_take]; omega), Nat.min_eq_left hl]
  rw [Bool.eq_iff_iff]
  have same : ∀ i, i < xs.length → sameAt xs (ys.take xs.length) i = sameAt xs ys i := fun i hi => by
   unfold sameAt
   congr 1
   unfold evAt
   rw [List.getElem?_take, if_pos hi]
  exact ⟨fun h => allTo_to fun i hi => by rw [← same i hi]; exact allTo_of h i hi, fun h => allTo_to fun i hi => by rw [same i hi]; exact allTo_of h i hi⟩
 ·rw [decide_eq_false hl, Bool.and_false, Bool.false_and]
def H_l9B (xs ys : List Ev) (i : Nat) : St := ⟨[(0, .c (.sl 0 [] 0 xs.length)), (1, .c (.sl 1 [] 0 ys.length)), (5, .c (.v (.int .i64 i)))], [(0, ⟨.ro, 29, evT xs⟩), (1, ⟨.ro, 29, evT ys⟩)]⟩
end Go.Proofs.Ytninncdacekfgaa.VM

/- Forth, and its law: reckoned. -/
namespace Go.Proofs.Ytninncdacekfgaa.VM
open Go Go.Proofs
set_option linter.unusedSimpArgs false
set_option linter.unusedVariables false
set_option maxRecDepth 100000
set_option maxHeartbeats 40000000
def sysO4 (s : Sy) : List (Nat × Obj) := [(4, ⟨.ro, 24, s.progs.map (rIns 40)⟩), (5, ⟨.ro, 27, stT s.states⟩), (6, ⟨.ro, 92, s.ways.map (rItem 100)⟩), (7, ⟨.ro, 54, s.hist.map (rEvent 29)⟩)]
def sysX4 (s : Sy) : Obj := ⟨.box, 45, [.l 4 [] 0 s.progs.length, .l 5 [] 0 s.states.length, .l 6 [] 0 s.ways.length, .l 7 [] 0 s.hist.length]⟩
def foO (s o : Sy) : List (Nat × Obj) := sysO s ++ (sysO4 o ++ [(192, sysX s), (256, sysX4 o)])
noncomputable def begP (s o : Sy) (p : Nat) : Bool := begB (rowH s.hist p) (rowH o.hist p)
noncomputable def forthB (s o : Sy) : Bool := sysB s && (sysB o && (eqSS s.progs o.progs && allTo (begP s o) s.hist.length))
def H_fo1 (s o : Sy) (p : Nat) : St := ⟨[(2, .ptr 192 [] 0), (3, .ptr 256 [] 0), (24, .c (.sl 3 [] 0 s.hist.length)), (25, .c (.v (.int .i64 s.hist.length))), (26, .c (.v (.int .i64 p)))], foO s o⟩
def H_fo2 (s o : Sy) (p : Nat) : St := ⟨[(2, .ptr 192 [] 0), (3, .ptr 256 [] 0), (5, .c (.v (.int .i64 p)))], foO s o⟩
theorem allTo_and {p q : Nat → Bool} {n : Nat} : allTo (fun i => p i && q i) n = (allTo p n && allTo q n) := by
 rw [Bool.eq_iff_iff, Bool.and_eq_true]
 constructor
 ·intro h
  have h := fun i hi => Bool.and_eq_true _ _ ▸ allTo_of h i hi
  exact ⟨allTo_to fun i hi => (h i hi).1, allTo_to fun i hi => (h i hi).2⟩
 ·rintro ⟨h1, h2⟩
  exact allTo_to fun i hi => by rw [allTo_of h1 i hi, allTo_of h2 i hi]; rfl
theorem forthB_eq (s o : Sy) : forthB s o = (sysB s && (sysB o && (decide (s.progs.length = o.progs.length) && allTo (fun p => sameP s.progs o.progs p && begP s o p) s.progs.length))) := by
 unfold forthB eqSS
 cases q1 : sysB s
 ·rfl
 cases q2 : sysB o
 ·rfl
 rw [allTo_and, right_hist q1]
 simp only [Bool.true_and, Bool.and_assoc]
end Go.Proofs.Ytninncdacekfgaa.VM
