/- Forth: reckoned; its law. -/
import Derived.Test.YtkgkbkpgpbpjhaaGreatK14g
import Derived.Test.YtkgkbkpgpbpjhaaGreatK15g
import Derived.Test.YtkgkbkpgpbpjhaaGreatFxk
import Derived.Test.YtkgkbkpgpbpjhaaGreatTabk
import Derived.Test.YtkgkbkpgpbpjhaaGreatK6k
set_option linter.unusedSimpArgs false
set_option linter.unusedVariables false
set_option maxRecDepth 100000
set_option maxHeartbeats 40000000
namespace Go.Proofs.YtkgkbkpgpbpjhaaGreat.VM
open Go Go.Proofs
def evE (a b : Ev) : Bool := evB a.kind a.peer a.v b.kind b.peer b.v
theorem evE_iff {a b : Ev} : evE a b = true ↔ a = b := by
 obtain ⟨a1, a2, a3⟩ := a
 obtain ⟨b1, b2, b3⟩ := b
 simp [evE, evB]
theorem ext_all {α : Type} {xs ys : List α} (hl : xs.length = ys.length) (h : ∀ i, i < xs.length → xs[i]? = ys[i]?) : xs = ys := by
 apply List.ext_getElem?
 intro i
 rcases Nat.lt_or_ge i xs.length with h' | h'
 ·exact h i h'
 ·rw [List.getElem?_eq_none h', List.getElem?_eq_none (by omega)]
def sameAt (xs ys : List Ev) (i : Nat) : Bool := evE (evAt xs i) (evAt ys i)
noncomputable def eqE (xs ys : List Ev) : Bool := decide (xs = ys)
theorem eqE_all {xs ys : List Ev} (hl : xs.length = ys.length) : eqE xs ys = allTo (sameAt xs ys) xs.length := by
 unfold eqE
 rw [Bool.eq_iff_iff, decide_eq_true_eq]
 constructor
 ·rintro rfl
  exact allTo_to fun i hi => evE_iff.2 rfl
 ·intro h
  have h := allTo_of h
  refine ext_all hl fun i hi => ?_
  have := evE_iff.1 (h i hi)
  rw [evAt_of hi, evAt_of (by omega)] at this
  rw [List.getElem?_eq_getElem hi, List.getElem?_eq_getElem (by omega), this]
theorem sameAt_of {xs ys : List Ev} {i : Nat} (h1 : i < xs.length) (h2 : i < ys.length) : sameAt xs ys i = evB xs[i].kind xs[i].peer xs[i].v ys[i].kind ys[i].peer ys[i].v := by
 unfold sameAt evE
 rw [evAt_of h1, evAt_of h2]
def H_eqEv (xs ys : List Ev) (i : Nat) : St := ⟨[(0, .c (.sl 0 [] 0 xs.length)), (1, .c (.sl 1 [] 0 ys.length)), (12, .c (.v (.int .i64 xs.length))), (13, .c (.v (.int .i64 i)))], [(0, ⟨.ro, 65, evT xs⟩), (1, ⟨.ro, 65, evT ys⟩)]⟩
theorem run_equalE {j : Nat} (hj : big ≤ j) (xs ys : List Ev) (hn : xs.length ≤ 4294967296) : M.run (j + 1) 119 [.c (.r 65 xs.length (evT xs)), .c (.r 65 ys.length (evT ys))] = some ([.c (.v (.bool (eqE xs ys)))], [.c (.r 65 xs.length (evT xs)), .c (.r 65 ys.length (evT ys))]) := by
 rw [m_run (fn := Tryz.f119) (i0 := 0) rfl Tryz.func119 rfl rfl (by simp)]
 by_cases hl : xs.length = ys.length
 rotate_left
 ·have : eqE xs ys = false := by unfold eqE; rw [decide_eq_false_iff_not]; intro e; exact hl (by rw [e])
  rw [this]
  simp -implicitDefEqProofs [show ¬ (xs.length : Int) = ys.length by omega]
 rw [eqE_all hl]
 obtain ⟨N, hN, hg, hN'⟩ := firstN (sameAt xs ys) xs.length
 simp -implicitDefEqProofs [show (xs.length : Int) = ys.length by omega]
 rw [← hl]
 rw [loop_then (H_eqEv xs ys) N (by simp -implicitDefEqProofs [H_eqEv, hint1, hl]) (by simp [big] at hj; omega) (fun i hi => by
  have h1 : i < xs.length := by omega
  have h2 : i < ys.length := by omega
  have g := hg i hi
  rw [sameAt_of h1 h2] at g
  simp -implicitDefEqProofs [H_eqEv, hint1, h1, h2, tEv, flat75, eq75, g, show i * 3 + 3 ≤ xs.length * 3 by omega, show i * 3 + 3 ≤ ys.length * 3 by omega, w64 (x := (i : Int) + 1) (by omega)])]
 rcases hN' with ⟨hN', hall⟩ | ⟨hlt, hbad, hall⟩
 ·rw [hall, hN']
  simp -implicitDefEqProofs [H_eqEv]
 ·have h2 : N < ys.length := by omega
  rw [hall]
  rw [sameAt_of hlt h2] at hbad
  simp -implicitDefEqProofs [H_eqEv, hlt, h2, tEv, flat75, eq75, hbad, show N * 3 + 3 ≤ xs.length * 3 by omega, show N * 3 + 3 ≤ ys.length * 3 by omega]
def insE (x y : Ins) : Bool := x.op == y.op && (x.r == y.r && (x.a == y.a && (x.b == y.b && (x.n == y.n && true))))
theorem insE_iff {a b : Ins} : insE a b = true ↔ a = b := by
 obtain ⟨a1, a2, a3, a4, a5⟩ := a
 obtain ⟨b1, b2, b3, b4, b5⟩ := b
 simp [insE]
def insK (xs : List Ins) (i : Nat) : Ins := (xs[i]?).getD ⟨0, 0, 0, 0, 0⟩
theorem insK_of {xs : List Ins} {i : Nat} (h : i < xs.length) : insK xs i = xs[i] := by simp [insK, h]
def sameIn (xs ys : List Ins) (i : Nat) : Bool := insE (insK xs i) (insK ys i)
noncomputable def eqN (xs ys : List Ins) : Bool := decide (xs = ys)
theorem eqN_all {xs ys : List Ins} (hl : xs.length = ys.length) : eqN xs ys = allTo (sameIn xs ys) xs.length := by
 unfold eqN
 rw [Bool.eq_iff_iff, decide_eq_true_eq]
 constructor
 ·rintro rfl
  exact allTo_to fun i hi => insE_iff.2 rfl
 ·intro h
  have h := allTo_of h
  refine ext_all hl fun i hi => ?_
  have := insE_iff.1 (h i hi)
  rw [insK_of hi, insK_of (by omega)] at this
  rw [List.getElem?_eq_getElem hi, List.getElem?_eq_getElem (by omega), this]
theorem sameIn_of {xs ys : List Ins} {i : Nat} (h1 : i < xs.length) (h2 : i < ys.length) : sameIn xs ys i = (xs[i].op == ys[i].op && (xs[i].r == ys[i].r && (xs[i].a == ys[i].a && (xs[i].b == ys[i].b && (xs[i].n == ys[i].n && true))))) := by
 unfold sameIn insE
 rw [insK_of h1, insK_of h2]
def H_eqIn (xs ys : List Ins) (i : Nat) : St := ⟨[(0, .c (.sl 0 [] 0 xs.length)), (1, .c (.sl 1 [] 0 ys.length)), (12, .c (.v (.int .i64 xs.length))), (13, .c (.v (.int .i64 i)))], [(0, ⟨.ro, 116, insT xs⟩), (1, ⟨.ro, 116, insT ys⟩)]⟩
theorem run_equalIn {j : Nat} (hj : big ≤ j) (xs ys : List Ins) (hn : xs.length ≤ 4294967296) : M.run (j + 1) 118 [.c (.r 116 xs.length (insT xs)), .c (.r 116 ys.length (insT ys))] = some ([.c (.v (.bool (eqN xs ys)))], [.c (.r 116 xs.length (insT xs)), .c (.r 116 ys.length (insT ys))]) := by
 rw [m_run (fn := Tryz.f118) (i0 := 0) rfl Tryz.func118 rfl rfl (by simp)]
 by_cases hl : xs.length = ys.length
 rotate_left
 ·have : eqN xs ys = false := by unfold eqN; rw [decide_eq_false_iff_not]; intro e; exact hl (by rw [e])
  rw [this]
  simp -implicitDefEqProofs [show ¬ (xs.length : Int) = ys.length by omega]
 rw [eqN_all hl]
 obtain ⟨N, hN, hg, hN'⟩ := firstN (sameIn xs ys) xs.length
 simp -implicitDefEqProofs [show (xs.length : Int) = ys.length by omega]
 rw [← hl]
 rw [loop_then (H_eqIn xs ys) N (by simp -implicitDefEqProofs [H_eqIn, hint1, hl]) (by simp [big] at hj; omega) (fun i hi => by
  have h1 : i < xs.length := by omega
  have h2 : i < ys.length := by omega
  have g := hg i hi
  rw [sameIn_of h1 h2] at g
  have q41 := eq41 xs[i].op xs[i].r xs[i].a xs[i].b xs[i].n ys[i].op ys[i].r ys[i].a ys[i].b ys[i].n
  rw [g] at q41
  simp -implicitDefEqProofs [H_eqIn, hint1, h1, h2, tIns, flat41, q41, show i * 5 + 5 ≤ xs.length * 5 by omega, show i * 5 + 5 ≤ ys.length * 5 by omega, w64 (x := (i : Int) + 1) (by omega)])]
 rcases hN' with ⟨hN', hall⟩ | ⟨hlt, hbad, hall⟩
 ·rw [hall, hN']
  simp -implicitDefEqProofs [H_eqIn]
 ·have h2 : N < ys.length := by omega
  rw [hall]
  rw [sameIn_of hlt h2] at hbad
  have q41 := eq41 xs[N].op xs[N].r xs[N].a xs[N].b xs[N].n ys[N].op ys[N].r ys[N].a ys[N].b ys[N].n
  rw [hbad] at q41
  simp -implicitDefEqProofs [H_eqIn, hlt, h2, tIns, flat41, q41, show N * 5 + 5 ≤ xs.length * 5 by omega, show N * 5 + 5 ≤ ys.length * 5 by omega]
theorem run_Forth1 {j : Nat} (hj : big ≤ j) (xs ys : List Ins) (hn : xs.length ≤ 4294967296) : M.run (j + 2) 117 [.c (.r 116 xs.length (insT xs)), .c (.r 116 ys.length (insT ys))] = some ([.c (.v (.bool (eqN xs ys)))], [.c (.r 116 xs.length (insT xs)), .c (.r 116 ys.length (insT ys))]) := by
 have e := run_equalIn hj xs ys hn
 rw [m_run (fn := Tryz.f117) (i0 := 0) rfl Tryz.func117 rfl rfl (by simp)]
 simp -implicitDefEqProofs [e, own1]
def rowK (l : List (List Ins)) (p : Nat) : List Ins := (l[p]?).getD []
theorem rowK_of {l : List (List Ins)} {p : Nat} (h : p < l.length) : rowK l p = l[p] := by simp [rowK, h]
noncomputable def sameP (xss yss : List (List Ins)) (p : Nat) : Bool := eqN (rowK xss p) (rowK yss p)
noncomputable def eqSS (xss yss : List (List Ins)) : Bool := decide (xss.length = yss.length) && allTo (sameP xss yss) xss.length
def H_eqF (xss yss : List (List Ins)) (i : Nat) : St := ⟨[(1, .c (.sl 1 [] 0 yss.length)), (2, .fn 117 []), (15, .c (.sl 0 [] 0 xss.length)), (16, .c (.v (.int .i64 xss.length))), (17, .c (.v (.int .i64 i)))], [(0, ⟨.ro, 108, xss.map (rIns 116)⟩), (1, ⟨.ro, 108, yss.map (rIns 116)⟩)]⟩
theorem run_EqualFunc {j : Nat} (hj : big ≤ j) (xss yss : List (List Ins)) (hn : xss.length ≤ 1048576) (hx : ∀ x ∈ xss, x.length ≤ 1048576) : M.run (j + 3) 116 [.c (.r 108 xss.length (xss.map (rIns 116))), .c (.r 108 yss.length (yss.map (rIns 116))), .fn 117 []] = some ([.c (.v (.bool (eqSS xss yss)))], [.c (.r 108 xss.length (xss.map (rIns 116))), .c (.r 108 yss.length (yss.map (rIns 116))), .fn 117 []]) := by
 rw [m_run (fn := Tryz.f116) (i0 := 0) rfl Tryz.func116 rfl rfl (by simp)]
 unfold eqSS
 by_cases hl : xss.length = yss.length
 rotate_left
 ·rw [decide_eq_false hl]
  simp -implicitDefEqProofs [show ¬ (xss.length : Int) = yss.length by omega]
 rw [decide_eq_true hl]
 obtain ⟨N, hN, hg, hN'⟩ := firstN (sameP xss yss) xss.length
 simp -implicitDefEqProofs [show (xss.length : Int) = yss.length by omega]
 rw [← hl]
 have eg : ∀ i (h1 : i < xss.length) (h2 : i < yss.length), sameP xss yss i = eqN xss[i] yss[i] := fun i h1 h2 => by unfold sameP; rw [rowK_of h1, rowK_of h2]
 rw [loop_then (H_eqF xss yss) N (by simp -implicitDefEqProofs [H_eqF, hint1, hl]) (by simp [big] at hj; omega) (fun i hi => by
  have h1 : i < xss.length := by omega
  have h2 : i < yss.length := by omega
  have g := hg i hi
  rw [eg i h1 h2] at g
  have e := run_Forth1 hj xss[i] yss[i] (by have := hx _ (List.getElem_mem h1); omega)
  rw [g] at e
  simp -implicitDefEqProofs [H_eqF, hint1, h1, h2, own1, e, rIns_at h1, rIns_at h2, rIns, w64 (x := (i : Int) + 1) (by omega)])]
 rcases hN' with ⟨hN', hall⟩ | ⟨hlt, hbad, hall⟩
 ·rw [hall, hN']
  simp -implicitDefEqProofs [H_eqF]
 ·have h2 : N < yss.length := by omega
  rw [hall]
  rw [eg N hlt h2] at hbad
  have e := run_Forth1 hj xss[N] yss[N] (by have := hx _ (List.getElem_mem hlt); omega)
  rw [hbad] at e
  simp -implicitDefEqProofs [H_eqF, hlt, h2, own1, e, rIns_at hlt, rIns_at h2, rIns]
theorem eqN_min {xs ys : List Ins} : eqN xs ys = (allTo (sameIn xs ys) (min xs.length ys.length) && decide (xs.length = ys.length)) := by
 by_cases hl : xs.length = ys.length
 ·rw [eqN_all hl, decide_eq_true hl, Bool.and_true, ← hl, Nat.min_self]
 ·rw [decide_eq_false hl, Bool.and_false]
  unfold eqN
  rw [decide_eq_false_iff_not]
  intro e
  exact hl (by rw [e])
def H_l9P (xs ys : List Ins) (i : Nat) : St := ⟨[(0, .c (.sl 0 [] 0 xs.length)), (1, .c (.sl 1 [] 0 ys.length)), (5, .c (.v (.int .i64 i)))], [(0, ⟨.ro, 116, insT xs⟩), (1, ⟨.ro, 116, insT ys⟩)]⟩
theorem run_l9SameProg {j : Nat} (hj : big ≤ j) (xs ys : List Ins) (hn : xs.length ≤ 4294967296) : M.run (j + 1) 120 [.c (.r 116 xs.length (insT xs)), .c (.r 116 ys.length (insT ys))] = some ([.c (.v (.bool (eqN xs ys)))], [.c (.r 116 xs.length (insT xs)), .c (.r 116 ys.length (insT ys))]) := by
 rw [m_run (fn := Tryz.f120) (i0 := 0) rfl Tryz.func120 rfl rfl (by simp), eqN_min]
 obtain ⟨N, hN, hg, hN'⟩ := firstN (sameIn xs ys) (min xs.length ys.length)
 simp -implicitDefEqProofs
 rw [loop_then (H_l9P xs ys) N (by simp -implicitDefEqProofs [H_l9P, hint1]) (by simp [big] at hj; omega) (fun i hi => by
  have h1 : i < xs.length := by omega
  have h2 : i < ys.length := by omega
  have g := hg i hi
  rw [sameIn_of h1 h2] at g
  have q41 := eq41 xs[i].op xs[i].r xs[i].a xs[i].b xs[i].n ys[i].op ys[i].r ys[i].a ys[i].b ys[i].n
  rw [g] at q41
  simp -implicitDefEqProofs [H_l9P, hint1, h1, h2, tIns, flat41, q41, show i * 5 + 5 ≤ xs.length * 5 by omega, show i * 5 + 5 ≤ ys.length * 5 by omega, w64 (x := (i : Int) + 1) (by omega)])]
 rcases hN' with ⟨hN', hall⟩ | ⟨hlt, hbad, hall⟩
 ·rw [hall]
  have hb : ((xs.length : Int) == (ys.length : Int)) = decide (xs.length = ys.length) := by
   rw [Bool.eq_iff_iff]; simp; omega
  by_cases h1 : N < xs.length
  ·have h2 : ¬ N < ys.length := by omega
   simp -implicitDefEqProofs [H_l9P, h1, h2, show ¬ (N : Int) < ys.length by omega, hb]
  ·simp -implicitDefEqProofs [H_l9P, h1, show ¬ (N : Int) < xs.length by omega, hb]
 ·have h1 : N < xs.length := by omega
  have h2 : N < ys.length := by omega
  rw [hall]
  rw [sameIn_of h1 h2] at hbad
  have q41 := eq41 xs[N].op xs[N].r xs[N].a xs[N].b xs[N].n ys[N].op ys[N].r ys[N].a ys[N].b ys[N].n
  rw [hbad] at q41
  simp -implicitDefEqProofs [H_l9P, h1, h2, tIns, flat41, q41, show N * 5 + 5 ≤ xs.length * 5 by omega, show N * 5 + 5 ≤ ys.length * 5 by omega]
noncomputable def begB (xs ys : List Ev) : Bool := decide (xs.length ≤ ys.length) && eqE xs (ys.take xs.length)
theorem begB_min {xs ys : List Ev} : begB xs ys = (allTo (sameAt xs ys) (min xs.length ys.length) && decide (xs.length ≤ ys.length)) := by
 unfold begB
 by_cases hl : xs.length ≤ ys.length
 ·rw [decide_eq_true hl, Bool.and_true, Bool.true_and, eqE_all (by rw [List.length_take]; omega), Nat.min_eq_left hl]
  rw [Bool.eq_iff_iff]
  have same : ∀ i, i < xs.length → sameAt xs (ys.take xs.length) i = sameAt xs ys i := fun i hi => by
   unfold sameAt
   congr 1
   unfold evAt
   rw [List.getElem?_take, if_pos hi]
  exact ⟨fun h => allTo_to fun i hi => by rw [← same i hi]; exact allTo_of h i hi, fun h => allTo_to fun i hi => by rw [same i hi]; exact allTo_of h i hi⟩
 ·rw [decide_eq_false hl, Bool.and_false, Bool.false_and]
def H_l9B (xs ys : List Ev) (i : Nat) : St := ⟨[(0, .c (.sl 0 [] 0 xs.length)), (1, .c (.sl 1 [] 0 ys.length)), (5, .c (.v (.int .i64 i)))], [(0, ⟨.ro, 65, evT xs⟩), (1, ⟨.ro, 65, evT ys⟩)]⟩
theorem run_l9Begins {j : Nat} (hj : big ≤ j) (xs ys : List Ev) (hn : xs.length ≤ 4294967296) : M.run (j + 1) 121 [.c (.r 65 xs.length (evT xs)), .c (.r 65 ys.length (evT ys))] = some ([.c (.v (.bool (begB xs ys)))], [.c (.r 65 xs.length (evT xs)), .c (.r 65 ys.length (evT ys))]) := by
 rw [m_run (fn := Tryz.f121) (i0 := 0) rfl Tryz.func121 rfl rfl (by simp), begB_min]
 obtain ⟨N, hN, hg, hN'⟩ := firstN (sameAt xs ys) (min xs.length ys.length)
 simp -implicitDefEqProofs
 rw [loop_then (H_l9B xs ys) N (by simp -implicitDefEqProofs [H_l9B, hint1]) (by simp [big] at hj; omega) (fun i hi => by
  have h1 : i < xs.length := by omega
  have h2 : i < ys.length := by omega
  have g := hg i hi
  rw [sameAt_of h1 h2] at g
  simp -implicitDefEqProofs [H_l9B, hint1, h1, h2, tEv, flat75, eq75, g, show i * 3 + 3 ≤ xs.length * 3 by omega, show i * 3 + 3 ≤ ys.length * 3 by omega, w64 (x := (i : Int) + 1) (by omega)])]
 rcases hN' with ⟨hN', hall⟩ | ⟨hlt, hbad, hall⟩
 ·rw [hall]
  by_cases h1 : N < xs.length
  ·have h2 : ¬ N < ys.length := by omega
   simp -implicitDefEqProofs [H_l9B, h1, h2, show ¬ (N : Int) < ys.length by omega]
  ·simp -implicitDefEqProofs [H_l9B, h1, show ¬ (N : Int) < xs.length by omega]
 ·have h1 : N < xs.length := by omega
  have h2 : N < ys.length := by omega
  rw [hall]
  rw [sameAt_of h1 h2] at hbad
  simp -implicitDefEqProofs [H_l9B, h1, h2, tEv, flat75, eq75, hbad, show N * 3 + 3 ≤ xs.length * 3 by omega, show N * 3 + 3 ≤ ys.length * 3 by omega]
end Go.Proofs.YtkgkbkpgpbpjhaaGreat.VM
namespace Go.Proofs.YtkgkbkpgpbpjhaaGreat.VM
open Go Go.Proofs
def sysO4 (s : Sy) : List (Nat × Obj) := [(4, ⟨.ro, 108, s.progs.map (rIns 116)⟩), (5, ⟨.ro, 39, stT s.states⟩), (6, ⟨.ro, 95, s.ways.map (rItem 142)⟩), (7, ⟨.ro, 35, s.hist.map (rEvent 65)⟩)]
def sysX4 (s : Sy) : Obj := ⟨.box, 29, [.l 4 [] 0 s.progs.length, .l 5 [] 0 s.states.length, .l 6 [] 0 s.ways.length, .l 7 [] 0 s.hist.length]⟩
def foO (s o : Sy) : List (Nat × Obj) := sysO s ++ (sysO4 o ++ [(192, sysX s), (256, sysX4 o)])
noncomputable def begP (s o : Sy) (p : Nat) : Bool := begB (rowH s.hist p) (rowH o.hist p)
noncomputable def forthB (s o : Sy) : Bool := sysB s && (sysB o && (eqSS s.progs o.progs && allTo (begP s o) s.hist.length))
def H_fo1 (s o : Sy) (p : Nat) : St := ⟨[(2, .ptr 192 [] 0), (3, .ptr 256 [] 0), (24, .c (.sl 3 [] 0 s.hist.length)), (25, .c (.v (.int .i64 s.hist.length))), (26, .c (.v (.int .i64 p)))], foO s o⟩
def H_fo2 (s o : Sy) (p : Nat) : St := ⟨[(2, .ptr 192 [] 0), (3, .ptr 256 [] 0), (5, .c (.v (.int .i64 p)))], foO s o⟩
theorem run_implForth {j : Nat} (hj : big ≤ j) (s o : Sy) (h : Small s) (h' : Small o) : M.run (j + 11) 46 [.agg (syR s), .agg (syR o)] = some ([.c (.v (.bool (forthB s o)))], [.agg (syR s), .agg (syR o)]) := by
 have b1 := h.progs
 have b4 := h.hist
 have e1 := run_implSysOk hj s h
 have e2 := run_implSysOk hj o h'
 have e3 := run_EqualFunc (j := j + 7) (by omega) s.progs o.progs b1 (fun x hx => by obtain ⟨i, hi, rfl⟩ := List.getElem_of_mem hx; exact h.prog hi)
 rw [m_run (fn := Tryz.f46) (i0 := 0) rfl Tryz.func46 rfl rfl (by simp [syR])]
 unfold forthB
 simp only [syR] at e1 e2 ⊢
 cases q1 : sysB s
 ·rw [q1] at e1
  simp -implicitDefEqProofs [own1, e1]
 rw [q1] at e1
 cases q2 : sysB o
 ·rw [q2] at e2
  simp -implicitDefEqProofs [own1, e1, e2]
 rw [q2] at e2
 cases q3 : eqSS s.progs o.progs
 ·rw [q3] at e3
  simp -implicitDefEqProofs [own1, e1, e2, e3]
 rw [q3] at e3
 have hl : s.hist.length = o.hist.length := by
  rw [right_hist q1, right_hist q2]
  unfold eqSS at q3
  simp only [Bool.and_eq_true, decide_eq_true_eq] at q3
  exact q3.1
 simp -implicitDefEqProofs [own1, e1, e2, e3]
 obtain ⟨N, hN, hg, hN'⟩ := firstN (begP s o) s.hist.length
 have eg : ∀ p (h1 : p < s.hist.length) (h2 : p < o.hist.length), begP s o p = (decide (s.hist[p].length ≤ o.hist[p].length) && eqE s.hist[p] (o.hist[p].take s.hist[p].length)) := fun p h1 h2 => by unfold begP begB; rw [rowH_of h1, rowH_of h2]
 rw [loop_then (H_fo1 s o) N (by simp -implicitDefEqProofs [H_fo1, foO, sysO, sysO4, sysX, sysX4, hint1]) (by simp [big] at hj; omega) (fun p hp => by
  have h1 : p < s.hist.length := by omega
  have h2 : p < o.hist.length := by omega
  have g := hg p hp
  rw [eg p h1 h2, Bool.and_eq_true, decide_eq_true_eq] at g
  have t1 := h.his h1
  have e := run_equalE (j := j + 9) (by omega) s.hist[p] (o.hist[p].take s.hist[p].length) (by omega)
  rw [g.2, List.length_take, Nat.min_eq_left g.1] at e
  simp -implicitDefEqProofs [H_fo1, foO, sysO, sysO4, sysX, sysX4, hint1, h1, h2, own1, e, g.1, rEvent_at h1, rEvent_at h2, rEvent, show ¬ o.hist[p].length < s.hist[p].length by omega, show s.hist[p].length * 3 ≤ o.hist[p].length * 3 by omega, w64 (x := (p : Int) + 1) (by omega)])]
 rcases hN' with ⟨hN', hall⟩ | ⟨hlt, hbad, hall⟩
 ·rw [hall, hN']
  simp -implicitDefEqProofs [H_fo1, foO, sysO, sysO4, sysX, sysX4]
 ·have h2 : N < o.hist.length := by omega
  rw [hall]
  rw [eg N hlt h2] at hbad
  have t1 := h.his hlt
  by_cases g : s.hist[N].length ≤ o.hist[N].length
  ·have e := run_equalE (j := j + 9) (by omega) s.hist[N] (o.hist[N].take s.hist[N].length) (by omega)
   rw [decide_eq_true g, Bool.true_and] at hbad
   rw [hbad, List.length_take, Nat.min_eq_left g] at e
   simp -implicitDefEqProofs [H_fo1, foO, sysO, sysO4, sysX, sysX4, hlt, h2, own1, e, g, rEvent_at hlt, rEvent_at h2, rEvent, show ¬ o.hist[N].length < s.hist[N].length by omega, show s.hist[N].length * 3 ≤ o.hist[N].length * 3 by omega]
  ·simp -implicitDefEqProofs [H_fo1, foO, sysO, sysO4, sysX, sysX4, hlt, h2, own1, rEvent_at hlt, rEvent_at h2, rEvent, show o.hist[N].length < s.hist[N].length by omega]
theorem allTo_and {p q : Nat → Bool} {n : Nat} : allTo (fun i => p i && q i) n = (allTo p n && allTo q n) := by
 rw [Bool.eq_iff_iff, Bool.and_eq_true]
 constructor
 ·intro h
  have h := fun i hi => Bool.and_eq_true _ _ ▸ allTo_of h i hi
  exact ⟨allTo_to fun i hi => (h i hi).1, allTo_to fun i hi => (h i hi).2⟩
 ·rintro ⟨h1, h2⟩
  exact allTo_to fun i hi => by rw [allTo_of h1 i hi, allTo_of h2 i hi]; rfl
theorem forthB_eq (s o : Sy) : forthB s o = (sysB s && (sysB o && (decide (s.progs.length = o.progs.length) && allTo (fun p => sameP s.progs o.progs p && begP s o p) s.progs.length))) := by
 unfold forthB eqSS
 cases q1 : sysB s
 ·rfl
 cases q2 : sysB o
 ·rfl
 rw [allTo_and, right_hist q1]
 simp only [Bool.true_and, Bool.and_assoc]
theorem run_specForth {j : Nat} (hj : big ≤ j) (s o : Sy) (h : Small s) (h' : Small o) : M.run (j + 8) 47 [.agg (syR s), .agg (syR o)] = some ([.c (.v (.bool (forthB s o)))], [.agg (syR s), .agg (syR o)]) := by
 have b1 := h.progs
 have e1 := run_specSys hj s h
 have e2 := run_specSys hj o h'
 rw [m_run (fn := Tryz.f47) (i0 := 0) rfl Tryz.func47 rfl rfl (by simp [syR]), forthB_eq]
 simp only [syR] at e1 e2 ⊢
 cases q1 : sysB s
 ·rw [q1] at e1
  simp -implicitDefEqProofs [own1, e1]
 rw [q1] at e1
 cases q2 : sysB o
 ·rw [q2] at e2
  simp -implicitDefEqProofs [own1, e1, e2]
 rw [q2] at e2
 by_cases hp : s.progs.length = o.progs.length
 rotate_left
 ·rw [decide_eq_false hp]
  simp -implicitDefEqProofs [own1, e1, e2, show ¬ (s.progs.length : Int) = o.progs.length by omega]
 rw [decide_eq_true hp]
 have hs := right_hist q1
 have ho := right_hist q2
 simp -implicitDefEqProofs [own1, e1, e2, show (s.progs.length : Int) = o.progs.length by omega]
 obtain ⟨N, hN, hg, hN'⟩ := firstN (fun p => sameP s.progs o.progs p && begP s o p) s.progs.length
 have eg : ∀ p (h1 : p < s.hist.length) (h2 : p < o.hist.length) (h3 : p < s.progs.length) (h4 : p < o.progs.length), (sameP s.progs o.progs p && begP s o p) = (eqN s.progs[p] o.progs[p] && begB s.hist[p] o.hist[p]) := fun p h1 h2 h3 h4 => by unfold begP sameP; rw [rowH_of h1, rowH_of h2, rowK_of h3, rowK_of h4]
 rw [loop_then (H_fo2 s o) N (by simp -implicitDefEqProofs [H_fo2, foO, sysO, sysO4, sysX, sysX4, hint1]) (by simp [big] at hj; omega) (fun p hp' => by
  have h1 : p < s.hist.length := by omega
  have h2 : p < o.hist.length := by omega
  have h3 : p < s.progs.length := by omega
  have h4 : p < o.progs.length := by omega
  have g := hg p hp'
  rw [eg p h1 h2 h3 h4, Bool.and_eq_true] at g
  have t1 := h.his h1
  have t3 := h.prog h3
  have e3 := run_l9SameProg (j := j + 6) (by omega) s.progs[p] o.progs[p] (by omega)
  have e4 := run_l9Begins (j := j + 6) (by omega) s.hist[p] o.hist[p] (by omega)
  rw [g.1] at e3
  rw [g.2] at e4
  simp -implicitDefEqProofs [H_fo2, foO, sysO, sysO4, sysX, sysX4, hint1, h1, h2, h3, h4, own1, e3, e4, rEvent_at h1, rEvent_at h2, rEvent, rIns_at h3, rIns_at h4, rIns, w64 (x := (p : Int) + 1) (by omega)])]
 rcases hN' with ⟨hN', hall⟩ | ⟨hlt, hbad, hall⟩
 ·rw [hall, hN']
  simp -implicitDefEqProofs [H_fo2, foO, sysO, sysO4, sysX, sysX4]
 ·have h1 : N < s.hist.length := by omega
  have h2 : N < o.hist.length := by omega
  have h4 : N < o.progs.length := by omega
  rw [hall]
  rw [eg N h1 h2 hlt h4] at hbad
  have t1 := h.his h1
  have t3 := h.prog hlt
  have e3 := run_l9SameProg (j := j + 6) (by omega) s.progs[N] o.progs[N] (by omega)
  have e4 := run_l9Begins (j := j + 6) (by omega) s.hist[N] o.hist[N] (by omega)
  cases g : eqN s.progs[N] o.progs[N]
  ·rw [g] at e3
   simp -implicitDefEqProofs [H_fo2, foO, sysO, sysO4, sysX, sysX4, h1, h2, hlt, h4, own1, e3, rEvent_at h1, rEvent_at h2, rEvent, rIns_at hlt, rIns_at h4, rIns]
  ·rw [g] at e3 hbad
   rw [Bool.true_and] at hbad
   rw [hbad] at e4
   simp -implicitDefEqProofs [H_fo2, foO, sysO, sysO4, sysX, sysX4, h1, h2, hlt, h4, own1, e3, e4, rEvent_at h1, rEvent_at h2, rEvent, rIns_at hlt, rIns_at h4, rIns]
end Go.Proofs.YtkgkbkpgpbpjhaaGreat.VM
