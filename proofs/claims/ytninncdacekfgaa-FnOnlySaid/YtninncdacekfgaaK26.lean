/- Draws of what happened; the law FnCounted. -/
import Derived.Test.YtninncdacekfgaaK25
import Derived.Test.YtninncdacekfgaaK6
import Derived.Test.YtninncdacekfgaaK13
/- Draws: what may happen to a program: reckoned. -/
namespace Go.Proofs.Ytninncdacekfgaa.VM
open Go Go.Proofs
set_option linter.unusedSimpArgs false
set_option linter.unusedVariables false
set_option maxRecDepth 100000
set_option maxHeartbeats 20000000
def evD (c : Cu) (e : Ev) : Ev × Cu := if e.kind = 3 then (if e.peer = 9 then (⟨e.kind, (belowF c 3).1, (belowF (belowF c 3).2 9).1⟩, (belowF (belowF c 3).2 9).2) else (⟨e.kind, e.peer, (belowF c 9).1⟩, (belowF c 9).2)) else (e, c)
theorem evD_ok {c : Cu} (h : CuOk c) (e : Ev) : CuOk (evD c e).2 ∧ (evD c e).2.bs = c.bs := by
 unfold evD
 split
 ·split
  ·exact ⟨belowF_ok (belowF_ok h 3) 9, (belowF_bs _ _).trans (belowF_bs _ _)⟩
  ·exact ⟨belowF_ok h 9, belowF_bs _ _⟩
 ·exact ⟨h, rfl⟩
def nextS (l : List Ins) (s : Sta) : Ev := nextF l s.at_ s.code s.regs s.out
def evK (l : List Ins) (c : Cu) : Nat → List Ev × Sta × Cu
 | 0 => ([], ⟨0, [0, 0, 0, 0], [], 0⟩, c)
 | k + 1 => ((evK l c k).1 ++ [(evD (evK l c k).2.2 (nextS l (evK l c k).2.1)).1], doS l (evK l c k).2.1 (evD (evK l c k).2.2 (nextS l (evK l c k).2.1)).1, (evD (evK l c k).2.2 (nextS l (evK l c k).2.1)).2)
theorem evK_ok (l : List Ins) {c : Cu} (h : CuOk c) : ∀ k, (evK l c k).1.length = k ∧ CuOk (evK l c k).2.2 ∧ (evK l c k).2.2.bs = c.bs ∧ (evK l c k).2.1.regs.length = 4 ∧ (evK l c k).2.1.out.length ≤ k
 | 0 => ⟨rfl, h, rfl, rfl, by simp [evK]⟩
 | k + 1 => by
  obtain ⟨a, b, d, e, f⟩ := evK_ok l h k
  have q := evD_ok b (nextS l (evK l c k).2.1)
  have r := doS_len l (evK l c k).2.1 (evD (evK l c k).2.2 (nextS l (evK l c k).2.1)).1
  refine ⟨by simp [evK, a], q.1, q.2.trans d, ?_, ?_⟩
  ·rw [evK]; exact r.1.trans e
  ·rw [evK]; show (doS _ _ _).out.length ≤ _; omega
theorem evT_app (l : List Ev) (x : Ev) : evT (l ++ [x]) = evT l ++ tEv x := by simp [evT]
def H_de (c0 : Cu) (l : List Ins) (n k : Nat) (x : List Ev × Sta × Cu) : St := ⟨[(0, .ptr 1 [] 0), (1, .c (.sl 2 [] 0 l.length)), (5, .c (.sl 832 [] 0 k)), (6, .ptr 448 [] 0), (7, .c (.v (.int .i64 n))), (8, .c (.v (.int .i64 k)))], [(0, ⟨.ro, 5, octT c0.bs⟩), (1, ⟨.box, 82, [.l 0 [] 0 c0.bs.length, .v (.int .i64 x.2.2.i), .v (.int .i64 x.2.2.h)]⟩), (2, ⟨.ro, 40, insT l⟩), (448, ⟨.box, 27, [.v (.int .i64 x.2.1.at_), .l 897 [] 0 x.2.1.regs.length, .l 898 [] 0 x.2.1.out.length, .v (.int .i64 x.2.1.code)]⟩), (832, ⟨.own, 29, evT x.1⟩), (897, ⟨.own, 3, ints x.2.1.regs⟩), (898, ⟨.own, 3, ints x.2.1.out⟩)]⟩
end Go.Proofs.Ytninncdacekfgaa.VM

/- Draws of what happened; what is told by a number that is none: reckoned. -/
namespace Go.Proofs.Ytninncdacekfgaa.VM
open Go Go.Proofs
set_option linter.unusedSimpArgs false
set_option linter.unusedVariables false
set_option maxRecDepth 100000
set_option maxHeartbeats 20000000
theorem z0 : ((0 : Nat) : Int) = 0 := rfl
theorem run_new {j : Nat} {bs : List Int} (h : bs.length ≤ 1048576) : M.run (j + 1) 24 [.c (.r 5 bs.length (octT bs))] = some ([.box 82 [.h, .v (.int .i64 0), .v (.int .i64 (hashK bs (min bs.length 4000)))]], [.c (.r 5 bs.length (octT bs))]) :=
 show newG _ = _ from newG_eq h
theorem new_cur {bs : List Int} (h : bs.length ≤ 1048576) : CuOk ⟨bs, 0, hashK bs (min bs.length 4000)⟩ := ⟨Nat.zero_le _, h⟩
def nthJ (es : List Ev) (k p n : Int) (i : Nat) : Int := n - (cntE (es.take i) k p : Nat)
theorem nthJ_step {es : List Ev} {k p n : Int} {i : Nat} (hn : -1048576 ≤ n ∧ n < 0) (hl : es.length ≤ 1048576) (hi : i < es.length) : (-2097152 ≤ nthJ es k p n i ∧ nthJ es k p n i < 0) ∧ ((isB es[i] k p = false ∧ nthJ es k p n (i + 1) = nthJ es k p n i) ∨ (isB es[i] k p = true ∧ nthJ es k p n (i + 1) = nthJ es k p n i - 1)) := by
 have hc : cntE (es.take i) k p ≤ i := by
  unfold cntE
  exact Nat.le_trans List.countP_le_length (by rw [List.length_take]; omega)
 have hs := cntE_succ hi k p
 unfold nthJ
 refine ⟨by omega, ?_⟩
 cases hb : isB es[i] k p
 ·rw [hb] at hs
  simp at hs
  exact .inl ⟨rfl, by rw [hs]⟩
 ·rw [hb] at hs
  simp at hs
  exact .inr ⟨rfl, by rw [hs]; omega⟩
def H_iNeg (es : List Ev) (k p n : Int) (i : Nat) : St := ⟨[(1, .c (.v (.int .i64 k))), (2, .c (.v (.int .i64 p))), (3, .c (.v (.int .i64 (nthJ es k p n i)))), (11, .c (.sl 0 [] 0 es.length)), (12, .c (.v (.int .i64 es.length))), (13, .c (.v (.int .i64 i)))], [(0, ⟨.ro, 29, evT es⟩)]⟩
def H_sNeg (es : List Ev) (k p n : Int) (i : Nat) : St := ⟨[(0, .c (.sl 0 [] 0 es.length)), (1, .c (.v (.int .i64 k))), (2, .c (.v (.int .i64 p))), (3, .c (.v (.int .i64 (nthJ es k p n i)))), (9, .c (.v (.int .i64 i)))], [(0, ⟨.ro, 29, evT es⟩)]⟩
theorem run_implNeg {j : Nat} (hj : big ≤ j) (es : List Ev) (k p n : Int) (hl : es.length ≤ 1048576) (hn : -1048576 ≤ n ∧ n < 0) :
  M.run (j + 2) 108 [.c (.r 29 es.length (evT es)), .c (.v (.int .i64 k)), .c (.v (.int .i64 p)), .c (.v (.int .i64 n))] = some ([.c (.v (.int .i64 (-1)))], [.c (.r 29 es.length (evT es)), .c (.v (.int .i64 k)), .c (.v (.int .i64 p)), .c (.v (.int .i64 n))]) := by
 rw [m_run (fn := Try.f108) (i0 := 0) rfl Try.func108 rfl rfl (by simp)]
 simp -implicitDefEqProofs
 rw [loop_then (H_iNeg es k p n) es.length (by simp -implicitDefEqProofs [H_iNeg, hint1, nthJ, cntE]) (by simp [big] at hj; omega) (fun i hi => by
  obtain ⟨hb, hc⟩ := nthJ_step (k := k) (p := p) hn hl hi
  have e := run_isOf (j := j) es[i] k p
  simp only [tEv] at e
  rcases hc with ⟨hb', hs⟩ | ⟨hb', hs⟩
  ·rw [hb'] at e
   simp -implicitDefEqProofs [H_iNeg, hint1, hi, own1, tEv, e, hs, w64 (x := (i : Int) + 1) (by omega), show i * 3 + 3 ≤ es.length * 3 by omega]
  ·rw [hb'] at e
   simp -implicitDefEqProofs [H_iNeg, hint1, hi, own1, tEv, e, hs, show ¬ nthJ es k p n i = 0 by omega, w64 (x := (i : Int) + 1) (by omega), w64 (x := nthJ es k p n i - 1) (by omega), show i * 3 + 3 ≤ es.length * 3 by omega])]
 simp -implicitDefEqProofs [H_iNeg]
/-! ### draws -/
end Go.Proofs.Ytninncdacekfgaa.VM

/- The law FnCounted, reckoned. -/
namespace Go.Proofs.Ytninncdacekfgaa.VM
open Go Go.Proofs
set_option linter.unusedSimpArgs false
set_option linter.unusedVariables false
set_option maxRecDepth 100000
set_option maxHeartbeats 20000000
theorem gqL {l : List T} {i : Nat} {v : T} (e : l[i]? = some v) (h : i < l.length) : l[i] = v := Option.some.inj ((List.getElem?_eq_getElem h).symm.trans e)
theorem op22 : OpT Try.prog 22 (fun bs : List Int => [.r 5 bs.length (octT bs)]) (fun bs => (∀ n ∈ bs, 0 ≤ n ∧ n ≤ 255) ∧ bs.length ≤ maxLen) := ⟨fun h => by
 obtain ⟨xs, R, h1, h2, h3⟩ := (opT_slice Try.underlying22 (by simp) (opT_u8 Try.underlying5)).op h
 refine ⟨xs, R, ?_, h2, h3⟩
 have e : ∀ l : List Int, (l.flatMap fun n => [T.v (.int .u8 n)]) = octT l := fun l => by
  unfold octT
  induction l with
  | nil => rfl
  | cons x l ih => rw [List.flatMap_cons, ih]; rfl
 rw [← e xs]
 exact h1⟩
theorem run_big {j : Nat} (n : Nat) (l : List T) (hn : n ≤ 9223372036854775807) : M.run (j + 1) 5 [.c (.r 5 n l)] = some ([.c (.v (.bool (decide (1048576 < n))))], [.c (.r 5 n l)]) := by
 rw [m_run (fn := Try.f5) (i0 := 0) rfl Try.func5 rfl rfl (by simp)]
 simp -implicitDefEqProofs
 by_cases h : 1048576 < n
 ·simp [h, show (1048576 : Int) < n by omega]
 ·simp [h, show ¬ (1048576 : Int) < n by omega]
def H_sI (xs : List Int) (i : Nat) : St := ⟨[(0, .c (.sl 0 [] 0 xs.length)), (1, .c (.sl 1 [] 0 xs.length)), (5, .c (.v (.int .i64 i)))], [(0, ⟨.ro, 3, ints xs⟩), (1, ⟨.ro, 3, ints xs⟩)]⟩
theorem run_sameInts {j : Nat} (hj : big ≤ j) (xs : List Int) (hl : xs.length ≤ 1048576) : M.run (j + 1) 18 [.c (.r 3 xs.length (ints xs)), .c (.r 3 xs.length (ints xs))] = some ([.c (.v (.bool true))], [.c (.r 3 xs.length (ints xs)), .c (.r 3 xs.length (ints xs))]) := by
 rw [m_run (fn := Try.f18) (i0 := 0) rfl Try.func18 rfl rfl (by simp)]
 simp -implicitDefEqProofs
 rw [loop_then (H_sI xs) xs.length (by simp -implicitDefEqProofs [H_sI, hint1]) (by simp [big] at hj; omega) (fun i hi => by
  simp -implicitDefEqProofs [H_sI, hint1, hi, ints_get hi, show i + 1 ≤ xs.length by omega, w64 (x := (i : Int) + 1) (by omega)])]
 simp -implicitDefEqProofs [H_sI]
theorem valsE_app (a b : List Ev) (k p : Int) : valsE (a ++ b) k p = valsE a k p ++ valsE b k p := by simp [valsE]
theorem vals_at {es : List Ev} {k p : Int} {m : Nat} (h : nthN es k p m < es.length) : (valsE es k p)[m]? = some (es[nthN es k p m]'h).v ∧ cntE (es.take (nthN es k p m)) k p = m ∧ isB (es[nthN es k p m]'h) k p = true := by
 obtain ⟨q1, q2⟩ := nthI_end h
 have hc : cntE (es.take (nthN es k p m)) k p = m := by
  unfold nthI at q2
  omega
 refine ⟨?_, hc, q1⟩
 have e : es = es.take (nthN es k p m) ++ (es[nthN es k p m]'h :: es.drop (nthN es k p m + 1)) := by
  rw [List.getElem_cons_drop, List.take_append_drop]
 generalize es[nthN es k p m]'h = x at *
 have e2 : valsE es k p = valsE (es.take (nthN es k p m)) k p ++ (x.v :: valsE (es.drop (nthN es k p m + 1)) k p) := by
  conv => lhs; rw [e]
  rw [valsE_app]
  congr 1
  unfold valsE
  rw [List.filter_cons, if_pos q1, List.map_cons]
 rw [e2, List.getElem?_append_right (by rw [valsE_cnt, hc]; exact Nat.le_refl _), valsE_cnt, hc, Nat.sub_self]
 rfl
end Go.Proofs.Ytninncdacekfgaa.VM
