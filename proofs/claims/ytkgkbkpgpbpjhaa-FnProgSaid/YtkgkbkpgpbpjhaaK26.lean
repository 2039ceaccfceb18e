/- Draws of what happened; the law FnCounted. -/
import Derived.Test.YtkgkbkpgpbpjhaaK25
import Derived.Test.YtkgkbkpgpbpjhaaK6
import Derived.Test.YtkgkbkpgpbpjhaaK13
/- Draws: what may happen to a program: reckoned. -/
namespace Go.Proofs.Ytkgkbkpgpbpjhaa.VM
open Go Go.Proofs
set_option linter.unusedSimpArgs false
set_option linter.unusedVariables false
set_option maxRecDepth 100000
set_option maxHeartbeats 20000000
def evD (c : Cu) (e : Ev) : Ev × Cu := if e.kind = 3 then (if e.peer = 9 then (⟨e.kind, (belowF c 3).1, (belowF (belowF c 3).2 9).1⟩, (belowF (belowF c 3).2 9).2) else (⟨e.kind, e.peer, (belowF c 9).1⟩, (belowF c 9).2)) else (e, c)
theorem evD_ok {c : Cu} (h : CuOk c) (e : Ev) : CuOk (evD c e).2 ∧ (evD c e).2.bs = c.bs := by
 unfold evD
 split
 ·split
  ·exact ⟨belowF_ok (belowF_ok h 3) 9, (belowF_bs _ _).trans (belowF_bs _ _)⟩
  ·exact ⟨belowF_ok h 9, belowF_bs _ _⟩
 ·exact ⟨h, rfl⟩
def nextS (l : List Ins) (s : Sta) : Ev := nextF l s.at_ s.code s.regs s.out
def evK (l : List Ins) (c : Cu) : Nat → List Ev × Sta × Cu
 | 0 => ([], ⟨0, [0, 0, 0, 0], [], 0⟩, c)
 | k + 1 => ((evK l c k).1 ++ [(evD (evK l c k).2.2 (nextS l (evK l c k).2.1)).1], doS l (evK l c k).2.1 (evD (evK l c k).2.2 (nextS l (evK l c k).2.1)).1, (evD (evK l c k).2.2 (nextS l (evK l c k).2.1)).2)
theorem evK_ok (l : List Ins) {c : Cu} (h : CuOk c) : ∀ k, (evK l c k).1.length = k ∧ CuOk (evK l c k).2.2 ∧ (evK l c k).2.2.bs = c.bs ∧ (evK l c k).2.1.regs.length = 4 ∧ (evK l c k).2.1.out.length ≤ k
 | 0 => ⟨rfl, h, rfl, rfl, by simp [evK]⟩
 | k + 1 => by
  obtain ⟨a, b, d, e, f⟩ := evK_ok l h k
  have q := evD_ok b (nextS l (evK l c k).2.1)
  have r := doS_len l (evK l c k).2.1 (evD (evK l c k).2.2 (nextS l (evK l c k).2.1)).1
  refine ⟨by simp [evK, a], q.1, q.2.trans d, ?_, ?_⟩
  ·rw [evK]; exact r.1.trans e
  ·rw [evK]; show (doS _ _ _).out.length ≤ _; omega
theorem evT_app (l : List Ev) (x : Ev) : evT (l ++ [x]) = evT l ++ tEv x := by simp [evT]
def H_de (c0 : Cu) (l : List Ins) (n k : Nat) (x : List Ev × Sta × Cu) : St := ⟨[(0, .ptr 1 [] 0), (1, .c (.sl 2 [] 0 l.length)), (5, .c (.sl 832 [] 0 k)), (6, .ptr 448 [] 0), (7, .c (.v (.int .i64 n))), (8, .c (.v (.int .i64 k)))], [(0, ⟨.ro, 5, octT c0.bs⟩), (1, ⟨.box, 132, [.l 0 [] 0 c0.bs.length, .v (.int .i64 x.2.2.i), .v (.int .i64 x.2.2.h)]⟩), (2, ⟨.ro, 29, insT l⟩), (448, ⟨.box, 44, [.v (.int .i64 x.2.1.at_), .l 897 [] 0 x.2.1.regs.length, .l 898 [] 0 x.2.1.out.length, .v (.int .i64 x.2.1.code)]⟩), (832, ⟨.own, 42, evT x.1⟩), (897, ⟨.own, 3, ints x.2.1.regs⟩), (898, ⟨.own, 3, ints x.2.1.out⟩)]⟩
theorem run_drawEvents {j : Nat} (hj : big ≤ j) (c : Cu) (ok : CuOk c) (l : List Ins) (hl : l.length ≤ 1048576) : ∃ (es : List Ev) (c' : Cu), CuOk c' ∧ c'.bs = c.bs ∧ es.length ≤ 24 ∧ M.run (j + 7) 83 [curA c, .c (.r 29 l.length (insT l))] = some ([.c (.s 42 es.length (evT es))], [curA c', .c (.r 29 l.length (insT l))]) := by
 have e1 := run_l1Below (j := j + 4) c ok 25
 have e0 := run15 (j := j + 5)
 have l1 := belowF_le c (n := 25) (by omega)
 have k1 := belowF_ok ok 25
 have b1 := belowF_bs c 25
 generalize belowF c 25 = D at *
 obtain ⟨v, c1⟩ := D
 simp only at l1 k1 b1 e1
 obtain ⟨n, rfl⟩ : ∃ n : Nat, v = n := ⟨v.toNat, by omega⟩
 have K := evK_ok l k1
 obtain ⟨N, hN, hg, hN'⟩ := firstN (fun k => doB l (evK l c1 k).2.1 (evD (evK l c1 k).2.2 (nextS l (evK l c1 k).2.1)).1) n
 have rounds : ∀ (k : Nat), ∃ (es : List Ev) (s : Sta) (C : Cu) (E F : Ev) (C' : Cu), evK l c1 k = (es, s, C) ∧ nextS l s = E ∧ evD C E = (F, C') ∧ es.length = k ∧ CuOk C ∧ C.bs = c.bs ∧ s.regs.length = 4 ∧ s.out.length ≤ k ∧ CuOk C' ∧ C'.bs = c.bs := fun k => by
  obtain ⟨q1, q2, q3, q4, q5⟩ := K k
  have r := evD_ok q2 (nextS l (evK l c1 k).2.1)
  exact ⟨_, _, _, _, _, _, rfl, rfl, rfl, q1, q2, q3.trans b1, q4, q5, r.1, r.2.trans (q3.trans b1)⟩
 have body : ∃ (es : List Ev) (c' : Cu), CuOk c' ∧ c'.bs = c.bs ∧ es.length ≤ 24 ∧ ((N = n ∧ (es, c') = ((evK l c1 N).1, (evK l c1 N).2.2)) ∨ (N < n ∧ (es, c') = ((evK l c1 N).1, (evD (evK l c1 N).2.2 (nextS l (evK l c1 N).2.1)).2))) := by
  obtain ⟨q1, q2, q3, q4, q5⟩ := K N
  have r := evD_ok q2 (nextS l (evK l c1 N).2.1)
  rcases hN' with ⟨h, _⟩ | ⟨h, _⟩
  ·exact ⟨_, _, q2, q3.trans b1, by omega, .inl ⟨h, rfl⟩⟩
  ·exact ⟨_, _, r.1, r.2.trans (q3.trans b1), by omega, .inr ⟨h, rfl⟩⟩
 obtain ⟨es, c', a1, a2, a3, a4⟩ := body
 refine ⟨es, c', a1, a2, a3, ?_⟩
 rw [m_run (fn := Try.f83) (i0 := 0) rfl Try.func83 rfl rfl (by simp [curA])]
 simp only [curA] at e1 ⊢
 rw [b1] at e1
 simp -implicitDefEqProofs [own1, e0, e1, stS, ints]
 rw [loop_then (fun k => H_de c l n k (evK l c1 k)) N (by simp -implicitDefEqProofs [H_de, hint1, evK, evT, ints]) (by simp [big] at hj; omega) (fun k hk => by
  have g := hg k hk
  have hkn : k < n := by omega
  obtain ⟨es, s, C, E, F, C', r1, r2, r3, r4, r5, r6, r7, r8, r9, r10⟩ := rounds k
  rw [evK]
  rw [r1] at g ⊢
  simp only [r2, r3] at g ⊢
  have t1 := run54 hj l s.at_ s.code s.regs s.out hl (by omega) (by omega)
  rw [show nextF l s.at_ s.code s.regs s.out = E from r2] at t1
  have t2 := run96 hj l s F hl (by omega) (by omega)
  have dl := doS_len l s F
  rw [g] at t2
  have tk : (evT es).take (k * 3) = evT es := List.take_of_length_le (by simp [r4])
  have ia := evT_app es F
  have w1 : ∀ x : Sta, (ints x.regs).take x.regs.length = ints x.regs := fun x => List.take_of_length_le (by simp)
  have w2 : ∀ x : Sta, (ints x.out).take x.out.length = ints x.out := fun x => List.take_of_length_le (by simp)
  generalize doS l s F = s' at *
  obtain ⟨ek, ep, ev⟩ := E
  unfold evD at r3
  by_cases hk3 : ek = 3
  ·subst hk3
   rw [if_pos rfl] at r3
   by_cases hp9 : ep = 9
   ·subst hp9
    rw [if_pos rfl] at r3
    have c1' := run_l1Below (j := j + 4) C r5 3
    have c2' := run_l1Below (j := j + 4) (belowF C 3).2 (belowF_ok r5 3) 9
    have hb1 : (belowF C 3).2.bs = c.bs := (belowF_bs _ _).trans r6
    generalize belowF C 3 = X at *
    obtain ⟨x1, X⟩ := X
    simp only at c2' r3 hb1
    have hb2 : (belowF X 9).2.bs = c.bs := (belowF_bs _ _).trans hb1
    generalize belowF X 9 = Y at *
    obtain ⟨y1, Y⟩ := Y
    simp only at r3 hb2
    simp only [Prod.mk.injEq] at r3
    obtain ⟨rfl, rfl⟩ := r3
    simp only [curA, r6, hb1, hb2] at c1' c2'
    simp only [tEv, tSta, stR, sSta, stS] at t1 t2 ia
    simp -implicitDefEqProofs [H_de, hint1, hkn, own1, t1, t2, c1', c2', tEv, r4, tk, ia, w1, w2, le_most (n := k * 3 + 3) (by omega), w64 (x := (k : Int) + 1) (by omega)]
   ·rw [if_neg hp9] at r3
    have c1' := run_l1Below (j := j + 4) C r5 9
    have hb1 : (belowF C 9).2.bs = c.bs := (belowF_bs _ _).trans r6
    generalize belowF C 9 = X at *
    obtain ⟨x1, X⟩ := X
    simp only at r3 hb1
    simp only [Prod.mk.injEq] at r3
    obtain ⟨rfl, rfl⟩ := r3
    simp only [curA, r6, hb1] at c1'
    simp only [tEv, tSta, stR, sSta, stS] at t1 t2 ia
    simp -implicitDefEqProofs [H_de, hint1, hkn, own1, t1, t2, c1', hp9, tEv, r4, tk, ia, w1, w2, le_most (n := k * 3 + 3) (by omega), w64 (x := (k : Int) + 1) (by omega)]
  ·rw [if_neg hk3] at r3
   simp only [Prod.mk.injEq] at r3
   obtain ⟨rfl, rfl⟩ := r3
   simp only [tEv, tSta, stR, sSta, stS] at t1 t2 ia
   simp -implicitDefEqProofs [H_de, hint1, hkn, own1, t1, t2, hk3, tEv, r4, r6, tk, ia, w1, w2, le_most (n := k * 3 + 3) (by omega), w64 (x := (k : Int) + 1) (by omega)])]
 obtain ⟨Es, s, C, E, F, C', r1, r2, r3, r4, r5, r6, r7, r8, r9, r10⟩ := rounds N
 rw [r1] at a4 ⊢
 simp only [r2, r3] at a4
 have tk : (evT Es).take (N * 3) = evT Es := List.take_of_length_le (by simp [r4])
 rcases a4 with ⟨hn, a4⟩ | ⟨hn, a4⟩
 ·simp only [Prod.mk.injEq] at a4
  obtain ⟨rfl, rfl⟩ := a4
  subst hn
  simp -implicitDefEqProofs [H_de, r4, r6, tk, List.take_of_length_le]
 ·simp only [Prod.mk.injEq] at a4
  obtain ⟨rfl, rfl⟩ := a4
  have g : doB l s F = false := by
   rcases hN' with ⟨h, _⟩ | ⟨h, h2, _⟩
   ·omega
   ·rw [r1] at h2
    simpa only [r2, r3] using h2
  have t1 := run54 hj l s.at_ s.code s.regs s.out hl (by omega) (by omega)
  rw [show nextF l s.at_ s.code s.regs s.out = E from r2] at t1
  have t2 := run96 hj l s F hl (by omega) (by omega)
  rw [g] at t2
  have w1 : ∀ x : Sta, (ints x.regs).take x.regs.length = ints x.regs := fun x => List.take_of_length_le (by simp)
  have w2 : ∀ x : Sta, (ints x.out).take x.out.length = ints x.out := fun x => List.take_of_length_le (by simp)
  generalize doS l s F = s' at *
  obtain ⟨ek, ep, ev⟩ := E
  unfold evD at r3
  by_cases hk3 : ek = 3
  ·subst hk3
   rw [if_pos rfl] at r3
   by_cases hp9 : ep = 9
   ·subst hp9
    rw [if_pos rfl] at r3
    have c1' := run_l1Below (j := j + 4) C r5 3
    have c2' := run_l1Below (j := j + 4) (belowF C 3).2 (belowF_ok r5 3) 9
    have hb1 : (belowF C 3).2.bs = c.bs := (belowF_bs _ _).trans r6
    generalize belowF C 3 = X at *
    obtain ⟨x1, X⟩ := X
    simp only at c2' r3 hb1
    have hb2 : (belowF X 9).2.bs = c.bs := (belowF_bs _ _).trans hb1
    generalize belowF X 9 = Y at *
    obtain ⟨y1, Y⟩ := Y
    simp only at r3 hb2
    simp only [Prod.mk.injEq] at r3
    obtain ⟨rfl, rfl⟩ := r3
    simp only [curA, r6, hb1, hb2] at c1' c2'
    simp only [tEv, tSta, stR, sSta, stS] at t1 t2
    simp -implicitDefEqProofs [H_de, hn, own1, t1, t2, c1', c2', tEv, r4, hb2, tk, w1, w2]
   ·rw [if_neg hp9] at r3
    have c1' := run_l1Below (j := j + 4) C r5 9
    have hb1 : (belowF C 9).2.bs = c.bs := (belowF_bs _ _).trans r6
    generalize belowF C 9 = X at *
    obtain ⟨x1, X⟩ := X
    simp only at r3 hb1
    simp only [Prod.mk.injEq] at r3
    obtain ⟨rfl, rfl⟩ := r3
    simp only [curA, r6, hb1] at c1'
    simp only [tEv, tSta, stR, sSta, stS] at t1 t2
    simp -implicitDefEqProofs [H_de, hn, own1, t1, t2, c1', hp9, tEv, r4, hb1, tk, w1, w2]
  ·rw [if_neg hk3] at r3
   simp only [Prod.mk.injEq] at r3
   obtain ⟨rfl, rfl⟩ := r3
   simp only [tEv, tSta, stR, sSta, stS] at t1 t2
   simp -implicitDefEqProofs [H_de, hn, own1, t1, t2, hk3, tEv, r4, r6, tk, w1, w2]
end Go.Proofs.Ytkgkbkpgpbpjhaa.VM

/- Draws of what happened; what is told by a number that is none: reckoned. -/
namespace Go.Proofs.Ytkgkbkpgpbpjhaa.VM
open Go Go.Proofs
set_option linter.unusedSimpArgs false
set_option linter.unusedVariables false
set_option maxRecDepth 100000
set_option maxHeartbeats 20000000
theorem z0 : ((0 : Nat) : Int) = 0 := rfl
theorem run_new {j : Nat} {bs : List Int} (h : bs.length ≤ 1048576) : M.run (j + 1) 55 [.c (.r 5 bs.length (octT bs))] = some ([.box 132 [.h, .v (.int .i64 0), .v (.int .i64 (hashK bs (min bs.length 4000)))]], [.c (.r 5 bs.length (octT bs))]) :=
 show newG _ = _ from newG_eq h
theorem new_cur {bs : List Int} (h : bs.length ≤ 1048576) : CuOk ⟨bs, 0, hashK bs (min bs.length 4000)⟩ := ⟨Nat.zero_le _, h⟩
def nthJ (es : List Ev) (k p n : Int) (i : Nat) : Int := n - (cntE (es.take i) k p : Nat)
theorem nthJ_step {es : List Ev} {k p n : Int} {i : Nat} (hn : -1048576 ≤ n ∧ n < 0) (hl : es.length ≤ 1048576) (hi : i < es.length) : (-2097152 ≤ nthJ es k p n i ∧ nthJ es k p n i < 0) ∧ ((isB es[i] k p = false ∧ nthJ es k p n (i + 1) = nthJ es k p n i) ∨ (isB es[i] k p = true ∧ nthJ es k p n (i + 1) = nthJ es k p n i - 1)) := by
 have hc : cntE (es.take i) k p ≤ i := by
  unfold cntE
  exact Nat.le_trans List.countP_le_length (by rw [List.length_take]; omega)
 have hs := cntE_succ hi k p
 unfold nthJ
 refine ⟨by omega, ?_⟩
 cases hb : isB es[i] k p
 ·rw [hb] at hs
  simp at hs
  exact .inl ⟨rfl, by rw [hs]⟩
 ·rw [hb] at hs
  simp at hs
  exact .inr ⟨rfl, by rw [hs]; omega⟩
def H_iNeg (es : List Ev) (k p n : Int) (i : Nat) : St := ⟨[(1, .c (.v (.int .i64 k))), (2, .c (.v (.int .i64 p))), (3, .c (.v (.int .i64 (nthJ es k p n i)))), (11, .c (.sl 0 [] 0 es.length)), (12, .c (.v (.int .i64 es.length))), (13, .c (.v (.int .i64 i)))], [(0, ⟨.ro, 42, evT es⟩)]⟩
def H_sNeg (es : List Ev) (k p n : Int) (i : Nat) : St := ⟨[(0, .c (.sl 0 [] 0 es.length)), (1, .c (.v (.int .i64 k))), (2, .c (.v (.int .i64 p))), (3, .c (.v (.int .i64 (nthJ es k p n i)))), (9, .c (.v (.int .i64 i)))], [(0, ⟨.ro, 42, evT es⟩)]⟩
theorem run_implNeg {j : Nat} (hj : big ≤ j) (es : List Ev) (k p n : Int) (hl : es.length ≤ 1048576) (hn : -1048576 ≤ n ∧ n < 0) :
  M.run (j + 2) 19 [.c (.r 42 es.length (evT es)), .c (.v (.int .i64 k)), .c (.v (.int .i64 p)), .c (.v (.int .i64 n))] = some ([.c (.v (.int .i64 (-1)))], [.c (.r 42 es.length (evT es)), .c (.v (.int .i64 k)), .c (.v (.int .i64 p)), .c (.v (.int .i64 n))]) := by
 rw [m_run (fn := Try.f19) (i0 := 0) rfl Try.func19 rfl rfl (by simp)]
 simp -implicitDefEqProofs
 rw [loop_then (H_iNeg es k p n) es.length (by simp -implicitDefEqProofs [H_iNeg, hint1, nthJ, cntE]) (by simp [big] at hj; omega) (fun i hi => by
  obtain ⟨hb, hc⟩ := nthJ_step (k := k) (p := p) hn hl hi
  have e := run_isOf (j := j) es[i] k p
  simp only [tEv] at e
  rcases hc with ⟨hb', hs⟩ | ⟨hb', hs⟩
  ·rw [hb'] at e
   simp -implicitDefEqProofs [H_iNeg, hint1, hi, own1, tEv, e, hs, w64 (x := (i : Int) + 1) (by omega), show i * 3 + 3 ≤ es.length * 3 by omega]
  ·rw [hb'] at e
   simp -implicitDefEqProofs [H_iNeg, hint1, hi, own1, tEv, e, hs, show ¬ nthJ es k p n i = 0 by omega, w64 (x := (i : Int) + 1) (by omega), w64 (x := nthJ es k p n i - 1) (by omega), show i * 3 + 3 ≤ es.length * 3 by omega])]
 simp -implicitDefEqProofs [H_iNeg]
theorem run_specNeg {j : Nat} (hj : big ≤ j) (es : List Ev) (k p n : Int) (hl : es.length ≤ 1048576) (hn : -1048576 ≤ n ∧ n < 0) :
  M.run (j + 1) 22 [.c (.r 42 es.length (evT es)), .c (.v (.int .i64 k)), .c (.v (.int .i64 p)), .c (.v (.int .i64 n))] = some ([.c (.v (.int .i64 (-1)))], [.c (.r 42 es.length (evT es)), .c (.v (.int .i64 k)), .c (.v (.int .i64 p)), .c (.v (.int .i64 n))]) := by
 rw [m_run (fn := Try.f22) (i0 := 0) rfl Try.func22 rfl rfl (by simp)]
 simp -implicitDefEqProofs
 rw [loop_then (H_sNeg es k p n) es.length (by simp -implicitDefEqProofs [H_sNeg, hint1, nthJ, cntE]) (by simp [big] at hj; omega) (fun i hi => by
  obtain ⟨hb, hc⟩ := nthJ_step (k := k) (p := p) hn hl hi
  rcases hc with ⟨hb', hs⟩ | ⟨hb', hs⟩
  ·rcases isB_false hb' with b1 | ⟨b1, b2⟩
   ·simp -implicitDefEqProofs [H_sNeg, hint1, hi, hs, b1, evT_0 hi, evT_0g hi, w64 (x := (i : Int) + 1) (by omega), show i * 3 + 3 ≤ es.length * 3 by omega]
   ·simp -implicitDefEqProofs [H_sNeg, hint1, hi, hs, b1, b2, evT_0 hi, evT_0g hi, evT_1 hi, w64 (x := (i : Int) + 1) (by omega), show i * 3 + 3 ≤ es.length * 3 by omega]
  ·obtain ⟨b1, b2⟩ := isB_true hb'
   simp -implicitDefEqProofs [H_sNeg, hint1, hi, hs, show ¬ nthJ es k p n i = 0 by omega, b1, b2, evT_0 hi, evT_0g hi, evT_1 hi, w64 (x := (i : Int) + 1) (by omega), w64 (x := nthJ es k p n i - 1) (by omega), show i * 3 + 3 ≤ es.length * 3 by omega])]
 simp -implicitDefEqProofs [H_sNeg]
/-! ### draws -/
theorem run_drawOne {j : Nat} (hj : big ≤ j) (bs : List Int) (hb : bs.length ≤ 1048576) : ∃ (es : List Ev) (k p : Int), es.length ≤ 24 ∧ M.run (j + 8) 70 [.c (.r 5 bs.length (octT bs))] = some ([.c (.s 42 es.length (evT es)), .c (.v (.int .i64 k)), .c (.v (.int .i64 p))], [.c (.r 5 bs.length (octT bs))]) := by
 have e0 := run_new (j := j + 6) hb
 have k0 := new_cur hb
 generalize hashK bs (min bs.length 4000) = h0 at *
 obtain ⟨l, i1, h1, k1, ⟨p1, p2, _⟩, e1⟩ := drawAny_ex k0
 have e1 := e1 (j + 1) (by omega)
 obtain ⟨es, ⟨b2, i2, h2⟩, k2, hb2, hl, e2⟩ := run_drawEvents (j := j) hj ⟨bs, i1, h1⟩ k1 l (by omega)
 simp only at hb2
 subst hb2
 have tk : (evT es).take (es.length * 3) = evT es := List.take_of_length_le (by simp)
 by_cases hz : es.length = 0
 ·obtain ⟨a, i3, h3, k3, _, _, e3⟩ := below_ex k2 6
  obtain ⟨b, i4, h4, k4, _, _, e4⟩ := below_ex k3 4
  have e3 := e3 (j + 5)
  have e4 := e4 (j + 5)
  refine ⟨es, a, b, hl, ?_⟩
  rw [m_run (fn := Try.f70) (i0 := 0) rfl Try.func70 rfl rfl (by simp)]
  obtain rfl := List.eq_nil_of_length_eq_zero hz
  simp only [curT, curA, z0] at e1 e2 e3 e4 ⊢
  simp -implicitDefEqProofs [evT] at e2
  simp -implicitDefEqProofs [own1, St.make, maker, e0, e1, e2, e3, e4, evT]
 ·obtain ⟨t, i3, h3, k3, e3⟩ := once_ex k2 4
  have e3 := e3 (j + 4)
  have hp : (0 : Int) < es.length := by omega
  have hp' : 0 < es.length := by omega
  cases t
  ·obtain ⟨v, i4, h4, k4, _, lv, e4⟩ := below_ex k3 es.length
   have e4 := e4 (j + 5)
   have lv := lv hp
   obtain ⟨m, rfl⟩ : ∃ m : Nat, v = m := ⟨v.toNat, by omega⟩
   have hm : m < es.length := by omega
   refine ⟨es, es[m].kind, es[m].peer, hl, ?_⟩
   rw [m_run (fn := Try.f70) (i0 := 0) rfl Try.func70 rfl rfl (by simp)]
   simp only [curT, curA, z0] at e1 e2 e3 e4 ⊢
   simp -implicitDefEqProofs [own1, St.make, maker, e0, e1, e2, e3, e4, hp, hp', hm, tEv, tk, show m * 3 + 3 ≤ es.length * 3 by omega]
  ·obtain ⟨a, i4, h4, k4, _, _, e4⟩ := below_ex k3 6
   obtain ⟨b, i5, h5, k5, _, _, e5⟩ := below_ex k4 4
   have e4 := e4 (j + 5)
   have e5 := e5 (j + 5)
   refine ⟨es, a, b, hl, ?_⟩
   rw [m_run (fn := Try.f70) (i0 := 0) rfl Try.func70 rfl rfl (by simp)]
   simp only [curT, curA, z0] at e1 e2 e3 e4 e5 ⊢
   simp -implicitDefEqProofs [own1, St.make, maker, e0, e1, e2, e3, e4, e5, hp, hp', tk]
theorem run_drawNth {j : Nat} (hj : big ≤ j) (bs : List Int) (hb : bs.length ≤ 1048576) : ∃ (es : List Ev) (k p n : Int), es.length ≤ 24 ∧ (-1 ≤ n ∧ n ≤ 3) ∧ M.run (j + 9) 17 [.c (.r 5 bs.length (octT bs))] = some ([.c (.s 42 es.length (evT es)), .c (.v (.int .i64 k)), .c (.v (.int .i64 p)), .c (.v (.int .i64 n))], [.c (.r 5 bs.length (octT bs))]) := by
 obtain ⟨es, k, p, hl, e1⟩ := run_drawOne hj bs hb
 have e0 := run_new (j := j + 7) hb
 have k0 := new_cur hb
 generalize hashK bs (min bs.length 4000) = h0 at *
 obtain ⟨a, i1, h1, k1, _, l2, e2⟩ := below_ex k0 4
 obtain ⟨b, i2, h2, k2, _, l3, e3⟩ := below_ex k1 20
 have l2 := l2 (by omega)
 have l3 := l3 (by omega)
 have e2 := e2 (j + 6)
 have e3 := e3 (j + 6)
 have hq : 0 ≤ Int.tdiv b 19 ∧ Int.tdiv b 19 ≤ 1 := by
  rw [Int.tdiv_eq_ediv_of_nonneg (by omega)]
  omega
 have tk : (evT es).take (es.length * 3) = evT es := List.take_of_length_le (by simp)
 refine ⟨es, k, p, a - Int.tdiv b 19, hl, by omega, ?_⟩
 rw [m_run (fn := Try.f17) (i0 := 0) rfl Try.func17 rfl rfl (by simp)]
 simp only [curT, z0] at e2 e3 ⊢
 simp -implicitDefEqProofs [own1, St.make, maker, e0, e1, e2, e3, tk, w64 (x := Int.tdiv b 19) (by omega), w64 (x := a - Int.tdiv b 19) (by omega)]
end Go.Proofs.Ytkgkbkpgpbpjhaa.VM

/- The law FnCounted, reckoned. -/
namespace Go.Proofs.Ytkgkbkpgpbpjhaa.VM
open Go Go.Proofs
set_option linter.unusedSimpArgs false
set_option linter.unusedVariables false
set_option maxRecDepth 100000
set_option maxHeartbeats 20000000
theorem gqL {l : List T} {i : Nat} {v : T} (e : l[i]? = some v) (h : i < l.length) : l[i] = v := Option.some.inj ((List.getElem?_eq_getElem h).symm.trans e)
theorem op22 : OpT Try.prog 22 (fun bs : List Int => [.r 5 bs.length (octT bs)]) (fun bs => (∀ n ∈ bs, 0 ≤ n ∧ n ≤ 255) ∧ bs.length ≤ maxLen) := ⟨fun h => by
 obtain ⟨xs, R, h1, h2, h3⟩ := (opT_slice Try.underlying22 (by simp) (opT_u8 Try.underlying5)).op h
 refine ⟨xs, R, ?_, h2, h3⟩
 have e : ∀ l : List Int, (l.flatMap fun n => [T.v (.int .u8 n)]) = octT l := fun l => by
  unfold octT
  induction l with
  | nil => rfl
  | cons x l ih => rw [List.flatMap_cons, ih]; rfl
 rw [← e xs]
 exact h1⟩
theorem run_big {j : Nat} (n : Nat) (l : List T) (hn : n ≤ 9223372036854775807) : M.run (j + 1) 10 [.c (.r 5 n l)] = some ([.c (.v (.bool (decide (1048576 < n))))], [.c (.r 5 n l)]) := by
 rw [m_run (fn := Try.f10) (i0 := 0) rfl Try.func10 rfl rfl (by simp)]
 simp -implicitDefEqProofs
 by_cases h : 1048576 < n
 ·simp [h, show (1048576 : Int) < n by omega]
 ·simp [h, show ¬ (1048576 : Int) < n by omega]
def H_sI (xs : List Int) (i : Nat) : St := ⟨[(0, .c (.sl 0 [] 0 xs.length)), (1, .c (.sl 1 [] 0 xs.length)), (5, .c (.v (.int .i64 i)))], [(0, ⟨.ro, 3, ints xs⟩), (1, ⟨.ro, 3, ints xs⟩)]⟩
theorem run_sameInts {j : Nat} (hj : big ≤ j) (xs : List Int) (hl : xs.length ≤ 1048576) : M.run (j + 1) 20 [.c (.r 3 xs.length (ints xs)), .c (.r 3 xs.length (ints xs))] = some ([.c (.v (.bool true))], [.c (.r 3 xs.length (ints xs)), .c (.r 3 xs.length (ints xs))]) := by
 rw [m_run (fn := Try.f20) (i0 := 0) rfl Try.func20 rfl rfl (by simp)]
 simp -implicitDefEqProofs
 rw [loop_then (H_sI xs) xs.length (by simp -implicitDefEqProofs [H_sI, hint1]) (by simp [big] at hj; omega) (fun i hi => by
  simp -implicitDefEqProofs [H_sI, hint1, hi, ints_get hi, show i + 1 ≤ xs.length by omega, w64 (x := (i : Int) + 1) (by omega)])]
 simp -implicitDefEqProofs [H_sI]
theorem valsE_app (a b : List Ev) (k p : Int) : valsE (a ++ b) k p = valsE a k p ++ valsE b k p := by simp [valsE]
theorem vals_at {es : List Ev} {k p : Int} {m : Nat} (h : nthN es k p m < es.length) : (valsE es k p)[m]? = some (es[nthN es k p m]'h).v ∧ cntE (es.take (nthN es k p m)) k p = m ∧ isB (es[nthN es k p m]'h) k p = true := by
 obtain ⟨q1, q2⟩ := nthI_end h
 have hc : cntE (es.take (nthN es k p m)) k p = m := by
  unfold nthI at q2
  omega
 refine ⟨?_, hc, q1⟩
 have e : es = es.take (nthN es k p m) ++ (es[nthN es k p m]'h :: es.drop (nthN es k p m + 1)) := by
  rw [List.getElem_cons_drop, List.take_append_drop]
 generalize es[nthN es k p m]'h = x at *
 have e2 : valsE es k p = valsE (es.take (nthN es k p m)) k p ++ (x.v :: valsE (es.drop (nthN es k p m + 1)) k p) := by
  conv => lhs; rw [e]
  rw [valsE_app]
  congr 1
  unfold valsE
  rw [List.filter_cons, if_pos q1, List.map_cons]
 rw [e2, List.getElem?_append_right (by rw [valsE_cnt, hc]; exact Nat.le_refl _), valsE_cnt, hc, Nat.sub_self]
 rfl
theorem run_FnCounted {j : Nat} (hj : big ≤ j) (bs : List Int) (hb : bs.length ≤ 9223372036854775807) : M.run (j + 10) 4 [.c (.r 5 bs.length (octT bs))] = some ([.c (.v (.bool true))], [.c (.r 5 bs.length (octT bs))]) := by
 have e0 := run_big (j := j + 8) bs.length (octT bs) hb
 rw [m_run (fn := Try.f4) (i0 := 0) rfl Try.func4 rfl rfl (by simp)]
 by_cases h1 : 1048576 < bs.length
 ·rw [decide_eq_true h1] at e0
  simp -implicitDefEqProofs [own1, e0]
 rw [decide_eq_false h1] at e0
 obtain ⟨es, k, p, n, hl, hn, e1⟩ := run_drawNth hj bs (by omega)
 have e2 := run_implValues (j := j + 7) (by omega) es k p (by omega)
 have e3 := run_specValues (j := j + 8) (by omega) es k p (by omega)
 have e4 := run_implCount (j := j + 6) (by omega) es k p (by omega)
 have hle := valsE_le es k p
 have e5 := run_sameInts (j := j + 8) (by omega) (valsE es k p) (by omega)
 have tk : (evT es).take (es.length * 3) = evT es := List.take_of_length_le (by simp)
 have tl : (ints (valsE es k p)).take (valsE es k p).length = ints (valsE es k p) := List.take_of_length_le (by simp)
 by_cases hn0 : n < 0
 ·have e6 := run_implNeg (j := j + 7) (by omega) es k p n (by omega) (by omega)
  have e7 := run_specNeg (j := j + 8) (by omega) es k p n (by omega) (by omega)
  simp -implicitDefEqProofs (maxSteps := 10000000) [own1, e0, e1, e2, e3, e4, e5, e6, e7, tk, tl, hn0]
 ·obtain ⟨m, rfl⟩ : ∃ m : Nat, n = m := ⟨n.toNat, by omega⟩
  have e6 := run_implNth (j := j + 7) (by omega) es k p m (by omega) (by omega)
  have e7 := run_specNth (j := j + 8) (by omega) es k p m (by omega) (by omega)
  unfold nthF at e6 e7
  by_cases hN : nthN es k p m = es.length
  ·rw [if_pos hN] at e6 e7
   have hm : ¬ m < (valsE es k p).length := fun h => by
    rw [valsE_cnt] at h
    have := nth_has.2 h
    omega
   simp -implicitDefEqProofs (maxSteps := 10000000) [own1, e0, e1, e2, e3, e4, e5, e6, e7, tk, tl, hn0, show ((valsE es k p).length : Int) ≤ m by omega, show (valsE es k p).length ≤ m by omega]
  ·rw [if_neg hN] at e6 e7
   have hlt : nthN es k p m < es.length := by
    have : nthN es k p m ≤ es.length := lead_le _ _
    omega
   obtain ⟨v1, v2, v3⟩ := vals_at hlt
   obtain ⟨b1, b2⟩ := isB_true v3
   have e8 := run_implCount (j := j + 6) (by omega) (es.take (nthN es k p m)) k p (by rw [List.length_take]; omega)
   rw [valsE_cnt, v2, List.length_take, Nat.min_eq_left (Nat.le_of_lt hlt)] at e8
   have hm : m < (valsE es k p).length := by
    rcases Nat.lt_or_ge m (valsE es k p).length with h | h
    ·exact h
    ·rw [List.getElem?_eq_none h] at v1; simp at v1
   have v1' : (valsE es k p)[m] = (es[nthN es k p m]'hlt).v := by
    rw [List.getElem?_eq_getElem hm] at v1
    exact Option.some.inj v1
   generalize nthN es k p m = N at *
   simp -implicitDefEqProofs (maxSteps := 10000000) [own1, e0, e1, e2, e3, e4, e5, e6, e7, e8, tk, tl, hn0, hlt, hm, b1, b2, v1', evT_0 hlt, evT_0g hlt, evT_1 hlt, evT_2 hlt, gqL (evT_1 hlt), gqL (evT_2 hlt), ints_get hm, tEv, show ¬ ((N : Int) < 0) by omega, show N * 3 + 1 ≤ es.length * 3 by omega, show N * 3 + 2 ≤ es.length * 3 by omega, show N * 3 + 3 ≤ es.length * 3 by omega, show N ≤ es.length by omega, show N * 3 ≤ es.length * 3 by omega]
theorem law_FnCounted (bs : List Int) (hb : (∀ n ∈ bs, 0 ≤ n ∧ n ≤ 255) ∧ bs.length ≤ maxLen) : ∃ k xs, M.run k 4 [.c (.r 5 bs.length (octT bs))] = some ([.c (.v (.bool true))], xs) :=
 ⟨_, _, run_FnCounted (Nat.le_refl _) bs (by have := hb.2; unfold maxLen at this; omega)⟩
end Go.Proofs.Ytkgkbkpgpbpjhaa.VM
