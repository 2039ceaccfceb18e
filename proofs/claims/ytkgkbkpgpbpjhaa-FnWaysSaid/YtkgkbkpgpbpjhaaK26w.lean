/- Draws of what happened; the law FnCounted. -/
import Derived.Test.YtkgkbkpgpbpjhaaK25w
import Derived.Test.YtkgkbkpgpbpjhaaK6w
import Derived.Test.YtkgkbkpgpbpjhaaK13w
namespace Go.Proofs.Ytkgkbkpgpbpjhaa.VM
open Go Go.Proofs
set_option linter.unusedSimpArgs false
set_option linter.unusedVariables false
set_option maxRecDepth 100000
set_option maxHeartbeats 20000000
def evD (c : Cu) (e : Ev) : Ev × Cu := if e.kind = 3 then (if e.peer = 9 then (⟨e.kind, (belowF c 3).1, (belowF (belowF c 3).2 9).1⟩, (belowF (belowF c 3).2 9).2) else (⟨e.kind, e.peer, (belowF c 9).1⟩, (belowF c 9).2)) else (e, c)
theorem evD_ok {c : Cu} (h : CuOk c) (e : Ev) : CuOk (evD c e).2 ∧ (evD c e).2.bs = c.bs := by
 unfold evD
 split
 ·split
  ·exact ⟨belowF_ok (belowF_ok h 3) 9, (belowF_bs _ _).trans (belowF_bs _ _)⟩
  ·exact ⟨belowF_ok h 9, belowF_bs _ _⟩
 ·exact ⟨h, rfl⟩
def nextS (l : List Ins) (s : Sta) : Ev := nextF l s.at_ s.code s.regs s.out
def evK (l : List Ins) (c : Cu) : Nat → List Ev × Sta × Cu
 | 0 => ([], ⟨0, [0, 0, 0, 0], [], 0⟩, c)
 | k + 1 => ((evK l c k).1 ++ [(evD (evK l c k).2.2 (nextS l (evK l c k).2.1)).1], doS l (evK l c k).2.1 (evD (evK l c k).2.2 (nextS l (evK l c k).2.1)).1, (evD (evK l c k).2.2 (nextS l (evK l c k).2.1)).2)
theorem evK_ok (l : List Ins) {c : Cu} (h : CuOk c) : ∀ k, (evK l c k).1.length = k ∧ CuOk (evK l c k).2.2 ∧ (evK l c k).2.2.bs = c.bs ∧ (evK l c k).2.1.regs.length = 4 ∧ (evK l c k).2.1.out.length ≤ k
 | 0 => ⟨rfl, h, rfl, rfl, by simp [evK]⟩
 | k + 1 => by
  obtain ⟨a, b, d, e, f⟩ := evK_ok l h k
  have q := evD_ok b (nextS l (evK l c k).2.1)
  have r := doS_len l (evK l c k).2.1 (evD (evK l c k).2.2 (nextS l (evK l c k).2.1)).1
  refine ⟨by simp [evK, a], q.1, q.2.trans d, ?_, ?_⟩
  ·rw [evK]; exact r.1.trans e
  ·rw [evK]; show (doS _ _ _).out.length ≤ _; omega
theorem evT_app (l : List Ev) (x : Ev) : evT (l ++ [x]) = evT l ++ tEv x := by simp [evT]
def H_de (c0 : Cu) (l : List Ins) (n k : Nat) (x : List Ev × Sta × Cu) : St := ⟨[(0, .ptr 1 [] 0), (1, .c (.sl 2 [] 0 l.length)), (5, .c (.sl 832 [] 0 k)), (6, .ptr 448 [] 0), (7, .c (.v (.int .i64 n))), (8, .c (.v (.int .i64 k)))], [(0, ⟨.ro, 5, octT c0.bs⟩), (1, ⟨.box, 132, [.l 0 [] 0 c0.bs.length, .v (.int .i64 x.2.2.i), .v (.int .i64 x.2.2.h)]⟩), (2, ⟨.ro, 29, insT l⟩), (448, ⟨.box, 44, [.v (.int .i64 x.2.1.at_), .l 897 [] 0 x.2.1.regs.length, .l 898 [] 0 x.2.1.out.length, .v (.int .i64 x.2.1.code)]⟩), (832, ⟨.own, 42, evT x.1⟩), (897, ⟨.own, 3, ints x.2.1.regs⟩), (898, ⟨.own, 3, ints x.2.1.out⟩)]⟩
theorem run_drawEvents {j : Nat} (hj : big ≤ j) (c : Cu) (ok : CuOk c) (l : List Ins) (hl : l.length ≤ 1048576) : ∃ (es : List Ev) (c' : Cu), CuOk c' ∧ c'.bs = c.bs ∧ es.length ≤ 24 ∧ M.run (j + 7) 83 [curA c, .c (.r 29 l.length (insT l))] = some ([.c (.s 42 es.length (evT es))], [curA c', .c (.r 29 l.length (insT l))]) := by
 have e1 := run_l1Below (j := j + 4) c ok 25
 have e0 := run15 (j := j + 5)
 have l1 := belowF_le c (n := 25) (by omega)
 have k1 := belowF_ok ok 25
 have b1 := belowF_bs c 25
 generalize belowF c 25 = D at *
 obtain ⟨v, c1⟩ := D
 simp only at l1 k1 b1 e1
 obtain ⟨n, rfl⟩ : ∃ n : Nat, v = n := ⟨v.toNat, by omega⟩
 have K := evK_ok l k1
 obtain ⟨N, hN, hg, hN'⟩ := firstN (fun k => doB l (evK l c1 k).2.1 (evD (evK l c1 k).2.2 (nextS l (evK l c1 k).2.1)).1) n
 have rounds : ∀ (k : Nat), ∃ (es : List Ev) (s : Sta) (C : Cu) (E F : Ev) (C' : Cu), evK l c1 k = (es, s, C) ∧ nextS l s = E ∧ evD C E = (F, C') ∧ es.length = k ∧ CuOk C ∧ C.bs = c.bs ∧ s.regs.length = 4 ∧ s.out.length ≤ k ∧ CuOk C' ∧ C'.bs = c.bs := fun k => by
  obtain ⟨q1, q2, q3, q4, q5⟩ := K k
  have r := evD_ok q2 (nextS l (evK l c1 k).2.1)
  exact ⟨_, _, _, _, _, _, rfl, rfl, rfl, q1, q2, q3.trans b1, q4, q5, r.1, r.2.trans (q3.trans b1)⟩
 have body : ∃ (es : List Ev) (c' : Cu), CuOk c' ∧ c'.bs = c.bs ∧ es.length ≤ 24 ∧ ((N = n ∧ (es, c') = ((evK l c1 N).1, (evK l c1 N).2.2)) ∨ (N < n ∧ (es, c') = ((evK l c1 N).1, (evD (evK l c1 N).2.2 (nextS l (evK l c1 N).2.1)).2))) := by
  obtain ⟨q1, q2, q3, q4, q5⟩ := K N
  have r := evD_ok q2 (nextS l (evK l c1 N).2.1)
  rcases hN' with ⟨h, _⟩ | ⟨h, _⟩
  ·exact ⟨_, _, q2, q3.trans b1, by omega, .inl ⟨h, rfl⟩⟩
  ·exact ⟨_, _, r.1, r.2.trans (q3.trans b1), by omega, .inr ⟨h, rfl⟩⟩
 obtain ⟨es, c', a1, a2, a3, a4⟩ := body
 refine ⟨es, c', a1, a2, a3, ?_⟩
 rw [m_run (fn := Try.f83) (i0 := 0) rfl Try.func83 rfl rfl (by simp [curA])]
 simp only [curA] at e1 ⊢
 rw [b1] at e1
 simp -implicitDefEqProofs [own1, e0, e1, stS, ints]
 rw [loop_then (fun k => H_de c l n k (evK l c1 k)) N (by simp -implicitDefEqProofs [H_de, hint1, evK, evT, ints]) (by simp [big] at hj; omega) (fun k hk => by
  have g := hg k hk
  have hkn : k < n := by omega
  obtain ⟨es, s, C, E, F, C', r1, r2, r3, r4, r5, r6, r7, r8, r9, r10⟩ := rounds k
  rw [evK]
  rw [r1] at g ⊢
  simp only [r2, r3] at g ⊢
  have t1 := run54 hj l s.at_ s.code s.regs s.out hl (by omega) (by omega)
  rw [show nextF l s.at_ s.code s.regs s.out = E from r2] at t1
  have t2 := run96 hj l s F hl (by omega) (by omega)
  have dl := doS_len l s F
  rw [g] at t2
  have tk : (evT es).take (k * 3) = evT es := List.take_of_length_le (by simp [r4])
  have ia := evT_app es F
  have w1 : ∀ x : Sta, (ints x.regs).take x.regs.length = ints x.regs := fun x => List.take_of_length_le (by simp)
  have w2 : ∀ x : Sta, (ints x.out).take x.out.length = ints x.out := fun x => List.take_of_length_le (by simp)
  generalize doS l s F = s' at *
  obtain ⟨ek, ep, ev⟩ := E
  unfold evD at r3
  by_cases hk3 : ek = 3
  ·subst hk3
   rw [if_pos rfl] at r3
   by_cases hp9 : ep = 9
   ·subst hp9
    rw [if_pos rfl] at r3
    have c1' := run_l1Below (j := j + 4) C r5 3
    have c2' := run_l1Below (j := j + 4) (belowF C 3).2 (belowF_ok r5 3) 9
    have hb1 : (belowF C 3).2.bs = c.bs := (belowF_bs _ _).trans r6
    generalize belowF C 3 = X at *
    obtain ⟨x1, X⟩ := X
    simp only at c2' r3 hb1
    have hb2 : (belowF X 9).2.bs = c.bs := (belowF_bs _ _).trans hb1
    generalize belowF X 9 = Y at *
    obtain ⟨y1, Y⟩ := Y
    simp only at r3 hb2
    simp only [Prod.mk.injEq] at r3
    obtain ⟨rfl, rfl⟩ := r3
    simp only [curA, r6, hb1, hb2] at c1' c2'
    simp only [tEv, tSta, stR, sSta, stS] at t1 t2 ia
    simp -implicitDefEqProofs [H_de, hint1, hkn, own1, t1, t2, c1', c2', tEv, r4, tk, ia, w1, w2, le_most (n := k * 3 + 3) (by omega), w64 (x := (k : Int) + 1) (by omega)]
   ·rw [if_neg hp9] at r3
    have c1' := run_l1Below (j := j + 4) C r5 9
    have hb1 : (belowF C 9).2.bs = c.bs := (belowF_bs _ _).trans r6
    generalize belowF C 9 = X at *
    obtain ⟨x1, X⟩ := X
    simp only at r3 hb1
    simp only [Prod.mk.injEq] at r3
    obtain ⟨rfl, rfl⟩ := r3
    simp only [curA, r6, hb1] at c1'
    simp only [tEv, tSta, stR, sSta, stS] at t1 t2 ia
    simp -implicitDefEqProofs [H_de, hint1, hkn, own1, t1, t2, c1', hp9, tEv, r4, tk, ia, w1, w2, le_most (n := k * 3 + 3) (by omega), w64 (x := (k : Int) + 1) (by omega)]
  ·rw [if_neg hk3] at r3
   simp only [Prod.mk.injEq] at r3
   obtain ⟨rfl, rfl⟩ := r3
   simp only [tEv, tSta, stR, sSta, stS] at t1 t2 ia
   simp -implicitDefEqProofs [H_de, hint1, hkn, own1, t1, t2, hk3, tEv, r4, r6, tk, ia, w1, w2, le_most (n := k * 3 + 3) (by omega), w64 (x := (k : Int) + 1) (by omega)])]
 obtain ⟨Es, s, C, E, F, C', r1, r2, r3, r4, r5, r6, r7, r8, r9, r10⟩ := rounds N
 rw [r1] at a4 ⊢
 simp only [r2, r3] at a4
 have tk : (evT Es).take (N * 3) = evT Es := List.take_of_length_le (by simp [r4])
 rcases a4 with ⟨hn, a4⟩ | ⟨hn, a4⟩
 ·simp only [Prod.mk.injEq] at a4
  obtain ⟨rfl, rfl⟩ := a4
  subst hn
  simp -implicitDefEqProofs [H_de, r4, r6, tk, List.take_of_length_le]
 ·simp only [Prod.mk.injEq] at a4
  obtain ⟨rfl, rfl⟩ := a4
  have g : doB l s F = false := by
   rcases hN' with ⟨h, _⟩ | ⟨h, h2, _⟩
   ·omega
   ·rw [r1] at h2
    simpa only [r2, r3] using h2
  have t1 := run54 hj l s.at_ s.code s.regs s.out hl (by omega) (by omega)
  rw [show nextF l s.at_ s.code s.regs s.out = E from r2] at t1
  have t2 := run96 hj l s F hl (by omega) (by omega)
  rw [g] at t2
  have w1 : ∀ x : Sta, (ints x.regs).take x.regs.length = ints x.regs := fun x => List.take_of_length_le (by simp)
  have w2 : ∀ x : Sta, (ints x.out).take x.out.length = ints x.out := fun x => List.take_of_length_le (by simp)
  generalize doS l s F = s' at *
  obtain ⟨ek, ep, ev⟩ := E
  unfold evD at r3
  by_cases hk3 : ek = 3
  ·subst hk3
   rw [if_pos rfl] at r3
   by_cases hp9 : ep = 9
   ·subst hp9
    rw [if_pos rfl] at r3
    have c1' := run_l1Below (j := j + 4) C r5 3
    have c2' := run_l1Below (j := j + 4) (belowF C 3).2 (belowF_ok r5 3) 9
    have hb1 : (belowF C 3).2.bs = c.bs := (belowF_bs _ _).trans r6
    generalize belowF C 3 = X at *
    obtain ⟨x1, X⟩ := X
    simp only at c2' r3 hb1
    have hb2 : (belowF X 9).2.bs = c.bs := (belowF_bs _ _).trans hb1
    generalize belowF X 9 = Y at *
    obtain ⟨y1, Y⟩ := Y
    simp only at r3 hb2
    simp only [Prod.mk.injEq] at r3
    obtain ⟨rfl, rfl⟩ := r3
    simp only [curA, r6, hb1, hb2] at c1' c2'
    simp only [tEv, tSta, stR, sSta, stS] at t1 t2
    simp -implicitDefEqProofs [H_de, hn, own1, t1, t2, c1', c2', tEv, r4, hb2, tk, w1, w2]
   ·rw [if_neg hp9] at r3
    have c1' := run_l1Below (j := j + 4) C r5 9
    have hb1 : (belowF C 9).2.bs = c.bs := (belowF_bs _ _).trans r6
    generalize belowF C 9 = X at *
    obtain ⟨x1, X⟩ := X
    simp only at r3 hb1
    simp only [Prod.mk.injEq] at r3
    obtain ⟨rfl, rfl⟩ := r3
    simp only [curA, r6, hb1] at c1'
    simp only [tEv, tSta, stR, sSta, stS] at t1 t2
    simp -implicitDefEqProofs [H_de, hn, own1, t1, t2, c1', hp9, tEv, r4, hb1, tk, w1, w2]
  ·rw [if_neg hk3] at r3
   simp only [Prod.mk.injEq] at r3
   obtain ⟨rfl, rfl⟩ := r3
   simp only [tEv, tSta, stR, sSta, stS] at t1 t2
   simp -implicitDefEqProofs [H_de, hn, own1, t1, t2, hk3, tEv, r4, r6, tk, w1, w2]
end Go.Proofs.Ytkgkbkpgpbpjhaa.VM
namespace Go.Proofs.Ytkgkbkpgpbpjhaa.VM
open Go Go.Proofs
set_option linter.unusedSimpArgs false
set_option linter.unusedVariables false
set_option maxRecDepth 100000
set_option maxHeartbeats 20000000
theorem z0 : ((0 : Nat) : Int) = 0 := rfl
theorem run_new {j : Nat} {bs : List Int} (h : bs.length ≤ 1048576) : M.run (j + 1) 55 [.c (.r 5 bs.length (octT bs))] = some ([.box 132 [.h, .v (.int .i64 0), .v (.int .i64 (hashK bs (min bs.length 4000)))]], [.c (.r 5 bs.length (octT bs))]) :=
 show newG _ = _ from newG_eq h
theorem new_cur {bs : List Int} (h : bs.length ≤ 1048576) : CuOk ⟨bs, 0, hashK bs (min bs.length 4000)⟩ := ⟨Nat.zero_le _, h⟩
end Go.Proofs.Ytkgkbkpgpbpjhaa.VM
namespace Go.Proofs.Ytkgkbkpgpbpjhaa.VM
open Go Go.Proofs
set_option linter.unusedSimpArgs false
set_option linter.unusedVariables false
set_option maxRecDepth 100000
set_option maxHeartbeats 20000000
theorem op22 : OpT Try.prog 22 (fun bs : List Int => [.r 5 bs.length (octT bs)]) (fun bs => (∀ n ∈ bs, 0 ≤ n ∧ n ≤ 255) ∧ bs.length ≤ maxLen) := ⟨fun h => by
 obtain ⟨xs, R, h1, h2, h3⟩ := (opT_slice Try.underlying22 (by simp) (opT_u8 Try.underlying5)).op h
 refine ⟨xs, R, ?_, h2, h3⟩
 have e : ∀ l : List Int, (l.flatMap fun n => [T.v (.int .u8 n)]) = octT l := fun l => by
  unfold octT
  induction l with
  | nil => rfl
  | cons x l ih => rw [List.flatMap_cons, ih]; rfl
 rw [← e xs]
 exact h1⟩
theorem run_big {j : Nat} (n : Nat) (l : List T) (hn : n ≤ 9223372036854775807) : M.run (j + 1) 10 [.c (.r 5 n l)] = some ([.c (.v (.bool (decide (1048576 < n))))], [.c (.r 5 n l)]) := by
 rw [m_run (fn := Try.f10) (i0 := 0) rfl Try.func10 rfl rfl (by simp)]
 simp -implicitDefEqProofs
 by_cases h : 1048576 < n
 ·simp [h, show (1048576 : Int) < n by omega]
 ·simp [h, show ¬ (1048576 : Int) < n by omega]
def H_sI (xs : List Int) (i : Nat) : St := ⟨[(0, .c (.sl 0 [] 0 xs.length)), (1, .c (.sl 1 [] 0 xs.length)), (5, .c (.v (.int .i64 i)))], [(0, ⟨.ro, 3, ints xs⟩), (1, ⟨.ro, 3, ints xs⟩)]⟩
theorem run_sameInts {j : Nat} (hj : big ≤ j) (xs : List Int) (hl : xs.length ≤ 1048576) : M.run (j + 1) 20 [.c (.r 3 xs.length (ints xs)), .c (.r 3 xs.length (ints xs))] = some ([.c (.v (.bool true))], [.c (.r 3 xs.length (ints xs)), .c (.r 3 xs.length (ints xs))]) := by
 rw [m_run (fn := Try.f20) (i0 := 0) rfl Try.func20 rfl rfl (by simp)]
 simp -implicitDefEqProofs
 rw [loop_then (H_sI xs) xs.length (by simp -implicitDefEqProofs [H_sI, hint1]) (by simp [big] at hj; omega) (fun i hi => by
  simp -implicitDefEqProofs [H_sI, hint1, hi, ints_get hi, show i + 1 ≤ xs.length by omega, w64 (x := (i : Int) + 1) (by omega)])]
 simp -implicitDefEqProofs [H_sI]
end Go.Proofs.Ytkgkbkpgpbpjhaa.VM
