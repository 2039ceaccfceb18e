/- Draws of what is done; the law FnOnly. -/
import Derived.Test.YtninncdacekfgaaK36
/- Draws: a program and a state of it: reckoned. -/
namespace Go.Proofs.Ytninncdacekfgaa.VM
open Go Go.Proofs
set_option linter.unusedSimpArgs false
set_option linter.unusedVariables false
set_option maxRecDepth 100000
set_option maxHeartbeats 40000000
def evD2 (c : Cu) (e : Ev) : Ev × Cu := if e.kind = 3 then (⟨e.kind, (belowF c 3).1, (belowF (belowF c 3).2 9).1⟩, (belowF (belowF c 3).2 9).2) else (e, c)
theorem evD2_ok {c : Cu} (h : CuOk c) (e : Ev) : CuOk (evD2 c e).2 ∧ (evD2 c e).2.bs = c.bs := by
 unfold evD2
 split
 ·exact ⟨belowF_ok (belowF_ok h 3) 9, (belowF_bs _ _).trans (belowF_bs _ _)⟩
 ·exact ⟨h, rfl⟩
def dbK (l : List Ins) (c : Cu) : Nat → Sta × Cu
 | 0 => (⟨0, [0, 0, 0, 0], [], 0⟩, c)
 | k + 1 => (doS l (dbK l c k).1 (evD2 (belowF (dbK l c k).2 20).2 (nextS l (dbK l c k).1)).1, (evD2 (belowF (dbK l c k).2 20).2 (nextS l (dbK l c k).1)).2)
theorem dbK_ok (l : List Ins) {c : Cu} (h : CuOk c) : ∀ k, CuOk (dbK l c k).2 ∧ (dbK l c k).2.bs = c.bs ∧ (dbK l c k).1.regs.length = 4 ∧ (dbK l c k).1.out.length ≤ k
 | 0 => ⟨h, rfl, rfl, by simp [dbK]⟩
 | k + 1 => by
  obtain ⟨b, d, e, f⟩ := dbK_ok l h k
  have q := evD2_ok (belowF_ok b 20) (nextS l (dbK l c k).1)
  have r := doS_len l (dbK l c k).1 (evD2 (belowF (dbK l c k).2 20).2 (nextS l (dbK l c k).1)).1
  refine ⟨q.1, q.2.trans ((belowF_bs _ _).trans d), ?_, ?_⟩
  ·rw [dbK]; exact r.1.trans e
  ·rw [dbK]; show (doS _ _ _).out.length ≤ _; omega
def H_db (bs : List Int) (l : List Ins) (k : Nat) (x : Sta × Cu) : St := ⟨[(0, .ptr 1 [] 0), (3, .ptr 256 [] 0), (4, .c (.sl 640 [] 0 l.length)), (5, .ptr 384 [] 0), (6, .c (.v (.int .i64 k)))], [(0, ⟨.ro, 5, octT bs⟩), (1, ⟨.box, 82, [.l 0 [] 0 bs.length, .v (.int .i64 x.2.i), .v (.int .i64 x.2.h)]⟩), (256, ⟨.box, 27, [.v (.int .i64 0), .z, .z, .v (.int .i64 0)]⟩), (384, ⟨.box, 27, [.v (.int .i64 x.1.at_), .l 705 [] 0 x.1.regs.length, .l 706 [] 0 x.1.out.length, .v (.int .i64 x.1.code)]⟩), (640, ⟨.own, 40, insT l⟩), (705, ⟨.own, 3, ints x.1.regs⟩), (706, ⟨.own, 3, ints x.1.out⟩)]⟩
theorem both_ex {bs : List Int} {i : Nat} {h : Int} (ok : CuOk ⟨bs, i, h⟩) : ∃ (l : List Ins) (s : Sta) (i' : Nat) (h' : Int), CuOk ⟨bs, i', h'⟩ ∧ progSm l ∧ s.regs.length = 4 ∧ s.out.length ≤ 20 ∧ ∀ j, big ≤ j → M.run (j + 7) 53 [curT bs i h] = some ([.c (.s 40 l.length (insT l)), .agg (sSta s)], [curT bs i' h']) := by
 obtain ⟨l, i1, h1, k1, ps, e1⟩ := drawAny_ex ok
 have pl := ps.2.1
 have K := dbK_ok l k1
 have le := fun k => belowF_le (dbK l ⟨bs, i1, h1⟩ k).2 (n := 20) (by omega)
 obtain ⟨N, hN, hg, hN'⟩ := firstN (fun k => decide ((k : Int) < (belowF (dbK l ⟨bs, i1, h1⟩ k).2 20).1)) 20
 have hlast : ¬ ((N : Int) < (belowF (dbK l ⟨bs, i1, h1⟩ N).2 20).1) := by
  rcases hN' with ⟨h, _⟩ | ⟨_, h, _⟩
  ·have := (le N).2
   omega
  ·exact of_decide_eq_false h
 obtain ⟨a1, a2, a3, a4⟩ := K N
 have z1 := belowF_ok a1 20
 have z2 : (belowF (dbK l ⟨bs, i1, h1⟩ N).2 20).2.bs = bs := (belowF_bs _ _).trans a2
 have zok : CuOk ⟨bs, (belowF (dbK l ⟨bs, i1, h1⟩ N).2 20).2.i, (belowF (dbK l ⟨bs, i1, h1⟩ N).2 20).2.h⟩ := by
  generalize (belowF (dbK l ⟨bs, i1, h1⟩ N).2 20).2 = z at *
  obtain ⟨zb, zi, zh⟩ := z
  simp only at z2
  subst z2
  exact z1
 refine ⟨l, (dbK l ⟨bs, i1, h1⟩ N).1, _, _, zok, ps, a3, by omega, fun j hj => ?_⟩
 have e1 := e1 j hj
 have e0 := run15 (j := j + 5)
 have tkl : (insT l).take (l.length * 5) = insT l := List.take_of_length_le (by simp)
 have w1 : ∀ x : Sta, (ints x.regs).take x.regs.length = ints x.regs := fun x => List.take_of_length_le (by simp)
 have w2 : ∀ x : Sta, (ints x.out).take x.out.length = ints x.out := fun x => List.take_of_length_le (by simp)
 rw [m_run (fn := Try.f53) (i0 := 0) rfl Try.func53 rfl rfl (by simp [curT])]
 simp only [curT] at e1 ⊢
 simp -implicitDefEqProofs [own1, e0, e1, stS, ints]
 rw [loop_then (fun k => H_db bs l k (dbK l ⟨bs, i1, h1⟩ k)) N (by simp -implicitDefEqProofs [H_db, hint1, dbK, ints]) (by simp [big] at hj; omega) (fun k hk => by
  have g := of_decide_eq_true (hg k hk)
  obtain ⟨b1, b2, b3, b4⟩ := K k
  have hk20 : k < 20 := by omega
  rw [dbK]
  generalize dbK l ⟨bs, i1, h1⟩ k = X at *
  obtain ⟨s, C⟩ := X
  simp only at b1 b2 b3 b4 g ⊢
  have q := run_l1Below (j := j + 4) C b1 20
  have c1 := belowF_ok b1 20
  have hb1 : (belowF C 20).2.bs = bs := (belowF_bs _ _).trans b2
  generalize belowF C 20 = D at *
  obtain ⟨v, C1⟩ := D
  simp only at g q c1 hb1 ⊢
  have t1 := run54 hj l s.at_ s.code s.regs s.out (by omega) (by omega) (by omega)
  rw [show nextF l s.at_ s.code s.regs s.out = nextS l s from rfl] at t1
  unfold evD2
  generalize nextS l s = E at *
  obtain ⟨ek, ep, ev⟩ := E
  obtain ⟨cb, ci, ch⟩ := C
  obtain ⟨c1b, c1i, c1h⟩ := C1
  simp only at b2 hb1
  subst b2
  subst hb1
  by_cases hk3 : ek = 3
  ·subst hk3
   rw [if_pos rfl]
   have q1 := run_l1Below (j := j + 4) _ c1 3
   have d1 := belowF_ok c1 3
   have d2 := belowF_bs ⟨c1b, c1i, c1h⟩ 3
   generalize belowF ⟨c1b, c1i, c1h⟩ 3 = Y at *
   obtain ⟨y1, ⟨yb, yi, yh⟩⟩ := Y
   simp only at d2 d1 q1 ⊢
   subst d2
   have q2 := run_l1Below (j := j + 4) _ d1 9
   have d3 := belowF_bs ⟨yb, yi, yh⟩ 9
   generalize belowF ⟨yb, yi, yh⟩ 9 = Z at *
   obtain ⟨u1, ⟨zb, zi, zh⟩⟩ := Z
   simp only at d3 q2 ⊢
   subst d3
   have t2 := run96 hj l s ⟨3, y1, u1⟩ (by omega) (by omega) (by omega)
   generalize doS l s ⟨3, y1, u1⟩ = s' at *
   simp only [curA] at q q1 q2
   simp only [tEv, tSta, stR, sSta, stS] at t1 t2
   simp -implicitDefEqProofs (maxSteps := 10000000) [H_db, hint1, own1, g, q, q1, q2, t1, t2, tEv, tkl, w1, w2, w64 (x := (k : Int) + 1) (by omega)]
  ·rw [if_neg hk3]
   have t2 := run96 hj l s ⟨ek, ep, ev⟩ (by omega) (by omega) (by omega)
   simp only at t2 ⊢
   generalize doS l s ⟨ek, ep, ev⟩ = s' at *
   simp only [curA] at q
   simp only [tEv, tSta, stR, sSta, stS] at t1 t2
   simp -implicitDefEqProofs (maxSteps := 10000000) [H_db, hint1, own1, g, q, t1, t2, hk3, tEv, tkl, w1, w2, w64 (x := (k : Int) + 1) (by omega)])]
 have q := run_l1Below (j := j + 4) _ a1 20
 generalize dbK l ⟨bs, i1, h1⟩ N = X at *
 obtain ⟨s, C⟩ := X
 simp only at a2 a3 a4 z1 z2 hlast q ⊢
 generalize belowF C 20 = D at *
 obtain ⟨v, C1⟩ := D
 obtain ⟨cb, ci, ch⟩ := C
 obtain ⟨c1b, c1i, c1h⟩ := C1
 simp only at a2 z2 hlast q ⊢
 subst a2
 subst z2
 simp only [curA] at q
 simp -implicitDefEqProofs (maxSteps := 10000000) [H_db, own1, q, hlast, tkl, w1, w2, sSta, stS]
theorem leadX_of {E : Env} {ops : Array Oper} {σ σ' : St} {o q : Oper} : E.leadX ops σ o σ' q = (!isLit q || (!σ'.absent (q.dst.getD 0)) || @decide (σ.absent (q.dst.getD 0) = true ∧ (E.oper ops σ q).bind (E.flip ops o) = E.oper ops σ' q ∧ (E.oper ops σ' q).isSome = true) (Classical.propDecidable _)) := rfl
/-- What is drawn, spoilt a little. -/
theorem draw2_ex {bs : List Int} {i : Nat} {h : Int} (ok : CuOk ⟨bs, i, h⟩) : ∃ (l : List Ins) (s : Sta) (i' : Nat) (h' : Int), CuOk ⟨bs, i', h'⟩ ∧ progSm l ∧ s.regs.length ≤ 4 ∧ s.out.length ≤ 61 ∧ ∀ j, big ≤ j → M.run (j + 8) 25 [curT bs i h] = some ([.c (.s 40 l.length (insT l)), .agg (sSta s)], [curT bs i' h']) := by
 obtain ⟨l, s, i1, h1, k1, ps, b1, b2, e1⟩ := both_ex ok
 obtain ⟨w, i2, h2, k2, _, lw, e2⟩ := below_ex k1 20
 have lw := lw (by omega)
 have tkl : (insT l).take (l.length * 5) = insT l := List.take_of_length_le (by simp)
 have w1 : ∀ x : Sta, (ints x.regs).take x.regs.length = ints x.regs := fun x => List.take_of_length_le (by simp)
 have w2 : ∀ x : Sta, (ints x.out).take x.out.length = ints x.out := fun x => List.take_of_length_le (by simp)
 have hw : w = 0 ∨ w = 1 ∨ w = 2 ∨ w = 3 ∨ w = 4 ∨ 5 ≤ w := by omega
 rcases hw with rfl | rfl | rfl | rfl | rfl | hw
 ·obtain ⟨u, i3, h3, k3, _, lu, e3⟩ := below_ex k2 12
  have lu := lu (by omega)
  refine ⟨l, ⟨u - 1, s.regs, s.out, s.code⟩, i3, h3, k3, ps, by show s.regs.length ≤ 4; omega, by show s.out.length ≤ 61; omega, fun j hj => ?_⟩
  have e1 := e1 j hj
  have e2 := e2 (j + 5)
  have e3 := e3 (j + 5)
  rw [m_run (fn := Try.f25) (i0 := 0) rfl Try.func25 rfl rfl (by simp [curT])]
  simp only [curT, sSta, stS] at e1 e2 e3 ⊢
  simp -implicitDefEqProofs (maxSteps := 10000000) [own1, e1, e2, e3, tkl, w1, w2, w64 (x := u - 1) (by omega)]
 ·obtain ⟨u, i3, h3, k3, _, lu, e3⟩ := below_ex k2 4
  have lu := lu (by omega)
  obtain ⟨m, rfl⟩ : ∃ m : Nat, u = m := ⟨u.toNat, by omega⟩
  obtain ⟨v, i4, h4, k4, hv, e4⟩ := pick_ex k3 [1000000000, -1000000000, 1000000001, 40000] (by simp)
  have hm : m < s.regs.length := by omega
  have hset : (ints s.regs).set m (.v (.int .i64 v)) = ints (s.regs.set m v) := by simp [ints, List.map_set]
  have tk2 : (ints (s.regs.set m v)).take s.regs.length = ints (s.regs.set m v) := List.take_of_length_le (by simp)
  refine ⟨l, ⟨s.at_, s.regs.set m v, s.out, s.code⟩, i4, h4, k4, ps, by show (s.regs.set m v).length ≤ 4; rw [List.length_set]; omega, by show s.out.length ≤ 61; omega, fun j hj => ?_⟩
  have e1 := e1 j hj
  have e2 := e2 (j + 5)
  have e3 := e3 (j + 5)
  have e4 := e4 (j + 4)
  rw [m_run (fn := Try.f25) (i0 := 0) rfl Try.func25 rfl rfl (by simp [curT])]
  simp only [ints, List.map_cons, List.map_nil, List.length_cons, List.length_nil] at e4
  simp only [curT, sSta, stS] at e1 e2 e3 e4 ⊢
  simp -implicitDefEqProofs (maxSteps := 10000000) [own1, e1, e2, e3, e4, tkl, w1, w2, hm, hset, tk2, softB, isTmp, leadX_of, Env.flip, ros, show m + 1 ≤ s.regs.length by omega]
 ·obtain ⟨u, i3, h3, k3, _, lu, e3⟩ := below_ex k2 4
  refine ⟨l, ⟨s.at_, s.regs, s.out, u⟩, i3, h3, k3, ps, by show s.regs.length ≤ 4; omega, by show s.out.length ≤ 61; omega, fun j hj => ?_⟩
  have e1 := e1 j hj
  have e2 := e2 (j + 5)
  have e3 := e3 (j + 5)
  rw [m_run (fn := Try.f25) (i0 := 0) rfl Try.func25 rfl rfl (by simp [curT])]
  simp only [curT, sSta, stS] at e1 e2 e3 ⊢
  simp -implicitDefEqProofs (maxSteps := 10000000) [own1, e1, e2, e3, tkl, w1, w2]
 ·obtain ⟨u, i3, h3, k3, _, lu, e3⟩ := below_ex k2 2
  have lu := lu (by omega)
  obtain ⟨m, rfl⟩ : ∃ m : Nat, u = m := ⟨u.toNat, by omega⟩
  have hrep : List.replicate (60 + m) (T.v (.int .i64 0)) = ints (List.replicate (60 + m) 0) := by simp [ints]
  have lm := le_most (n := 60 + m) (by omega)
  have tk2 : (ints (List.replicate (60 + m) 0)).take (60 + m) = ints (List.replicate (60 + m) 0) := List.take_of_length_le (by simp)
  refine ⟨l, ⟨s.at_, s.regs, List.replicate (60 + m) 0, s.code⟩, i3, h3, k3, ps, by show s.regs.length ≤ 4; omega, by show (List.replicate (60 + m) (0 : Int)).length ≤ 61; rw [List.length_replicate]; omega, fun j hj => ?_⟩
  have e1 := e1 j hj
  have e2 := e2 (j + 5)
  have e3 := e3 (j + 5)
  rw [m_run (fn := Try.f25) (i0 := 0) rfl Try.func25 rfl rfl (by simp [curT])]
  simp only [curT, sSta, stS] at e1 e2 e3 ⊢
  simp -implicitDefEqProofs (maxSteps := 10000000) [own1, e1, e2, e3, tkl, w1, w2, hrep, tk2, lm, ints_rep, show (0 : Int) ≤ 60 + (m : Int) by omega, show (60 + (m : Int)).toNat = 60 + m by omega, show 60 + (m : Int) ≤ most by unfold most; omega, w64 (x := 60 + (m : Int)) (by omega)]
 ·have tk2 : (ints (s.regs.drop 1)).take 3 = ints (s.regs.drop 1) := List.take_of_length_le (by simp [b1])
  have hd : (ints s.regs).drop 1 = ints (s.regs.drop 1) := by simp [ints]
  have hl : (s.regs.drop 1).length = 3 := by rw [List.length_drop, b1]
  refine ⟨l, ⟨s.at_, s.regs.drop 1, s.out, s.code⟩, i2, h2, k2, ps, by show (s.regs.drop 1).length ≤ 4; omega, by show s.out.length ≤ 61; omega, fun j hj => ?_⟩
  have e1 := e1 j hj
  have e2 := e2 (j + 5)
  rw [m_run (fn := Try.f25) (i0 := 0) rfl Try.func25 rfl rfl (by simp [curT])]
  simp only [curT, sSta, stS] at e1 e2 ⊢
  rw [b1] at e1
  rw [hl]
  simp -implicitDefEqProofs (maxSteps := 10000000) [own1, e1, e2, tkl, w1, w2, hd, tk2, b1, show max (4 : Int) 0 = 4 by decide, -List.drop_one]
 ·refine ⟨l, s, i2, h2, k2, ps, by omega, by omega, fun j hj => ?_⟩
  have e1 := e1 j hj
  have e2 := e2 (j + 5)
  rw [m_run (fn := Try.f25) (i0 := 0) rfl Try.func25 rfl rfl (by simp [curT])]
  simp only [curT, sSta, stS] at e1 e2 ⊢
  simp -implicitDefEqProofs (maxSteps := 10000000) [own1, e1, e2, tkl, w1, w2, show ¬ w = 0 by omega, show ¬ w = 1 by omega, show ¬ w = 2 by omega, show ¬ w = 3 by omega, show ¬ w = 4 by omega]
theorem run_drawDo {j : Nat} (hj : big ≤ j) (bs : List Int) (hb : bs.length ≤ 1048576) : ∃ (l : List Ins) (s : Sta) (e : Ev), l.length ≤ 100 ∧ s.regs.length ≤ 4 ∧ s.out.length ≤ 61 ∧ M.run (j + 9) 6 [.c (.r 5 bs.length (octT bs))] = some ([.c (.s 40 l.length (insT l)), .agg (sSta s), .agg (tEv e)], [.c (.r 5 bs.length (octT bs))]) := by
 have e0 := run_new (j := j + 7) hb
 have k0 := new_cur hb
 generalize hashK bs (min bs.length 4000) = h0 at *
 obtain ⟨l, s, i1, h1, k1, ps, b1, b2, e1⟩ := draw2_ex k0
 have e1 := e1 j hj
 have pl := ps.2.1
 have e2 := run54 (j := j + 2) (by omega) l s.at_ s.code s.regs s.out (by omega) (by omega) (by omega)
 generalize nextF l s.at_ s.code s.regs s.out = E at *
 obtain ⟨ek, ep, ev⟩ := E
 have tkl : (insT l).take (l.length * 5) = insT l := List.take_of_length_le (by simp)
 have w1 : ∀ x : Sta, (ints x.regs).take x.regs.length = ints x.regs := fun x => List.take_of_length_le (by simp)
 have w2 : ∀ x : Sta, (ints x.out).take x.out.length = ints x.out := fun x => List.take_of_length_le (by simp)
 simp only [curT, z0, sSta, stS] at e1
 simp only [tEv, stR] at e2
 obtain ⟨u, i2, h2, k2, cc⟩ : ∃ (u : Int) (i2 : Nat) (h2 : Int), CuOk ⟨bs, i2, h2⟩ ∧ ((ek = 3 ∧ ep = 9 ∧ ∀ j, M.run (j + 2) 26 [curT bs i1 h1, .c (.v (.int .i64 4))] = some ([.c (.v (.int .i64 u))], [curT bs i2 h2, .c (.v (.int .i64 4))])) ∨ (¬ (ek = 3 ∧ ep = 9) ∧ u = ep ∧ i2 = i1 ∧ h2 = h1)) := by
  by_cases hq : ek = 3 ∧ ep = 9
  ·obtain ⟨u, i2, h2, k2, _, _, e3⟩ := below_ex k1 4
   exact ⟨u, i2, h2, k2, .inl ⟨hq.1, hq.2, e3⟩⟩
  ·exact ⟨ep, i1, h1, k1, .inr ⟨hq, rfl, rfl, rfl⟩⟩
 obtain ⟨w, i3, h3, k3, _, lw, e4⟩ := below_ex k2 9
 have lw := lw (by omega)
 have e4 := e4 (j + 6)
 have hw : w = 0 ∨ w = 1 ∨ w = 2 ∨ 3 ≤ w := by omega
 rcases hw with rfl | rfl | rfl | hw
 ·obtain ⟨v, i4, h4, k4, _, _, e5⟩ := below_ex k3 6
  have e5 := e5 (j + 6)
  refine ⟨l, s, ⟨v, u, ev⟩, by omega, b1, b2, ?_⟩
  rw [m_run (fn := Try.f6) (i0 := 0) rfl Try.func6 rfl rfl (by simp)]
  rcases cc with ⟨rfl, rfl, e3⟩ | ⟨hq, rfl, rfl, rfl⟩
  ·have e3 := e3 (j + 6)
   simp only [curT] at e3 e4 e5 ⊢
   simp -implicitDefEqProofs (maxSteps := 10000000) [own1, St.make, maker, e0, e1, e2, e3, e4, e5, tkl, w1, w2, sSta, stS, tEv]
  ·simp only [curT] at e4 e5 ⊢
   by_cases h3 : ek = 3
   ·have h9 : ¬ u = 9 := fun h => hq ⟨h3, h⟩
    subst h3
    simp -implicitDefEqProofs (maxSteps := 10000000) [own1, St.make, maker, e0, e1, e2, e4, e5, h9, tkl, w1, w2, sSta, stS, tEv]
   ·simp -implicitDefEqProofs (maxSteps := 10000000) [own1, St.make, maker, e0, e1, e2, e4, e5, h3, tkl, w1, w2, sSta, stS, tEv]
 ·obtain ⟨v, i4, h4, k4, hv, e5⟩ := pick_ex k3 [0, 1, 5, 1000000000, 1000000001] (by simp)
  have e5 := e5 (j + 5)
  refine ⟨l, s, ⟨ek, u, v⟩, by omega, b1, b2, ?_⟩
  rw [m_run (fn := Try.f6) (i0 := 0) rfl Try.func6 rfl rfl (by simp)]
  simp only [ints, List.map_cons, List.map_nil, List.length_cons, List.length_nil] at e5
  rcases cc with ⟨rfl, rfl, e3⟩ | ⟨hq, rfl, rfl, rfl⟩
  ·have e3 := e3 (j + 6)
   simp only [curT] at e3 e4 e5 ⊢
   simp -implicitDefEqProofs (maxSteps := 10000000) [own1, St.make, maker, e0, e1, e2, e3, e4, e5, tkl, w1, w2, sSta, stS, tEv, ros]
  ·simp only [curT] at e4 e5 ⊢
   by_cases h3 : ek = 3
   ·have h9 : ¬ u = 9 := fun h => hq ⟨h3, h⟩
    subst h3
    simp -implicitDefEqProofs (maxSteps := 10000000) [own1, St.make, maker, e0, e1, e2, e4, e5, h9, tkl, w1, w2, sSta, stS, tEv, ros]
   ·simp -implicitDefEqProofs (maxSteps := 10000000) [own1, St.make, maker, e0, e1, e2, e4, e5, h3, tkl, w1, w2, sSta, stS, tEv, ros]
 ·obtain ⟨v, i4, h4, k4, _, lv, e5⟩ := below_ex k3 6
  have lv := lv (by omega)
  have e5 := e5 (j + 6)
  refine ⟨l, s, ⟨ek, v - 1, ev⟩, by omega, b1, b2, ?_⟩
  rw [m_run (fn := Try.f6) (i0 := 0) rfl Try.func6 rfl rfl (by simp)]
  rcases cc with ⟨rfl, rfl, e3⟩ | ⟨hq, rfl, rfl, rfl⟩
  ·have e3 := e3 (j + 6)
   simp only [curT] at e3 e4 e5 ⊢
   simp -implicitDefEqProofs (maxSteps := 10000000) [own1, St.make, maker, e0, e1, e2, e3, e4, e5, tkl, w1, w2, sSta, stS, tEv, w64 (x := v - 1) (by omega)]
  ·simp only [curT] at e4 e5 ⊢
   by_cases h3 : ek = 3
   ·have h9 : ¬ u = 9 := fun h => hq ⟨h3, h⟩
    subst h3
    simp -implicitDefEqProofs (maxSteps := 10000000) [own1, St.make, maker, e0, e1, e2, e4, e5, h9, tkl, w1, w2, sSta, stS, tEv, w64 (x := v - 1) (by omega)]
   ·simp -implicitDefEqProofs (maxSteps := 10000000) [own1, St.make, maker, e0, e1, e2, e4, e5, h3, tkl, w1, w2, sSta, stS, tEv, w64 (x := v - 1) (by omega)]
 ·refine ⟨l, s, ⟨ek, u, ev⟩, by omega, b1, b2, ?_⟩
  rw [m_run (fn := Try.f6) (i0 := 0) rfl Try.func6 rfl rfl (by simp)]
  rcases cc with ⟨rfl, rfl, e3⟩ | ⟨hq, rfl, rfl, rfl⟩
  ·have e3 := e3 (j + 6)
   simp only [curT] at e3 e4 ⊢
   simp -implicitDefEqProofs (maxSteps := 10000000) [own1, St.make, maker, e0, e1, e2, e3, e4, tkl, w1, w2, sSta, stS, tEv, show ¬ w = 0 by omega, show ¬ w = 1 by omega, show ¬ w = 2 by omega]
  ·simp only [curT] at e4 ⊢
   by_cases h3 : ek = 3
   ·have h9 : ¬ u = 9 := fun h => hq ⟨h3, h⟩
    subst h3
    simp -implicitDefEqProofs (maxSteps := 10000000) [own1, St.make, maker, e0, e1, e2, e4, h9, tkl, w1, w2, sSta, stS, tEv, show ¬ w = 0 by omega, show ¬ w = 1 by omega, show ¬ w = 2 by omega]
   ·simp -implicitDefEqProofs (maxSteps := 10000000) [own1, St.make, maker, e0, e1, e2, e4, h3, tkl, w1, w2, sSta, stS, tEv, show ¬ w = 0 by omega, show ¬ w = 1 by omega, show ¬ w = 2 by omega]
end Go.Proofs.Ytninncdacekfgaa.VM

/- The law FnOnly, reckoned. -/
namespace Go.Proofs.Ytninncdacekfgaa.VM
open Go Go.Proofs
set_option linter.unusedSimpArgs false
set_option linter.unusedVariables false
set_option maxRecDepth 100000
set_option maxHeartbeats 40000000
theorem only_not {l : List Ins} {s : Sta} {e : Ev} (h : doB l s e = false) : doS l s e = s := by
 unfold doB at h
 unfold doS oneF
 split
 ·rename_i ho
  rw [ho, Bool.true_and] at h
  rw [if_neg (by rw [h]; simp)]
 ·rfl
theorem only_ok {l : List Ins} {s : Sta} {e : Ev} (h : doB l s e = true) : ((nextS l s).kind ≠ 3 → e = nextS l s) ∧ ((nextS l s).kind = 3 → e.kind = 3) ∧ stOkB l.length (doS l s e).at_ (doS l s e).regs (doS l s e).out (doS l s e).code = true ∧ (doS l s e).regs.length ≤ 4 ∧ (doS l s e).out.length ≤ 60 := by
 unfold doB at h
 rw [Bool.and_eq_true] at h
 obtain ⟨ho, hc⟩ := h
 have hn : nextS l s = nextE ((l[s.at_.toNat]?).getD ⟨0, 0, 0, 0, 0⟩) s.regs := by
  unfold nextS nextF
  rw [if_pos ho]
 have hD : doS l s e = stepS l s e := by
  unfold doS
  rw [if_pos ho]
  unfold oneF
  rw [if_pos hc]
  rfl
 rw [hn, hD]
 have ho' := ho
 simp only [okN, stOkB, Bool.and_eq_true, decide_eq_true_eq, beq_iff_eq] at ho'
 obtain ⟨hp, ⟨⟨⟨⟨⟨h1, h2⟩, h3⟩, h4⟩, h5⟩, h6⟩, h7⟩ := ho'
 have a0 := inB_le h3
 have rk : Rok l s := ⟨⟨a0.1, by omega⟩, h1, fun v hv => List.all_eq_true.1 h5 v hv, h4⟩
 have tl : Told s := ⟨inB_le h2, fun v hv => List.all_eq_true.1 h6 v hv⟩
 have hc' : comesB e (nextE (insAt l s.at_) s.regs) = true := hc
 have r1 := step_rok rk hc'
 have t1 := step_told rk tl hc'
 refine ⟨fun hk => ?_, fun hk => ?_, rok_ok r1 t1, by rw [r1.regs]; omega, r1.out⟩
 ·unfold comesB at hc
  rw [if_neg (fun h => hk h.1)] at hc
  simp only [Bool.and_eq_true, beq_iff_eq] at hc
  obtain ⟨k1, k2, k3⟩ := hc
  generalize nextE ((l[s.at_.toNat]?).getD ⟨0, 0, 0, 0, 0⟩) s.regs = w at *
  obtain ⟨x, y, z⟩ := e
  obtain ⟨x', y', z'⟩ := w
  simp only at k1 k2 k3
  rw [k1, k2, k3]
 ·unfold comesB at hc
  by_cases he : e.kind = 3
  ·exact he
  ·rw [if_neg (fun h => he h.2)] at hc
   simp only [Bool.and_eq_true, beq_iff_eq] at hc
   rw [hc.1]
   exact hk
theorem evB_self (a b c : Int) : evB a b c a b c = true := by simp [evB]
theorem run_FnOnly {j : Nat} (hj : big ≤ j) (bs : List Int) (hb : bs.length ≤ 9223372036854775807) : M.run (j + 11) 3 [.c (.r 5 bs.length (octT bs))] = some ([.c (.v (.bool true))], [.c (.r 5 bs.length (octT bs))]) := by
 have e0 := run_big (j := j + 9) bs.length (octT bs) hb
 rw [m_run (fn := Try.f3) (i0 := 0) rfl Try.func3 rfl rfl (by simp)]
 by_cases h1 : 1048576 < bs.length
 ·rw [decide_eq_true h1] at e0
  simp -implicitDefEqProofs [own1, e0]
 rw [decide_eq_false h1] at e0
 obtain ⟨l, s, e, hl, b1, b2, e1⟩ := run_drawDo (j := j + 1) (by omega) bs (by omega)
 have e2 := run_Do (j := j + 1) (by omega) l s e (by omega) (by omega) (by omega)
 have e3 := run96 (j := j + 4) (by omega) l s e (by omega) (by omega) (by omega)
 have e4 := run55 (j := j + 2) (by omega) l s.at_ s.code s.regs s.out (by omega) (by omega) (by omega)
 have e5 := run54 (j := j + 4) (by omega) l s.at_ s.code s.regs s.out (by omega) (by omega) (by omega)
 rw [show nextF l s.at_ s.code s.regs s.out = nextS l s from rfl] at e4 e5
 have e6 := run_sameSt (j := j + 8) (by omega) s (by omega) (by omega)
 have e7 := run47 (j := j + 3) (by omega) l s.at_ s.code s.regs s.out (by omega) (by omega) (by omega)
 have e8 := run44 (j := j + 7) (by omega) l s.at_ s.code s.regs s.out (by omega) (by omega) (by omega)
 have tkl : (insT l).take (l.length * 5) = insT l := List.take_of_length_le (by simp)
 have w1 : ∀ x : Sta, (ints x.regs).take x.regs.length = ints x.regs := fun x => List.take_of_length_le (by simp)
 have w2 : ∀ x : Sta, (ints x.out).take x.out.length = ints x.out := fun x => List.take_of_length_le (by simp)
 cases hq : doB l s e
 ·have hD := only_not hq
  rw [hq, hD] at e2 e3
  generalize nextS l s = E at *
  obtain ⟨ek, ep, ev⟩ := e
  obtain ⟨Ek, Ep, Ev⟩ := E
  simp only [tEv, tSta, stR, sSta, stS] at e1 e2 e3 e4 e5 e6 e7 e8
  simp -implicitDefEqProofs (maxSteps := 10000000) [own1, e0, e1, e2, e3, e4, e5, e6, flat75, eq75, evB_self, tkl, w1, w2]
 ·obtain ⟨q1, q2, q3, q4, q5⟩ := only_ok hq
  have e9 := run47 (j := j + 3) (by omega) l (doS l s e).at_ (doS l s e).code (doS l s e).regs (doS l s e).out (by omega) (by omega) (by omega)
  rw [q3] at e9
  rw [hq] at e2 e3
  generalize doS l s e = D at *
  generalize stOkB l.length s.at_ s.regs s.out s.code = B at *
  generalize nextS l s = E at *
  by_cases h3 : E.kind = 3
  ·have he := q2 h3
   clear q1 q2 q3
   obtain ⟨ek, ep, ev⟩ := e
   obtain ⟨Ek, Ep, Ev⟩ := E
   simp only at he h3
   subst he
   subst h3
   simp only [tEv, tSta, stR, sSta, stS] at e1 e2 e3 e4 e5 e6 e7 e8 e9
   simp -implicitDefEqProofs (maxSteps := 10000000) [own1, e0, e1, e2, e3, e4, e5, e7, e8, e9, flat75, eq75, evB_self, tkl, w1, w2]
  ·have he := q1 h3
   clear q1 q2 q3
   subst he
   obtain ⟨ek, ep, ev⟩ := e
   simp only at h3
   simp only [tEv, tSta, stR, sSta, stS] at e1 e2 e3 e4 e5 e6 e7 e8 e9
   simp -implicitDefEqProofs (maxSteps := 10000000) [own1, e0, e1, e2, e3, e4, e5, e7, e8, e9, h3, flat75, eq75, evB_self, tkl, w1, w2]
theorem law_FnOnly (bs : List Int) (hb : (∀ n ∈ bs, 0 ≤ n ∧ n ≤ 255) ∧ bs.length ≤ maxLen) : ∃ k xs, M.run k 3 [.c (.r 5 bs.length (octT bs))] = some ([.c (.v (.bool true))], xs) :=
 ⟨_, _, run_FnOnly (Nat.le_refl _) bs (by have := hb.2; unfold maxLen at this; omega)⟩
end Go.Proofs.Ytninncdacekfgaa.VM
