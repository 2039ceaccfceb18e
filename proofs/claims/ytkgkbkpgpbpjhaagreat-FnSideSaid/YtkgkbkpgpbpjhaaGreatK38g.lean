/- Draws of events: reckoned. -/
import Derived.Test.YtkgkbkpgpbpjhaaGreatK37g
set_option linter.unusedSimpArgs false
set_option linter.unusedVariables false
set_option maxRecDepth 100000
set_option maxHeartbeats 40000000
namespace Go.Proofs.YtkgkbkpgpbpjhaaGreat.VM
open Go Go.Proofs
theorem drawEvent_ex (bs : List Int) (i : Nat) (h : Int) (ok : CuOk ⟨bs, i, h⟩) (S : Sy) (T : Tiny S) : ∃ (p x : Int) (i' : Nat) (h' : Int), CuOk ⟨bs, i', h'⟩ ∧ (-1 ≤ p ∧ p ≤ 4) ∧ (-1 ≤ x ∧ x ≤ 1000) ∧ ∀ j, M.run (j + 4) 198 [curT bs i h, .agg (syR S)] = some ([.c (.v (.int .i64 p)), .c (.v (.int .i64 x))], [curT bs i' h', .agg (syR S)]) := by
 obtain ⟨n, hn⟩ : ∃ n : Nat, max (S.progs.length : Int) 1 = n := ⟨(max (S.progs.length : Int) 1).toNat, by omega⟩
 have n4 := T.n4
 have h4 := T.hi
 have e0 : ∀ j, M.run (j + 1) 162 [.c (.v (.int .i64 S.progs.length)), .c (.v (.int .i64 1))] = some ([.c (.v (.int .i64 n))], [.c (.v (.int .i64 S.progs.length)), .c (.v (.int .i64 1))]) := fun j => by
  rw [run_maxN, hn]
 obtain ⟨p0, i1, h1, k1, _, lp, e1⟩ := below_ex ok n
 have lp := lp (by omega)
 obtain ⟨b, i2, h2, k2, e2⟩ := once_ex k1 20
 obtain ⟨p, i3, h3, k3, hp, Q⟩ : ∃ (p : Int) (i3 : Nat) (h3 : Int), CuOk ⟨bs, i3, h3⟩ ∧ (-1 ≤ p ∧ p ≤ 4) ∧ ((b = false ∧ p = p0 ∧ i3 = i2 ∧ h3 = h2) ∨ (b = true ∧ ∀ j, M.run (j + 3) 85 [curT bs i2 h2, .c (.r 3 2 (ints [-1, 4]))] = some ([.c (.v (.int .i64 p))], [curT bs i3 h3, .c (.r 3 2 (ints [-1, 4]))]))) := by
  cases b
  ·exact ⟨p0, i2, h2, k2, by omega, .inl ⟨rfl, rfl, rfl, rfl⟩⟩
  ·obtain ⟨v, i3, h3, k3, hv, e3⟩ := pick_ex k2 [-1, 4] (by simp)
   simp only [List.mem_cons, List.not_mem_nil, or_false] at hv
   exact ⟨v, i3, h3, k3, by omega, .inr ⟨rfl, e3⟩⟩
 have w := w64 (x := (S.hist.length : Int) - 1) (by omega)
 cases hq : inB p 0 ((S.hist.length : Int) - 1)
 ·obtain ⟨v, i4, h4', k4, _, lv, e4⟩ := below_ex k3 1
  obtain ⟨u, i5, h5, k5, _, lu, e5⟩ := below_ex k4 20
  have lv := lv (by omega)
  have lu := lu (by omega)
  have hu : 0 ≤ Int.tdiv u 19 ∧ Int.tdiv u 19 ≤ 1 := by
   rw [Int.tdiv_eq_ediv_of_nonneg (by omega)]
   omega
  refine ⟨p, v - Int.tdiv u 19, i5, h5, k5, hp, by omega, fun j => ?_⟩
  have e0 := e0 (j + 2)
  have e1 := e1 (j + 1)
  have e2 := e2 j
  have e4 := e4 (j + 1)
  have e5 := e5 (j + 1)
  rw [m_run (fn := Tryz.f198) (i0 := 0) rfl Tryz.func198 rfl rfl (by simp [curT, syR])]
  rcases Q with ⟨rfl, rfl, rfl, rfl⟩ | ⟨rfl, e3⟩
  ·simp only [curT, syR] at e1 e2 e4 e5 ⊢
   simp -implicitDefEqProofs [own1, e0, e1, e2, e4, e5, run61, w, hq, w64 (x := Int.tdiv u 19) (by omega), w64 (x := v - Int.tdiv u 19) (by omega)]
  ·have e3 := e3 j
   simp only [curT, syR] at e1 e2 e3 e4 e5 ⊢
   simp -implicitDefEqProofs [ints] at e3
   simp -implicitDefEqProofs [own1, e0, e1, e2, e3, e4, e5, ros, run61, w, hq, w64 (x := Int.tdiv u 19) (by omega), w64 (x := v - Int.tdiv u 19) (by omega)]
 ·obtain ⟨m, rfl, hm⟩ := inB_nat hq
  have ev := T.ev _ (List.getElem_mem hm)
  obtain ⟨v, i4, h4', k4, _, lv, e4⟩ := below_ex k3 ((S.hist[m].length : Int) + 1)
  obtain ⟨u, i5, h5, k5, _, lu, e5⟩ := below_ex k4 20
  have lv := lv (by omega)
  have lu := lu (by omega)
  have hu : 0 ≤ Int.tdiv u 19 ∧ Int.tdiv u 19 ≤ 1 := by
   rw [Int.tdiv_eq_ediv_of_nonneg (by omega)]
   omega
  refine ⟨m, v - Int.tdiv u 19, i5, h5, k5, hp, by omega, fun j => ?_⟩
  have e0 := e0 (j + 2)
  have e1 := e1 (j + 1)
  have e2 := e2 j
  have e4 := e4 (j + 1)
  have e5 := e5 (j + 1)
  rw [m_run (fn := Tryz.f198) (i0 := 0) rfl Tryz.func198 rfl rfl (by simp [curT, syR])]
  rcases Q with ⟨rfl, rfl, rfl, rfl⟩ | ⟨rfl, e3⟩
  ·simp only [curT, syR] at e1 e2 e4 e5 ⊢
   simp -implicitDefEqProofs [own1, e0, e1, e2, e4, e5, run61, w, hq, hm, rEvent_at hm, rEvent, w64 (x := (S.hist[m].length : Int) + 1) (by omega), w64 (x := Int.tdiv u 19) (by omega), w64 (x := v - Int.tdiv u 19) (by omega)]
  ·have e3 := e3 j
   simp only [curT, syR] at e1 e2 e3 e4 e5 ⊢
   simp -implicitDefEqProofs [ints] at e3
   simp -implicitDefEqProofs [own1, e0, e1, e2, e3, e4, e5, ros, run61, w, hq, hm, rEvent_at hm, rEvent, w64 (x := (S.hist[m].length : Int) + 1) (by omega), w64 (x := Int.tdiv u 19) (by omega), w64 (x := v - Int.tdiv u 19) (by omega)]
theorem run_drawClock {j : Nat} (hj : big ≤ j ∧ j ≤ big + 800) (bs : List Int) (hb : bs.length ≤ 1048576) : ∃ (S : Sy) (p x : Int), Tiny S ∧ (-1 ≤ p ∧ p ≤ 4) ∧ (-1 ≤ x ∧ x ≤ 1000) ∧ M.run (j + 14) 57 [.c (.r 5 bs.length (octT bs))] = some ([.agg (syS S), .c (.v (.int .i64 p)), .c (.v (.int .i64 x))], [.c (.r 5 bs.length (octT bs))]) := by
 have e0 := run_new (j := j + 11) hb
 have k0 := new_cur hb
 generalize hashK bs (min bs.length 4000) = h0 at *
 obtain ⟨S, i1, h1, k1, T, e1⟩ := drawSys_ex k0 hb
 obtain ⟨p, x, i2, h2, k2, hp, hx, e2⟩ := drawEvent_ex bs i1 h1 k1 S T
 have e1 := e1 j hj
 have e2 := e2 (j + 8)
 obtain ⟨w1, w2, w3, w4⟩ := takeS S
 have e3 : M.run (j + 13) 131 [.c (.r 5 bs.length (octT bs))] = some ([.agg (syS S), .c (.v (.int .i64 p)), .c (.v (.int .i64 x))], [.c (.r 5 bs.length (octT bs))]) := by
  rw [m_run (fn := Tryz.f131) (i0 := 0) rfl Tryz.func131 rfl rfl (by simp)]
  simp only [curT, z0, syS, syR] at e1 e2 ⊢
  simp -implicitDefEqProofs (maxSteps := 10000000) [own1, St.make, maker, e0, e1, e2, w1, w2, w3, w4, -List.map_take]
 refine ⟨S, p, x, T, hp, hx, ?_⟩
 rw [m_run (fn := Tryz.f57) (i0 := 0) rfl Tryz.func57 rfl rfl (by simp)]
 simp only [syS] at e3 ⊢
 simp -implicitDefEqProofs (maxSteps := 10000000) [own1, e3, w1, w2, w3, w4, -List.map_take]
theorem run_drawTwo {j : Nat} (hj : big ≤ j ∧ j ≤ big + 800) (bs : List Int) (hb : bs.length ≤ 1048576) : ∃ (S : Sy) (p x q y : Int), Tiny S ∧ (-1 ≤ p ∧ p ≤ 4) ∧ (-1 ≤ x ∧ x ≤ 1000) ∧ (-1 ≤ q ∧ q ≤ 4) ∧ (-1 ≤ y ∧ y ≤ 1000) ∧ M.run (j + 13) 136 [.c (.r 5 bs.length (octT bs))] = some ([.agg (syS S), .c (.v (.int .i64 p)), .c (.v (.int .i64 x)), .c (.v (.int .i64 q)), .c (.v (.int .i64 y))], [.c (.r 5 bs.length (octT bs))]) := by
 have e0 := run_new (j := j + 11) hb
 have k0 := new_cur hb
 generalize hashK bs (min bs.length 4000) = h0 at *
 obtain ⟨S, i1, h1, k1, T, e1⟩ := drawSys_ex k0 hb
 obtain ⟨p, x, i2, h2, k2, hp, hx, e2⟩ := drawEvent_ex bs i1 h1 k1 S T
 obtain ⟨q, y, i3, h3, k3, hq, hy, e3⟩ := drawEvent_ex bs i2 h2 k2 S T
 have e1 := e1 j hj
 have e2 := e2 (j + 8)
 have e3 := e3 (j + 8)
 obtain ⟨w1, w2, w3, w4⟩ := takeS S
 refine ⟨S, p, x, q, y, T, hp, hx, hq, hy, ?_⟩
 rw [m_run (fn := Tryz.f136) (i0 := 0) rfl Tryz.func136 rfl rfl (by simp)]
 simp only [curT, z0, syS, syR] at e1 e2 e3 ⊢
 simp -implicitDefEqProofs (maxSteps := 10000000) [own1, St.make, maker, e0, e1, e2, e3, w1, w2, w3, w4, -List.map_take]
theorem run_drawHangs {j : Nat} (hj : big ≤ j ∧ j ≤ big + 800) (bs : List Int) (hb : bs.length ≤ 1048576) : ∃ (S : Sy) (p x q y : Int), Tiny S ∧ (-1 ≤ p ∧ p ≤ 4) ∧ (-1 ≤ x ∧ x ≤ 1000) ∧ (-1 ≤ q ∧ q ≤ 4) ∧ (-1 ≤ y ∧ y ≤ 1000) ∧ M.run (j + 14) 62 [.c (.r 5 bs.length (octT bs))] = some ([.agg (syS S), .c (.v (.int .i64 p)), .c (.v (.int .i64 x)), .c (.v (.int .i64 q)), .c (.v (.int .i64 y))], [.c (.r 5 bs.length (octT bs))]) := by
 obtain ⟨S, p, x, q, y, T, hp, hx, hq, hy, e1⟩ := run_drawTwo hj bs hb
 obtain ⟨w1, w2, w3, w4⟩ := takeS S
 refine ⟨S, p, x, q, y, T, hp, hx, hq, hy, ?_⟩
 rw [m_run (fn := Tryz.f62) (i0 := 0) rfl Tryz.func62 rfl rfl (by simp)]
 simp only [syS] at e1 ⊢
 simp -implicitDefEqProofs (maxSteps := 10000000) [own1, e1, w1, w2, w3, w4, -List.map_take]
theorem run_drawSide {j : Nat} (hj : big ≤ j ∧ j ≤ big + 800) (bs : List Int) (hb : bs.length ≤ 1048576) : ∃ (S : Sy) (p x q y : Int), Tiny S ∧ (-1 ≤ p ∧ p ≤ 4) ∧ (-1 ≤ x ∧ x ≤ 1000) ∧ (-1 ≤ q ∧ q ≤ 4) ∧ (-1 ≤ y ∧ y ≤ 1000) ∧ M.run (j + 14) 67 [.c (.r 5 bs.length (octT bs))] = some ([.agg (syS S), .c (.v (.int .i64 p)), .c (.v (.int .i64 x)), .c (.v (.int .i64 q)), .c (.v (.int .i64 y))], [.c (.r 5 bs.length (octT bs))]) := by
 obtain ⟨S, p, x, q, y, T, hp, hx, hq, hy, e1⟩ := run_drawTwo hj bs hb
 obtain ⟨w1, w2, w3, w4⟩ := takeS S
 refine ⟨S, p, x, q, y, T, hp, hx, hq, hy, ?_⟩
 rw [m_run (fn := Tryz.f67) (i0 := 0) rfl Tryz.func67 rfl rfl (by simp)]
 simp only [syS] at e1 ⊢
 simp -implicitDefEqProofs (maxSteps := 10000000) [own1, e1, w1, w2, w3, w4, -List.map_take]
end Go.Proofs.YtkgkbkpgpbpjhaaGreat.VM
