/- Draws of systems with something beside them: reckoned. -/
import Derived.Test.YtkgkbkpgpbpjhaaGreatK34f
import Derived.Test.YtkgkbkpgpbpjhaaGreatK26f
set_option linter.unusedSimpArgs false
set_option linter.unusedVariables false
set_option maxRecDepth 100000
set_option maxHeartbeats 40000000
namespace Go.Proofs.YtkgkbkpgpbpjhaaGreat.VM
open Go Go.Proofs
theorem takeS (S : Sy) : (∀ l : List (List Ins), (l.map (sIns 116)).take l.length = l.map (sIns 116)) ∧ (∀ l : List Sta, (ssT l).take (l.length * 4) = ssT l) ∧ (∀ l : List (List Itm), (l.map (sItem 142)).take l.length = l.map (sItem 142)) ∧ (∀ l : List (List Ev), (l.map (sEvent 65)).take l.length = l.map (sEvent 65)) :=
 ⟨fun l => List.take_of_length_le (by simp), fun l => List.take_of_length_le (by rw [ssT_len]; exact Nat.le_refl _), fun l => List.take_of_length_le (by simp), fun l => List.take_of_length_le (by simp)⟩
theorem run_drawStep {j : Nat} (hj : big ≤ j ∧ j ≤ big + 800) (bs : List Int) (hb : bs.length ≤ 1048576) : ∃ (S : Sy) (p q : Int), Tiny S ∧ M.run (j + 13) 19 [.c (.r 5 bs.length (octT bs))] = some ([.agg (syS S), .c (.v (.int .i64 p)), .c (.v (.int .i64 q))], [.c (.r 5 bs.length (octT bs))]) := by
 have e0 := run_new (j := j + 11) hb
 have k0 := new_cur hb
 generalize hashK bs (min bs.length 4000) = h0 at *
 obtain ⟨S, i1, h1, k1, T, e1⟩ := drawSys_ex k0 hb
 obtain ⟨x, i2, h2, k2, e2⟩ := drawPickAt_ex k1 T.small (by have := T.n4; omega)
 obtain ⟨b, i3, h3, k3, e3⟩ := once_ex k2 15
 have e1 := e1 j hj
 have e2 := e2 (j + 3) (by omega)
 have e3 := e3 (j + 9)
 obtain ⟨w1, w2, w3, w4⟩ := takeS S
 cases b
 ·refine ⟨S, x.p, x.peer, T, ?_⟩
  rw [m_run (fn := Tryz.f19) (i0 := 0) rfl Tryz.func19 rfl rfl (by simp)]
  simp only [curT, z0, syS, syR, tPk] at e1 e2 e3 ⊢
  simp -implicitDefEqProofs (maxSteps := 10000000) [own1, St.make, maker, e0, e1, e2, e3, w1, w2, w3, w4, -List.map_take]
 ·obtain ⟨v, i4, h4, k4, _, e4⟩ := pick_ex k3 [-1, 4] (by simp)
  have e4 := e4 (j + 9)
  refine ⟨S, v, x.peer, T, ?_⟩
  rw [m_run (fn := Tryz.f19) (i0 := 0) rfl Tryz.func19 rfl rfl (by simp)]
  simp only [curT, z0, syS, syR, tPk] at e1 e2 e3 e4 ⊢
  simp -implicitDefEqProofs [ints] at e4
  simp -implicitDefEqProofs (maxSteps := 10000000) [own1, St.make, maker, e0, e1, e2, e3, e4, ros, w1, w2, w3, w4, -List.map_take]
theorem run_drawReady {j : Nat} (hj : big ≤ j ∧ j ≤ big + 800) (bs : List Int) (hb : bs.length ≤ 1048576) : ∃ (S : Sy) (p : Int), Tiny S ∧ M.run (j + 13) 31 [.c (.r 5 bs.length (octT bs))] = some ([.agg (syS S), .c (.v (.int .i64 p))], [.c (.r 5 bs.length (octT bs))]) := by
 have e0 := run_new (j := j + 11) hb
 have k0 := new_cur hb
 generalize hashK bs (min bs.length 4000) = h0 at *
 obtain ⟨S, i1, h1, k1, T, e1⟩ := drawSys_ex k0 hb
 obtain ⟨a, i2, h2, k2, _, l2, e2⟩ := below_ex k1 5
 obtain ⟨b, i3, h3, k3, _, l3, e3⟩ := below_ex k2 20
 have l2 := l2 (by omega)
 have l3 := l3 (by omega)
 have hq : 0 ≤ Int.tdiv b 19 ∧ Int.tdiv b 19 ≤ 1 := by
  rw [Int.tdiv_eq_ediv_of_nonneg (by omega)]
  omega
 have e1 := e1 j hj
 have e2 := e2 (j + 10)
 have e3 := e3 (j + 10)
 obtain ⟨w1, w2, w3, w4⟩ := takeS S
 refine ⟨S, a - Int.tdiv b 19, T, ?_⟩
 rw [m_run (fn := Tryz.f31) (i0 := 0) rfl Tryz.func31 rfl rfl (by simp)]
 simp only [curT, z0, syS] at e1 e2 e3 ⊢
 simp -implicitDefEqProofs (maxSteps := 10000000) [own1, St.make, maker, e0, e1, e2, e3, w1, w2, w3, w4, w64 (x := Int.tdiv b 19) (by omega), w64 (x := a - Int.tdiv b 19) (by omega), -List.map_take]
theorem run_drawPrinted {j : Nat} (hj : big ≤ j ∧ j ≤ big + 800) (bs : List Int) (hb : bs.length ≤ 1048576) : ∃ (S : Sy) (p : Int), Tiny S ∧ M.run (j + 13) 42 [.c (.r 5 bs.length (octT bs))] = some ([.agg (syS S), .c (.v (.int .i64 p))], [.c (.r 5 bs.length (octT bs))]) := by
 have e0 := run_new (j := j + 11) hb
 have k0 := new_cur hb
 generalize hashK bs (min bs.length 4000) = h0 at *
 obtain ⟨S, i1, h1, k1, T, e1⟩ := drawSys_ex k0 hb
 obtain ⟨a, i2, h2, k2, _, l2, e2⟩ := below_ex k1 5
 obtain ⟨b, i3, h3, k3, _, l3, e3⟩ := below_ex k2 20
 have l2 := l2 (by omega)
 have l3 := l3 (by omega)
 have hq : 0 ≤ Int.tdiv b 19 ∧ Int.tdiv b 19 ≤ 1 := by
  rw [Int.tdiv_eq_ediv_of_nonneg (by omega)]
  omega
 have e1 := e1 j hj
 have e2 := e2 (j + 10)
 have e3 := e3 (j + 10)
 obtain ⟨w1, w2, w3, w4⟩ := takeS S
 refine ⟨S, a - Int.tdiv b 19, T, ?_⟩
 rw [m_run (fn := Tryz.f42) (i0 := 0) rfl Tryz.func42 rfl rfl (by simp)]
 simp only [curT, z0, syS] at e1 e2 e3 ⊢
 simp -implicitDefEqProofs (maxSteps := 10000000) [own1, St.make, maker, e0, e1, e2, e3, w1, w2, w3, w4, w64 (x := Int.tdiv b 19) (by omega), w64 (x := a - Int.tdiv b 19) (by omega), -List.map_take]
theorem run_drawFair {j : Nat} (hj : big ≤ j ∧ j ≤ big + 800) (bs : List Int) (hb : bs.length ≤ 1048576) : ∃ (S : Sy) (n : Int), Tiny S ∧ (-1 ≤ n ∧ n ≤ 10) ∧ M.run (j + 13) 38 [.c (.r 5 bs.length (octT bs))] = some ([.agg (syS S), .c (.v (.int .i64 n))], [.c (.r 5 bs.length (octT bs))]) := by
 have e0 := run_new (j := j + 11) hb
 have k0 := new_cur hb
 generalize hashK bs (min bs.length 4000) = h0 at *
 obtain ⟨S, i1, h1, k1, T, e1⟩ := drawSys_ex k0 hb
 obtain ⟨a, i2, h2, k2, _, l2, e2⟩ := below_ex k1 12
 have l2 := l2 (by omega)
 have e1 := e1 j hj
 have e2 := e2 (j + 10)
 obtain ⟨w1, w2, w3, w4⟩ := takeS S
 refine ⟨S, a - 1, T, by omega, ?_⟩
 rw [m_run (fn := Tryz.f38) (i0 := 0) rfl Tryz.func38 rfl rfl (by simp)]
 simp only [curT, z0, syS] at e1 e2 ⊢
 simp -implicitDefEqProofs (maxSteps := 10000000) [own1, St.make, maker, e0, e1, e2, w1, w2, w3, w4, w64 (x := a - 1) (by omega), -List.map_take]
end Go.Proofs.YtkgkbkpgpbpjhaaGreat.VM
