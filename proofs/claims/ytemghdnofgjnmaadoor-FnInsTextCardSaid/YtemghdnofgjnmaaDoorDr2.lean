/- Draws: instructions: reckoned. -/
import Derived.Test.YtemghdnofgjnmaaDoorDr1
namespace Go.Proofs.YtemghdnofgjnmaaDoor.VM
open Go Go.Proofs
set_option linter.unusedSimpArgs false
set_option linter.unusedVariables false
set_option maxRecDepth 100000
set_option maxHeartbeats 8000000
def curT (bs : List Int) (i : Nat) (h : Int) : A := .box 64 [.r 5 bs.length (octT bs), .v (.int .i64 i), .v (.int .i64 h)]
theorem belowF_bs (c : Cu) (n : Int) : (belowF c n).2.bs = c.bs := by unfold belowF; split; rfl; split <;> rfl
theorem below_ex {bs : List Int} {i : Nat} {h : Int} (ok : CuOk ⟨bs, i, h⟩) (n : Int) : ∃ (v : Int) (i' : Nat) (h' : Int), CuOk ⟨bs, i', h'⟩ ∧ (n ≤ 0 → v = 0) ∧ (0 < n → 0 ≤ v ∧ v < n) ∧ ∀ j, M.run (j + 2) 33 [curT bs i h, .c (.v (.int .i64 n))] = some ([.c (.v (.int .i64 v))], [curT bs i' h', .c (.v (.int .i64 n))]) := by
  have e := fun j => run_l1Below (j := j) ⟨bs, i, h⟩ ok n
  have k := belowF_ok ok n
  have b := belowF_bs ⟨bs, i, h⟩ n
  have z : n ≤ 0 → (belowF ⟨bs, i, h⟩ n).1 = 0 := fun hn => by rw [belowF_zero _ hn]
  have l := fun hn => belowF_le ⟨bs, i, h⟩ (n := n) hn
  generalize belowF ⟨bs, i, h⟩ n = D at *
  obtain ⟨v, ⟨bs', i', h'⟩⟩ := D
  simp only at b
  subst b
  exact ⟨v, i', h', k, z, l, e⟩
theorem once_ex {bs : List Int} {i : Nat} {h : Int} (ok : CuOk ⟨bs, i, h⟩) (n : Int) : ∃ (v : Bool) (i' : Nat) (h' : Int), CuOk ⟨bs, i', h'⟩ ∧ ∀ j, M.run (j + 3) 24 [curT bs i h, .c (.v (.int .i64 n))] = some ([.c (.v (.bool v))], [curT bs i' h', .c (.v (.int .i64 n))]) := by
  have e := fun j => run_l1Once (j := j) ⟨bs, i, h⟩ ok n
  have k := belowF_ok ok n
  have b := belowF_bs ⟨bs, i, h⟩ n
  generalize belowF ⟨bs, i, h⟩ n = D at *
  obtain ⟨v, ⟨bs', i', h'⟩⟩ := D
  simp only at b
  subst b
  exact ⟨_, i', h', k, e⟩
theorem pick_ex {bs : List Int} {i : Nat} {h : Int} (ok : CuOk ⟨bs, i, h⟩) (l : List Int) (hl : 0 < l.length ∧ l.length ≤ 256) : ∃ (v : Int) (i' : Nat) (h' : Int), CuOk ⟨bs, i', h'⟩ ∧ v ∈ l ∧ ∀ j, M.run (j + 3) 38 [curT bs i h, .c (.r 3 l.length (ints l))] = some ([.c (.v (.int .i64 v))], [curT bs i' h', .c (.r 3 l.length (ints l))]) := by
  have e := fun j => run_l1PickInt (j := j) ⟨bs, i, h⟩ ok l hl
  have k := belowF_ok ok l.length
  have b := belowF_bs ⟨bs, i, h⟩ l.length
  have le := belowF_le ⟨bs, i, h⟩ (n := l.length) (by omega)
  generalize belowF ⟨bs, i, h⟩ l.length = D at *
  obtain ⟨v, ⟨bs', i', h'⟩⟩ := D
  simp only at b le e
  subst b
  have hm : v.toNat < l.length := by omega
  refine ⟨_, i', h', k, ?_, e⟩
  rw [List.getElem?_eq_getElem hm]
  exact List.getElem_mem hm
def smI (x : Int) : Prop := -2000000000 ≤ x ∧ x ≤ 2000000000
def insSm (x : Ins) : Prop := smI x.op ∧ smI x.r ∧ smI x.a ∧ smI x.b ∧ smI x.n

theorem drawIns_ex {bs : List Int} {i : Nat} {h : Int} (ok : CuOk ⟨bs, i, h⟩) (places procs : Int) (hp : places ≤ 1000) (hq : procs ≤ 1000) : ∃ (x : Ins) (i' : Nat) (h' : Int), CuOk ⟨bs, i', h'⟩ ∧ insSm x ∧ ∀ j, M.run (j + 4) 23 [curT bs i h, .c (.v (.int .i64 places)), .c (.v (.int .i64 procs))] = some ([.agg (tIns x)], [curT bs i' h', .c (.v (.int .i64 places)), .c (.v (.int .i64 procs))]) := by
  obtain ⟨r, i1, h1, k1, _, l1, e1⟩ := below_ex ok 4
  obtain ⟨a, i2, h2, k2, _, l2, e2⟩ := below_ex k1 4
  obtain ⟨b, i3, h3, k3, _, l3, e3⟩ := below_ex k2 4
  obtain ⟨v, i4, h4, k4, _, l4, e4⟩ := below_ex k3 14
  have l1 := l1 (by omega)
  have l2 := l2 (by omega)
  have l3 := l3 (by omega)
  have l4 := l4 (by omega)
  have hv : v = 0 ∨ v = 1 ∨ v = 2 ∨ v = 3 ∨ v = 4 ∨ v = 5 ∨ v = 6 ∨ v = 7 ∨ v = 8 ∨ v = 9 ∨ v = 10 ∨ v = 11 ∨ v = 12 ∨ v = 13 := by omega
  rcases hv with rfl | rfl | rfl | rfl | rfl | rfl | rfl | rfl | rfl | rfl | rfl | rfl | rfl | rfl
  · obtain ⟨n, i5, h5, k5, _, l5, e5⟩ := below_ex k4 9
    have l5 := l5 (by omega)
    refine ⟨⟨1, r, 0, 0, n - 2⟩, i5, h5, k5, by simp only [insSm, smI]; omega, fun j => ?_⟩
    rw [m_run (fn := Tryd.f23) (i0 := 0) rfl Tryd.func23 rfl rfl (by simp [curT])]
    have e1 := e1 (j + 1)
    have e2 := e2 (j + 1)
    have e3 := e3 (j + 1)
    have e4 := e4 (j + 1)
    have e5 := e5 (j + 1)
    simp only [curT] at e1 e2 e3 e4 e5 ⊢
    simp -implicitDefEqProofs [own1, e1, e2, e3, e4, e5, w64 (x := n - 2) (by omega), tIns]
  · obtain ⟨n, i5, h5, k5, _, l5, e5⟩ := below_ex k4 9
    have l5 := l5 (by omega)
    refine ⟨⟨1, r, 0, 0, n - 2⟩, i5, h5, k5, by simp only [insSm, smI]; omega, fun j => ?_⟩
    rw [m_run (fn := Tryd.f23) (i0 := 0) rfl Tryd.func23 rfl rfl (by simp [curT])]
    have e1 := e1 (j + 1)
    have e2 := e2 (j + 1)
    have e3 := e3 (j + 1)
    have e4 := e4 (j + 1)
    have e5 := e5 (j + 1)
    simp only [curT] at e1 e2 e3 e4 e5 ⊢
    simp -implicitDefEqProofs [own1, e1, e2, e3, e4, e5, w64 (x := n - 2) (by omega), tIns]
  · obtain ⟨n, i5, h5, k5, _, l5, e5⟩ := below_ex k4 4
    have l5 := l5 (by omega)
    refine ⟨⟨2 + n, r, a, b, 0⟩, i5, h5, k5, by simp only [insSm, smI]; omega, fun j => ?_⟩
    rw [m_run (fn := Tryd.f23) (i0 := 0) rfl Tryd.func23 rfl rfl (by simp [curT])]
    have e1 := e1 (j + 1)
    have e2 := e2 (j + 1)
    have e3 := e3 (j + 1)
    have e4 := e4 (j + 1)
    have e5 := e5 (j + 1)
    simp only [curT] at e1 e2 e3 e4 e5 ⊢
    simp -implicitDefEqProofs [own1, e1, e2, e3, e4, e5, w64 (x := 2 + n) (by omega), tIns]
  · obtain ⟨n, i5, h5, k5, _, l5, e5⟩ := below_ex k4 4
    have l5 := l5 (by omega)
    refine ⟨⟨2 + n, r, a, b, 0⟩, i5, h5, k5, by simp only [insSm, smI]; omega, fun j => ?_⟩
    rw [m_run (fn := Tryd.f23) (i0 := 0) rfl Tryd.func23 rfl rfl (by simp [curT])]
    have e1 := e1 (j + 1)
    have e2 := e2 (j + 1)
    have e3 := e3 (j + 1)
    have e4 := e4 (j + 1)
    have e5 := e5 (j + 1)
    simp only [curT] at e1 e2 e3 e4 e5 ⊢
    simp -implicitDefEqProofs [own1, e1, e2, e3, e4, e5, w64 (x := 2 + n) (by omega), tIns]
  · obtain ⟨n, i5, h5, k5, z5, l5, e5⟩ := below_ex k4 procs
    have l5 : 0 ≤ n ∧ n ≤ 1000 := by by_cases hz : procs ≤ 0; (have := z5 hz; omega); (have := l5 (by omega); omega)
    refine ⟨⟨6, 0, a, 0, n⟩, i5, h5, k5, by simp only [insSm, smI]; omega, fun j => ?_⟩
    rw [m_run (fn := Tryd.f23) (i0 := 0) rfl Tryd.func23 rfl rfl (by simp [curT])]
    have e1 := e1 (j + 1)
    have e2 := e2 (j + 1)
    have e3 := e3 (j + 1)
    have e4 := e4 (j + 1)
    have e5 := e5 (j + 1)
    simp only [curT] at e1 e2 e3 e4 e5 ⊢
    simp -implicitDefEqProofs [own1, e1, e2, e3, e4, e5, tIns]
  · obtain ⟨n, i5, h5, k5, z5, l5, e5⟩ := below_ex k4 procs
    have l5 : 0 ≤ n ∧ n ≤ 1000 := by by_cases hz : procs ≤ 0; (have := z5 hz; omega); (have := l5 (by omega); omega)
    refine ⟨⟨6, 0, a, 0, n⟩, i5, h5, k5, by simp only [insSm, smI]; omega, fun j => ?_⟩
    rw [m_run (fn := Tryd.f23) (i0 := 0) rfl Tryd.func23 rfl rfl (by simp [curT])]
    have e1 := e1 (j + 1)
    have e2 := e2 (j + 1)
    have e3 := e3 (j + 1)
    have e4 := e4 (j + 1)
    have e5 := e5 (j + 1)
    simp only [curT] at e1 e2 e3 e4 e5 ⊢
    simp -implicitDefEqProofs [own1, e1, e2, e3, e4, e5, tIns]
  · obtain ⟨n, i5, h5, k5, z5, l5, e5⟩ := below_ex k4 procs
    have l5 : 0 ≤ n ∧ n ≤ 1000 := by by_cases hz : procs ≤ 0; (have := z5 hz; omega); (have := l5 (by omega); omega)
    refine ⟨⟨6, 0, a, 0, n⟩, i5, h5, k5, by simp only [insSm, smI]; omega, fun j => ?_⟩
    rw [m_run (fn := Tryd.f23) (i0 := 0) rfl Tryd.func23 rfl rfl (by simp [curT])]
    have e1 := e1 (j + 1)
    have e2 := e2 (j + 1)
    have e3 := e3 (j + 1)
    have e4 := e4 (j + 1)
    have e5 := e5 (j + 1)
    simp only [curT] at e1 e2 e3 e4 e5 ⊢
    simp -implicitDefEqProofs [own1, e1, e2, e3, e4, e5, tIns]
  · obtain ⟨t, i5, h5, k5, e5⟩ := once_ex k4 2
    cases t
    · obtain ⟨n, i6, h6, k6, z6, l6, e6⟩ := below_ex k5 procs
      have l6 : 0 ≤ n ∧ n ≤ 1000 := by by_cases hz : procs ≤ 0; (have := z6 hz; omega); (have := l6 (by omega); omega)
      refine ⟨⟨7, r, 0, 0, n⟩, i6, h6, k6, by simp only [insSm, smI]; omega, fun j => ?_⟩
      rw [m_run (fn := Tryd.f23) (i0 := 0) rfl Tryd.func23 rfl rfl (by simp [curT])]
      have e1 := e1 (j + 1)
      have e2 := e2 (j + 1)
      have e3 := e3 (j + 1)
      have e4 := e4 (j + 1)
      have e5 := e5 j
      have e6 := e6 (j + 1)
      simp only [curT] at e1 e2 e3 e4 e5 e6 ⊢
      simp -implicitDefEqProofs [own1, e1, e2, e3, e4, e5, e6, tIns]
    · skip
      refine ⟨⟨7, r, 0, 0, 9⟩, i5, h5, k5, by simp only [insSm, smI]; omega, fun j => ?_⟩
      rw [m_run (fn := Tryd.f23) (i0 := 0) rfl Tryd.func23 rfl rfl (by simp [curT])]
      have e1 := e1 (j + 1)
      have e2 := e2 (j + 1)
      have e3 := e3 (j + 1)
      have e4 := e4 (j + 1)
      have e5 := e5 j
      simp only [curT] at e1 e2 e3 e4 e5 ⊢
      simp -implicitDefEqProofs [own1, e1, e2, e3, e4, e5, tIns]
  · obtain ⟨t, i5, h5, k5, e5⟩ := once_ex k4 2
    cases t
    · obtain ⟨n, i6, h6, k6, z6, l6, e6⟩ := below_ex k5 procs
      have l6 : 0 ≤ n ∧ n ≤ 1000 := by by_cases hz : procs ≤ 0; (have := z6 hz; omega); (have := l6 (by omega); omega)
      refine ⟨⟨7, r, 0, 0, n⟩, i6, h6, k6, by simp only [insSm, smI]; omega, fun j => ?_⟩
      rw [m_run (fn := Tryd.f23) (i0 := 0) rfl Tryd.func23 rfl rfl (by simp [curT])]
      have e1 := e1 (j + 1)
      have e2 := e2 (j + 1)
      have e3 := e3 (j + 1)
      have e4 := e4 (j + 1)
      have e5 := e5 j
      have e6 := e6 (j + 1)
      simp only [curT] at e1 e2 e3 e4 e5 e6 ⊢
      simp -implicitDefEqProofs [own1, e1, e2, e3, e4, e5, e6, tIns]
    · skip
      refine ⟨⟨7, r, 0, 0, 9⟩, i5, h5, k5, by simp only [insSm, smI]; omega, fun j => ?_⟩
      rw [m_run (fn := Tryd.f23) (i0 := 0) rfl Tryd.func23 rfl rfl (by simp [curT])]
      have e1 := e1 (j + 1)
      have e2 := e2 (j + 1)
      have e3 := e3 (j + 1)
      have e4 := e4 (j + 1)
      have e5 := e5 j
      simp only [curT] at e1 e2 e3 e4 e5 ⊢
      simp -implicitDefEqProofs [own1, e1, e2, e3, e4, e5, tIns]
  · obtain ⟨t, i5, h5, k5, e5⟩ := once_ex k4 2
    cases t
    · obtain ⟨n, i6, h6, k6, z6, l6, e6⟩ := below_ex k5 procs
      have l6 : 0 ≤ n ∧ n ≤ 1000 := by by_cases hz : procs ≤ 0; (have := z6 hz; omega); (have := l6 (by omega); omega)
      refine ⟨⟨7, r, 0, 0, n⟩, i6, h6, k6, by simp only [insSm, smI]; omega, fun j => ?_⟩
      rw [m_run (fn := Tryd.f23) (i0 := 0) rfl Tryd.func23 rfl rfl (by simp [curT])]
      have e1 := e1 (j + 1)
      have e2 := e2 (j + 1)
      have e3 := e3 (j + 1)
      have e4 := e4 (j + 1)
      have e5 := e5 j
      have e6 := e6 (j + 1)
      simp only [curT] at e1 e2 e3 e4 e5 e6 ⊢
      simp -implicitDefEqProofs [own1, e1, e2, e3, e4, e5, e6, tIns]
    · skip
      refine ⟨⟨7, r, 0, 0, 9⟩, i5, h5, k5, by simp only [insSm, smI]; omega, fun j => ?_⟩
      rw [m_run (fn := Tryd.f23) (i0 := 0) rfl Tryd.func23 rfl rfl (by simp [curT])]
      have e1 := e1 (j + 1)
      have e2 := e2 (j + 1)
      have e3 := e3 (j + 1)
      have e4 := e4 (j + 1)
      have e5 := e5 j
      simp only [curT] at e1 e2 e3 e4 e5 ⊢
      simp -implicitDefEqProofs [own1, e1, e2, e3, e4, e5, tIns]
  · skip
    refine ⟨⟨8, 0, a, 0, 0⟩, i4, h4, k4, by simp only [insSm, smI]; omega, fun j => ?_⟩
    rw [m_run (fn := Tryd.f23) (i0 := 0) rfl Tryd.func23 rfl rfl (by simp [curT])]
    have e1 := e1 (j + 1)
    have e2 := e2 (j + 1)
    have e3 := e3 (j + 1)
    have e4 := e4 (j + 1)
    simp only [curT] at e1 e2 e3 e4 ⊢
    simp -implicitDefEqProofs [own1, e1, e2, e3, e4, tIns]
  · obtain ⟨n, i5, h5, k5, z5, l5, e5⟩ := below_ex k4 places
    have l5 : 0 ≤ n ∧ n ≤ 1000 := by by_cases hz : places ≤ 0; (have := z5 hz; omega); (have := l5 (by omega); omega)
    refine ⟨⟨9, 0, 0, 0, n⟩, i5, h5, k5, by simp only [insSm, smI]; omega, fun j => ?_⟩
    rw [m_run (fn := Tryd.f23) (i0 := 0) rfl Tryd.func23 rfl rfl (by simp [curT])]
    have e1 := e1 (j + 1)
    have e2 := e2 (j + 1)
    have e3 := e3 (j + 1)
    have e4 := e4 (j + 1)
    have e5 := e5 (j + 1)
    simp only [curT] at e1 e2 e3 e4 e5 ⊢
    simp -implicitDefEqProofs [own1, e1, e2, e3, e4, e5, tIns]
  · obtain ⟨n, i5, h5, k5, z5, l5, e5⟩ := below_ex k4 places
    have l5 : 0 ≤ n ∧ n ≤ 1000 := by by_cases hz : places ≤ 0; (have := z5 hz; omega); (have := l5 (by omega); omega)
    refine ⟨⟨10, 0, a, 0, n⟩, i5, h5, k5, by simp only [insSm, smI]; omega, fun j => ?_⟩
    rw [m_run (fn := Tryd.f23) (i0 := 0) rfl Tryd.func23 rfl rfl (by simp [curT])]
    have e1 := e1 (j + 1)
    have e2 := e2 (j + 1)
    have e3 := e3 (j + 1)
    have e4 := e4 (j + 1)
    have e5 := e5 (j + 1)
    simp only [curT] at e1 e2 e3 e4 e5 ⊢
    simp -implicitDefEqProofs [own1, e1, e2, e3, e4, e5, tIns]
  · skip
    refine ⟨⟨8, 0, a, 0, 0⟩, i4, h4, k4, by simp only [insSm, smI]; omega, fun j => ?_⟩
    rw [m_run (fn := Tryd.f23) (i0 := 0) rfl Tryd.func23 rfl rfl (by simp [curT])]
    have e1 := e1 (j + 1)
    have e2 := e2 (j + 1)
    have e3 := e3 (j + 1)
    have e4 := e4 (j + 1)
    simp only [curT] at e1 e2 e3 e4 ⊢
    simp -implicitDefEqProofs [own1, e1, e2, e3, e4, tIns]
theorem spoil_ex {bs : List Int} {i : Nat} {h : Int} (ok : CuOk ⟨bs, i, h⟩) (x : Ins) (hx : insSm x) : ∃ (y : Ins) (i' : Nat) (h' : Int), CuOk ⟨bs, i', h'⟩ ∧ insSm y ∧ ∀ j, M.run (j + 4) 25 [curT bs i h, .agg (tIns x)] = some ([.agg (tIns y)], [curT bs i' h', .agg (tIns x)]) := by
  obtain ⟨v, i1, h1, k1, _, l1, e1⟩ := below_ex ok 8
  have l1 := l1 (by omega)
  have hv : v = 0 ∨ v = 1 ∨ v = 2 ∨ v = 3 ∨ v = 4 ∨ v = 5 ∨ v = 6 ∨ v = 7 := by omega
  obtain ⟨op, r, a, b, n⟩ := x
  obtain ⟨x1, x2, x3, x4, x5⟩ := hx
  unfold smI at x1 x2 x3 x4 x5
  simp only at x1 x2 x3 x4 x5
  rcases hv with rfl | rfl | rfl | rfl | rfl | rfl | rfl | rfl
  · obtain ⟨m, i2, h2, k2, _, l2, e2⟩ := below_ex k1 14
    have l2 := l2 (by omega)
    refine ⟨⟨m - 1, r, a, b, n⟩, i2, h2, k2, by simp only [insSm, smI]; omega, fun j => ?_⟩
    rw [m_run (fn := Tryd.f25) (i0 := 0) rfl Tryd.func25 rfl rfl (by simp [curT, tIns])]
    have e1 := e1 (j + 1)
    have e2 := e2 (j + 1)
    simp only [curT] at e1 e2 ⊢
    simp -implicitDefEqProofs [own1, e1, e2, tIns, w64 (x := m - 1) (by omega)]
  · obtain ⟨m, i2, h2, k2, _, l2, e2⟩ := below_ex k1 6
    have l2 := l2 (by omega)
    refine ⟨⟨op, m - 1, a, b, n⟩, i2, h2, k2, by simp only [insSm, smI]; omega, fun j => ?_⟩
    rw [m_run (fn := Tryd.f25) (i0 := 0) rfl Tryd.func25 rfl rfl (by simp [curT, tIns])]
    have e1 := e1 (j + 1)
    have e2 := e2 (j + 1)
    simp only [curT] at e1 e2 ⊢
    simp -implicitDefEqProofs [own1, e1, e2, tIns, w64 (x := m - 1) (by omega)]
  · obtain ⟨m, i2, h2, k2, _, l2, e2⟩ := below_ex k1 6
    have l2 := l2 (by omega)
    refine ⟨⟨op, r, m - 1, b, n⟩, i2, h2, k2, by simp only [insSm, smI]; omega, fun j => ?_⟩
    rw [m_run (fn := Tryd.f25) (i0 := 0) rfl Tryd.func25 rfl rfl (by simp [curT, tIns])]
    have e1 := e1 (j + 1)
    have e2 := e2 (j + 1)
    simp only [curT] at e1 e2 ⊢
    simp -implicitDefEqProofs [own1, e1, e2, tIns, w64 (x := m - 1) (by omega)]
  · obtain ⟨m, i2, h2, k2, _, l2, e2⟩ := below_ex k1 6
    have l2 := l2 (by omega)
    refine ⟨⟨op, r, a, m - 1, n⟩, i2, h2, k2, by simp only [insSm, smI]; omega, fun j => ?_⟩
    rw [m_run (fn := Tryd.f25) (i0 := 0) rfl Tryd.func25 rfl rfl (by simp [curT, tIns])]
    have e1 := e1 (j + 1)
    have e2 := e2 (j + 1)
    simp only [curT] at e1 e2 ⊢
    simp -implicitDefEqProofs [own1, e1, e2, tIns, w64 (x := m - 1) (by omega)]
  · obtain ⟨m, i2, h2, k2, hm, e2⟩ := pick_ex k1 [-1, 0, 3, 4, 9, 29, 30, 1000000000, 1000000001] (by simp)
    have hm' : -1 ≤ m ∧ m ≤ 1000000001 := by
      simp only [List.mem_cons, List.not_mem_nil, or_false] at hm
      omega
    refine ⟨⟨op, r, a, b, m⟩, i2, h2, k2, by simp only [insSm, smI]; omega, fun j => ?_⟩
    rw [m_run (fn := Tryd.f25) (i0 := 0) rfl Tryd.func25 rfl rfl (by simp [curT, tIns])]
    have e1 := e1 (j + 1)
    have e2 := e2 j
    simp only [curT] at e1 e2 ⊢
    simp -implicitDefEqProofs [ints] at e2
    simp -implicitDefEqProofs [own1, e1, e2, tIns, ros]
  · refine ⟨⟨op, r, a, b, n⟩, i1, h1, k1, by simp only [insSm, smI]; omega, fun j => ?_⟩
    rw [m_run (fn := Tryd.f25) (i0 := 0) rfl Tryd.func25 rfl rfl (by simp [curT, tIns])]
    have e1 := e1 (j + 1)
    simp only [curT] at e1 ⊢
    simp -implicitDefEqProofs [own1, e1, tIns]
  · refine ⟨⟨op, r, a, b, n⟩, i1, h1, k1, by simp only [insSm, smI]; omega, fun j => ?_⟩
    rw [m_run (fn := Tryd.f25) (i0 := 0) rfl Tryd.func25 rfl rfl (by simp [curT, tIns])]
    have e1 := e1 (j + 1)
    simp only [curT] at e1 ⊢
    simp -implicitDefEqProofs [own1, e1, tIns]
  · refine ⟨⟨op, r, a, b, n⟩, i1, h1, k1, by simp only [insSm, smI]; omega, fun j => ?_⟩
    rw [m_run (fn := Tryd.f25) (i0 := 0) rfl Tryd.func25 rfl rfl (by simp [curT, tIns])]
    have e1 := e1 (j + 1)
    simp only [curT] at e1 ⊢
    simp -implicitDefEqProofs [own1, e1, tIns]
end Go.Proofs.YtemghdnofgjnmaaDoor.VM
