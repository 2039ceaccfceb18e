/- Draws: numbers, instructions, programs: reckoned. -/
import Derived.Test.YtninncdacekfgaaK0
import Derived.Test.YtninncdacekfgaaK2
import Derived.Test.YtninncdacekfgaaK8
/- Draws: bytes, numbers below a number: reckoned. -/
namespace Go.Proofs.Ytninncdacekfgaa.VM
open Go Go.Proofs
set_option linter.unusedSimpArgs false
set_option linter.unusedVariables false
set_option maxRecDepth 100000
set_option maxHeartbeats 4000000
attribute [simp] cLink
structure Cu where
 bs : List Int
 i : Nat
 h : Int
def curA (c : Cu) : A := .box 82 [.r 5 c.bs.length (octT c.bs), .v (.int .i64 c.i), .v (.int .i64 c.h)]
structure CuOk (c : Cu) : Prop where
 le : c.i ≤ c.bs.length
 small : c.bs.length ≤ 1048576
def hN (h : Int) : Int := IntKind.i64.wrap (IntKind.i64.wrap (h * 6364136223846793005) + 1442695040888963407)
def byte0 (h : Int) : Int := andI .i64 (xorI .i64 (shrI .i64 h 33) (shrI .i64 h 45)) 255
def Cu.next (c : Cu) : Cu := ⟨c.bs, if c.i < c.bs.length then c.i + 1 else c.i, hN c.h⟩
def Cu.byte (c : Cu) : Int := if c.i < c.bs.length then andI .i64 (IntKind.i64.wrap (byte0 (hN c.h) + IntKind.i64.wrap ((c.bs[c.i]?).getD 0))) 255 else byte0 (hN c.h)
theorem CuOk.next {c : Cu} (h : CuOk c) : CuOk c.next := by
 refine ⟨?_, h.small⟩
 show (if c.i < c.bs.length then c.i + 1 else c.i) ≤ c.bs.length
 have := h.le
 split <;> omega
theorem and255 (x : Int) : 0 ≤ andI .i64 x 255 ∧ andI .i64 x 255 ≤ 255 := by
 unfold andI
 have h : (BitVec.ofInt IntKind.i64.bits x &&& BitVec.ofInt IntKind.i64.bits 255).toNat ≤ 255 := by
  rw [BitVec.toNat_and]
  exact Nat.and_le_right
 rw [w64 (by omega)]
 omega
theorem Cu.byte_le (c : Cu) : 0 ≤ c.byte ∧ c.byte ≤ 255 := by
 unfold Cu.byte
 split
 ·exact and255 _
 ·exact and255 _
@[simp] theorem octT_len (bs : List Int) : (octT bs).length = bs.length := by simp [octT]
@[simp] theorem octT_take (bs : List Int) : (octT bs).take bs.length = octT bs := List.take_of_length_le (by simp)
@[simp] theorem octT_ros : ∀ bs : List Int, ros (octT bs) = octT bs
 | [] => rfl
 | b :: bs => by
  have := octT_ros bs
  unfold octT at this ⊢
  rw [List.map_cons, ros, this]
  rfl
@[simp] theorem octT_v : ∀ bs : List Int, allV (octT bs) = true
 | [] => rfl
 | b :: bs => octT_v bs
theorem oct_at {bs : List Int} {i : Nat} (h : i < bs.length) : (octT bs)[i]? = some (.v (.int .u8 bs[i])) := by
 unfold octT
 rw [List.getElem?_map, List.getElem?_eq_getElem h]
 rfl
theorem oct_get {bs : List Int} {i : Nat} (h : i < bs.length) (h' : i < (octT bs).length) : (octT bs)[i] = .v (.int .u8 bs[i]) := by
 have := oct_at h
 rw [List.getElem?_eq_getElem h'] at this
 exact Option.some.inj this
theorem run_l1Byte {j : Nat} (c : Cu) (h : CuOk c) : M.run (j + 1) 54 [curA c] = some ([.c (.v (.int .i64 c.byte))], [curA c.next]) := by
 have h1 := h.le
 have h2 := h.small
 rw [m_run (fn := Try.f54) (i0 := 0) rfl Try.func54 rfl rfl (by simp [curA])]
 unfold Cu.byte Cu.next
 by_cases hi : c.i < c.bs.length
 ·rw [if_pos hi, if_pos hi, List.getElem?_eq_getElem hi]
  simp -implicitDefEqProofs [curA, hi, oct_at hi, oct_get hi, show c.i + 1 ≤ c.bs.length by omega, hN, byte0, w64 (x := (c.i : Int) + 1) (by omega)]
 ·rw [if_neg hi, if_neg hi]
  simp -implicitDefEqProofs [curA, hi, show ¬ ((c.i : Int) < (c.bs.length : Int)) by omega, hN, byte0]
def belowF (c : Cu) (n : Int) : Int × Cu := if n ≤ 0 then (0, c) else if n ≤ 256 then (Int.tmod c.byte n, c.next) else (Int.tmod (c.byte * 16777216 + c.next.byte * 65536 + c.next.next.byte * 256 + c.next.next.next.byte) n, c.next.next.next.next)
theorem belowF_ok {c : Cu} (h : CuOk c) (n : Int) : CuOk (belowF c n).2 := by
 unfold belowF
 split
 ·exact h
 ·split
  ·exact h.next
  ·exact h.next.next.next.next
theorem belowF_le (c : Cu) {n : Int} (hn : 0 < n) : 0 ≤ (belowF c n).1 ∧ (belowF c n).1 < n := by
 unfold belowF
 rw [if_neg (by omega)]
 have a := c.byte_le
 have b := c.next.byte_le
 have d := c.next.next.byte_le
 have e := c.next.next.next.byte_le
 split
 ·exact ⟨Int.tmod_nonneg _ a.1, Int.tmod_lt_of_pos _ hn⟩
 ·exact ⟨Int.tmod_nonneg _ (by omega), Int.tmod_lt_of_pos _ hn⟩
theorem belowF_zero (c : Cu) {n : Int} (hn : n ≤ 0) : belowF c n = (0, c) := if_pos hn
theorem run_l1Below {j : Nat} (c : Cu) (h : CuOk c) (n : Int) : M.run (j + 2) 26 [curA c, .c (.v (.int .i64 n))] = some ([.c (.v (.int .i64 (belowF c n).1))], [curA (belowF c n).2, .c (.v (.int .i64 n))]) := by
 have e1 := run_l1Byte (j := j) c h
 have e2 := run_l1Byte (j := j) c.next h.next
 have e3 := run_l1Byte (j := j) c.next.next h.next.next
 have e4 := run_l1Byte (j := j) c.next.next.next h.next.next.next
 have b1 := c.byte_le
 have b2 := c.next.byte_le
 have b3 := c.next.next.byte_le
 have b4 := c.next.next.next.byte_le
 have hb : c.next.bs = c.bs := rfl
 rw [m_run (fn := Try.f26) (i0 := 0) rfl Try.func26 rfl rfl (by simp [curA])]
 unfold belowF
 by_cases h0 : n ≤ 0
 ·rw [if_pos h0]
  simp -implicitDefEqProofs [curA, h0]
 rw [if_neg h0]
 by_cases h1 : n ≤ 256
 ·rw [if_pos h1]
  simp only [curA] at e1 ⊢
  simp -implicitDefEqProofs [h0, h1, own1, e1, show n ≠ 0 by omega, show ¬ n = 0 by omega, hb]
 ·rw [if_neg h1]
  have n1 : c.next.next.bs = c.bs := rfl
  have n2 : c.next.next.next.bs = c.bs := rfl
  have n3 : c.next.next.next.next.bs = c.bs := rfl
  generalize c.next.next.next.next = c4 at *
  generalize c.next.next.next = c3 at *
  generalize c.next.next = c2 at *
  generalize c.next = c1 at *
  simp only [curA, hb, n1, n2, n3] at e1 e2 e3 e4 ⊢
  simp -implicitDefEqProofs [h0, h1, own1, e1, e2, e3, e4, show n ≠ 0 by omega, show ¬ n = 0 by omega, w64 (x := c.byte * 16777216) (by omega), w64 (x := c1.byte * 65536) (by omega), w64 (x := c.byte * 16777216 + c1.byte * 65536) (by omega), w64 (x := c2.byte * 256) (by omega), w64 (x := c.byte * 16777216 + c1.byte * 65536 + c2.byte * 256) (by omega), w64 (x := c.byte * 16777216 + c1.byte * 65536 + c2.byte * 256 + c3.byte) (by omega)]
theorem run_l1Once {j : Nat} (c : Cu) (h : CuOk c) (n : Int) : M.run (j + 3) 110 [curA c, .c (.v (.int .i64 n))] = some ([.c (.v (.bool (decide ((belowF c n).1 = 0))))], [curA (belowF c n).2, .c (.v (.int .i64 n))]) := by
 have e1 := run_l1Below (j := j) c h n
 rw [m_run (fn := Try.f110) (i0 := 0) rfl Try.func110 rfl rfl (by simp [curA])]
 have hb : (belowF c n).2.bs = c.bs := by unfold belowF; split; rfl; split <;> rfl
 generalize belowF c n = D at *
 obtain ⟨v, c'⟩ := D
 simp only [curA] at e1 hb ⊢
 rw [hb] at e1 ⊢
 simp -implicitDefEqProofs [own1, e1]
 rfl
theorem run_l1PickInt {j : Nat} (c : Cu) (h : CuOk c) (l : List Int) (hl : 0 < l.length ∧ l.length ≤ 256) : M.run (j + 3) 27 [curA c, .c (.r 3 l.length (ints l))] = some ([.c (.v (.int .i64 ((l[(belowF c l.length).1.toNat]?).getD 0)))], [curA (belowF c l.length).2, .c (.r 3 l.length (ints l))]) := by
 have e1 := run_l1Below (j := j) c h l.length
 rw [m_run (fn := Try.f27) (i0 := 0) rfl Try.func27 rfl rfl (by simp [curA])]
 have hb : (belowF c l.length).2.bs = c.bs := by unfold belowF; split; rfl; split <;> rfl
 have hle := belowF_le c (n := l.length) (by omega)
 generalize belowF c l.length = D at *
 obtain ⟨v, c'⟩ := D
 simp only at hle hb e1 ⊢
 obtain ⟨m, rfl⟩ : ∃ m : Nat, v = m := ⟨v.toNat, by omega⟩
 have hm : m < l.length := by omega
 rw [Int.toNat_natCast, List.getElem?_eq_getElem hm]
 simp only [curA] at e1 ⊢
 rw [hb] at e1 ⊢
 simp -implicitDefEqProofs [own1, e1, hm, ints]
end Go.Proofs.Ytninncdacekfgaa.VM

/- Draws: instructions: reckoned. -/
namespace Go.Proofs.Ytninncdacekfgaa.VM
open Go Go.Proofs
set_option linter.unusedSimpArgs false
set_option linter.unusedVariables false
set_option maxRecDepth 100000
set_option maxHeartbeats 8000000
def curT (bs : List Int) (i : Nat) (h : Int) : A := .box 82 [.r 5 bs.length (octT bs), .v (.int .i64 i), .v (.int .i64 h)]
theorem belowF_bs (c : Cu) (n : Int) : (belowF c n).2.bs = c.bs := by unfold belowF; split; rfl; split <;> rfl
theorem below_ex {bs : List Int} {i : Nat} {h : Int} (ok : CuOk ⟨bs, i, h⟩) (n : Int) : ∃ (v : Int) (i' : Nat) (h' : Int), CuOk ⟨bs, i', h'⟩ ∧ (n ≤ 0 → v = 0) ∧ (0 < n → 0 ≤ v ∧ v < n) ∧ ∀ j, M.run (j + 2) 26 [curT bs i h, .c (.v (.int .i64 n))] = some ([.c (.v (.int .i64 v))], [curT bs i' h', .c (.v (.int .i64 n))]) := by
 have e := fun j => run_l1Below (j := j) ⟨bs, i, h⟩ ok n
 have k := belowF_ok ok n
 have b := belowF_bs ⟨bs, i, h⟩ n
 have z : n ≤ 0 → (belowF ⟨bs, i, h⟩ n).1 = 0 := fun hn => by rw [belowF_zero _ hn]
 have l := fun hn => belowF_le ⟨bs, i, h⟩ (n := n) hn
 generalize belowF ⟨bs, i, h⟩ n = D at *
 obtain ⟨v, ⟨bs', i', h'⟩⟩ := D
 simp only at b
 subst b
 exact ⟨v, i', h', k, z, l, e⟩
theorem once_ex {bs : List Int} {i : Nat} {h : Int} (ok : CuOk ⟨bs, i, h⟩) (n : Int) : ∃ (v : Bool) (i' : Nat) (h' : Int), CuOk ⟨bs, i', h'⟩ ∧ ∀ j, M.run (j + 3) 110 [curT bs i h, .c (.v (.int .i64 n))] = some ([.c (.v (.bool v))], [curT bs i' h', .c (.v (.int .i64 n))]) := by
 have e := fun j => run_l1Once (j := j) ⟨bs, i, h⟩ ok n
 have k := belowF_ok ok n
 have b := belowF_bs ⟨bs, i, h⟩ n
 generalize belowF ⟨bs, i, h⟩ n = D at *
 obtain ⟨v, ⟨bs', i', h'⟩⟩ := D
 simp only at b
 subst b
 exact ⟨_, i', h', k, e⟩
theorem pick_ex {bs : List Int} {i : Nat} {h : Int} (ok : CuOk ⟨bs, i, h⟩) (l : List Int) (hl : 0 < l.length ∧ l.length ≤ 256) : ∃ (v : Int) (i' : Nat) (h' : Int), CuOk ⟨bs, i', h'⟩ ∧ v ∈ l ∧ ∀ j, M.run (j + 3) 27 [curT bs i h, .c (.r 3 l.length (ints l))] = some ([.c (.v (.int .i64 v))], [curT bs i' h', .c (.r 3 l.length (ints l))]) := by
 have e := fun j => run_l1PickInt (j := j) ⟨bs, i, h⟩ ok l hl
 have k := belowF_ok ok l.length
 have b := belowF_bs ⟨bs, i, h⟩ l.length
 have le := belowF_le ⟨bs, i, h⟩ (n := l.length) (by omega)
 generalize belowF ⟨bs, i, h⟩ l.length = D at *
 obtain ⟨v, ⟨bs', i', h'⟩⟩ := D
 simp only at b le e
 subst b
 have hm : v.toNat < l.length := by omega
 refine ⟨_, i', h', k, ?_, e⟩
 rw [List.getElem?_eq_getElem hm]
 exact List.getElem_mem hm
def smI (x : Int) : Prop := -2000000000 ≤ x ∧ x ≤ 2000000000
def insSm (x : Ins) : Prop := smI x.op ∧ smI x.r ∧ smI x.a ∧ smI x.b ∧ smI x.n

theorem drawIns_ex {bs : List Int} {i : Nat} {h : Int} (ok : CuOk ⟨bs, i, h⟩) (places procs : Int) (hp : places ≤ 1000) (hq : procs ≤ 1000) : ∃ (x : Ins) (i' : Nat) (h' : Int), CuOk ⟨bs, i', h'⟩ ∧ insSm x ∧ ∀ j, M.run (j + 4) 120 [curT bs i h, .c (.v (.int .i64 places)), .c (.v (.int .i64 procs))] = some ([.agg (tIns x)], [curT bs i' h', .c (.v (.int .i64 places)), .c (.v (.int .i64 procs))]) := by
 obtain ⟨r, i1, h1, k1, _, l1, e1⟩ := below_ex ok 4
 obtain ⟨a, i2, h2, k2, _, l2, e2⟩ := below_ex k1 4
 obtain ⟨b, i3, h3, k3, _, l3, e3⟩ := below_ex k2 4
 obtain ⟨v, i4, h4, k4, _, l4, e4⟩ := below_ex k3 14
 have l1 := l1 (by omega)
 have l2 := l2 (by omega)
 have l3 := l3 (by omega)
 have l4 := l4 (by omega)
 have hv : v = 0 ∨ v = 1 ∨ v = 2 ∨ v = 3 ∨ v = 4 ∨ v = 5 ∨ v = 6 ∨ v = 7 ∨ v = 8 ∨ v = 9 ∨ v = 10 ∨ v = 11 ∨ v = 12 ∨ v = 13 := by omega
 rcases hv with rfl | rfl | rfl | rfl | rfl | rfl | rfl | rfl | rfl | rfl | rfl | rfl | rfl | rfl
 ·obtain ⟨n, i5, h5, k5, _, l5, e5⟩ := below_ex k4 9
  have l5 := l5 (by omega)
  refine ⟨⟨1, r, 0, 0, n - 2⟩, i5, h5, k5, by simp only [insSm, smI]; omega, fun j => ?_⟩
  rw [m_run (fn := Try.f120) (i0 := 0) rfl Try.func120 rfl rfl (by simp [curT])]
  have e1 := e1 (j + 1)
  have e2 := e2 (j + 1)
  have e3 := e3 (j + 1)
  have e4 := e4 (j + 1)
  have e5 := e5 (j + 1)
  simp only [curT] at e1 e2 e3 e4 e5 ⊢
  simp -implicitDefEqProofs [own1, e1, e2, e3, e4, e5, w64 (x := n - 2) (by omega), tIns]
 ·obtain ⟨n, i5, h5, k5, _, l5, e5⟩ := below_ex k4 9
  have l5 := l5 (by omega)
  refine ⟨⟨1, r, 0, 0, n - 2⟩, i5, h5, k5, by simp only [insSm, smI]; omega, fun j => ?_⟩
  rw [m_run (fn := Try.f120) (i0 := 0) rfl Try.func120 rfl rfl (by simp [curT])]
  have e1 := e1 (j + 1)
  have e2 := e2 (j + 1)
  have e3 := e3 (j + 1)
  have e4 := e4 (j + 1)
  have e5 := e5 (j + 1)
  simp only [curT] at e1 e2 e3 e4 e5 ⊢
  simp -implicitDefEqProofs [own1, e1, e2, e3, e4, e5, w64 (x := n - 2) (by omega), tIns]
 ·obtain ⟨n, i5, h5, k5, _, l5, e5⟩ := below_ex k4 4
  have l5 := l5 (by omega)
  refine ⟨⟨2 + n, r, a, b, 0⟩, i5, h5, k5, by simp only [insSm, smI]; omega, fun j => ?_⟩
  rw [m_run (fn := Try.f120) (i0 := 0) rfl Try.func120 rfl rfl (by simp [curT])]
  have e1 := e1 (j + 1)
  have e2 := e2 (j + 1)
  have e3 := e3 (j + 1)
  have e4 := e4 (j + 1)
  have e5 := e5 (j + 1)
  simp only [curT] at e1 e2 e3 e4 e5 ⊢
  simp -implicitDefEqProofs [own1, e1, e2, e3, e4, e5, w64 (x := 2 + n) (by omega), tIns]
 ·obtain ⟨n, i5, h5, k5, _, l5, e5⟩ := below_ex k4 4
  have l5 := l5 (by omega)
  refine ⟨⟨2 + n, r, a, b, 0⟩, i5, h5, k5, by simp only [insSm, smI]; omega, fun j => ?_⟩
  rw [m_run (fn := Try.f120) (i0 := 0) rfl Try.func120 rfl rfl (by simp [curT])]
  have e1 := e1 (j + 1)
  have e2 := e2 (j + 1)
  have e3 := e3 (j + 1)
  have e4 := e4 (j + 1)
  have e5 := e5 (j + 1)
  simp only [curT] at e1 e2 e3 e4 e5 ⊢
  simp -implicitDefEqProofs [own1, e1, e2, e3, e4, e5, w64 (x := 2 + n) (by omega), tIns]
 ·obtain ⟨n, i5, h5, k5, z5, l5, e5⟩ := below_ex k4 procs
  have l5 : 0 ≤ n ∧ n ≤ 1000 := by by_cases hz : procs ≤ 0; (have := z5 hz; omega); (have := l5 (by omega); omega)
  refine ⟨⟨6, 0, a, 0, n⟩, i5, h5, k5, by simp only [insSm, smI]; omega, fun j => ?_⟩
  rw [m_run (fn := Try.f120) (i0 := 0) rfl Try.func120 rfl rfl (by simp [curT])]
  have e1 := e1 (j + 1)
  have e2 := e2 (j + 1)
  have e3 := e3 (j + 1)
  have e4 := e4 (j + 1)
  have e5 := e5 (j + 1)
  simp only [curT] at e1 e2 e3 e4 e5 ⊢
  simp -implicitDefEqProofs [own1, e1, e2, e3, e4, e5, tIns]
 ·obtain ⟨n, i5, h5, k5, z5, l5, e5⟩ := below_ex k4 procs
  have l5 : 0 ≤ n ∧ n ≤ 1000 := by by_cases hz : procs ≤ 0; (have := z5 hz; omega); (have := l5 (by omega); omega)
  refine ⟨⟨6, 0, a, 0, n⟩, i5, h5, k5, by simp only [insSm, smI]; omega, fun j => ?_⟩
  rw [m_run (fn := Try.f120) (i0 := 0) rfl Try.func120 rfl rfl (by simp [curT])]
  have e1 := e1 (j + 1)
  have e2 := e2 (j + 1)
  have e3 := e3 (j + 1)
  have e4 := e4 (j + 1)
  have e5 := e5 (j + 1)
  simp only [curT] at e1 e2 e3 e4 e5 ⊢
  simp -implicitDefEqProofs [own1, e1, e2, e3, e4, e5, tIns]
 ·obtain ⟨n, i5, h5, k5, z5, l5, e5⟩ := below_ex k4 procs
  have l5 : 0 ≤ n ∧ n ≤ 1000 := by by_cases hz : procs ≤ 0; (have := z5 hz; omega); (have := l5 (by omega); omega)
  refine ⟨⟨6, 0, a, 0, n⟩, i5, h5, k5, by simp only [insSm, smI]; omega, fun j => ?_⟩
  rw [m_run (fn := Try.f120) (i0 := 0) rfl Try.func120 rfl rfl (by simp [curT])]
  have e1 := e1 (j + 1)
  have e2 := e2 (j + 1)
  have e3 := e3 (j + 1)
  have e4 := e4 (j + 1)
  have e5 := e5 (j + 1)
  simp only [curT] at e1 e2 e3 e4 e5 ⊢
  simp -implicitDefEqProofs [own1, e1, e2, e3, e4, e5, tIns]
 ·obtain ⟨t, i5, h5, k5, e5⟩ := once_ex k4 2
  cases t
  ·obtain ⟨n, i6, h6, k6, z6, l6, e6⟩ := below_ex k5 procs
   have l6 : 0 ≤ n ∧ n ≤ 1000 := by by_cases hz : procs ≤ 0; (have := z6 hz; omega); (have := l6 (by omega); omega)
   refine ⟨⟨7, r, 0, 0, n⟩, i6, h6, k6, by simp only [insSm, smI]; omega, fun j => ?_⟩
   rw [m_run (fn := Try.f120) (i0 := 0) rfl Try.func120 rfl rfl (by simp [curT])]
   have e1 := e1 (j + 1)
   have e2 := e2 (j + 1)
   have e3 := e3 (j + 1)
   have e4 := e4 (j + 1)
   have e5 := e5 j
   have e6 := e6 (j + 1)
   simp only [curT] at e1 e2 e3 e4 e5 e6 ⊢
   simp -implicitDefEqProofs [own1, e1, e2, e3, e4, e5, e6, tIns]
  ·skip
   refine ⟨⟨7, r, 0, 0, 9⟩, i5, h5, k5, by simp only [insSm, smI]; omega, fun j => ?_⟩
   rw [m_run (fn := Try.f120) (i0 := 0) rfl Try.func120 rfl rfl (by simp [curT])]
   have e1 := e1 (j + 1)
   have e2 := e2 (j + 1)
   have e3 := e3 (j + 1)
   have e4 := e4 (j + 1)
   have e5 := e5 j
   simp only [curT] at e1 e2 e3 e4 e5 ⊢
   simp -implicitDefEqProofs [own1, e1, e2, e3, e4, e5, tIns]
 ·obtain ⟨t, i5, h5, k5, e5⟩ := once_ex k4 2
  cases t
  ·obtain ⟨n, i6, h6, k6, z6, l6, e6⟩ := below_ex k5 procs
   have l6 : 0 ≤ n ∧ n ≤ 1000 := by by_cases hz : procs ≤ 0; (have := z6 hz; omega); (have := l6 (by omega); omega)
   refine ⟨⟨7, r, 0, 0, n⟩, i6, h6, k6, by simp only [insSm, smI]; omega, fun j => ?_⟩
   rw [m_run (fn := Try.f120) (i0 := 0) rfl Try.func120 rfl rfl (by simp [curT])]
   have e1 := e1 (j + 1)
   have e2 := e2 (j + 1)
   have e3 := e3 (j + 1)
   have e4 := e4 (j + 1)
   have e5 := e5 j
   have e6 := e6 (j + 1)
   simp only [curT] at e1 e2 e3 e4 e5 e6 ⊢
   simp -implicitDefEqProofs [own1, e1, e2, e3, e4, e5, e6, tIns]
  ·skip
   refine ⟨⟨7, r, 0, 0, 9⟩, i5, h5, k5, by simp only [insSm, smI]; omega, fun j => ?_⟩
   rw [m_run (fn := Try.f120) (i0 := 0) rfl Try.func120 rfl rfl (by simp [curT])]
   have e1 := e1 (j + 1)
   have e2 := e2 (j + 1)
   have e3 := e3 (j + 1)
   have e4 := e4 (j + 1)
   have e5 := e5 j
   simp only [curT] at e1 e2 e3 e4 e5 ⊢
   simp -implicitDefEqProofs [own1, e1, e2, e3, e4, e5, tIns]
 ·obtain ⟨t, i5, h5, k5, e5⟩ := once_ex k4 2
  cases t
  ·obtain ⟨n, i6, h6, k6, z6, l6, e6⟩ := below_ex k5 procs
   have l6 : 0 ≤ n ∧ n ≤ 1000 := by by_cases hz : procs ≤ 0; (have := z6 hz; omega); (have := l6 (by omega); omega)
   refine ⟨⟨7, r, 0, 0, n⟩, i6, h6, k6, by simp only [insSm, smI]; omega, fun j => ?_⟩
   rw [m_run (fn := Try.f120) (i0 := 0) rfl Try.func120 rfl rfl (by simp [curT])]
   have e1 := e1 (j + 1)
   have e2 := e2 (j + 1)
   have e3 := e3 (j + 1)
   have e4 := e4 (j + 1)
   have e5 := e5 j
   have e6 := e6 (j + 1)
   simp only [curT] at e1 e2 e3 e4 e5 e6 ⊢
   simp -implicitDefEqProofs [own1, e1, e2, e3, e4, e5, e6, tIns]
  ·skip
   refine ⟨⟨7, r, 0, 0, 9⟩, i5, h5, k5, by simp only [insSm, smI]; omega, fun j => ?_⟩
   rw [m_run (fn := Try.f120) (i0 := 0) rfl Try.func120 rfl rfl (by simp [curT])]
   have e1 := e1 (j + 1)
   have e2 := e2 (j + 1)
   have e3 := e3 (j + 1)
   have e4 := e4 (j + 1)
   have e5 := e5 j
   simp only [curT] at e1 e2 e3 e4 e5 ⊢
   simp -implicitDefEqProofs [own1, e1, e2, e3, e4, e5, tIns]
 ·skip
  refine ⟨⟨8, 0, a, 0, 0⟩, i4, h4, k4, by simp only [insSm, smI]; omega, fun j => ?_⟩
  rw [m_run (fn := Try.f120) (i0 := 0) rfl Try.func120 rfl rfl (by simp [curT])]
  have e1 := e1 (j + 1)
  have e2 := e2 (j + 1)
  have e3 := e3 (j + 1)
  have e4 := e4 (j + 1)
  simp only [curT] at e1 e2 e3 e4 ⊢
  simp -implicitDefEqProofs [own1, e1, e2, e3, e4, tIns]
 ·obtain ⟨n, i5, h5, k5, z5, l5, e5⟩ := below_ex k4 places
  have l5 : 0 ≤ n ∧ n ≤ 1000 := by by_cases hz : places ≤ 0; (have := z5 hz; omega); (have := l5 (by omega); omega)
  refine ⟨⟨9, 0, 0, 0, n⟩, i5, h5, k5, by simp only [insSm, smI]; omega, fun j => ?_⟩
  rw [m_run (fn := Try.f120) (i0 := 0) rfl Try.func120 rfl rfl (by simp [curT])]
  have e1 := e1 (j + 1)
  have e2 := e2 (j + 1)
  have e3 := e3 (j + 1)
  have e4 := e4 (j + 1)
  have e5 := e5 (j + 1)
  simp only [curT] at e1 e2 e3 e4 e5 ⊢
  simp -implicitDefEqProofs [own1, e1, e2, e3, e4, e5, tIns]
 ·obtain ⟨n, i5, h5, k5, z5, l5, e5⟩ := below_ex k4 places
  have l5 : 0 ≤ n ∧ n ≤ 1000 := by by_cases hz : places ≤ 0; (have := z5 hz; omega); (have := l5 (by omega); omega)
  refine ⟨⟨10, 0, a, 0, n⟩, i5, h5, k5, by simp only [insSm, smI]; omega, fun j => ?_⟩
  rw [m_run (fn := Try.f120) (i0 := 0) rfl Try.func120 rfl rfl (by simp [curT])]
  have e1 := e1 (j + 1)
  have e2 := e2 (j + 1)
  have e3 := e3 (j + 1)
  have e4 := e4 (j + 1)
  have e5 := e5 (j + 1)
  simp only [curT] at e1 e2 e3 e4 e5 ⊢
  simp -implicitDefEqProofs [own1, e1, e2, e3, e4, e5, tIns]
 ·skip
  refine ⟨⟨8, 0, a, 0, 0⟩, i4, h4, k4, by simp only [insSm, smI]; omega, fun j => ?_⟩
  rw [m_run (fn := Try.f120) (i0 := 0) rfl Try.func120 rfl rfl (by simp [curT])]
  have e1 := e1 (j + 1)
  have e2 := e2 (j + 1)
  have e3 := e3 (j + 1)
  have e4 := e4 (j + 1)
  simp only [curT] at e1 e2 e3 e4 ⊢
  simp -implicitDefEqProofs [own1, e1, e2, e3, e4, tIns]
theorem spoil_ex {bs : List Int} {i : Nat} {h : Int} (ok : CuOk ⟨bs, i, h⟩) (x : Ins) (hx : insSm x) : ∃ (y : Ins) (i' : Nat) (h' : Int), CuOk ⟨bs, i', h'⟩ ∧ insSm y ∧ ∀ j, M.run (j + 4) 111 [curT bs i h, .agg (tIns x)] = some ([.agg (tIns y)], [curT bs i' h', .agg (tIns x)]) := by
 obtain ⟨v, i1, h1, k1, _, l1, e1⟩ := below_ex ok 8
 have l1 := l1 (by omega)
 have hv : v = 0 ∨ v = 1 ∨ v = 2 ∨ v = 3 ∨ v = 4 ∨ v = 5 ∨ v = 6 ∨ v = 7 := by omega
 obtain ⟨op, r, a, b, n⟩ := x
 obtain ⟨x1, x2, x3, x4, x5⟩ := hx
 unfold smI at x1 x2 x3 x4 x5
 simp only at x1 x2 x3 x4 x5
 rcases hv with rfl | rfl | rfl | rfl | rfl | rfl | rfl | rfl
 ·obtain ⟨m, i2, h2, k2, _, l2, e2⟩ := below_ex k1 14
  have l2 := l2 (by omega)
  refine ⟨⟨m - 1, r, a, b, n⟩, i2, h2, k2, by simp only [insSm, smI]; omega, fun j => ?_⟩
  rw [m_run (fn := Try.f111) (i0 := 0) rfl Try.func111 rfl rfl (by simp [curT, tIns])]
  have e1 := e1 (j + 1)
  have e2 := e2 (j + 1)
  simp only [curT] at e1 e2 ⊢
  simp -implicitDefEqProofs [own1, e1, e2, tIns, w64 (x := m - 1) (by omega)]
 ·obtain ⟨m, i2, h2, k2, _, l2, e2⟩ := below_ex k1 6
  have l2 := l2 (by omega)
  refine ⟨⟨op, m - 1, a, b, n⟩, i2, h2, k2, by simp only [insSm, smI]; omega, fun j => ?_⟩
  rw [m_run (fn := Try.f111) (i0 := 0) rfl Try.func111 rfl rfl (by simp [curT, tIns])]
  have e1 := e1 (j + 1)
  have e2 := e2 (j + 1)
  simp only [curT] at e1 e2 ⊢
  simp -implicitDefEqProofs [own1, e1, e2, tIns, w64 (x := m - 1) (by omega)]
 ·obtain ⟨m, i2, h2, k2, _, l2, e2⟩ := below_ex k1 6
  have l2 := l2 (by omega)
  refine ⟨⟨op, r, m - 1, b, n⟩, i2, h2, k2, by simp only [insSm, smI]; omega, fun j => ?_⟩
  rw [m_run (fn := Try.f111) (i0 := 0) rfl Try.func111 rfl rfl (by simp [curT, tIns])]
  have e1 := e1 (j + 1)
  have e2 := e2 (j + 1)
  simp only [curT] at e1 e2 ⊢
  simp -implicitDefEqProofs [own1, e1, e2, tIns, w64 (x := m - 1) (by omega)]
 ·obtain ⟨m, i2, h2, k2, _, l2, e2⟩ := below_ex k1 6
  have l2 := l2 (by omega)
  refine ⟨⟨op, r, a, m - 1, n⟩, i2, h2, k2, by simp only [insSm, smI]; omega, fun j => ?_⟩
  rw [m_run (fn := Try.f111) (i0 := 0) rfl Try.func111 rfl rfl (by simp [curT, tIns])]
  have e1 := e1 (j + 1)
  have e2 := e2 (j + 1)
  simp only [curT] at e1 e2 ⊢
  simp -implicitDefEqProofs [own1, e1, e2, tIns, w64 (x := m - 1) (by omega)]
 ·obtain ⟨m, i2, h2, k2, hm, e2⟩ := pick_ex k1 [-1, 0, 3, 4, 9, 29, 30, 1000000000, 1000000001] (by simp)
  have hm' : -1 ≤ m ∧ m ≤ 1000000001 := by
   simp only [List.mem_cons, List.not_mem_nil, or_false] at hm
   omega
  refine ⟨⟨op, r, a, b, m⟩, i2, h2, k2, by simp only [insSm, smI]; omega, fun j => ?_⟩
  rw [m_run (fn := Try.f111) (i0 := 0) rfl Try.func111 rfl rfl (by simp [curT, tIns])]
  have e1 := e1 (j + 1)
  have e2 := e2 j
  simp only [curT] at e1 e2 ⊢
  simp -implicitDefEqProofs [ints] at e2
  simp -implicitDefEqProofs [own1, e1, e2, tIns, ros]
 ·refine ⟨⟨op, r, a, b, n⟩, i1, h1, k1, by simp only [insSm, smI]; omega, fun j => ?_⟩
  rw [m_run (fn := Try.f111) (i0 := 0) rfl Try.func111 rfl rfl (by simp [curT, tIns])]
  have e1 := e1 (j + 1)
  simp only [curT] at e1 ⊢
  simp -implicitDefEqProofs [own1, e1, tIns]
 ·refine ⟨⟨op, r, a, b, n⟩, i1, h1, k1, by simp only [insSm, smI]; omega, fun j => ?_⟩
  rw [m_run (fn := Try.f111) (i0 := 0) rfl Try.func111 rfl rfl (by simp [curT, tIns])]
  have e1 := e1 (j + 1)
  simp only [curT] at e1 ⊢
  simp -implicitDefEqProofs [own1, e1, tIns]
 ·refine ⟨⟨op, r, a, b, n⟩, i1, h1, k1, by simp only [insSm, smI]; omega, fun j => ?_⟩
  rw [m_run (fn := Try.f111) (i0 := 0) rfl Try.func111 rfl rfl (by simp [curT, tIns])]
  have e1 := e1 (j + 1)
  simp only [curT] at e1 ⊢
  simp -implicitDefEqProofs [own1, e1, tIns]
end Go.Proofs.Ytninncdacekfgaa.VM

/- Draws: programs: reckoned. -/
namespace Go.Proofs.Ytninncdacekfgaa.VM
open Go Go.Proofs
set_option linter.unusedSimpArgs false
set_option linter.unusedVariables false
set_option maxRecDepth 100000
set_option maxHeartbeats 8000000
def InsD (bs : List Int) (i : Nat) (h places procs : Int) (x : Ins × Nat × Int) : Prop := CuOk ⟨bs, x.2.1, x.2.2⟩ ∧ insSm x.1 ∧ ∀ j, M.run (j + 4) 120 [curT bs i h, .c (.v (.int .i64 places)), .c (.v (.int .i64 procs))] = some ([.agg (tIns x.1)], [curT bs x.2.1 x.2.2, .c (.v (.int .i64 places)), .c (.v (.int .i64 procs))])
open Classical in
noncomputable def insD (bs : List Int) (i : Nat) (h places procs : Int) : Ins × Nat × Int := if q : ∃ x, InsD bs i h places procs x then Classical.choose q else (⟨0, 0, 0, 0, 0⟩, i, h)
theorem insD_ok {bs : List Int} {i : Nat} {h : Int} (ok : CuOk ⟨bs, i, h⟩) (places procs : Int) (hp : places ≤ 1000) (hq : procs ≤ 1000) : InsD bs i h places procs (insD bs i h places procs) := by
 obtain ⟨x, i', h', a, b, c⟩ := drawIns_ex ok places procs hp hq
 have q : ∃ x, InsD bs i h places procs x := ⟨(x, i', h'), a, b, c⟩
 unfold insD
 rw [dif_pos q]
 exact Classical.choose_spec q
noncomputable def insL (bs : List Int) (i : Nat) (h places procs : Int) : Nat → List Ins × Nat × Int
 | 0 => ([], i, h)
 | k + 1 => ((insL bs i h places procs k).1 ++ [(insD bs (insL bs i h places procs k).2.1 (insL bs i h places procs k).2.2 places procs).1], (insD bs (insL bs i h places procs k).2.1 (insL bs i h places procs k).2.2 places procs).2)
theorem insL_ok {bs : List Int} {i : Nat} {h : Int} (ok : CuOk ⟨bs, i, h⟩) (places procs : Int) (hp : places ≤ 1000) (hq : procs ≤ 1000) : ∀ k, CuOk ⟨bs, (insL bs i h places procs k).2.1, (insL bs i h places procs k).2.2⟩ ∧ (insL bs i h places procs k).1.length = k ∧ ∀ x ∈ (insL bs i h places procs k).1, insSm x
 | 0 => ⟨ok, rfl, fun x hx => by simp [insL] at hx⟩
 | k + 1 => by
  obtain ⟨a, b, c⟩ := insL_ok ok places procs hp hq k
  have q := insD_ok a places procs hp hq
  refine ⟨q.1, by simp [insL, b], fun x hx => ?_⟩
  rw [insL] at hx
  rcases List.mem_append.1 hx with hx | hx
  ·exact c x hx
  ·simp only [List.mem_singleton] at hx
   subst hx
   exact q.2.1
theorem insT_app (l : List Ins) (x : Ins) : insT (l ++ [x]) = insT l ++ tIns x := by simp [insT]
def H_dp (bs : List Int) (procs : Int) (n k : Nat) (s : List Ins × Nat × Int) : St := ⟨[(0, .ptr 1 [] 0), (1, .c (.v (.int .i64 procs))), (8, .c (.v (.int .i64 n))), (9, .c (.sl 3648 [] 0 k)), (10, .c (.v (.int .i64 k)))], [(0, ⟨.ro, 5, octT bs⟩), (1, ⟨.box, 82, [.l 0 [] 0 bs.length, .v (.int .i64 s.2.1), .v (.int .i64 s.2.2)]⟩), (3648, ⟨.own, 40, insT s.1⟩)]⟩
def progSm (l : List Ins) : Prop := 0 < l.length ∧ l.length ≤ 100 ∧ ∀ x ∈ l, insSm x
theorem drawProg_ex {bs : List Int} {i : Nat} {h : Int} (ok : CuOk ⟨bs, i, h⟩) (procs me : Int) (hp : 0 < procs ∧ procs ≤ 1000) (hm : 0 ≤ me ∧ me ≤ 1000) : ∃ (l : List Ins) (i' : Nat) (h' : Int), CuOk ⟨bs, i', h'⟩ ∧ (progSm l ∧ l.length ≤ 12) ∧ ∀ j, big ≤ j → M.run (j + 5) 109 [curT bs i h, .c (.v (.int .i64 procs)), .c (.v (.int .i64 me))] = some ([.c (.s 40 l.length (insT l))], [curT bs i' h', .c (.v (.int .i64 procs)), .c (.v (.int .i64 me))]) := by
 obtain ⟨v, i1, h1, k1, _, l1, e1⟩ := below_ex ok 4
 have l1 := l1 (by omega)
 have hn0 : 0 ≤ Int.tmod (me + 1) procs := Int.tmod_nonneg _ (by omega)
 have hn1 : Int.tmod (me + 1) procs < procs := Int.tmod_lt_of_pos _ hp.1
 have hz : ¬ procs = 0 := by omega
 have w1 := w64 (x := me + 1) (by omega)
 generalize hnx : Int.tmod (me + 1) procs = nx at *
 have hv : v = 0 ∨ v = 1 ∨ v = 2 ∨ v = 3 := by omega
 rcases hv with rfl | rfl | rfl | rfl
 ·refine ⟨[⟨1, 1, 0, 0, 1⟩, ⟨6, 0, 0, 0, nx⟩, ⟨7, 2, 0, 0, 9⟩, ⟨8, 0, 2, 0, 0⟩, ⟨2, 0, 2, 1, 0⟩, ⟨9, 0, 0, 0, 1⟩], i1, h1, k1, ⟨⟨by simp, by simp, fun x hx => ?_⟩, by simp⟩, fun j hj => ?_⟩
  ·simp only [List.mem_cons, List.not_mem_nil, or_false] at hx
   rcases hx with rfl | rfl | rfl | rfl | rfl | rfl <;> (simp only [insSm, smI]; omega)
  ·rw [m_run (fn := Try.f109) (i0 := 0) rfl Try.func109 rfl rfl (by simp [curT])]
   have e1 := e1 (j + 2)
   simp only [curT] at e1 ⊢
   simp -implicitDefEqProofs [own1, e1, w1, hz, hnx, insT, tIns]
 ·refine ⟨[⟨7, 0, 0, 0, 9⟩, ⟨7, 1, 0, 0, 9⟩, ⟨3, 2, 0, 1, 0⟩, ⟨8, 0, 2, 0, 0⟩, ⟨6, 0, 2, 0, nx⟩, ⟨9, 0, 0, 0, 0⟩], i1, h1, k1, ⟨⟨by simp, by simp, fun x hx => ?_⟩, by simp⟩, fun j hj => ?_⟩
  ·simp only [List.mem_cons, List.not_mem_nil, or_false] at hx
   rcases hx with rfl | rfl | rfl | rfl | rfl | rfl <;> (simp only [insSm, smI]; omega)
  ·rw [m_run (fn := Try.f109) (i0 := 0) rfl Try.func109 rfl rfl (by simp [curT])]
   have e1 := e1 (j + 2)
   simp only [curT] at e1 ⊢
   simp -implicitDefEqProofs [own1, e1, w1, hz, hnx, insT, tIns]
 ·obtain ⟨m, i2, h2, k2, _, l2, e2⟩ := below_ex k1 4
  have l2 := l2 (by omega)
  refine ⟨[⟨1, 0, 0, 0, 3 + m⟩, ⟨1, 1, 0, 0, 1⟩, ⟨6, 0, 0, 0, nx⟩, ⟨3, 0, 0, 1, 0⟩, ⟨10, 0, 0, 0, 6⟩, ⟨9, 0, 0, 0, 2⟩, ⟨7, 3, 0, 0, 9⟩, ⟨8, 0, 3, 0, 0⟩, ⟨11, 0, 0, 0, 0⟩], i2, h2, k2, ⟨⟨by simp, by simp, fun x hx => ?_⟩, by simp⟩, fun j hj => ?_⟩
  ·simp only [List.mem_cons, List.not_mem_nil, or_false] at hx
   rcases hx with rfl | rfl | rfl | rfl | rfl | rfl | rfl | rfl | rfl <;> (simp only [insSm, smI]; omega)
  ·rw [m_run (fn := Try.f109) (i0 := 0) rfl Try.func109 rfl rfl (by simp [curT])]
   have e1 := e1 (j + 2)
   have e2 := e2 (j + 2)
   simp only [curT] at e1 e2 ⊢
   simp -implicitDefEqProofs [own1, e1, e2, w1, hz, hnx, insT, tIns, w64 (x := 3 + m) (by omega)]
 ·obtain ⟨m, i2, h2, k2, _, l2, e2⟩ := below_ex k1 8
  have l2 := l2 (by omega)
  obtain ⟨n, hn⟩ : ∃ n : Nat, 3 + m = n := ⟨(3 + m).toNat, by omega⟩
  have nb : n ≤ 10 := by omega
  have K := insL_ok k2 ((n : Int) + 1) procs (by omega) (by omega)
  obtain ⟨a, b, c⟩ := K n
  obtain ⟨t, i3, h3, k3, ht, e3⟩ := pick_ex a [11, 9] (by simp)
  have ht' : smI t := by
   simp only [List.mem_cons, List.not_mem_nil, or_false] at ht
   unfold smI
   omega
  refine ⟨(insL bs i2 h2 (n + 1) procs n).1 ++ [⟨t, 0, 0, 0, 0⟩], i3, h3, k3, ⟨⟨by simp, by simp [b]; omega, fun x hx => ?_⟩, by simp [b]; omega⟩, fun j hj => ?_⟩
  ·rcases List.mem_append.1 hx with hx | hx
   ·exact c x hx
   ·simp only [List.mem_singleton] at hx
    subst hx
    refine ⟨ht', ?_⟩
    simp only [smI]
    omega
  ·rw [m_run (fn := Try.f109) (i0 := 0) rfl Try.func109 rfl rfl (by simp [curT])]
   have e1 := e1 (j + 2)
   have e2 := e2 (j + 2)
   have e3 := e3 (j + 1)
   simp only [curT] at e1 e2 e3 ⊢
   simp -implicitDefEqProofs [own1, e1, e2, w1, hz, hnx, hn, w64 (x := (n : Int)) (by omega)]
   rw [loop_then (fun k => H_dp bs procs n k (insL bs i2 h2 (n + 1) procs k)) n (by simp -implicitDefEqProofs [H_dp, hint1, insL, insT]) (by simp [big] at hj; omega) (fun k hk => by
    obtain ⟨a', b', c'⟩ := K k
    have q := (insD_ok a' ((n : Int) + 1) procs (by omega) (by omega)).2.2 j
    rw [insL]
    generalize insD bs (insL bs i2 h2 (n + 1) procs k).2.1 (insL bs i2 h2 (n + 1) procs k).2.2 (n + 1) procs = D at *
    generalize insL bs i2 h2 (n + 1) procs k = E at *
    obtain ⟨x, i', h'⟩ := D
    obtain ⟨L, i'', h''⟩ := E
    simp only [curT] at q b'
    have tk : (insT L).take (k * 5) = insT L := List.take_of_length_le (by simp [b'])
    simp only [tIns] at q
    have ia := insT_app L x
    simp only [tIns] at ia
    simp -implicitDefEqProofs [H_dp, hint1, hk, own1, q, b', tk, ia, w64 (x := (k : Int) + 1) (by omega), w64 (x := (n : Int) + 1) (by omega), le_most (n := k * 5 + 5) (by omega)])]
   have tk : (insT (insL bs i2 h2 (n + 1) procs n).1).take (n * 5) = insT (insL bs i2 h2 (n + 1) procs n).1 := List.take_of_length_le (by simp [b])
   have ia := insT_app (insL bs i2 h2 (n + 1) procs n).1 ⟨t, 0, 0, 0, 0⟩
   generalize insL bs i2 h2 (n + 1) procs n = E at *
   obtain ⟨L, i'', h''⟩ := E
   simp only [tIns] at ia
   simp only at b e3 tk ia ⊢
   have tk2 : (insT L ++ [T.v (Value.int IntKind.i64 t), T.v (Value.int IntKind.i64 0), T.v (Value.int IntKind.i64 0), T.v (Value.int IntKind.i64 0), T.v (Value.int IntKind.i64 0)]).take ((n + 1) * 5) = insT L ++ [T.v (Value.int IntKind.i64 t), T.v (Value.int IntKind.i64 0), T.v (Value.int IntKind.i64 0), T.v (Value.int IntKind.i64 0), T.v (Value.int IntKind.i64 0)] := List.take_of_length_le (by simp [b]; omega)
   simp -implicitDefEqProofs [ints] at e3
   simp -implicitDefEqProofs [H_dp, own1, e3, b, tk, ia, tk2, ros, show (n + 1) * 5 ≤ n * 5 + 5 by omega, le_most (n := n * 5 + 5) (by omega)]
def H_da (bs : List Int) (l : List Ins) (i : Nat) (h : Int) : St := ⟨[(0, .ptr 1 [] 0), (3, .c (.sl 576 [] 0 l.length))], [(0, ⟨.ro, 5, octT bs⟩), (1, ⟨.box, 82, [.l 0 [] 0 bs.length, .v (.int .i64 i), .v (.int .i64 h)]⟩), (576, ⟨.own, 40, insT l⟩)]⟩
end Go.Proofs.Ytninncdacekfgaa.VM

/- Draws: programs, spoilt or long: reckoned. -/
namespace Go.Proofs.Ytninncdacekfgaa.VM
open Go Go.Proofs
set_option linter.unusedSimpArgs false
set_option linter.unusedVariables false
set_option maxRecDepth 100000
set_option maxHeartbeats 8000000
def cK (c : Cu) (n : Int) : Nat → Cu
 | 0 => c
 | k + 1 => (belowF (cK c n k) n).2
theorem cK_bs (c : Cu) (n : Int) : ∀ k, (cK c n k).bs = c.bs
 | 0 => rfl
 | k + 1 => by rw [cK, belowF_bs, cK_bs c n k]
theorem cK_ok {c : Cu} (h : CuOk c) (n : Int) : ∀ k, CuOk (cK c n k)
 | 0 => h
 | k + 1 => belowF_ok (cK_ok h n k) n
def endI : Ins := ⟨11, 0, 0, 0, 0⟩
def lK (l : List Ins) (k : Nat) : List Ins := l ++ List.replicate k endI
@[simp] theorem lK_len (l : List Ins) (k : Nat) : (lK l k).length = l.length + k := by simp [lK]
theorem lK_succ (l : List Ins) (k : Nat) : lK l (k + 1) = lK l k ++ [endI] := by simp [lK, List.replicate_succ']
theorem lK_sm {l : List Ins} (h : ∀ x ∈ l, insSm x) (k : Nat) : ∀ x ∈ lK l k, insSm x := fun x hx => by
 unfold lK at hx
 rcases List.mem_append.1 hx with hx | hx
 ·exact h x hx
 ·rw [List.eq_of_mem_replicate hx]
  simp only [insSm, smI, endI]
  omega
/-- The round that comes to the end. -/
theorem lastK (c : Cu) (n : Nat) : ∃ N, N ≤ 31 ∧ (∀ k, k < N → ((n + k : Nat) : Int) < 30 + (belowF (cK c 2 k) 2).1) ∧ ¬ (((n + N : Nat) : Int) < 30 + (belowF (cK c 2 N) 2).1) := by
 have h31 : ¬ (((n + 31 : Nat) : Int) < 30 + (belowF (cK c 2 31) 2).1) := by
  have := belowF_le (cK c 2 31) (n := 2) (by omega)
  omega
 have key : ∀ m, m ≤ 31 → (∀ k, k < m → ((n + k : Nat) : Int) < 30 + (belowF (cK c 2 k) 2).1) ∨ ∃ N, N ≤ 31 ∧ (∀ k, k < N → ((n + k : Nat) : Int) < 30 + (belowF (cK c 2 k) 2).1) ∧ ¬ (((n + N : Nat) : Int) < 30 + (belowF (cK c 2 N) 2).1) := by
  intro m
  induction m with
  | zero => exact fun _ => .inl fun k hk => by omega
  | succ m ih =>
   intro hm
   rcases ih (by omega) with h | h
   ·by_cases hq : ((n + m : Nat) : Int) < 30 + (belowF (cK c 2 m) 2).1
    ·refine .inl fun k hk => ?_
     by_cases e : k = m
     ·subst e; exact hq
     ·exact h k (by omega)
    ·exact .inr ⟨m, by omega, h, hq⟩
   ·exact .inr h
 rcases key 31 (Nat.le_refl _) with h | h
 ·exact ⟨31, Nat.le_refl _, h, h31⟩
 ·exact h
theorem drawAny_ex {bs : List Int} {i : Nat} {h : Int} (ok : CuOk ⟨bs, i, h⟩) : ∃ (l : List Ins) (i' : Nat) (h' : Int), CuOk ⟨bs, i', h'⟩ ∧ progSm l ∧ ∀ j, big ≤ j → M.run (j + 6) 85 [curT bs i h] = some ([.c (.s 40 l.length (insT l))], [curT bs i' h']) := by
 obtain ⟨me, i1, h1, k1, _, lm, e1⟩ := below_ex ok 3
 have lm := lm (by omega)
 obtain ⟨l, i2, h2, k2, ⟨⟨pl1, pl2, pl3⟩, l12⟩, e2⟩ := drawProg_ex k1 3 me (by omega) (by omega)
 obtain ⟨b1, i3, h3, k3, e3⟩ := once_ex k2 5
 cases b1
 ·obtain ⟨b2, i4, h4, k4, e9⟩ := once_ex k3 40
  cases b2
  ·refine ⟨l, i4, h4, k4, ⟨by rw [show l.length = l.length from rfl]; exact pl1, by rw [show l.length = l.length from rfl]; exact pl2, pl3⟩, fun j hj => ?_⟩
   rw [m_run (fn := Try.f85) (i0 := 0) rfl Try.func85 rfl rfl (by simp [curT])]
   have e1 := e1 (j + 3)
   have e2 := e2 j hj
   have e3 := e3 (j + 2)
   have e9 := e9 (j + 2)
   simp only [curT] at e1 e2 e3 e9 ⊢
   simp -implicitDefEqProofs [own1, e1, e2, e3, e9]
  ·obtain ⟨N, hN, hg, hb⟩ := lastK ⟨bs, i4, h4⟩ l.length
   have hbs := fun k => cK_bs ⟨bs, i4, h4⟩ 2 k
   have hok := fun k => cK_ok k4 2 k
   have ee := fun k j => run_l1Below (j := j) (cK ⟨bs, i4, h4⟩ 2 k) (hok k) 2
   have hlast := hok (N + 1)
   have hl1 : (belowF (cK ⟨bs, i4, h4⟩ 2 N) 2).2.bs = bs := (belowF_bs _ _).trans (hbs N)
   have hlast' : CuOk ⟨bs, (belowF (cK ⟨bs, i4, h4⟩ 2 N) 2).2.i, (belowF (cK ⟨bs, i4, h4⟩ 2 N) 2).2.h⟩ := by
    have : CuOk (belowF (cK ⟨bs, i4, h4⟩ 2 N) 2).2 := hlast
    generalize (belowF (cK ⟨bs, i4, h4⟩ 2 N) 2).2 = z at *
    obtain ⟨zb, zi, zh⟩ := z
    simp only at hl1
    subst hl1
    exact this
   refine ⟨lK l N, _, _, hlast', ⟨by rw [lK_len, show l.length = l.length from rfl]; omega, by rw [lK_len, show l.length = l.length from rfl]; omega, lK_sm pl3 N⟩, fun j hj => ?_⟩
   rw [m_run (fn := Try.f85) (i0 := 0) rfl Try.func85 rfl rfl (by simp [curT])]
   have e1 := e1 (j + 3)
   have e2 := e2 j hj
   have e3 := e3 (j + 2)
   have e9 := e9 (j + 2)
   simp only [curT] at e1 e2 e3 e9 ⊢
   simp -implicitDefEqProofs [own1, e1, e2, e3, e9]
   have h31 : l.length + N ≤ 100 := by omega
   rw [loop_then (fun k => H_da bs (lK l k) (cK ⟨bs, i4, h4⟩ 2 k).i (cK ⟨bs, i4, h4⟩ 2 k).h) N (by simp -implicitDefEqProofs [H_da, hint1, lK, cK]) (by simp [big] at hj; omega) (fun k hk => by
    have g := hg k hk
    have q := ee k (j + 3)
    have hb' := hbs k
    have hb2 : (belowF (cK ⟨bs, i4, h4⟩ 2 k) 2).2.bs = bs := (belowF_bs _ _).trans hb'
    have le := belowF_le (cK ⟨bs, i4, h4⟩ 2 k) (n := 2) (by omega)
    rw [cK, lK_succ]
    have hlen := lK_len l k
    rw [show l.length = l.length from rfl] at hlen
    have ia := insT_app (lK l k) endI
    have tk : (insT (lK l k)).take ((l.length + k) * 5) = insT (lK l k) := List.take_of_length_le (by simp [hlen])
    generalize lK l k = L at *
    generalize belowF (cK ⟨bs, i4, h4⟩ 2 k) 2 = D at *
    generalize cK ⟨bs, i4, h4⟩ 2 k = C at *
    obtain ⟨v, ⟨vb, vi, vh⟩⟩ := D
    obtain ⟨cb, ci, ch⟩ := C
    simp only at hb' hb2 g le q
    subst hb'
    subst hb2
    simp only [curA] at q
    simp only [endI, tIns] at ia
    simp -implicitDefEqProofs [H_da, hint1, own1, q, endI, hlen, tk, ia, show ((l.length + k : Nat) : Int) < 30 + v from g, show (l.length : Int) + k < 30 + v by omega, w64 (x := 30 + v) (by omega), show (l.length + k) * 5 + 5 ≤ (l.length + k) * 5 + 5 by omega, le_most (n := (l.length + k) * 5 + 5) (by omega), Nat.add_assoc])]
   have hv2 := belowF_le (cK ⟨bs, i4, h4⟩ 2 N) (n := 2) (by omega)
   have q := ee N (j + 3)
   have hb' := hbs N
   have hlen := lK_len l N
   rw [show l.length = l.length from rfl] at hlen
   have tk : (insT (lK l N)).take ((l.length + N) * 5) = insT (lK l N) := List.take_of_length_le (by simp [hlen])
   generalize lK l N = L at *
   generalize belowF (cK ⟨bs, i4, h4⟩ 2 N) 2 = D at *
   generalize cK ⟨bs, i4, h4⟩ 2 N = C at *
   obtain ⟨v, ⟨vb, vi, vh⟩⟩ := D
   obtain ⟨cb, ci, ch⟩ := C
   simp only at hb' hl1 hb q
   subst hb'
   subst hl1
   simp only [curA] at q
   simp only at hv2
   simp -implicitDefEqProofs [H_da, own1, q, hlen, tk, show ¬ ((l.length : Int) + N < 30 + v) by omega, w64 (x := 30 + v) (by omega)]
 ·obtain ⟨w, i4, h4, k4, _, lw, e4⟩ := below_ex k3 (l.length : Int)
  have lw := lw (by omega)
  obtain ⟨m, rfl⟩ : ∃ m : Nat, w = m := ⟨w.toNat, by omega⟩
  have hm : m < l.length := by omega
  obtain ⟨y, i5, h5, k5, hy, e5⟩ := spoil_ex k4 l[m] (pl3 _ (List.getElem_mem hm))
  have hset := insT_set (l := l) (i := m) hm y
  have tks : (l.set m y).take l.length = l.set m y := List.take_of_length_le (by simp)
  have sm' : ∀ x ∈ l.set m y, insSm x := fun x hx => by
   rcases List.mem_or_eq_of_mem_set hx with hx | hx
   ·exact pl3 x hx
   ·rw [hx]; exact hy
  simp only [tIns] at e5
  obtain ⟨b2, i6, h6, k6, e9⟩ := once_ex k5 40
  cases b2
  ·refine ⟨(l.set m y), i6, h6, k6, ⟨by rw [List.length_set]; exact pl1, by rw [List.length_set]; exact pl2, sm'⟩, fun j hj => ?_⟩
   rw [m_run (fn := Try.f85) (i0 := 0) rfl Try.func85 rfl rfl (by simp [curT])]
   have e1 := e1 (j + 3)
   have e2 := e2 j hj
   have e3 := e3 (j + 2)
   have e4 := e4 (j + 3)
   have e5 := e5 (j + 1)
   have e9 := e9 (j + 2)
   simp only [curT] at e1 e2 e3 e4 e5 e9 ⊢
   simp -implicitDefEqProofs [own1, e1, e2, e3, e4, e5, e9, hm, tIns, hset, tks, show m * 5 + 5 ≤ l.length * 5 by omega]
  ·obtain ⟨N, hN, hg, hb⟩ := lastK ⟨bs, i6, h6⟩ l.length
   have hbs := fun k => cK_bs ⟨bs, i6, h6⟩ 2 k
   have hok := fun k => cK_ok k6 2 k
   have ee := fun k j => run_l1Below (j := j) (cK ⟨bs, i6, h6⟩ 2 k) (hok k) 2
   have hlast := hok (N + 1)
   have hl1 : (belowF (cK ⟨bs, i6, h6⟩ 2 N) 2).2.bs = bs := (belowF_bs _ _).trans (hbs N)
   have hlast' : CuOk ⟨bs, (belowF (cK ⟨bs, i6, h6⟩ 2 N) 2).2.i, (belowF (cK ⟨bs, i6, h6⟩ 2 N) 2).2.h⟩ := by
    have : CuOk (belowF (cK ⟨bs, i6, h6⟩ 2 N) 2).2 := hlast
    generalize (belowF (cK ⟨bs, i6, h6⟩ 2 N) 2).2 = z at *
    obtain ⟨zb, zi, zh⟩ := z
    simp only at hl1
    subst hl1
    exact this
   refine ⟨lK (l.set m y) N, _, _, hlast', ⟨by rw [lK_len, List.length_set]; omega, by rw [lK_len, List.length_set]; omega, lK_sm sm' N⟩, fun j hj => ?_⟩
   rw [m_run (fn := Try.f85) (i0 := 0) rfl Try.func85 rfl rfl (by simp [curT])]
   have e1 := e1 (j + 3)
   have e2 := e2 j hj
   have e3 := e3 (j + 2)
   have e4 := e4 (j + 3)
   have e5 := e5 (j + 1)
   have e9 := e9 (j + 2)
   simp only [curT] at e1 e2 e3 e4 e5 e9 ⊢
   simp -implicitDefEqProofs [own1, e1, e2, e3, e4, e5, e9, hm, tIns, hset, tks, show m * 5 + 5 ≤ l.length * 5 by omega]
   have h31 : l.length + N ≤ 100 := by omega
   rw [loop_then (fun k => H_da bs (lK (l.set m y) k) (cK ⟨bs, i6, h6⟩ 2 k).i (cK ⟨bs, i6, h6⟩ 2 k).h) N (by simp -implicitDefEqProofs [H_da, hint1, lK, cK, hm, tIns, hset, tks, show m * 5 + 5 ≤ l.length * 5 by omega]) (by simp [big] at hj; omega) (fun k hk => by
    have g := hg k hk
    have q := ee k (j + 3)
    have hb' := hbs k
    have hb2 : (belowF (cK ⟨bs, i6, h6⟩ 2 k) 2).2.bs = bs := (belowF_bs _ _).trans hb'
    have le := belowF_le (cK ⟨bs, i6, h6⟩ 2 k) (n := 2) (by omega)
    rw [cK, lK_succ]
    have hlen := lK_len (l.set m y) k
    rw [List.length_set] at hlen
    have ia := insT_app (lK (l.set m y) k) endI
    have tk : (insT (lK (l.set m y) k)).take ((l.length + k) * 5) = insT (lK (l.set m y) k) := List.take_of_length_le (by simp [hlen, hm, tIns, hset, tks, show m * 5 + 5 ≤ l.length * 5 by omega])
    generalize lK (l.set m y) k = L at *
    generalize belowF (cK ⟨bs, i6, h6⟩ 2 k) 2 = D at *
    generalize cK ⟨bs, i6, h6⟩ 2 k = C at *
    obtain ⟨v, ⟨vb, vi, vh⟩⟩ := D
    obtain ⟨cb, ci, ch⟩ := C
    simp only at hb' hb2 g le q
    subst hb'
    subst hb2
    simp only [curA] at q
    simp only [endI, tIns] at ia
    simp -implicitDefEqProofs [H_da, hint1, own1, q, endI, hlen, tk, ia, show ((l.length + k : Nat) : Int) < 30 + v from g, show (l.length : Int) + k < 30 + v by omega, w64 (x := 30 + v) (by omega), show (l.length + k) * 5 + 5 ≤ (l.length + k) * 5 + 5 by omega, le_most (n := (l.length + k) * 5 + 5) (by omega), Nat.add_assoc])]
   have hv2 := belowF_le (cK ⟨bs, i6, h6⟩ 2 N) (n := 2) (by omega)
   have q := ee N (j + 3)
   have hb' := hbs N
   have hlen := lK_len (l.set m y) N
   rw [List.length_set] at hlen
   have tk : (insT (lK (l.set m y) N)).take ((l.length + N) * 5) = insT (lK (l.set m y) N) := List.take_of_length_le (by simp [hlen, hm, tIns, hset, tks, show m * 5 + 5 ≤ l.length * 5 by omega])
   generalize lK (l.set m y) N = L at *
   generalize belowF (cK ⟨bs, i6, h6⟩ 2 N) 2 = D at *
   generalize cK ⟨bs, i6, h6⟩ 2 N = C at *
   obtain ⟨v, ⟨vb, vi, vh⟩⟩ := D
   obtain ⟨cb, ci, ch⟩ := C
   simp only at hb' hl1 hb q
   subst hb'
   subst hl1
   simp only [curA] at q
   simp only at hv2
   simp -implicitDefEqProofs [H_da, own1, q, hlen, tk, show ¬ ((l.length : Int) + N < 30 + v) by omega, w64 (x := 30 + v) (by omega)]
end Go.Proofs.Ytninncdacekfgaa.VM
