/- Draws: bytes, numbers below a number: reckoned. -/
import Derived.Test.YtemghdnofgjnmaaDoorK0
namespace Go.Proofs.YtemghdnofgjnmaaDoor.VM
open Go Go.Proofs
set_option linter.unusedSimpArgs false
set_option linter.unusedVariables false
set_option maxRecDepth 100000
set_option maxHeartbeats 4000000
attribute [simp] cLink
structure Cu where
  bs : List Int
  i : Nat
  h : Int
def curA (c : Cu) : A := .box 64 [.r 5 c.bs.length (octT c.bs), .v (.int .i64 c.i), .v (.int .i64 c.h)]
structure CuOk (c : Cu) : Prop where
  le : c.i ≤ c.bs.length
  small : c.bs.length ≤ 1048576
def hN (h : Int) : Int := IntKind.i64.wrap (IntKind.i64.wrap (h * 6364136223846793005) + 1442695040888963407)
def byte0 (h : Int) : Int := andI .i64 (xorI .i64 (shrI .i64 h 33) (shrI .i64 h 45)) 255
def Cu.next (c : Cu) : Cu := ⟨c.bs, if c.i < c.bs.length then c.i + 1 else c.i, hN c.h⟩
def Cu.byte (c : Cu) : Int := if c.i < c.bs.length then andI .i64 (IntKind.i64.wrap (byte0 (hN c.h) + IntKind.i64.wrap ((c.bs[c.i]?).getD 0))) 255 else byte0 (hN c.h)
theorem CuOk.next {c : Cu} (h : CuOk c) : CuOk c.next := by
  refine ⟨?_, h.small⟩
  show (if c.i < c.bs.length then c.i + 1 else c.i) ≤ c.bs.length
  have := h.le
  split <;> omega
theorem and255 (x : Int) : 0 ≤ andI .i64 x 255 ∧ andI .i64 x 255 ≤ 255 := by
  unfold andI
  have h : (BitVec.ofInt IntKind.i64.bits x &&& BitVec.ofInt IntKind.i64.bits 255).toNat ≤ 255 := by
    rw [BitVec.toNat_and]
    exact Nat.and_le_right
  rw [w64 (by omega)]
  omega
theorem Cu.byte_le (c : Cu) : 0 ≤ c.byte ∧ c.byte ≤ 255 := by
  unfold Cu.byte
  split
  · exact and255 _
  · exact and255 _
@[simp] theorem octT_len (bs : List Int) : (octT bs).length = bs.length := by simp [octT]
@[simp] theorem octT_take (bs : List Int) : (octT bs).take bs.length = octT bs := List.take_of_length_le (by simp)
@[simp] theorem octT_ros : ∀ bs : List Int, ros (octT bs) = octT bs
  | [] => rfl
  | b :: bs => by
    have := octT_ros bs
    unfold octT at this ⊢
    rw [List.map_cons, ros, this]
    rfl
@[simp] theorem octT_v : ∀ bs : List Int, allV (octT bs) = true
  | [] => rfl
  | b :: bs => octT_v bs
theorem oct_at {bs : List Int} {i : Nat} (h : i < bs.length) : (octT bs)[i]? = some (.v (.int .u8 bs[i])) := by
  unfold octT
  rw [List.getElem?_map, List.getElem?_eq_getElem h]
  rfl
theorem oct_get {bs : List Int} {i : Nat} (h : i < bs.length) (h' : i < (octT bs).length) : (octT bs)[i] = .v (.int .u8 bs[i]) := by
  have := oct_at h
  rw [List.getElem?_eq_getElem h'] at this
  exact Option.some.inj this
theorem run_l1Byte {j : Nat} (c : Cu) (h : CuOk c) : M.run (j + 1) 43 [curA c] = some ([.c (.v (.int .i64 c.byte))], [curA c.next]) := by
  have h1 := h.le
  have h2 := h.small
  rw [m_run (fn := Tryd.f43) (i0 := 0) rfl Tryd.func43 rfl rfl (by simp [curA])]
  unfold Cu.byte Cu.next
  by_cases hi : c.i < c.bs.length
  · rw [if_pos hi, if_pos hi, List.getElem?_eq_getElem hi]
    simp -implicitDefEqProofs [curA, hi, oct_at hi, oct_get hi, show c.i + 1 ≤ c.bs.length by omega, hN, byte0, w64 (x := (c.i : Int) + 1) (by omega)]
  · rw [if_neg hi, if_neg hi]
    simp -implicitDefEqProofs [curA, hi, show ¬ ((c.i : Int) < (c.bs.length : Int)) by omega, hN, byte0]
def belowF (c : Cu) (n : Int) : Int × Cu := if n ≤ 0 then (0, c) else if n ≤ 256 then (Int.tmod c.byte n, c.next) else (Int.tmod (c.byte * 16777216 + c.next.byte * 65536 + c.next.next.byte * 256 + c.next.next.next.byte) n, c.next.next.next.next)
theorem belowF_ok {c : Cu} (h : CuOk c) (n : Int) : CuOk (belowF c n).2 := by
  unfold belowF
  split
  · exact h
  · split
    · exact h.next
    · exact h.next.next.next.next
theorem belowF_le (c : Cu) {n : Int} (hn : 0 < n) : 0 ≤ (belowF c n).1 ∧ (belowF c n).1 < n := by
  unfold belowF
  rw [if_neg (by omega)]
  have a := c.byte_le
  have b := c.next.byte_le
  have d := c.next.next.byte_le
  have e := c.next.next.next.byte_le
  split
  · exact ⟨Int.tmod_nonneg _ a.1, Int.tmod_lt_of_pos _ hn⟩
  · exact ⟨Int.tmod_nonneg _ (by omega), Int.tmod_lt_of_pos _ hn⟩
theorem belowF_zero (c : Cu) {n : Int} (hn : n ≤ 0) : belowF c n = (0, c) := if_pos hn
theorem run_l1Below {j : Nat} (c : Cu) (h : CuOk c) (n : Int) : M.run (j + 2) 33 [curA c, .c (.v (.int .i64 n))] = some ([.c (.v (.int .i64 (belowF c n).1))], [curA (belowF c n).2, .c (.v (.int .i64 n))]) := by
  have e1 := run_l1Byte (j := j) c h
  have e2 := run_l1Byte (j := j) c.next h.next
  have e3 := run_l1Byte (j := j) c.next.next h.next.next
  have e4 := run_l1Byte (j := j) c.next.next.next h.next.next.next
  have b1 := c.byte_le
  have b2 := c.next.byte_le
  have b3 := c.next.next.byte_le
  have b4 := c.next.next.next.byte_le
  have hb : c.next.bs = c.bs := rfl
  rw [m_run (fn := Tryd.f33) (i0 := 0) rfl Tryd.func33 rfl rfl (by simp [curA])]
  unfold belowF
  by_cases h0 : n ≤ 0
  · rw [if_pos h0]
    simp -implicitDefEqProofs [curA, h0]
  rw [if_neg h0]
  by_cases h1 : n ≤ 256
  · rw [if_pos h1]
    simp only [curA] at e1 ⊢
    simp -implicitDefEqProofs [h0, h1, own1, e1, show n ≠ 0 by omega, show ¬ n = 0 by omega, hb]
  · rw [if_neg h1]
    have n1 : c.next.next.bs = c.bs := rfl
    have n2 : c.next.next.next.bs = c.bs := rfl
    have n3 : c.next.next.next.next.bs = c.bs := rfl
    generalize c.next.next.next.next = c4 at *
    generalize c.next.next.next = c3 at *
    generalize c.next.next = c2 at *
    generalize c.next = c1 at *
    simp only [curA, hb, n1, n2, n3] at e1 e2 e3 e4 ⊢
    simp -implicitDefEqProofs [h0, h1, own1, e1, e2, e3, e4, show n ≠ 0 by omega, show ¬ n = 0 by omega, w64 (x := c.byte * 16777216) (by omega), w64 (x := c1.byte * 65536) (by omega), w64 (x := c.byte * 16777216 + c1.byte * 65536) (by omega), w64 (x := c2.byte * 256) (by omega), w64 (x := c.byte * 16777216 + c1.byte * 65536 + c2.byte * 256) (by omega), w64 (x := c.byte * 16777216 + c1.byte * 65536 + c2.byte * 256 + c3.byte) (by omega)]
theorem run_l1Once {j : Nat} (c : Cu) (h : CuOk c) (n : Int) : M.run (j + 3) 24 [curA c, .c (.v (.int .i64 n))] = some ([.c (.v (.bool (decide ((belowF c n).1 = 0))))], [curA (belowF c n).2, .c (.v (.int .i64 n))]) := by
  have e1 := run_l1Below (j := j) c h n
  rw [m_run (fn := Tryd.f24) (i0 := 0) rfl Tryd.func24 rfl rfl (by simp [curA])]
  have hb : (belowF c n).2.bs = c.bs := by unfold belowF; split; rfl; split <;> rfl
  generalize belowF c n = D at *
  obtain ⟨v, c'⟩ := D
  simp only [curA] at e1 hb ⊢
  rw [hb] at e1 ⊢
  simp -implicitDefEqProofs [own1, e1]
  rfl
theorem run_l1PickInt {j : Nat} (c : Cu) (h : CuOk c) (l : List Int) (hl : 0 < l.length ∧ l.length ≤ 256) : M.run (j + 3) 38 [curA c, .c (.r 3 l.length (ints l))] = some ([.c (.v (.int .i64 ((l[(belowF c l.length).1.toNat]?).getD 0)))], [curA (belowF c l.length).2, .c (.r 3 l.length (ints l))]) := by
  have e1 := run_l1Below (j := j) c h l.length
  rw [m_run (fn := Tryd.f38) (i0 := 0) rfl Tryd.func38 rfl rfl (by simp [curA])]
  have hb : (belowF c l.length).2.bs = c.bs := by unfold belowF; split; rfl; split <;> rfl
  have hle := belowF_le c (n := l.length) (by omega)
  generalize belowF c l.length = D at *
  obtain ⟨v, c'⟩ := D
  simp only at hle hb e1 ⊢
  obtain ⟨m, rfl⟩ : ∃ m : Nat, v = m := ⟨v.toNat, by omega⟩
  have hm : m < l.length := by omega
  rw [Int.toNat_natCast, List.getElem?_eq_getElem hm]
  simp only [curA] at e1 ⊢
  rw [hb] at e1 ⊢
  simp -implicitDefEqProofs [own1, e1, hm, ints]
end Go.Proofs.YtemghdnofgjnmaaDoor.VM
