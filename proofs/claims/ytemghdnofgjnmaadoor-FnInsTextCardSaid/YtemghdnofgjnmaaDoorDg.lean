/- A number in decimal digits: what spec.l1Digits answers. -/
import Derived.Test.YtemghdnofgjnmaaDoorK0
import Derived.Lib.ItoaNum
namespace Go.Proofs.YtemghdnofgjnmaaDoor.VM
open Go Go.Proofs
set_option linter.unusedSimpArgs false
set_option linter.unusedVariables false
set_option maxRecDepth 100000
set_option maxHeartbeats 4000000
/-- The last i digits. -/
def digsK (n : Nat) : Nat → List UInt8
  | 0 => []
  | i + 1 => UInt8.ofNat (48 + n / 10 ^ i % 10) :: digsK n i
theorem digsK_len (n : Nat) : ∀ i, (digsK n i).length = i
  | 0 => rfl
  | i + 1 => by rw [digsK, List.length_cons, digsK_len n i]
theorem digsK_more (n : Nat) : ∀ i, digsK n (i + 1) = digsK (n / 10) i ++ [UInt8.ofNat (48 + n % 10)]
  | 0 => by simp [digsK]
  | i + 1 => by
    rw [digsK, digsK_more n i, digsK, Nat.pow_succ', ← Nat.div_div_eq_div_mul]
    rfl
/-- How many digits, 0 for 0. -/
def rank (n : Nat) : Nat := if n = 0 then 0 else Lib.nDigits n
theorem rank_pos {n : Nat} (h : 0 < n) : rank n = rank (n / 10) + 1 := by
  unfold rank
  rw [if_neg (by omega)]
  by_cases h1 : n < 10
  · rw [Lib.nDigits_small h1, if_pos (by omega)]
  · rw [Lib.nDigits_big h1, if_neg (by omega)]
theorem digsK_rank : ∀ (m n : Nat), n < m → 0 < n → digsK n (rank n) = Lib.decDigits n
  | 0, n, h, _ => by omega
  | m + 1, n, h, h0 => by
    rw [rank_pos h0, digsK_more, Lib.decDigits]
    by_cases h1 : n < 10
    · rw [dif_pos h1, show n / 10 = 0 by omega, Nat.mod_eq_of_lt h1]
      simp [rank, digsK]
    · rw [dif_neg h1, digsK_rank m (n / 10) (by omega) (by omega)]
theorem rank_div {n : Nat} : ∀ i, i < rank n → 0 < n / 10 ^ i
  | 0, h => by
    rw [Nat.pow_zero, Nat.div_one]
    unfold rank at h
    split at h
    · omega
    · omega
  | i + 1, h => by
    have h0 : 0 < n := by
      unfold rank at h
      split at h
      · omega
      · omega
    rw [rank_pos h0] at h
    rw [Nat.pow_succ', ← Nat.div_div_eq_div_mul]
    exact rank_div i (by omega)
theorem rank_end {n : Nat} : ∀ m, n < m → n / 10 ^ rank n = 0
  | 0, h => by omega
  | m + 1, h => by
    by_cases h0 : n = 0
    · subst h0; simp
    · rw [rank_pos (by omega), Nat.pow_succ', ← Nat.div_div_eq_div_mul]
      exact rank_end m (by omega)
theorem rank_le : ∀ (k n : Nat), n < 10 ^ k → rank n ≤ k
  | 0, n, h => by
    have : n = 0 := by simpa using h
    subst this
    simp [rank]
  | k + 1, n, h => by
    by_cases h0 : n = 0
    · subst h0; simp [rank]
    · rw [rank_pos (by omega)]
      have := rank_le k (n / 10) (by rw [Nat.pow_succ] at h; omega)
      omega
def strL (l : List UInt8) : ByteArray := ⟨l.toArray⟩
theorem strL_size (l : List UInt8) : (strL l).size = l.length := by simp [strL, ByteArray.size]
theorem strL_append (l r : List UInt8) : strL l ++ strL r = strL (l ++ r) := by
  apply ByteArray.ext
  simp [strL]
theorem strL_push (b : UInt8) : ByteArray.empty.push b = strL [b] := rfl
theorem strL_one (b : UInt8) (l : List UInt8) : ByteArray.empty.push b ++ strL l = strL (b :: l) := by
  rw [strL_push, strL_append]
  rfl
/-- What is left of a number. -/
def qd (n : Nat) : Nat → Nat
  | 0 => n
  | i + 1 => qd n i / 10
theorem qd_eq (n : Nat) : ∀ i, qd n i = n / 10 ^ i
  | 0 => by simp [qd]
  | i + 1 => by rw [qd, qd_eq n i, Nat.div_div_eq_div_mul, Nat.pow_succ]
def H_dg (n i : Nat) : St := ⟨[(0, .c (.v (.int .i64 (qd n i)))), (3, .c (.v (.string (strL (digsK n i)))))], []⟩
theorem u8w {x : Int} (h : 0 ≤ x ∧ x < 256) : IntKind.u8.wrap x = x := by
  unfold IntKind.wrap
  simp [IntKind.bits, IntKind.signed]
  omega
theorem run_digPos {j : Nat} (hj : big ≤ j) (n : Nat) (h0 : 0 < n) (hn : n < 10 ^ 10) : M.run (j + 1) 28 [.c (.v (.int .i64 n))] = some ([.c (.v (.string (strL (Lib.decDigits n))))], [.c (.v (.int .i64 n))]) := by
  have hr := rank_le 10 n hn
  have hm : ∀ i, qd n i < 10 ^ 10 := fun i => by rw [qd_eq]; exact Nat.lt_of_le_of_lt (Nat.div_le_self _ _) hn
  have he : qd n (rank n) = 0 := by rw [qd_eq]; exact rank_end (n := n) (n + 1) (by omega)
  have hd : digsK n (rank n) = Lib.decDigits n := digsK_rank (n + 1) n (by omega) h0
  rw [m_run (fn := Tryd.f28) (i0 := 0) rfl Tryd.func28 rfl rfl (by simp)]
  simp -implicitDefEqProofs
  rw [if_neg (by omega)]
  simp -implicitDefEqProofs
  rw [if_neg (by omega)]
  simp -implicitDefEqProofs
  rw [loop_to (H_dg n) (rank n) (by simp -implicitDefEqProofs [H_dg, hint1, digsK, qd]; rfl) (by simp -implicitDefEqProofs [big] at hj; omega)]
  · simp -implicitDefEqProofs [H_dg, he, hd]
  · intro i hi
    have h1 : 0 < qd n i := by rw [qd_eq]; exact rank_div i hi
    have h2 := hm i
    have h3 : qd n (i + 1) = qd n i / 10 := rfl
    have h4 : digsK n (i + 1) = UInt8.ofNat (48 + qd n i % 10) :: digsK n i := by rw [digsK, qd_eq]
    have h5 := digsK_len n i
    have h6 : (q : Nat) → q < 10 ^ 10 → (48 : Int) + (q : Int) % 10 = ((48 + q % 10 : Nat) : Int) := fun q _ => by omega
    simp only [H_dg]
    rw [h3, h4]
    generalize qd n i = q at *
    generalize digsK n i = l at *
    have e1 : (q : Int).tmod 10 = ((q % 10 : Nat) : Int) := by rw [Int.tmod_eq_emod_of_nonneg (by omega)]; rfl
    have e2 : (q : Int).tdiv 10 = ((q / 10 : Nat) : Int) := by rw [Int.tdiv_eq_ediv_of_nonneg (by omega)]; rfl
    have e3 : (48 : Int) + ((q % 10 : Nat) : Int) = ((48 + q % 10 : Nat) : Int) := by omega
    have e4 : ((48 + q % 10 : Nat) : Int).toNat = 48 + q % 10 := rfl
    have e5 := w64 (x := ((48 + q % 10 : Nat) : Int)) (by omega)
    have e6 := u8w (x := ((48 + q % 10 : Nat) : Int)) (by omega)
    have e7 := w64 (x := ((q / 10 : Nat) : Int)) (by omega)
    have e8 : 1 + l.length ≤ most := by unfold most; omega
    generalize 48 + q % 10 = c at *
    generalize q % 10 = r at *
    generalize q / 10 = q1 at *
    simp -implicitDefEqProofs [hint1, h1, e1, e2, e3, e4, e5, e6, e7, e8, St.byteOf, St.row, byteC, strL_size, strL_append, strL_push]
  · simp -implicitDefEqProofs [H_dg, he, hd, stops]
theorem itoa_eq (n : Int) : Lib.itoa n = if n < 0 then 45 :: Lib.decDigits n.natAbs else Lib.decDigits n.toNat := rfl
theorem dec_len {n : Nat} (h0 : 0 < n) (hn : n < 10 ^ 10) : (Lib.decDigits n).length ≤ 10 := by
  rw [← digsK_rank (n + 1) n (by omega) h0, digsK_len]
  exact rank_le 10 n hn
/-- A number's text. -/
def numS (n : Int) : ByteArray := strL (Lib.itoa n)
theorem run_digits {j : Nat} (hj : big + 1 ≤ j) (n : Int) (hn : -10000000000 < n ∧ n < 10000000000) : M.run (j + 1) 28 [.c (.v (.int .i64 n))] = some ([.c (.v (.string (numS n)))], [.c (.v (.int .i64 n))]) := by
  obtain ⟨i, rfl⟩ : ∃ i, j = i + 1 := ⟨j - 1, by omega⟩
  unfold numS
  by_cases h0 : n = 0
  · subst h0
    rw [show Lib.itoa 0 = [48] by rw [itoa_eq, if_neg (by omega), show (0 : Int).toNat = 0 from rfl, Lib.decDigits, dif_pos (by omega)]; rfl]
    rw [m_run (fn := Tryd.f28) (i0 := 0) rfl Tryd.func28 rfl rfl (by simp)]
    simp -implicitDefEqProofs [strL]
  by_cases h1 : n < 0
  · have h2 := run_digPos (j := i) (by omega) n.natAbs (by omega) (by omega)
    have h3 : ((n.natAbs : Nat) : Int) = -n := by omega
    rw [h3] at h2
    have h4 := dec_len (n := n.natAbs) (by omega) (by omega)
    rw [itoa_eq, if_pos h1]
    have h5 : 1 + (Lib.decDigits n.natAbs).length ≤ most := by unfold most; omega
    rw [m_run (fn := Tryd.f28) (i0 := 0) rfl Tryd.func28 rfl rfl (by simp)]
    have h6 := w64 (x := -n) (by omega)
    generalize Lib.decDigits n.natAbs = l at *
    have h7 : (⟨#[45]⟩ : ByteArray) = strL [45] := rfl
    simp -implicitDefEqProofs [h1, h2, h6, h7, own1, strL_size, strL_append, h5]
  · have h2 := run_digPos (j := i + 1) (by omega) n.toNat (by omega) (by omega)
    have h3 : ((n.toNat : Nat) : Int) = n := by omega
    rw [h3] at h2
    rw [itoa_eq, if_neg h1]
    exact h2
end Go.Proofs.YtemghdnofgjnmaaDoor.VM
