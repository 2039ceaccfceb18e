/- Numbers as they are written are read again. No program in this text but for the names. -/
import Derived.Test.YtemghdnofgjnmaaDoorSd
import Derived.Lib.AtoiTie
namespace Go.Proofs.YtemghdnofgjnmaaDoor.VM
open Go Go.Proofs
set_option linter.unusedSimpArgs false
set_option linter.unusedVariables false
theorem ba_refl (s : ByteArray) : (s == s) = true := by
  obtain ⟨a⟩ := s
  show (a == a) = true
  simp
theorem ba_eq {s t : ByteArray} (h : (s == t) = true) : s = t := by
  obtain ⟨a⟩ := s
  obtain ⟨b⟩ := t
  have : (a == b) = true := h
  rw [eq_of_beq this]
theorem strL_inj {l m : List UInt8} (h : strL l = strL m) : l = m := by
  unfold strL at h
  injection h with h
  exact List.toArray_inj h
theorem bAt_l (l : List UInt8) (i : Nat) : bAt (strL l) i = (l[i]?).getD 0 := by
  unfold bAt
  split
  · rename_i h
    rw [strL_size] at h
    rw [List.getElem?_eq_getElem h]
    rfl
  · rename_i h
    rw [strL_size] at h
    rw [List.getElem?_eq_none (by omega)]
    rfl
theorem ofNat_dgt {n : Nat} (h : n < 10) : (UInt8.ofNat (48 + n)).toNat = 48 + n := by
  rw [UInt8.toNat_ofNat']
  omega
theorem dec_dgt : ∀ (m n : Nat), n < m → ∀ b ∈ Lib.decDigits n, 48 ≤ b.toNat ∧ b.toNat ≤ 57
  | 0, n, h => by omega
  | m + 1, n, h => by
    intro b hb
    rw [Lib.decDigits] at hb
    split at hb
    · simp only [List.mem_singleton] at hb
      subst hb
      rw [ofNat_dgt (by omega)]
      omega
    · rw [List.mem_append] at hb
      rcases hb with hb | hb
      · exact dec_dgt m (n / 10) (by omega) b hb
      · simp only [List.mem_singleton] at hb
        subst hb
        rw [ofNat_dgt (by omega)]
        omega
theorem decFrom_app : ∀ (l r : List UInt8) (acc : Nat), Lib.decFrom acc (l ++ r) = (Lib.decFrom acc l).bind fun a => Lib.decFrom a r
  | [], r, acc => rfl
  | b :: l, r, acc => by
    simp only [List.cons_append, Lib.decFrom]
    cases Lib.digitVal b with
    | none => rfl
    | some d => exact decFrom_app l r _
theorem digit_of {n : Nat} (h : n < 10) : Lib.digitVal (UInt8.ofNat (48 + n)) = some n := by
  unfold Lib.digitVal
  rw [ofNat_dgt h, if_pos (by omega)]
  congr 1
  omega
theorem decFrom_dec : ∀ (m n : Nat), n < m → Lib.decFrom 0 (Lib.decDigits n) = some n
  | 0, n, h => by omega
  | m + 1, n, h => by
    rw [Lib.decDigits]
    split
    · rename_i h1
      simp only [Lib.decFrom, digit_of h1]
      congr 1
      omega
    · rw [decFrom_app, decFrom_dec m (n / 10) (by omega), Option.bind_some]
      simp only [Lib.decFrom, digit_of (show n % 10 < 10 by omega)]
      congr 1
      omega
theorem dec_ne (n : Nat) : Lib.decDigits n ≠ [] := by
  rw [Lib.decDigits]
  split <;> simp
theorem decNat_dec (n : Nat) : Lib.decNat (Lib.decDigits n) = some n := by
  unfold Lib.decNat
  rw [if_neg (by simpa using dec_ne n)]
  exact decFrom_dec (n + 1) n (by omega)
theorem atoi_itoa (n : Int) : Lib.atoi (Lib.itoa n) = some n := by
  rw [itoa_eq]
  split
  · rw [Lib.atoi, if_pos (by decide), decNat_dec]
    show some (-(n.natAbs : Int)) = some n
    congr 1
    omega
  · cases hd : Lib.decDigits n.toNat with
    | nil => exact absurd hd (dec_ne _)
    | cons b r =>
      have hb := dec_dgt (n.toNat + 1) n.toNat (by omega) b (by rw [hd]; exact List.mem_cons_self ..)
      rw [Lib.atoi, if_neg (by intro h; rw [eq_of_beq h] at hb; exact absurd hb (by decide)), if_neg (by intro h; rw [eq_of_beq h] at hb; exact absurd hb (by decide)), ← hd, decNat_dec]
      show some (n.toNat : Int) = some n
      congr 1
      omega
theorem atoi_num {n : Int} (h : -10000000000 < n ∧ n < 10000000000) : atoiV (numS n) = n ∧ atoiB (numS n) = true := by
  have e : Lib.atoiAll (numS n).data.toList = .ok n := by
    show Lib.atoiAll (Lib.itoa n) = .ok n
    rw [Lib.atoiAll_short _ (by have := itoa_len h; omega), atoi_itoa]
    rfl
  unfold atoiV atoiB
  rw [e]
  exact ⟨rfl, rfl⟩
theorem nR_dec (l : List UInt8) (a : Nat) : ∀ k (m : Nat), a + k ≤ l.length → Lib.decFrom 0 ((l.drop a).take k) = some m → nR (strL l) a k = m
  | 0, m, _, h => by
    rw [List.take_zero, Lib.decFrom] at h
    injection h with h
    subst h
    rfl
  | k + 1, m, hk, h => by
    rw [List.take_succ_eq_append_getElem (by rw [List.length_drop]; omega), decFrom_app] at h
    obtain ⟨m', h1, h2⟩ := Option.bind_eq_some_iff.1 h
    have := nR_dec l a k m' (by omega) h1
    rw [nR, this, bAt_l, List.getElem?_eq_getElem (by omega)]
    rw [List.getElem_drop] at h2
    simp only [Lib.decFrom, Lib.digitVal] at h2
    split at h2
    · rename_i d hd
      split at hd
      · injection hd with hd
        injection h2 with h2
        simp only [Option.getD_some]
        omega
      · cases hd
    · cases h2
theorem good_all {l : List UInt8} {a : Nat} (h : ∀ b ∈ l.drop a, 48 ≤ b.toNat ∧ b.toNat ≤ 57) : goodR (strL l) a = true := by
  unfold goodR
  rw [List.all_eq_true]
  intro k hk
  have hk := List.mem_range.1 hk
  rw [strL_size] at hk
  unfold digB
  rw [bAt_l, List.getElem?_eq_getElem (by omega)]
  have := h l[a + k] (by
    rw [← List.getElem_drop (i := a) (j := k) (h := by rw [List.length_drop]; omega)]
    exact List.getElem_mem _)
  simpa using this
theorem read_num {n : Int} (h : -10000000000 < n ∧ n < 10000000000) : readR (numS n) = (n, true) := by
  unfold numS
  rw [itoa_eq]
  split
  · rename_i h0
    have hl := dec_len (n := n.natAbs) (by omega) (by omega)
    have hd := dec_dgt (n.natAbs + 1) n.natAbs (by omega)
    have hf := decFrom_dec (n.natAbs + 1) n.natAbs (by omega)
    have hn := dec_ne n.natAbs
    have hI : Lib.itoa n = 45 :: Lib.decDigits n.natAbs := by rw [itoa_eq, if_pos h0]
    generalize Lib.decDigits n.natAbs = l at *
    have hl0 : 0 < l.length := List.length_pos_iff.2 hn
    have hA : atR (strL (45 :: l)) = 1 := if_pos ⟨by rw [strL_size]; simp; omega, by rw [bAt_l]; rfl⟩
    have hN : nR (strL (45 :: l)) 1 l.length = n.natAbs := nR_dec (45 :: l) 1 l.length n.natAbs (by simp; omega) (by simpa using hf)
    unfold readR
    rw [hA, strL_size, List.length_cons, if_neg (by omega), if_pos (good_all (by simpa using hd)), Nat.add_sub_cancel, hN]
    have hs : sgn 1 (n.natAbs : Int) = n := by
      show -(n.natAbs : Int) = n
      omega
    rw [hs]
    unfold numS
    rw [hI, ba_refl]
  · rename_i h0
    have hl : (Lib.decDigits n.toNat).length ≤ 10 := by
      by_cases hz : n = 0
      · subst hz; rw [show (0 : Int).toNat = 0 from rfl, Lib.decDigits, dif_pos (by omega)]; decide
      · exact dec_len (n := n.toNat) (by omega) (by omega)
    have hd := dec_dgt (n.toNat + 1) n.toNat (by omega)
    have hf := decFrom_dec (n.toNat + 1) n.toNat (by omega)
    have hn := dec_ne n.toNat
    have hI : Lib.itoa n = Lib.decDigits n.toNat := by rw [itoa_eq, if_neg h0]
    generalize Lib.decDigits n.toNat = l at *
    have hl0 : 0 < l.length := List.length_pos_iff.2 hn
    have hA : atR (strL l) = 0 := if_neg (fun h => by
      have h2 := h.2
      rw [bAt_l, List.getElem?_eq_getElem hl0] at h2
      have := hd l[0] (List.getElem_mem _)
      simp only [Option.getD_some] at h2
      omega)
    have hN : nR (strL l) 0 l.length = n.toNat := nR_dec l 0 l.length n.toNat (by omega) (by simpa using hf)
    unfold readR
    rw [hA, strL_size, if_neg (by omega), if_pos (good_all (by simpa using hd)), Nat.sub_zero, hN]
    have hs : sgn 0 (n.toNat : Int) = n := by
      show (n.toNat : Int) = n
      omega
    rw [hs]
    unfold numS
    rw [hI, ba_refl]
theorem itoa_byte (n : Int) : ∀ b ∈ Lib.itoa n, b.toNat = 45 ∨ (48 ≤ b.toNat ∧ b.toNat ≤ 57) := by
  intro b hb
  rw [itoa_eq] at hb
  split at hb
  · rw [List.mem_cons] at hb
    rcases hb with rfl | hb
    · exact .inl rfl
    · exact .inr (dec_dgt (n.natAbs + 1) n.natAbs (by omega) b hb)
  · exact .inr (dec_dgt (n.toNat + 1) n.toNat (by omega) b hb)
theorem num_any (n : Int) : (numS n == anyS) = false := by
  cases h : numS n == anyS with
  | false => rfl
  | true =>
    have := strL_inj (ba_eq h)
    have h2 := itoa_byte n 97 (by rw [this]; simp)
    exact absurd h2 (by decide)
end Go.Proofs.YtemghdnofgjnmaaDoor.VM
