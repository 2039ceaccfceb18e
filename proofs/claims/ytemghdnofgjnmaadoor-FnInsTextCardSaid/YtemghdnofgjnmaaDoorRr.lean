/- A word read as a number, by the specification: reckoned. -/
import Derived.Test.YtemghdnofgjnmaaDoorRw
namespace Go.Proofs.YtemghdnofgjnmaaDoor.VM
open Go Go.Proofs
set_option linter.unusedSimpArgs false
set_option linter.unusedVariables false
set_option maxRecDepth 100000
set_option maxHeartbeats 20000000
/-- Where the digits begin. -/
def atR (s : ByteArray) : Nat := if 1 < s.size ∧ (bAt s 0).toNat = 45 then 1 else 0
def digB (b : UInt8) : Bool := decide (48 ≤ b.toNat ∧ b.toNat ≤ 57)
/-- The number that k digits tell. -/
def nR (s : ByteArray) (a : Nat) : Nat → Int
  | 0 => 0
  | k + 1 => 10 * nR s a k + (bAt s (a + k)).toNat - 48
def goodR (s : ByteArray) (a : Nat) : Bool := (List.range (s.size - a)).all fun k => digB (bAt s (a + k))
def sgn (a : Nat) (x : Int) : Int := if a = 1 then -x else x
/-- What l1Read tells. -/
def readR (s : ByteArray) : Int × Bool := if s.size = atR s ∨ 10 < s.size - atR s then (0, false) else if goodR s (atR s) = true then (sgn (atR s) (nR s (atR s) (s.size - atR s)), numS (sgn (atR s) (nR s (atR s) (s.size - atR s))) == s) else (0, false)
theorem nR_le (s : ByteArray) (a : Nat) : ∀ k, (∀ i, i < k → digB (bAt s (a + i)) = true) → 0 ≤ nR s a k ∧ nR s a k < 10 ^ k
  | 0, _ => by simp [nR]
  | k + 1, h => by
    have h1 := nR_le s a k fun i hi => h i (by omega)
    have h2 := h k (by omega)
    unfold digB at h2
    simp only [decide_eq_true_eq] at h2
    rw [nR, Int.pow_succ]
    omega
def H_red (s : ByteArray) (a k : Nat) : St := ⟨[(0, .c (.v (.string s))), (4, .c (.v (.int .i64 a))), (5, .c (.v (.int .i64 (nR s a k)))), (6, .c (.v (.int .i64 ((a + k : Nat) : Int))))], []⟩
theorem pow10_le {k : Nat} (h : k ≤ 10) : (10 : Int) ^ k ≤ 10000000000 := by
  have : (10 : Nat) ^ k ≤ 10 ^ 10 := Nat.pow_le_pow_right (by omega) h
  have h2 : ((10 ^ k : Nat) : Int) ≤ ((10 ^ 10 : Nat) : Int) := by omega
  simpa using h2
theorem sgn_le {a : Nat} {x : Int} (h : 0 ≤ x ∧ x < 10000000000) : -10000000000 < sgn a x ∧ sgn a x < 10000000000 := by
  unfold sgn
  split <;> omega
theorem good_of {s : ByteArray} {a : Nat} (h : goodR s a = true) : ∀ i, i < s.size - a → digB (bAt s (a + i)) = true := fun i hi => by
  unfold goodR at h
  exact List.all_eq_true.1 h i (List.mem_range.2 hi)
theorem bad_of {s : ByteArray} {a : Nat} (h : ¬ goodR s a = true) : ∃ n, n < s.size - a ∧ digB (bAt s (a + n)) = false ∧ ∀ i, i < n → digB (bAt s (a + i)) = true := by
  rcases first_bad (fun k => digB (bAt s (a + k))) (List.range (s.size - a)) with hc | ⟨n, hn, hc, hg⟩
  · refine absurd ?_ h
    unfold goodR
    rw [List.all_eq_true]
    intro k hk
    have hk' := List.mem_range.1 hk
    have := hc k (by simpa using hk')
    simp only [List.getElem_range] at this
    exact this
  · have hn' : n < s.size - a := by simpa using hn
    exact ⟨n, hn', by simp only [List.getElem_range] at hc; exact hc, fun i hi => by have := hg i hi; simp only [List.getElem_range] at this; exact this⟩
theorem run_l1Read {j : Nat} (hj : big + 3 ≤ j) (s : ByteArray) (hs : s.size ≤ 1048576) : M.run (j + 1) 16 [.c (.v (.string s))] = some ([.c (.v (.int .i64 (readR s).1)), .c (.v (.bool (readR s).2))], [.c (.v (.string s))]) := by
  obtain ⟨q, rfl⟩ : ∃ q, j = q + 1 := ⟨j - 1, by omega⟩
  rw [m_run (fn := Tryd.f16) (i0 := 0) rfl Tryd.func16 rfl rfl (by simp)]
  have hd : ∀ v : Int, -10000000000 < v ∧ v < 10000000000 → M.run (q + 1) 28 [.c (.v (.int .i64 v))] = some ([.c (.v (.string (numS v)))], [.c (.v (.int .i64 v))]) := fun v hv => run_digits (by omega) v hv
  have hbyte : ∀ i, (bAt s i).toNat < 256 := fun i => (bAt s i).toNat_lt
  have hcase : (1 < s.size ∧ (bAt s 0).toNat = 45) ∨ (1 < s.size ∧ ¬ (bAt s 0).toNat = 45) ∨ ¬ 1 < s.size := by omega
  rcases hcase with ⟨h1, h2⟩ | ⟨h1, h2⟩ | h1
  · have hA : atR s = 1 := if_pos ⟨h1, h2⟩
    have h1I : (1 : Int) < s.size := by omega
    have h0 : 0 < s.size := by omega
    have h2I : ((bAt s 0).toNat : Int) = 45 := by omega
    have h2B : (((bAt s 0).toNat : Int) == 45) = true := by simp [h2I]
    have hsub := w64 (x := (s.size : Int) - 1) (by omega)
    unfold readR
    rw [hA]
    by_cases hz : s.size = 1 ∨ 10 < s.size - 1
    · rw [if_pos hz]
      have h3 : ¬ (s.size : Int) = 1 := by omega
      have h3B : ((s.size : Int) == 1) = false := by simpa using h3
      have h4 : (10 : Int) < (s.size : Int) - 1 := by omega
      simp -implicitDefEqProofs [h1, h1I, h0, h2I, h2B, h3, h3B, h4, hsub]
    rw [if_neg hz]
    have hz1 : 1 < s.size ∧ s.size ≤ 10 + 1 := by omega
    have hz2 : ¬ (s.size : Int) = 1 := by omega
    have hz3 : ((s.size : Int) == 1) = false := by simpa using hz2
    have hz4 : ¬ (10 : Int) < (s.size : Int) - 1 := by omega
    have hz5 : ¬ 10 < s.size - 1 := by omega
    have hz6 : ¬ s.size = 1 := by omega
    have hround : ∀ k, k < s.size - 1 → digB (bAt s (1 + k)) = true → (0 ≤ nR s 1 k ∧ nR s 1 k < 10000000000) → nR s 1 k < 922337203685477000 ∧ nR s 1 (k + 1) = 10 * nR s 1 k + (bAt s (1 + k)).toNat - 48 ∧ 48 ≤ (bAt s (1 + k)).toNat ∧ (bAt s (1 + k)).toNat ≤ 57 := fun k hk hd hx => by
      unfold digB at hd
      simp only [decide_eq_true_eq] at hd
      exact ⟨by omega, rfl, hd⟩
    by_cases hg : goodR s 1 = true
    · rw [if_pos hg]
      have hall := good_of hg
      obtain ⟨b1, b2⟩ := nR_le s 1 (s.size - 1) hall
      have b3 := pow10_le (k := s.size - 1) (by omega)
      have b4 := hd _ (sgn_le (a := 1) (x := nR s 1 (s.size - 1)) ⟨b1, by omega⟩)
      have b5 := w64 (x := -nR s 1 (s.size - 1)) (by omega)
      simp -implicitDefEqProofs [h1, h1I, h0, h2I, h2B, hsub, hz2, hz3, hz4, hz5, hz6]
      rw [loop_to (H_red s 1) (s.size - 1) (by simp -implicitDefEqProofs [H_red, hint1, nR]; done) (by simp -implicitDefEqProofs [big] at hj; omega) (fun k hk => by
        have hg : ∀ i, i < k + 1 → digB (bAt s (1 + i)) = true := fun i hi => hall i (by omega)
        obtain ⟨b1, b2⟩ := nR_le s 1 k fun i hi => hg i (by omega)
        have b3 := pow10_le (k := k) (by omega)
        obtain ⟨c1, c2, c3, c4⟩ := hround k hk (hg k (by omega)) ⟨b1, by omega⟩
        simp only [H_red]
        rw [c2, show 1 + (k + 1) = (1 + k) + 1 from rfl]
        obtain ⟨m, hm⟩ : ∃ m, m = 1 + k := ⟨_, rfl⟩
        rw [← hm] at c3 c4 ⊢
        have hm1 : m < s.size := by omega
        have hm2 : (m : Int) < s.size := by omega
        have hmB := hbyte m
        have c5 : ¬ ((bAt s m).toNat : Int) < 48 := by omega
        have c6 : ¬ (57 : Int) < ((bAt s m).toNat : Int) := by omega
        generalize nR s 1 k = x at *
        have d1 := w64 (x := 10 * x) (by omega)
        have d2 := w64 (x := ((bAt s m).toNat : Int)) (by omega)
        have d3 := w64 (x := 10 * x + (bAt s m).toNat) (by omega)
        have d4 := w64 (x := 10 * x + (bAt s m).toNat - 48) (by omega)
        have d5 := w64 (x := (m : Int) + 1) (by omega)
        simp -implicitDefEqProofs [hint1, hm1, hm2, c5, c6, d1, d2, d3, d4, d5]
        done)]
      · simp only [H_red]
        rw [show 1 + (s.size - 1) = s.size by omega]
        have b6 : ∀ x, sgn 1 x = -x := fun x => if_pos rfl
        rw [b6] at b4 ⊢
        generalize nR s 1 (s.size - 1) = x at *
        simp -implicitDefEqProofs [b4, b5, own1]
        done
      · simp only [H_red]
        rw [show 1 + (s.size - 1) = s.size by omega]
        simp -implicitDefEqProofs [stops]
    · rw [if_neg hg]
      obtain ⟨n, hn, hc, hall⟩ := bad_of hg
      have hm1 : 1 + n < s.size := by omega
      have hm2 : ((1 + n : Nat) : Int) < s.size := by omega
      have hc' : (bAt s (1 + n)).toNat < 48 ∨ (¬ (bAt s (1 + n)).toNat < 48 ∧ 57 < (bAt s (1 + n)).toNat) := by
        unfold digB at hc
        simp only [decide_eq_false_iff_not] at hc
        omega
      simp -implicitDefEqProofs [h1, h1I, h0, h2I, h2B, hsub, hz2, hz3, hz4, hz5, hz6]
      rw [loop_to (H_red s 1) n (by simp -implicitDefEqProofs [H_red, hint1, nR]; done) (by simp -implicitDefEqProofs [big] at hj; omega) (fun k hk2 => by
        have hk : k < s.size - 1 := by omega
        have hg : ∀ i, i < k + 1 → digB (bAt s (1 + i)) = true := fun i hi => hall i (by omega)
        obtain ⟨b1, b2⟩ := nR_le s 1 k fun i hi => hg i (by omega)
        have b3 := pow10_le (k := k) (by omega)
        obtain ⟨c1, c2, c3, c4⟩ := hround k hk (hg k (by omega)) ⟨b1, by omega⟩
        simp only [H_red]
        rw [c2, show 1 + (k + 1) = (1 + k) + 1 from rfl]
        obtain ⟨m, hm⟩ : ∃ m, m = 1 + k := ⟨_, rfl⟩
        rw [← hm] at c3 c4 ⊢
        have hm1 : m < s.size := by omega
        have hm2 : (m : Int) < s.size := by omega
        have hmB := hbyte m
        have c5 : ¬ ((bAt s m).toNat : Int) < 48 := by omega
        have c6 : ¬ (57 : Int) < ((bAt s m).toNat : Int) := by omega
        generalize nR s 1 k = x at *
        have d1 := w64 (x := 10 * x) (by omega)
        have d2 := w64 (x := ((bAt s m).toNat : Int)) (by omega)
        have d3 := w64 (x := 10 * x + (bAt s m).toNat) (by omega)
        have d4 := w64 (x := 10 * x + (bAt s m).toNat - 48) (by omega)
        have d5 := w64 (x := (m : Int) + 1) (by omega)
        simp -implicitDefEqProofs [hint1, hm1, hm2, c5, c6, d1, d2, d3, d4, d5]
        done)]
      · simp only [H_red]
        generalize 1 + n = m at *
        rcases hc' with hc' | ⟨hc1, hc'⟩
        · have c5 : ((bAt s m).toNat : Int) < 48 := by omega
          simp -implicitDefEqProofs [hm1, hm2, c5, own1]
          done
        · have c5 : ¬ ((bAt s m).toNat : Int) < 48 := by omega
          have c6 : (57 : Int) < ((bAt s m).toNat : Int) := by omega
          simp -implicitDefEqProofs [hm1, hm2, c5, c6, own1]
          done
      · simp only [H_red]
        generalize 1 + n = m at *
        rcases hc' with hc' | ⟨hc1, hc'⟩
        · have c5 : ((bAt s m).toNat : Int) < 48 := by omega
          simp -implicitDefEqProofs [stops, hm1, hm2, c5, own1]
        · have c5 : ¬ ((bAt s m).toNat : Int) < 48 := by omega
          have c6 : (57 : Int) < ((bAt s m).toNat : Int) := by omega
          simp -implicitDefEqProofs [stops, hm1, hm2, c5, c6, own1]
  · have hA : atR s = 0 := if_neg fun h => h2 h.2
    have h1I : (1 : Int) < s.size := by omega
    have h0 : 0 < s.size := by omega
    have h2I : ¬ ((bAt s 0).toNat : Int) = 45 := by omega
    have h2B : (((bAt s 0).toNat : Int) == 45) = false := by simpa using h2I
    have hsub := w64 (x := (s.size : Int)) (by omega)
    unfold readR
    rw [hA]
    by_cases hz : s.size = 0 ∨ 10 < s.size - 0
    · rw [if_pos hz]
      have h3 : ¬ (s.size : Int) = 0 := by omega
      have h3B : ((s.size : Int) == 0) = false := by simpa using h3
      have h4 : (10 : Int) < (s.size : Int) := by omega
      have h4' : 10 < s.size := by omega
      simp -implicitDefEqProofs [h1, h1I, h0, h2I, h2B, h3, h3B, h4, h4', hsub]
    rw [if_neg hz]
    have hz1 : 0 < s.size ∧ s.size ≤ 10 + 0 := by omega
    have hz2 : ¬ (s.size : Int) = 0 := by omega
    have hz3 : ((s.size : Int) == 0) = false := by simpa using hz2
    have hz4 : ¬ (10 : Int) < (s.size : Int) := by omega
    have hz5 : ¬ 10 < s.size - 0 := by omega
    have hz6 : ¬ s.size = 0 := by omega
    have hround : ∀ k, k < s.size - 0 → digB (bAt s (0 + k)) = true → (0 ≤ nR s 0 k ∧ nR s 0 k < 10000000000) → nR s 0 k < 922337203685477000 ∧ nR s 0 (k + 1) = 10 * nR s 0 k + (bAt s (0 + k)).toNat - 48 ∧ 48 ≤ (bAt s (0 + k)).toNat ∧ (bAt s (0 + k)).toNat ≤ 57 := fun k hk hd hx => by
      unfold digB at hd
      simp only [decide_eq_true_eq] at hd
      exact ⟨by omega, rfl, hd⟩
    by_cases hg : goodR s 0 = true
    · rw [if_pos hg]
      have hall := good_of hg
      obtain ⟨b1, b2⟩ := nR_le s 0 (s.size - 0) hall
      have b3 := pow10_le (k := s.size - 0) (by omega)
      have b4 := hd _ (sgn_le (a := 0) (x := nR s 0 (s.size - 0)) ⟨b1, by omega⟩)
      have b5 := w64 (x := -nR s 0 (s.size - 0)) (by omega)
      simp -implicitDefEqProofs [h1, h1I, h0, h2I, h2B, hsub, hz2, hz3, hz4, hz5, hz6]
      rw [loop_to (H_red s 0) (s.size - 0) (by simp -implicitDefEqProofs [H_red, hint1, nR]; done) (by simp -implicitDefEqProofs [big] at hj; omega) (fun k hk => by
        have hg : ∀ i, i < k + 1 → digB (bAt s (0 + i)) = true := fun i hi => hall i (by omega)
        obtain ⟨b1, b2⟩ := nR_le s 0 k fun i hi => hg i (by omega)
        have b3 := pow10_le (k := k) (by omega)
        obtain ⟨c1, c2, c3, c4⟩ := hround k hk (hg k (by omega)) ⟨b1, by omega⟩
        simp only [H_red]
        rw [c2, show 0 + (k + 1) = (0 + k) + 1 from rfl]
        obtain ⟨m, hm⟩ : ∃ m, m = 0 + k := ⟨_, rfl⟩
        rw [← hm] at c3 c4 ⊢
        have hm1 : m < s.size := by omega
        have hm2 : (m : Int) < s.size := by omega
        have hmB := hbyte m
        have c5 : ¬ ((bAt s m).toNat : Int) < 48 := by omega
        have c6 : ¬ (57 : Int) < ((bAt s m).toNat : Int) := by omega
        generalize nR s 0 k = x at *
        have d1 := w64 (x := 10 * x) (by omega)
        have d2 := w64 (x := ((bAt s m).toNat : Int)) (by omega)
        have d3 := w64 (x := 10 * x + (bAt s m).toNat) (by omega)
        have d4 := w64 (x := 10 * x + (bAt s m).toNat - 48) (by omega)
        have d5 := w64 (x := (m : Int) + 1) (by omega)
        simp -implicitDefEqProofs [hint1, hm1, hm2, c5, c6, d1, d2, d3, d4, d5]
        done)]
      · simp only [H_red]
        rw [show 0 + (s.size - 0) = s.size by omega]
        have b6 : ∀ x, sgn 0 x = x := fun x => if_neg (by decide)
        rw [b6] at b4 ⊢
        generalize nR s 0 (s.size - 0) = x at *
        simp -implicitDefEqProofs [b4, own1]
        done
      · simp only [H_red]
        rw [show 0 + (s.size - 0) = s.size by omega]
        simp -implicitDefEqProofs [stops]
    · rw [if_neg hg]
      obtain ⟨n, hn, hc, hall⟩ := bad_of hg
      have hm1 : 0 + n < s.size := by omega
      have hm2 : ((0 + n : Nat) : Int) < s.size := by omega
      have hc' : (bAt s (0 + n)).toNat < 48 ∨ (¬ (bAt s (0 + n)).toNat < 48 ∧ 57 < (bAt s (0 + n)).toNat) := by
        unfold digB at hc
        simp only [decide_eq_false_iff_not] at hc
        omega
      simp -implicitDefEqProofs [h1, h1I, h0, h2I, h2B, hsub, hz2, hz3, hz4, hz5, hz6]
      rw [loop_to (H_red s 0) n (by simp -implicitDefEqProofs [H_red, hint1, nR]; done) (by simp -implicitDefEqProofs [big] at hj; omega) (fun k hk2 => by
        have hk : k < s.size - 0 := by omega
        have hg : ∀ i, i < k + 1 → digB (bAt s (0 + i)) = true := fun i hi => hall i (by omega)
        obtain ⟨b1, b2⟩ := nR_le s 0 k fun i hi => hg i (by omega)
        have b3 := pow10_le (k := k) (by omega)
        obtain ⟨c1, c2, c3, c4⟩ := hround k hk (hg k (by omega)) ⟨b1, by omega⟩
        simp only [H_red]
        rw [c2, show 0 + (k + 1) = (0 + k) + 1 from rfl]
        obtain ⟨m, hm⟩ : ∃ m, m = 0 + k := ⟨_, rfl⟩
        rw [← hm] at c3 c4 ⊢
        have hm1 : m < s.size := by omega
        have hm2 : (m : Int) < s.size := by omega
        have hmB := hbyte m
        have c5 : ¬ ((bAt s m).toNat : Int) < 48 := by omega
        have c6 : ¬ (57 : Int) < ((bAt s m).toNat : Int) := by omega
        generalize nR s 0 k = x at *
        have d1 := w64 (x := 10 * x) (by omega)
        have d2 := w64 (x := ((bAt s m).toNat : Int)) (by omega)
        have d3 := w64 (x := 10 * x + (bAt s m).toNat) (by omega)
        have d4 := w64 (x := 10 * x + (bAt s m).toNat - 48) (by omega)
        have d5 := w64 (x := (m : Int) + 1) (by omega)
        simp -implicitDefEqProofs [hint1, hm1, hm2, c5, c6, d1, d2, d3, d4, d5]
        done)]
      · simp only [H_red]
        generalize 0 + n = m at *
        rcases hc' with hc' | ⟨hc1, hc'⟩
        · have c5 : ((bAt s m).toNat : Int) < 48 := by omega
          simp -implicitDefEqProofs [hm1, hm2, c5, own1]
          done
        · have c5 : ¬ ((bAt s m).toNat : Int) < 48 := by omega
          have c6 : (57 : Int) < ((bAt s m).toNat : Int) := by omega
          simp -implicitDefEqProofs [hm1, hm2, c5, c6, own1]
          done
      · simp only [H_red]
        generalize 0 + n = m at *
        rcases hc' with hc' | ⟨hc1, hc'⟩
        · have c5 : ((bAt s m).toNat : Int) < 48 := by omega
          simp -implicitDefEqProofs [stops, hm1, hm2, c5, own1]
        · have c5 : ¬ ((bAt s m).toNat : Int) < 48 := by omega
          have c6 : (57 : Int) < ((bAt s m).toNat : Int) := by omega
          simp -implicitDefEqProofs [stops, hm1, hm2, c5, c6, own1]
  · have hA : atR s = 0 := if_neg fun h => h1 h.1
    have h1I : ¬ (1 : Int) < s.size := by omega
    have hsub := w64 (x := (s.size : Int)) (by omega)
    unfold readR
    rw [hA]
    by_cases hz : s.size = 0 ∨ 10 < s.size - 0
    · rw [if_pos hz]
      have h3 : s.size = 0 := by omega
      simp -implicitDefEqProofs [h1, h1I, h3]
    rw [if_neg hz]
    have hz1 : 0 < s.size ∧ s.size ≤ 10 + 0 := by omega
    have hz2 : ¬ (s.size : Int) = 0 := by omega
    have hz3 : ((s.size : Int) == 0) = false := by simpa using hz2
    have hz4 : ¬ (10 : Int) < (s.size : Int) := by omega
    have hz5 : ¬ 10 < s.size - 0 := by omega
    have hz6 : ¬ s.size = 0 := by omega
    have hround : ∀ k, k < s.size - 0 → digB (bAt s (0 + k)) = true → (0 ≤ nR s 0 k ∧ nR s 0 k < 10000000000) → nR s 0 k < 922337203685477000 ∧ nR s 0 (k + 1) = 10 * nR s 0 k + (bAt s (0 + k)).toNat - 48 ∧ 48 ≤ (bAt s (0 + k)).toNat ∧ (bAt s (0 + k)).toNat ≤ 57 := fun k hk hd hx => by
      unfold digB at hd
      simp only [decide_eq_true_eq] at hd
      exact ⟨by omega, rfl, hd⟩
    by_cases hg : goodR s 0 = true
    · rw [if_pos hg]
      have hall := good_of hg
      obtain ⟨b1, b2⟩ := nR_le s 0 (s.size - 0) hall
      have b3 := pow10_le (k := s.size - 0) (by omega)
      have b4 := hd _ (sgn_le (a := 0) (x := nR s 0 (s.size - 0)) ⟨b1, by omega⟩)
      have b5 := w64 (x := -nR s 0 (s.size - 0)) (by omega)
      simp -implicitDefEqProofs [h1, h1I, hsub, hz2, hz3, hz4, hz5, hz6]
      rw [loop_to (H_red s 0) (s.size - 0) (by simp -implicitDefEqProofs [H_red, hint1, nR]; done) (by simp -implicitDefEqProofs [big] at hj; omega) (fun k hk => by
        have hg : ∀ i, i < k + 1 → digB (bAt s (0 + i)) = true := fun i hi => hall i (by omega)
        obtain ⟨b1, b2⟩ := nR_le s 0 k fun i hi => hg i (by omega)
        have b3 := pow10_le (k := k) (by omega)
        obtain ⟨c1, c2, c3, c4⟩ := hround k hk (hg k (by omega)) ⟨b1, by omega⟩
        simp only [H_red]
        rw [c2, show 0 + (k + 1) = (0 + k) + 1 from rfl]
        obtain ⟨m, hm⟩ : ∃ m, m = 0 + k := ⟨_, rfl⟩
        rw [← hm] at c3 c4 ⊢
        have hm1 : m < s.size := by omega
        have hm2 : (m : Int) < s.size := by omega
        have hmB := hbyte m
        have c5 : ¬ ((bAt s m).toNat : Int) < 48 := by omega
        have c6 : ¬ (57 : Int) < ((bAt s m).toNat : Int) := by omega
        generalize nR s 0 k = x at *
        have d1 := w64 (x := 10 * x) (by omega)
        have d2 := w64 (x := ((bAt s m).toNat : Int)) (by omega)
        have d3 := w64 (x := 10 * x + (bAt s m).toNat) (by omega)
        have d4 := w64 (x := 10 * x + (bAt s m).toNat - 48) (by omega)
        have d5 := w64 (x := (m : Int) + 1) (by omega)
        simp -implicitDefEqProofs [hint1, hm1, hm2, c5, c6, d1, d2, d3, d4, d5]
        done)]
      · simp only [H_red]
        rw [show 0 + (s.size - 0) = s.size by omega]
        have b6 : ∀ x, sgn 0 x = x := fun x => if_neg (by decide)
        rw [b6] at b4 ⊢
        generalize nR s 0 (s.size - 0) = x at *
        simp -implicitDefEqProofs [b4, own1]
        done
      · simp only [H_red]
        rw [show 0 + (s.size - 0) = s.size by omega]
        simp -implicitDefEqProofs [stops]
    · rw [if_neg hg]
      obtain ⟨n, hn, hc, hall⟩ := bad_of hg
      have hm1 : 0 + n < s.size := by omega
      have hm2 : ((0 + n : Nat) : Int) < s.size := by omega
      have hc' : (bAt s (0 + n)).toNat < 48 ∨ (¬ (bAt s (0 + n)).toNat < 48 ∧ 57 < (bAt s (0 + n)).toNat) := by
        unfold digB at hc
        simp only [decide_eq_false_iff_not] at hc
        omega
      simp -implicitDefEqProofs [h1, h1I, hsub, hz2, hz3, hz4, hz5, hz6]
      rw [loop_to (H_red s 0) n (by simp -implicitDefEqProofs [H_red, hint1, nR]; done) (by simp -implicitDefEqProofs [big] at hj; omega) (fun k hk2 => by
        have hk : k < s.size - 0 := by omega
        have hg : ∀ i, i < k + 1 → digB (bAt s (0 + i)) = true := fun i hi => hall i (by omega)
        obtain ⟨b1, b2⟩ := nR_le s 0 k fun i hi => hg i (by omega)
        have b3 := pow10_le (k := k) (by omega)
        obtain ⟨c1, c2, c3, c4⟩ := hround k hk (hg k (by omega)) ⟨b1, by omega⟩
        simp only [H_red]
        rw [c2, show 0 + (k + 1) = (0 + k) + 1 from rfl]
        obtain ⟨m, hm⟩ : ∃ m, m = 0 + k := ⟨_, rfl⟩
        rw [← hm] at c3 c4 ⊢
        have hm1 : m < s.size := by omega
        have hm2 : (m : Int) < s.size := by omega
        have hmB := hbyte m
        have c5 : ¬ ((bAt s m).toNat : Int) < 48 := by omega
        have c6 : ¬ (57 : Int) < ((bAt s m).toNat : Int) := by omega
        generalize nR s 0 k = x at *
        have d1 := w64 (x := 10 * x) (by omega)
        have d2 := w64 (x := ((bAt s m).toNat : Int)) (by omega)
        have d3 := w64 (x := 10 * x + (bAt s m).toNat) (by omega)
        have d4 := w64 (x := 10 * x + (bAt s m).toNat - 48) (by omega)
        have d5 := w64 (x := (m : Int) + 1) (by omega)
        simp -implicitDefEqProofs [hint1, hm1, hm2, c5, c6, d1, d2, d3, d4, d5]
        done)]
      · simp only [H_red]
        generalize 0 + n = m at *
        rcases hc' with hc' | ⟨hc1, hc'⟩
        · have c5 : ((bAt s m).toNat : Int) < 48 := by omega
          simp -implicitDefEqProofs [hm1, hm2, c5, own1]
          done
        · have c5 : ¬ ((bAt s m).toNat : Int) < 48 := by omega
          have c6 : (57 : Int) < ((bAt s m).toNat : Int) := by omega
          simp -implicitDefEqProofs [hm1, hm2, c5, c6, own1]
          done
      · simp only [H_red]
        generalize 0 + n = m at *
        rcases hc' with hc' | ⟨hc1, hc'⟩
        · have c5 : ((bAt s m).toNat : Int) < 48 := by omega
          simp -implicitDefEqProofs [stops, hm1, hm2, c5, own1]
        · have c5 : ¬ ((bAt s m).toNat : Int) < 48 := by omega
          have c6 : (57 : Int) < ((bAt s m).toNat : Int) := by omega
          simp -implicitDefEqProofs [stops, hm1, hm2, c5, c6, own1]
end Go.Proofs.YtemghdnofgjnmaaDoor.VM
