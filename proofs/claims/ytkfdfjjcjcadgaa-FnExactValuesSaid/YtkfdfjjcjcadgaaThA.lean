/- Plain lemmas on numbers and rows: rounds, indices, lists. -/
import Derived.Test.YtkfdfjjcjcadgaaP2
namespace Go.Proofs.Ytkfdfjjcjcadgaa.Th
open Go.RowKit Go.Proofs.Ytkfdfjjcjcadgaa.P Go.Proofs.YtkfdfjjcjcadgaaW.PrintWords Go.Proofs.YtkfdfjjcjcadgaaW.PrintLast

theorem wrap_id {x : Int} (h0 : -9223372036854775808 ≤ x) (h1 : x ≤ 9223372036854775807) : wrap64 x = x := by unfold wrap64; omega
theorem wrap_succ {j : Nat} (h : j < 9223372036854775807) : wrap64 ((j : Int) + 1) = ((j + 1 : Nat) : Int) := by unfold wrap64; omega
theorem wrap_succ' {j : Nat} (h : j < 9223372036854775807) : wrap64 ((j : Int) + 1) = (j : Int) + 1 := by unfold wrap64; omega
theorem le_big {α : Type} {l : List α} {n : Nat} (h : (l.length : Int) ≤ n) (hn : n ≤ 9223372036854775807) : l.length ≤ 9223372036854775807 := by omega
theorem rd_nat {xs : List Int} {j : Nat} (h : j < xs.length) : rd xs (j : Int) = xs[j] := by
  unfold rd
  rw [Int.toNat_natCast, List.getD_eq_getElem?_getD, List.getElem?_eq_getElem h, Option.getD_some]
theorem getD_nat {α : Type} {xs : List α} {z : α} {j : Nat} (h : j < xs.length) : xs.getD ((j : Int)).toNat z = xs[j] := by
  rw [Int.toNat_natCast, List.getD_eq_getElem?_getD, List.getElem?_eq_getElem h, Option.getD_some]
theorem take_set_succ {α : Type} {ys : List α} {j : Nat} {v : α} (h : j < ys.length) : (ys.set j v).take (j + 1) = ys.take j ++ [v] := by
  rw [List.take_succ_eq_append_getElem (by simpa using h), List.getElem_set_self, List.take_set_of_le (Nat.le_refl j)]
theorem drop_cons {α : Type} {xs : List α} {j : Nat} (h : j < xs.length) : xs.drop j = xs[j] :: xs.drop (j + 1) := List.drop_eq_getElem_cons h
theorem map_drop_cons {α β : Type} {xs : List α} {j : Nat} (f : α → β) (h : j < xs.length) : (xs.drop j).map f = f xs[j] :: (xs.drop (j + 1)).map f := by rw [drop_cons h, List.map_cons]
/-- From some number of rounds on. -/
theorem ev_of {α : Type} {g : Nat → Option α} {r : α} (K : Nat) (h : ∀ k, K ≤ k → g k = some r) : Ev g r := ⟨K, h⟩
theorem ev_get {α : Type} {g : Nat → Option α} {r : α} (h : Ev g r) : ∃ K, ∀ k, K ≤ k → g k = some r := h

/-! ### numbers: equal, marked, held -/
/-- Two rows are one: told by their elements from j on. -/
theorem ext_from {α : Type} {xs ys : List α} (hl : xs.length = ys.length) {j : Nat} (hj : j < xs.length) : (xs.drop j = ys.drop j) ↔ (xs[j] = ys[j]'(by omega) ∧ xs.drop (j + 1) = ys.drop (j + 1)) := by
  rw [drop_cons hj, drop_cons (by omega : j < ys.length), List.cons_eq_cons]
theorem eqIntS_l0 (xs ys : List Int) (hl : xs.length = ys.length) (hn : xs.length < 9223372036854775807) (d : Nat) : ∀ (k j : Nat), j ≤ xs.length → xs.length - j = d → d < k →
    laws_eqIntS.l0 k xs ys (j : Int) = some (decide (xs.drop j = ys.drop j)) := by
  induction d with
  | zero =>
    intro k j hj hd hk
    obtain ⟨k, rfl⟩ : ∃ m, k = m + 1 := ⟨k - 1, by omega⟩
    simp only [laws_eqIntS.l0]
    rw [if_neg (by omega), List.drop_of_length_le (by omega), List.drop_of_length_le (by omega)]
    simp
  | succ d ih =>
    intro k j hj hd hk
    obtain ⟨k, rfl⟩ : ∃ m, k = m + 1 := ⟨k - 1, by omega⟩
    have hlt : j < xs.length := by omega
    simp only [laws_eqIntS.l0]
    rw [if_pos (by omega), if_pos (by omega), if_pos (by omega), rd_nat hlt, rd_nat (by omega : j < ys.length), wrap_succ (by omega), ih k (j + 1) (by omega) (by omega) (by omega)]
    by_cases h : xs[j] = ys[j]'(by omega)
    · rw [if_pos h]; simp [ext_from hl hlt, h]
    · rw [if_neg h]; simp [ext_from hl hlt, h]
theorem eqIntS_ev (xs ys : List Int) (hn : xs.length < 9223372036854775807) : ∀ k, xs.length < k → laws_eqIntS.f k xs ys = some (decide (xs = ys)) := by
  intro k hk
  unfold laws_eqIntS.f
  by_cases h : xs.length = ys.length
  · rw [if_pos (by omega)]
    have := eqIntS_l0 xs ys h hn xs.length k 0 (by omega) (by omega) hk
    simpa using this
  · rw [if_neg (by omega)]
    have : xs ≠ ys := fun e => h (by rw [e])
    simp [this]

theorem markIntS_l0 (n : Nat) (hn : n ≤ 1073741824) (d : Nat) : ∀ (k : Nat) (xs : List Int) (c : Int) (j : Nat), xs.length = n → j ≤ n → n - j = d → d < k → 0 ≤ c → c ≤ 4611686018427387904 - d →
    laws_markIntS.l0 k xs c (j : Int) = some (c + d, xs.take j ++ (List.range d).map fun (i : Nat) => c + i) := by
  induction d with
  | zero =>
    intro k xs c j hx hj hd hk h0 h1
    obtain ⟨k, rfl⟩ : ∃ m, k = m + 1 := ⟨k - 1, by omega⟩
    simp only [laws_markIntS.l0]
    rw [if_neg (by omega), List.take_of_length_le (by omega)]
    simp
  | succ d ih =>
    intro k xs c j hx hj hd hk h0 h1
    obtain ⟨k, rfl⟩ : ∃ m, k = m + 1 := ⟨k - 1, by omega⟩
    have hlt : j < xs.length := by omega
    simp only [laws_markIntS.l0, Int.toNat_natCast]
    rw [if_pos (by omega), if_pos (by omega), wrap_succ (by omega), wrap_id (x := c + 1) (by omega) (by omega)]
    have ih' := ih k (xs.set j c) (c + 1) (j + 1) (by simpa using hx) (by omega) (by omega) (by omega) (by omega) (by omega)
    refine Eq.trans ih' ?_
    rw [take_set_succ hlt, List.range_succ_eq_map, List.map_cons, List.append_assoc, List.map_map]
    congr 2
    · omega
    · congr 1
      simp only [List.singleton_append, Function.comp_def]
      congr 1
      · simp
      · refine List.map_congr_left fun i _ => ?_
        omega
theorem markIntS (xs : List Int) (hn : xs.length ≤ 1073741824) (c : Int) (h0 : 0 ≤ c) (h1 : c ≤ 1152921504606846976) : ∀ k, xs.length < k → laws_markIntS.f k xs c = some (c + xs.length, (List.range xs.length).map fun (i : Nat) => c + i) := by
  intro k hk
  have := markIntS_l0 xs.length hn xs.length k xs c 0 rfl (by omega) (by omega) hk h0 (by omega)
  simpa [laws_markIntS.f] using this
theorem heldIntS_l0 (n : Nat) (hn : n ≤ 1073741824) (c0 : Int) (d : Nat) : ∀ (k : Nat) (j : Nat), j ≤ n → n - j = d → d < k → 0 ≤ c0 → c0 ≤ 1152921504606846976 →
    laws_heldIntS.l0 k ((List.range n).map fun (i : Nat) => c0 + i) (c0 + j) (j : Int) = some (c0 + n) := by
  induction d with
  | zero =>
    intro k j hj hd hk h0 h1
    obtain ⟨k, rfl⟩ : ∃ m, k = m + 1 := ⟨k - 1, by omega⟩
    simp only [laws_heldIntS.l0]
    rw [if_neg (by simp; omega)]
    have : j = n := by omega
    rw [this]
  | succ d ih =>
    intro k j hj hd hk h0 h1
    obtain ⟨k, rfl⟩ : ∃ m, k = m + 1 := ⟨k - 1, by omega⟩
    have hlt : j < ((List.range n).map fun (i : Nat) => c0 + (i : Int)).length := by simp; omega
    simp only [laws_heldIntS.l0]
    rw [if_pos (by simp; omega), if_pos (by omega), rd_nat hlt]
    simp only [List.getElem_map, List.getElem_range]
    rw [if_pos trivial, wrap_succ (by omega), wrap_id (by omega) (by omega)]
    have e : c0 + (j : Int) + 1 = c0 + ((j + 1 : Nat) : Int) := by omega
    rw [e]
    exact ih k (j + 1) (by omega) (by omega) (by omega) h0 h1
theorem heldIntS (n : Nat) (hn : n ≤ 1073741824) (c : Int) (h0 : 0 ≤ c) (h1 : c ≤ 1152921504606846976) : ∀ k, n < k → laws_heldIntS.f k ((List.range n).map fun (i : Nat) => c + i) c = some (c + n) := by
  intro k hk
  have := heldIntS_l0 n hn c n k 0 (by omega) (by omega) hk h0 h1
  simpa [laws_heldIntS.f] using this
end Go.Proofs.Ytkfdfjjcjcadgaa.Th
