/- Clocks: the plain law. -/
import Derived.Test.YtninncdacekfgaaK14
import Derived.Test.YtninncdacekfgaaK17
/- The plain law of clocks. -/
namespace Go.Proofs.Ytninncdacekfgaa.VM
open Go Go.Proofs
set_option linter.unusedSimpArgs false
set_option linter.unusedVariables false
theorem nth_lt {es : List Ev} {k p : Int} {n c : Nat} (hc : c ≤ es.length) (h : n < cntE (es.take c) k p) : nthN es k p n < c := by
 have h1 := (nth_has (es := es.take c) (k := k) (p := p) (n := n)).2 h
 rw [nth_take hc, List.length_take] at h1
 omega
theorem nthF_of {es : List Ev} {k p : Int} {n : Nat} (h : nthN es k p n < es.length) : nthF es k p n = nthN es k p n := by
 unfold nthF
 rw [if_neg (by omega)]
/-- Who a take takes from. -/
def peerN (h : List (List Ev)) (p i : Nat) : Nat := (evAt (rowH h p) i).peer.toNat
theorem bump_ge {d : Nat → Nat} {p : Nat} (q : Nat) : d q ≤ bump d p q := by
 unfold bump
 split <;> omega
theorem bump_old {d : Nat → Nat} {p q i : Nat} (h : i < bump d p q) (hn : ¬ (q = p ∧ i = d p)) : i < d q := by
 unfold bump at h
 split at h
 ·rename_i e
  subst e
  have : ¬ i = d q := fun e => hn ⟨rfl, e⟩
  omega
 ·exact h
theorem send_has {h : List (List Ev)} {d : Nat → Nat} (hd : Reach h d) : ∀ p i, i < d p → (evAt (rowH h p) i).kind = 3 → 0 ≤ senderF h p i ∧ (senderF h p i).toNat < d (peerN h p i) ∧ (peerN h p i = p → (senderF h p i).toNat < i) := by
 induction hd with
 | zero => intro p i hi; exact absurd hi (Nat.not_lt_zero _)
 | @step d p0 hr hp he ih =>
  intro p i hi hk
  by_cases hn : p = p0 ∧ i = d p0
  ·obtain ⟨rfl, rfl⟩ := hn
   have hlt := enB_lt hr he
   have hc := (enB_iff hlt).1 he hk
   have hle := reach_len hr (peerN h p (d p))
   have h1 := nth_lt hle hc
   have h2 : senderF h p (d p) = nthN (rowH h (peerN h p (d p))) 2 p (cntE ((rowH h p).take (d p)) 3 (evAt (rowH h p) (d p)).peer) := by
    unfold senderF
    rw [if_pos hk]
    exact nthF_of (es := rowH h (peerN h p (d p))) (Nat.lt_of_lt_of_le h1 hle)
   have h3 := bump_ge (d := d) (p := p) (peerN h p (d p))
   refine ⟨by omega, by omega, fun e => ?_⟩
   rw [e] at h1 h2
   omega
  ·have h1 := bump_old hi hn
   obtain ⟨a, b, c⟩ := ih p i h1 hk
   exact ⟨a, by have := bump_ge (d := d) (p := p0) (peerN h p i); omega, c⟩
theorem send_kind {h : List (List Ev)} {p i : Nat} (hs : 0 ≤ senderF h p i) : (evAt (rowH h p) i).kind = 3 := by
 unfold senderF at hs
 split at hs
 ·assumption
 ·omega
/-- How many events of each a clock has, looking so far back. -/
def clkN (h : List (List Ev)) : Nat → Nat → Nat → Nat → Nat
 | 0, _, _, _ => 0
 | f + 1, p, i, q => if q = p then i + 1 else max (if 0 < i then clkN h f p (i - 1) q else 0) (if 0 ≤ senderF h p i then clkN h f (peerN h p i) (senderF h p i).toNat q else 0)
theorem clk_stab {h : List (List Ev)} {d : Nat → Nat} (hd : Reach h d) : ∀ p i, i < d p → ∀ f g q, sumD d h.length ≤ f → sumD d h.length ≤ g → clkN h f p i q = clkN h g p i q := by
 induction hd with
 | zero => intro p i hi; exact absurd hi (Nat.not_lt_zero _)
 | @step d p0 hr hp he ih =>
  intro p i hi f g q hf hg
  have hs := sumD_bump (d := d) hp
  rw [hs] at hf hg
  by_cases hn : p = p0 ∧ i = d p0
  ·obtain ⟨rfl, rfl⟩ := hn
   obtain ⟨f, rfl⟩ : ∃ k, f = k + 1 := ⟨f - 1, by omega⟩
   obtain ⟨g, rfl⟩ : ∃ k, g = k + 1 := ⟨g - 1, by omega⟩
   rw [clkN, clkN]
   have e1 : (if 0 < d p then clkN h f p (d p - 1) q else 0) = if 0 < d p then clkN h g p (d p - 1) q else 0 := by
    split
    ·exact ih p (d p - 1) (by omega) f g q (by omega) (by omega)
    ·rfl
   have e2 : (if 0 ≤ senderF h p (d p) then clkN h f (peerN h p (d p)) (senderF h p (d p)).toNat q else 0) = if 0 ≤ senderF h p (d p) then clkN h g (peerN h p (d p)) (senderF h p (d p)).toNat q else 0 := by
    split
    ·rename_i h0
     obtain ⟨_, b, c⟩ := send_has (Reach.step hr hp he) p (d p) (by unfold bump; rw [if_pos rfl]; omega) (send_kind h0)
     refine ih _ _ ?_ f g q (by omega) (by omega)
     by_cases hpp : peerN h p (d p) = p
     ·rw [hpp]
      exact c hpp
     ·unfold bump at b
      rw [if_neg hpp] at b
      exact b
    ·rfl
   rw [e1, e2]
  ·exact ih p i (bump_old hi hn) f g q (by omega) (by omega)
/-- The clock of an event. -/
def clk (h : List (List Ev)) (p i q : Nat) : Nat := clkN h (allE h) p i q
theorem clk_rec {h : List (List Ev)} (R : Reach h (fullD h)) {p i : Nat} (hi : i < (rowH h p).length) (q : Nat) : clk h p i q = if q = p then i + 1 else max (if 0 < i then clk h p (i - 1) q else 0) (if 0 ≤ senderF h p i then clk h (peerN h p i) (senderF h p i).toNat q else 0) := by
 have e : clk h p i q = clkN h (allE h + 1) p i q := clk_stab R p i hi _ _ q (Nat.le_refl _) (Nat.le_succ _)
 rw [e, clkN]
 rfl
theorem clk_own {h : List (List Ev)} (R : Reach h (fullD h)) {p i : Nat} (hi : i < (rowH h p).length) : clk h p i p = i + 1 := by
 rw [clk_rec R hi, if_pos rfl]
theorem clk_le {h : List (List Ev)} (R : Reach h (fullD h)) {d : Nat → Nat} (hd : Reach h d) : ∀ p i, i < d p → ∀ q, clk h p i q ≤ d q := by
 induction hd with
 | zero => intro p i hi; exact absurd hi (Nat.not_lt_zero _)
 | @step d p0 hr hp he ih =>
  intro p i hi q
  by_cases hn : p = p0 ∧ i = d p0
  ·obtain ⟨rfl, rfl⟩ := hn
   rw [clk_rec R (enB_lt hr he)]
   split
   ·rename_i e
    subst e
    unfold bump
    rw [if_pos rfl]
    omega
   ·have hb := bump_ge (d := d) (p := p) q
    have a1 : (if 0 < d p then clk h p (d p - 1) q else 0) ≤ d q := by
     split
     ·exact ih p (d p - 1) (by omega) q
     ·omega
    have a2 : (if 0 ≤ senderF h p (d p) then clk h (peerN h p (d p)) (senderF h p (d p)).toNat q else 0) ≤ d q := by
     split
     ·rename_i h0
      obtain ⟨_, b, c⟩ := send_has (Reach.step hr hp he) p (d p) (by unfold bump; rw [if_pos rfl]; omega) (send_kind h0)
      refine ih _ _ ?_ q
      by_cases hpp : peerN h p (d p) = p
      ·rw [hpp]
       exact c hpp
      ·unfold bump at b
       rw [if_neg hpp] at b
       exact b
     ·omega
    omega
  ·have := ih p i (bump_old hi hn) q
   have hb := bump_ge (d := d) (p := p0) q
   omega
theorem clk_before {h : List (List Ev)} (R : Reach h (fullD h)) {d : Nat → Nat} (hd : Reach h d) : ∀ p i, i < d p → 0 ≤ senderF h p i → clk h (peerN h p i) (senderF h p i).toNat p ≤ i := by
 induction hd with
 | zero => intro p i hi; exact absurd hi (Nat.not_lt_zero _)
 | @step d p0 hr hp he ih =>
  intro p i hi h0
  by_cases hn : p = p0 ∧ i = d p0
  ·obtain ⟨rfl, rfl⟩ := hn
   obtain ⟨_, b, c⟩ := send_has (Reach.step hr hp he) p (d p) (by unfold bump; rw [if_pos rfl]; omega) (send_kind h0)
   refine clk_le R hr _ _ ?_ p
   by_cases hpp : peerN h p (d p) = p
   ·rw [hpp]
    exact c hpp
   ·unfold bump at b
    rw [if_neg hpp] at b
    exact b
  ·exact ih p i (bump_old hi hn) h0
theorem clk_send {h : List (List Ev)} (R : Reach h (fullD h)) {p i : Nat} (hi : i < (rowH h p).length) (h0 : 0 ≤ senderF h p i) (r : Nat) : clk h (peerN h p i) (senderF h p i).toNat r ≤ clk h p i r := by
 have hb := clk_before R R p i hi h0
 rw [clk_rec R hi]
 split
 ·rename_i e
  subst e
  omega
 ·first | exact Nat.le_max_right _ _ | (rw [if_pos h0]; exact Nat.le_max_right _ _)
theorem clk_prev {h : List (List Ev)} (R : Reach h (fullD h)) {p i : Nat} (hi : i < (rowH h p).length) (h0 : 0 < i) (r : Nat) : clk h p (i - 1) r ≤ clk h p i r := by
 rw [clk_rec R hi r]
 split
 ·rename_i e
  subst e
  rw [clk_own R (by omega)]
  omega
 ·first | exact Nat.le_max_left _ _ | (rw [if_pos h0]; exact Nat.le_max_left _ _)
theorem clk_mono {h : List (List Ev)} (R : Reach h (fullD h)) {p j : Nat} (r : Nat) : ∀ {i : Nat}, i < (rowH h p).length → j ≤ i → clk h p j r ≤ clk h p i r
 | 0, hi, hj => by
  have : j = 0 := by omega
  subst this
  exact Nat.le_refl _
 | i + 1, hi, hj => by
  by_cases e : j = i + 1
  ·subst e
   exact Nat.le_refl _
  ·have h1 := clk_mono R r (i := i) (j := j) (p := p) (by omega) (by omega)
   have h2 := clk_prev R hi (by omega) r
   simp only [Nat.add_sub_cancel] at h2
   omega
theorem clk_trans {h : List (List Ev)} (R : Reach h (fullD h)) {d : Nat → Nat} (hd : Reach h d) : ∀ p i, i < d p → ∀ q, 0 < clk h p i q → ∀ r, clk h q (clk h p i q - 1) r ≤ clk h p i r := by
 induction hd with
 | zero => intro p i hi; exact absurd hi (Nat.not_lt_zero _)
 | @step d p0 hr hp he ih =>
  intro p i hi q h0 r
  by_cases hn : p = p0 ∧ i = d p0
  ·obtain ⟨rfl, rfl⟩ := hn
   have hlt := enB_lt hr he
   by_cases e : q = p
   ·subst e
    rw [clk_own R hlt]
    exact Nat.le_refl _
   ·have hrec := clk_rec R hlt q
    rw [if_neg e] at hrec
    by_cases h1 : (if 0 ≤ senderF h p (d p) then clk h (peerN h p (d p)) (senderF h p (d p)).toNat q else 0) ≤ (if 0 < d p then clk h p (d p - 1) q else 0)
    ·rw [Nat.max_eq_left h1] at hrec
     have hd0 : 0 < d p := by
      rcases Nat.eq_zero_or_pos (d p) with hz | hz
      ·rw [hz, if_neg (by omega)] at hrec
       rw [hz] at h0
       omega
      ·exact hz
     rw [if_pos hd0] at hrec
     have h2 := ih p (d p - 1) (by omega) q (by omega) r
     have h3 := clk_prev R hlt hd0 r
     rw [← hrec] at h2
     omega
    ·rw [Nat.max_eq_right (by omega)] at hrec
     have hs : 0 ≤ senderF h p (d p) := by
      rcases Int.lt_or_le (senderF h p (d p)) 0 with hz | hz
      ·rw [if_neg (by omega)] at hrec
       omega
      ·exact hz
     rw [if_pos hs] at hrec
     obtain ⟨_, b, c⟩ := send_has (Reach.step hr hp he) p (d p) (by unfold bump; rw [if_pos rfl]; omega) (send_kind hs)
     have h2 := ih (peerN h p (d p)) (senderF h p (d p)).toNat (by
      by_cases hpp : peerN h p (d p) = p
      ·rw [hpp]
       exact c hpp
      ·unfold bump at b
       rw [if_neg hpp] at b
       exact b) q (by omega) r
     have h3 := clk_send R hlt hs r
     rw [← hrec] at h2
     omega
  ·exact ih p i (bump_old hi hn) q h0 r
theorem clk_anti {h : List (List Ev)} (R : Reach h (fullD h)) {d : Nat → Nat} (hd : Reach h d) : ∀ p i q j, i < d p → j < d q → p ≠ q → j < clk h p i q → i < clk h q j p → False := by
 induction hd with
 | zero => intro p i q j hi; exact absurd hi (Nat.not_lt_zero _)
 | @step d p0 hr hp he ih =>
  intro p i q j hi hj hpq h1 h2
  by_cases hn : p = p0 ∧ i = d p0
  ·obtain ⟨rfl, rfl⟩ := hn
   have hj' : j < d q := bump_old hj fun x => hpq x.1.symm
   have := clk_le R hr q j hj' p
   omega
  ·have hi' := bump_old hi hn
   by_cases hm : q = p0 ∧ j = d p0
   ·obtain ⟨rfl, rfl⟩ := hm
    have := clk_le R hr p i hi' q
    omega
   ·exact ih p i q j hi' (bump_old hj hm) hpq h1 h2
/-- The clock as a row. -/
def clkL (h : List (List Ev)) (p i : Nat) : List Int := (List.range h.length).map fun q => (clk h p i q : Int)
theorem clkL_len (h : List (List Ev)) (p i : Nat) : (clkL h p i).length = h.length := by simp [clkL]
theorem clkL_at {h : List (List Ev)} {p i q : Nat} (hq : q < h.length) : (clkL h p i)[q]? = some (clk h p i q : Int) := by
 unfold clkL
 rw [List.getElem?_map, List.getElem?_range hq]
 rfl
theorem clkL_cAt {h : List (List Ev)} {p i q : Nat} (hq : q < h.length) : cAt (clkL h p i) q = clk h p i q := by
 unfold cAt
 rw [clkL_at hq]
 simp
theorem rowH_lt {h : List (List Ev)} {p i : Nat} (hi : i < (rowH h p).length) : p < h.length := by
 rcases Nat.lt_or_ge p h.length with h' | h'
 ·exact h'
 ·rw [rowH_out h'] at hi
  simp at hi
theorem cnt_nth {es : List Ev} {k p : Int} {n : Nat} (h : nthN es k p n < es.length) : isB (evAt es (nthN es k p n)) k p = true ∧ cntE (es.take (nthN es k p n)) k p = n := by
 have hb := lead_bad (p := nthG es k p n) h
 rw [show lead (nthG es k p n) es.length = nthN es k p n from rfl] at hb
 unfold nthG at hb
 simp at hb
 exact hb
theorem cntE_next {es : List Ev} {i : Nat} (hi : i < es.length) (k p : Int) : cntE (es.take (i + 1)) k p = cntE (es.take i) k p + if isB (evAt es i) k p = true then 1 else 0 := by
 rw [cntE_succ hi, evAt_of hi]
/-- What a clock has is whole. -/
theorem clk_whole {h : List (List Ev)} (R : Reach h (fullD h)) {p i : Nat} (hi : i < (rowH h p).length) : wholeB h (clkL h p i) = true := by
 unfold wholeB
 rw [clkL_len]
 refine allTo_to fun a ha => allTo_to fun b hb => decide_eq_true ?_
 unfold lackF
 rw [clkL_cAt ha, clkL_cAt hb]
 have lb : clk h p i b ≤ (rowH h b).length := clk_le R R p i hi b
 have la : clk h p i a ≤ (rowH h a).length := clk_le R R p i hi a
 rw [nth_cut lb]
 by_cases hc : cntE ((rowH h b).take (clk h p i b)) 3 a ≤ cntE ((rowH h a).take (clk h p i a)) 2 b
 ·rw [if_pos hc]
  omega
 exfalso
 have hlt := nth_lt lb (n := cntE ((rowH h a).take (clk h p i a)) 2 b) (k := 3) (p := a) (by omega)
 obtain ⟨t1, t2⟩ := cnt_nth (es := rowH h b) (k := 3) (p := a) (n := cntE ((rowH h a).take (clk h p i a)) 2 b) (by omega)
 generalize hm : nthN (rowH h b) 3 a (cntE ((rowH h a).take (clk h p i a)) 2 b) = m at hlt t1 t2
 have hml : m < (rowH h b).length := by omega
 obtain ⟨hk, hpe⟩ := isB_true t1
 have hpn : peerN h b m = a := by unfold peerN; rw [hpe]; simp
 obtain ⟨s1, s2, _⟩ := send_has R b m hml hk
 rw [hpn] at s2
 have hs : senderF h b m = nthF (rowH h a) 2 b (cntE ((rowH h a).take (clk h p i a)) 2 b) := by
  unfold senderF
  rw [if_pos hk, hpe, t2, Int.toNat_natCast]
 have q1 := clk_send R hml s1 a
 rw [hpn, clk_own R s2] at q1
 have q2 := clk_mono R (p := b) a (i := clk h p i b - 1) (j := m) (by omega) (by omega)
 have q3 := clk_trans R R p i hi b (by omega) a
 have hn : nthN (rowH h a) 2 b (cntE ((rowH h a).take (clk h p i a)) 2 b) < (rowH h a).length := by
  rw [hs] at s1
  obtain ⟨m', e1, e2⟩ := nthF_lt s1
  unfold nthF at e1 s1
  split at s1
  ·omega
  ·rename_i hne
   rw [if_neg hne] at e1
   omega
 rw [hs, nthF_of hn] at q1
 have hc1 := nth_has.1 hn
 obtain ⟨u1, u2⟩ := cnt_nth hn
 have u3 := cntE_next hn 2 b
 rw [if_pos u1, u2] at u3
 have u4 := cntE_mono (es := rowH h a) (k := 2) (p := b) (a := nthN (rowH h a) 2 b (cntE ((rowH h a).take (clk h p i a)) 2 b) + 1) (b := clk h p i a) (by simp only [Int.toNat_natCast] at q1; omega)
 omega
end Go.Proofs.Ytninncdacekfgaa.VM
