/- Cuts: the plain law. -/
import Derived.Test.YtninncdacekfgaaK29
import Derived.Test.YtninncdacekfgaaK14
/- The plain law of cuts: those that are whole; the greatest one below a cut. -/
namespace Go.Proofs.Ytninncdacekfgaa.VM
open Go Go.Proofs
set_option linter.unusedSimpArgs false
set_option linter.unusedVariables false
theorem lackF_iff {h : List (List Ev)} {c : List Int} {a b : Nat} (hl : cAt c b ≤ (rowH h b).length) : lackF h c a b < 0 ↔ cntE ((rowH h b).take (cAt c b)) 3 a ≤ cntE ((rowH h a).take (cAt c a)) 2 b := by
 unfold lackF
 rw [nth_cut hl]
 constructor
 ·intro hlt
  split at hlt
  ·assumption
  ·rename_i hc
   have h1 := nth_lt hl (k := 3) (p := a) (n := cntE ((rowH h a).take (cAt c a)) 2 b) (by omega)
   rw [nthF_of (by omega)] at hlt
   omega
 ·intro hc
  rw [if_pos hc]
  omega
theorem whole_iff {h : List (List Ev)} {c : List Int} (I : CutI h c) : wholeB h c = true ↔ ∀ a, a < h.length → ∀ b, b < h.length → cntE ((rowH h b).take (cAt c b)) 3 a ≤ cntE ((rowH h a).take (cAt c a)) 2 b := by
 unfold wholeB
 rw [I.len]
 constructor
 ·intro w a ha b hb
  have h1 := of_decide_eq_true (allTo_of (allTo_of w a ha) b hb)
  exact (lackF_iff (I.at_ (by rw [I.len]; exact hb)).2).1 h1
 ·intro w
  exact allTo_to fun a ha => allTo_to fun b hb => decide_eq_true ((lackF_iff (I.at_ (by rw [I.len]; exact hb)).2).2 (w a ha b hb))
/-- The greater ones of two that are whole. -/
theorem whole_max {h : List (List Ev)} {c1 c2 c : List Int} (I1 : CutI h c1) (I2 : CutI h c2) (I : CutI h c) (w1 : wholeB h c1 = true) (w2 : wholeB h c2 = true) (hc : ∀ p, p < h.length → cAt c p = max (cAt c1 p) (cAt c2 p)) : wholeB h c = true := by
 rw [whole_iff I1] at w1
 rw [whole_iff I2] at w2
 rw [whole_iff I]
 intro a ha b hb
 have e1 := hc a ha
 have e2 := hc b hb
 rcases Nat.le_total (cAt c1 b) (cAt c2 b) with h' | h'
 ·rw [show cAt c b = cAt c2 b by omega]
  have := w2 a ha b hb
  have := cntE_mono (es := rowH h a) (k := 2) (p := b) (show cAt c2 a ≤ cAt c a by omega)
  omega
 ·rw [show cAt c b = cAt c1 b by omega]
  have := w1 a ha b hb
  have := cntE_mono (es := rowH h a) (k := 2) (p := b) (show cAt c1 a ≤ cAt c a by omega)
  omega
/-- The lesser ones. -/
theorem whole_min {h : List (List Ev)} {c1 c2 c : List Int} (I1 : CutI h c1) (I2 : CutI h c2) (I : CutI h c) (w1 : wholeB h c1 = true) (w2 : wholeB h c2 = true) (hc : ∀ p, p < h.length → cAt c p = min (cAt c1 p) (cAt c2 p)) : wholeB h c = true := by
 rw [whole_iff I1] at w1
 rw [whole_iff I2] at w2
 rw [whole_iff I]
 intro a ha b hb
 have e1 := hc a ha
 have e2 := hc b hb
 rcases Nat.le_total (cAt c1 a) (cAt c2 a) with h' | h'
 ·rw [show cAt c a = cAt c1 a by omega]
  have := w1 a ha b hb
  have := cntE_mono (es := rowH h b) (k := 3) (p := a) (show cAt c b ≤ cAt c1 b by omega)
  omega
 ·rw [show cAt c a = cAt c2 a by omega]
  have := w2 a ha b hb
  have := cntE_mono (es := rowH h b) (k := 3) (p := a) (show cAt c b ≤ cAt c2 b by omega)
  omega
/-- Nothing that is reached has a take without its send. -/
theorem reach_fit {h : List (List Ev)} {d : Nat → Nat} (hd : Reach h d) : ∀ a b : Nat, cntE ((rowH h b).take (d b)) 3 a ≤ cntE ((rowH h a).take (d a)) 2 b := by
 induction hd with
 | zero => intro a b; simp [cntE]
 | @step d p hr hp he ih =>
  intro a b
  have h0 := ih a b
  have hlt := enB_lt hr he
  have hm := cntE_mono (es := rowH h a) (k := 2) (p := b) (bump_ge (d := d) (p := p) a)
  by_cases hb : b = p
  ·subst hb
   have hbb : bump d b b = d b + 1 := by unfold bump; rw [if_pos rfl]
   rw [hbb, cntE_succ hlt]
   split
   ·rename_i q
    obtain ⟨k1, k2⟩ := isB_true q
    have ev : evAt (rowH h b) (d b) = (rowH h b)[d b] := evAt_of hlt
    have h1 := (enB_iff hlt).1 he (by rw [ev]; exact k1)
    rw [ev, k2, Int.toNat_natCast] at h1
    omega
   ·omega
  ·rw [show bump d p b = d b by unfold bump; rw [if_neg hb]]
   omega
theorem lens_cAt {h : List (List Ev)} {p : Nat} (hp : p < h.length) : cAt (lensI h) p = (rowH h p).length := by
 unfold cAt lensI rowH
 rw [List.getElem?_map, List.getElem?_eq_getElem hp]
 simp
theorem lens_get {h : List (List Ev)} {p : Nat} (hp : p < h.length) : (lensI h)[p]? = some ((rowH h p).length : Int) := by
 unfold lensI rowH
 rw [List.getElem?_map, List.getElem?_eq_getElem hp]
 simp
theorem lens_cut (h : List (List Ev)) : CutI h (lensI h) := ⟨by simp [lensI], fun p hp => ⟨(rowH h p).length, Option.some.inj (by
 rw [← List.getElem?_eq_getElem hp]
 exact lens_get (by simpa [lensI] using hp)), Nat.le_refl _⟩⟩
theorem lens_whole {h : List (List Ev)} (R : Reach h (fullD h)) : wholeB h (lensI h) = true := by
 rw [whole_iff (lens_cut h)]
 intro a ha b hb
 rw [lens_cAt ha, lens_cAt hb]
 exact reach_fit R a b
theorem zero_cut (h : List (List Ev)) : CutI h (List.replicate h.length 0) := ⟨by simp, fun p hp => ⟨0, by simp, Nat.zero_le _⟩⟩
theorem zero_whole (h : List (List Ev)) : wholeB h (List.replicate h.length 0) = true := by
 rw [whole_iff (zero_cut h)]
 intro a ha b hb
 have : cAt (List.replicate h.length 0) b = 0 := by
  unfold cAt
  rw [List.getElem?_replicate]
  split <;> simp
 rw [this]
 simp [cntE]
/-! ### the greatest one -/
/-- What is taken away from a cut hangs on what it has not. -/
def Hold (h : List (List Ev)) (cut o : List Int) : Prop := ∀ p, p < h.length → cAt o p ≤ cAt cut p ∧ (cAt o p < cAt cut p → ∃ q, q < h.length ∧ cAt cut q < clk h p (cAt o p) q)
theorem shut1_hold {h : List (List Ev)} (R : Reach h (fullD h)) {cut o : List Int} (J : CutI h cut) (I : CutI h o) (H : Hold h cut o) {a b : Nat} (ha : a < h.length) (hb : b < h.length) : Hold h cut (shut1 h o a b) := by
 unfold shut1
 by_cases hl : lackF h o a b < 0
 ·rw [if_pos hl]
  exact H
 rw [if_neg hl]
 have hbo : b < o.length := by rw [I.len]; exact hb
 have lb := (I.at_ hbo).2
 have la := (I.at_ (show a < o.length by rw [I.len]; exact ha)).2
 have lca := (J.at_ (show a < cut.length by rw [J.len]; exact ha)).2
 have hc : ¬ cntE ((rowH h b).take (cAt o b)) 3 a ≤ cntE ((rowH h a).take (cAt o a)) 2 b := fun e => hl ((lackF_iff lb).2 e)
 have hlt := nth_lt lb (n := cntE ((rowH h a).take (cAt o a)) 2 b) (k := 3) (p := a) (by omega)
 obtain ⟨t1, t2⟩ := cnt_nth (es := rowH h b) (k := 3) (p := a) (n := cntE ((rowH h a).take (cAt o a)) 2 b) (by omega)
 have hm : lackF h o a b = nthN (rowH h b) 3 a (cntE ((rowH h a).take (cAt o a)) 2 b) := by
  unfold lackF
  rw [nth_cut lb, if_neg hc, nthF_of (by omega)]
 rw [hm]
 generalize nthN (rowH h b) 3 a (cntE ((rowH h a).take (cAt o a)) 2 b) = m at hlt t1 t2
 have hml : m < (rowH h b).length := by omega
 intro p hp
 rw [cAt_set hbo]
 by_cases hpb : p = b
 ·subst hpb
  rw [if_pos rfl]
  have h1 := (H p hp).1
  refine ⟨by omega, fun _ => ?_⟩
  obtain ⟨hk, hpe⟩ := isB_true t1
  have hpn : peerN h p m = a := by unfold peerN; rw [hpe]; simp
  obtain ⟨s1, s2, _⟩ := send_has R p m hml hk
  rw [hpn] at s2
  have s2 : (senderF h p m).toNat < (rowH h a).length := s2
  have hs : senderF h p m = nthF (rowH h a) 2 p (cntE ((rowH h a).take (cAt o a)) 2 p) := by
   unfold senderF
   rw [if_pos hk, hpe, t2, Int.toNat_natCast]
  have hn : nthN (rowH h a) 2 p (cntE ((rowH h a).take (cAt o a)) 2 p) < (rowH h a).length := by
   have hle : nthN (rowH h a) 2 p (cntE ((rowH h a).take (cAt o a)) 2 p) ≤ (rowH h a).length := lead_le _ _
   rw [hs] at s1
   unfold nthF at s1
   split at s1
   ·omega
   ·omega
  have hkk : (senderF h p m).toNat = nthN (rowH h a) 2 p (cntE ((rowH h a).take (cAt o a)) 2 p) := by
   rw [hs, nthF_of hn, Int.toNat_natCast]
  obtain ⟨u1, u2⟩ := cnt_nth hn
  have u3 := cntE_next hn 2 p
  rw [if_pos u1, u2] at u3
  rw [← hkk] at u3
  have hge : cAt o a ≤ (senderF h p m).toNat := by
   rcases Nat.lt_or_ge (senderF h p m).toNat (cAt o a) with q | q
   ·have u4 := cntE_mono (es := rowH h a) (k := 2) (p := p) (a := (senderF h p m).toNat + 1) (b := cAt o a) q
    omega
   ·exact q
  have q1 := clk_send R hml s1
  rw [hpn] at q1
  by_cases hlt2 : cAt o a < cAt cut a
  ·obtain ⟨q, hq, hw⟩ := (H a ha).2 hlt2
   refine ⟨q, hq, ?_⟩
   have q2 := clk_mono R (p := a) q (i := (senderF h p m).toNat) (j := cAt o a) s2 hge
   have q3 := q1 q
   omega
  ·refine ⟨a, ha, ?_⟩
   have q3 := q1 a
   rw [clk_own R s2] at q3
   have := (H a ha).1
   omega
 ·rw [if_neg hpb]
  exact H p hp
theorem shutR_hold {h : List (List Ev)} (R : Reach h (fullD h)) {cut o : List Int} (J : CutI h cut) (I : CutI h o) (H : Hold h cut o) {a : Nat} (ha : a < h.length) : ∀ {n : Nat}, n ≤ h.length → Hold h cut (shutR h a o n)
 | 0, _ => H
 | n + 1, hn => shut1_hold R J (shutR_inv I (a := a) (n := n) (by omega)).1 (shutR_hold R J I H ha (n := n) (by omega)) ha (by omega)
theorem shutP_hold {h : List (List Ev)} (R : Reach h (fullD h)) {cut o : List Int} (J : CutI h cut) (I : CutI h o) (H : Hold h cut o) : ∀ {n : Nat}, n ≤ h.length → Hold h cut (shutP h o n)
 | 0, _ => H
 | n + 1, hn => shutR_hold R J (shutP_inv I (n := n) (by omega)).1 (shutP_hold R J I H (n := n) (by omega)) (by omega) (Nat.le_refl _)
theorem shutAt_hold {h : List (List Ev)} (R : Reach h (fullD h)) {cut : List Int} (J : CutI h cut) : ∀ i, CutI h (shutAt h cut i) ∧ Hold h cut (shutAt h cut i)
 | 0 => ⟨J, fun p hp => ⟨Nat.le_refl _, fun hlt => absurd hlt (by show ¬ cAt cut p < cAt cut p; omega)⟩⟩
 | i + 1 => by
  obtain ⟨I, H⟩ := shutAt_hold R J i
  have e : shutAt h cut (i + 1) = shutP h (shutAt h cut i) h.length := rfl
  rw [e]
  exact ⟨(shutP_inv I (Nat.le_refl _)).1, shutP_hold R J I H (Nat.le_refl _)⟩
theorem shutF_hold {h : List (List Ev)} (R : Reach h (fullD h)) {cut : List Int} (J : CutI h cut) : CutI h (shutF h cut) ∧ Hold h cut (shutF h cut) ∧ wholeB h (shutF h cut) = true :=
 ⟨(shutAt_hold R J _).1, (shutAt_hold R J _).2, (shutN_spec J).2.1⟩
end Go.Proofs.Ytninncdacekfgaa.VM
