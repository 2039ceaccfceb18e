/- What is told by its number; cuts: reckoned. -/
import Derived.Test.YtninncdacekfgaaK12
/- The plain law of what is told by its number; of cuts. -/
namespace Go.Proofs.Ytninncdacekfgaa.VM
open Go Go.Proofs
set_option linter.unusedSimpArgs false
set_option linter.unusedVariables false
/-- How many first ones are good. -/
def lead (p : Nat → Bool) : Nat → Nat
 | 0 => 0
 | n + 1 => if lead p n = n ∧ p n = true then n + 1 else lead p n
theorem lead_le (p : Nat → Bool) : ∀ n, lead p n ≤ n
 | 0 => Nat.le_refl _
 | n + 1 => by
  have := lead_le p n
  rw [lead]
  split <;> omega
theorem lead_good {p : Nat → Bool} : ∀ {n i : Nat}, i < lead p n → p i = true
 | 0, i, h => by simp [lead] at h
 | n + 1, i, h => by
  rw [lead] at h
  split at h
  ·rename_i hc
   rcases Nat.lt_or_ge i n with h' | h'
   ·exact lead_good (n := n) (by omega)
   ·have : i = n := by omega
    rw [this]
    exact hc.2
  ·exact lead_good h
theorem lead_bad {p : Nat → Bool} : ∀ {n : Nat}, lead p n < n → p (lead p n) = false
 | 0, h => by omega
 | n + 1, h => by
  rw [lead] at h ⊢
  split at h
  ·omega
  ·rename_i hc
   rw [if_neg hc]
   rcases Nat.lt_or_ge (lead p n) n with h' | h'
   ·exact lead_bad h'
   ·have := lead_le p n
    have h2 : lead p n = n := by omega
    rw [h2]
    cases hp : p n with
    | false => rfl
    | true => exact absurd ⟨h2, hp⟩ hc
theorem lead_eq {p : Nat → Bool} {n N : Nat} (hN : N ≤ n) (hg : ∀ i, i < N → p i = true) (hb : N = n ∨ p N = false) : lead p n = N := by
 rcases Nat.lt_trichotomy (lead p n) N with h | h | h
 ·have := lead_bad (p := p) (n := n) (by omega)
  rw [hg _ h] at this
  simp at this
 ·exact h
 ·have := lead_good h
  have := lead_le p n
  rcases hb with hb | hb
  ·omega
  ·simp_all
theorem lead_same {p q : Nat → Bool} {n : Nat} (h : ∀ i, i < n → p i = q i) : lead p n = lead q n := by
 have h1 := lead_le q n
 refine lead_eq h1 (fun i hi => by rw [h i (by omega)]; exact lead_good hi) ?_
 rcases Nat.lt_or_ge (lead q n) n with h' | h'
 ·exact .inr (by rw [h _ h']; exact lead_bad h')
 ·exact .inl (by omega)
theorem lead_all {p : Nat → Bool} {n : Nat} : lead p n = n ↔ ∀ i, i < n → p i = true :=
 ⟨fun h i hi => lead_good (n := n) (by omega), fun h => lead_eq (Nat.le_refl _) h (.inl rfl)⟩
/-! ### the n-th of a Kind and a Peer -/
theorem cntE_succ {es : List Ev} {i : Nat} (hi : i < es.length) (k p : Int) : cntE (es.take (i + 1)) k p = cntE (es.take i) k p + if isB es[i] k p = true then 1 else 0 := by
 rw [← valsE_cnt, ← valsE_cnt, valsE_succ hi, List.length_append]
 split <;> rfl
theorem cntE_take (es : List Ev) (i j : Nat) (k p : Int) : cntE ((es.take i).take j) k p = cntE (es.take (min j i)) k p := by rw [List.take_take]
/-- Not the one that is looked for. -/
def nthG (es : List Ev) (k p : Int) (n i : Nat) : Bool := !(isB (evAt es i) k p && decide (cntE (es.take i) k p = n))
def nthN (es : List Ev) (k p : Int) (n : Nat) : Nat := lead (nthG es k p n) es.length
def nthF (es : List Ev) (k p : Int) (n : Nat) : Int := if nthN es k p n = es.length then -1 else nthN es k p n
theorem nth_cnt {es : List Ev} {k p : Int} {n : Nat} : ∀ {i : Nat}, i ≤ nthN es k p n → cntE (es.take i) k p ≤ n
 | 0, _ => by simp [cntE]
 | i + 1, h => by
  have h1 := nth_cnt (i := i) (es := es) (k := k) (p := p) (n := n) (by omega)
  have hl : nthN es k p n ≤ es.length := lead_le _ _
  have hi : i < es.length := by omega
  have hg : nthG es k p n i = true := lead_good (p := nthG es k p n) (n := es.length) (by unfold nthN at h; omega)
  rw [cntE_succ hi]
  unfold nthG at hg
  rw [evAt_of hi] at hg
  by_cases hb : isB es[i] k p = true
  ·rw [if_pos hb]
   simp [hb] at hg
   omega
  ·rw [if_neg hb]
   omega
/-- There is such a one just if there are so many. -/
theorem nth_has {es : List Ev} {k p : Int} {n : Nat} : nthN es k p n < es.length ↔ n < cntE es k p := by
 constructor
 ·intro h
  have hb := lead_bad (p := nthG es k p n) h
  unfold nthG at hb
  rw [show lead (fun i => !(isB (evAt es i) k p && decide (cntE (es.take i) k p = n))) es.length = nthN es k p n from rfl] at hb
  rw [evAt_of h] at hb
  simp at hb
  have h1 := cntE_succ h k p
  rw [if_pos hb.1] at h1
  have h2 := cntE_mono (es := es) (k := k) (p := p) (a := nthN es k p n + 1) (b := es.length) h
  rw [List.take_length] at h2
  omega
 ·intro h
  rcases Nat.lt_or_ge (nthN es k p n) es.length with h' | h'
  ·exact h'
  ·have := nth_cnt (es := es) (k := k) (p := p) (n := n) (i := es.length) (by omega)
   rw [List.take_length] at this
   omega
theorem nth_take {es : List Ev} {k p : Int} {n c : Nat} (hc : c ≤ es.length) : nthN (es.take c) k p n = min c (nthN es k p n) := by
 have hl : nthN es k p n ≤ es.length := lead_le _ _
 have hlen : (es.take c).length = c := by rw [List.length_take]; omega
 have same : ∀ i, i < c → nthG (es.take c) k p n i = nthG es k p n i := fun i hi => by
  unfold nthG
  rw [evAt_of (by omega), evAt_of (by omega), List.getElem_take, List.take_take, Nat.min_eq_left (by omega)]
 unfold nthN
 rw [hlen]
 refine lead_eq (by omega) (fun i hi => ?_) ?_
 ·rw [same i (by omega)]
  exact lead_good (p := nthG es k p n) (n := es.length) (by unfold nthN at hl; omega)
 ·rcases Nat.lt_or_ge (lead (nthG es k p n) es.length) c with h | h
  ·refine .inr ?_
   rw [Nat.min_eq_right (by omega), same _ h]
   exact lead_bad (by omega)
  ·exact .inl (by omega)
/-- The first number too many in a beginning is that one of the whole, where there are so many. -/
theorem nth_cut {es : List Ev} {k p : Int} {n c : Nat} (hc : c ≤ es.length) : nthF (es.take c) k p n = if cntE (es.take c) k p ≤ n then -1 else nthF es k p n := by
 have hlen : (es.take c).length = c := by rw [List.length_take]; omega
 have h1 := nth_has (es := es.take c) (k := k) (p := p) (n := n)
 rw [hlen] at h1
 unfold nthF
 rw [hlen]
 by_cases h : cntE (es.take c) k p ≤ n
 ·have hle : nthN (es.take c) k p n ≤ (es.take c).length := lead_le _ _
  rw [if_pos h, if_pos (by omega)]
 ·have h2 := h1.2 (by omega)
  have h3 := nth_take (k := k) (p := p) (n := n) hc
  rw [if_neg h, if_neg (by omega), if_neg (by omega)]
  omega
theorem nthF_lt {es : List Ev} {k p : Int} {n : Nat} (h : 0 ≤ nthF es k p n) : ∃ m : Nat, nthF es k p n = m ∧ m < es.length := by
 unfold nthF at h ⊢
 have hle : nthN es k p n ≤ es.length := lead_le _ _
 split at h
 ·omega
 ·rename_i hc
  rw [if_neg hc]
  exact ⟨_, rfl, by omega⟩
theorem nthF_ge {es : List Ev} {k p : Int} {n : Nat} : -1 ≤ nthF es k p n ∧ nthF es k p n < es.length := by
 unfold nthF
 have hle : nthN es k p n ≤ es.length := lead_le _ _
 split <;> omega
/-! ### cuts -/
def cAt (c : List Int) (p : Nat) : Nat := ((c[p]?).getD 0).toNat
def cutB (h : List (List Ev)) (c : List Int) : Bool := decide (c.length = h.length) && allTo (fun p => inB ((c[p]?).getD 0) 0 (rowH h p).length) c.length
/-- The place of the first take too many of b from a, or -1. -/
def lackF (h : List (List Ev)) (c : List Int) (a b : Nat) : Int := nthF ((rowH h b).take (cAt c b)) 3 a (cntE ((rowH h a).take (cAt c a)) 2 b)
def wholeB (h : List (List Ev)) (c : List Int) : Bool := allTo (fun a => allTo (fun b => decide (lackF h c a b < 0)) c.length) c.length
structure CutI (h : List (List Ev)) (c : List Int) : Prop where
 len : c.length = h.length
 inn : ∀ p, (hp : p < c.length) → ∃ m : Nat, c[p] = m ∧ m ≤ (rowH h p).length
theorem cutB_iff {h : List (List Ev)} {c : List Int} : cutB h c = true ↔ CutI h c := by
 unfold cutB
 rw [Bool.and_eq_true, decide_eq_true_eq]
 constructor
 ·rintro ⟨h1, h2⟩
  refine ⟨h1, fun p hp => ?_⟩
  have := inB_le (allTo_of h2 p hp)
  rw [List.getElem?_eq_getElem hp] at this
  exact ⟨c[p].toNat, by simp at this ⊢; omega, by simp at this; omega⟩
 ·rintro ⟨h1, h2⟩
  refine ⟨h1, allTo_to fun p hp => ?_⟩
  obtain ⟨m, hm, hl⟩ := h2 p hp
  rw [List.getElem?_eq_getElem hp, Option.getD_some, hm]
  simp [inB]
  omega
theorem CutI.at_ {h : List (List Ev)} {c : List Int} (I : CutI h c) {p : Nat} (hp : p < c.length) : c[p] = cAt c p ∧ cAt c p ≤ (rowH h p).length := by
 obtain ⟨m, hm, hl⟩ := I.inn p hp
 unfold cAt
 rw [List.getElem?_eq_getElem hp, Option.getD_some, hm]
 simp
 exact hl
/-- What is too many goes: one look. -/
def shut1 (h : List (List Ev)) (c : List Int) (a b : Nat) : List Int := if lackF h c a b < 0 then c else c.set b (lackF h c a b)
def shutR (h : List (List Ev)) (a : Nat) (c : List Int) : Nat → List Int
 | 0 => c
 | b + 1 => shut1 h (shutR h a c b) a b
def shutP (h : List (List Ev)) (c : List Int) : Nat → List Int
 | 0 => c
 | a + 1 => shutR h a (shutP h c a) h.length
def shutO (h : List (List Ev)) (c : List Int) : List Int := shutP h c h.length
def shutAt (h : List (List Ev)) (c : List Int) (i : Nat) : List Int := again (shutO h) i c
def sumC (c : List Int) : Nat := sumD (cAt c) c.length
theorem cAt_set {c : List Int} {b m q : Nat} (hb : b < c.length) : cAt (c.set b (m : Int)) q = if q = b then m else cAt c q := by
 unfold cAt
 rw [List.getElem?_set]
 by_cases h : b = q
 ·subst h
  simp [hb]
 ·rw [if_neg h, if_neg (fun e => h e.symm)]
theorem sumD_less {d e : Nat → Nat} {n b : Nat} (hle : ∀ q, q < n → d q ≤ e q) (hb : b < n) (hlt : d b < e b) : sumD d n < sumD e n := by
 induction n with
 | zero => omega
 | succ n ih =>
  rw [sumD, sumD]
  rcases Nat.lt_or_ge b n with h | h
  ·have := ih (fun q hq => hle q (by omega)) h
   have := hle n (by omega)
   omega
  ·have hbn : b = n := by omega
   subst hbn
   have : ∀ m, (∀ q, q < m → d q ≤ e q) → sumD d m ≤ sumD e m := by
    intro m
    induction m with
    | zero => intro _; exact Nat.le_refl _
    | succ m ihm => intro hq; rw [sumD, sumD]; have := ihm fun q h => hq q (by omega); have := hq m (by omega); omega
   have := this b fun q hq => hle q (by omega)
   omega
theorem shut1_inv {h : List (List Ev)} {c : List Int} {a b : Nat} (I : CutI h c) (hb : b < h.length) : CutI h (shut1 h c a b) ∧ ((shut1 h c a b = c ∧ lackF h c a b < 0) ∨ (sumC (shut1 h c a b) < sumC c ∧ 0 ≤ lackF h c a b)) := by
 unfold shut1
 by_cases hl : lackF h c a b < 0
 ·rw [if_pos hl]
  exact ⟨I, .inl ⟨rfl, hl⟩⟩
 ·rw [if_neg hl]
  have hbc : b < c.length := by rw [I.len]; exact hb
  obtain ⟨m, hm, hml⟩ := nthF_lt (show 0 ≤ nthF ((rowH h b).take (cAt c b)) 3 a (cntE ((rowH h a).take (cAt c a)) 2 b) by unfold lackF at hl; omega)
  have hm' : lackF h c a b = m := hm
  rw [hm']
  have hcb := (I.at_ hbc).2
  rw [List.length_take, Nat.min_eq_left hcb] at hml
  refine ⟨⟨by rw [List.length_set]; exact I.len, fun p hp => ?_⟩, .inr ⟨?_, by omega⟩⟩
  ·rw [List.length_set] at hp
   rw [List.getElem_set]
   split
   ·rename_i e
    subst e
    exact ⟨m, rfl, by omega⟩
   ·exact I.inn p hp
  ·unfold sumC
   rw [List.length_set]
   refine sumD_less (b := b) (fun q _ => ?_) hbc ?_
   ·rw [cAt_set hbc]
    split
    ·rename_i e; subst e; omega
    ·exact Nat.le_refl _
   ·rw [cAt_set hbc, if_pos rfl]
    exact hml
theorem shutR_inv {h : List (List Ev)} {c : List Int} {a : Nat} (I : CutI h c) : ∀ {n : Nat}, n ≤ h.length → CutI h (shutR h a c n) ∧ ((shutR h a c n = c ∧ ∀ b, b < n → lackF h c a b < 0) ∨ sumC (shutR h a c n) < sumC c)
 | 0, _ => ⟨I, .inl ⟨rfl, fun b hb => by omega⟩⟩
 | n + 1, hn => by
  obtain ⟨h1, h2⟩ := shutR_inv I (a := a) (n := n) (by omega)
  obtain ⟨h3, h4⟩ := shut1_inv (a := a) h1 (show n < h.length by omega)
  refine ⟨h3, ?_⟩
  rw [shutR]
  rcases h2 with ⟨e, h2⟩ | h2
  ·rw [e] at h4 ⊢
   rcases h4 with ⟨e4, h4⟩ | ⟨h4, _⟩
   ·refine .inl ⟨e4, fun b hb => ?_⟩
    rcases Nat.lt_or_ge b n with h' | h'
    ·exact h2 b h'
    ·have : b = n := by omega
     rw [this]
     exact h4
   ·exact .inr h4
  ·rcases h4 with ⟨e4, _⟩ | ⟨h4, _⟩
   ·rw [e4]
    exact .inr h2
   ·exact .inr (by omega)
theorem shutP_inv {h : List (List Ev)} {c : List Int} (I : CutI h c) : ∀ {n : Nat}, n ≤ h.length → CutI h (shutP h c n) ∧ ((shutP h c n = c ∧ ∀ a, a < n → ∀ b, b < h.length → lackF h c a b < 0) ∨ sumC (shutP h c n) < sumC c)
 | 0, _ => ⟨I, .inl ⟨rfl, fun b hb => by omega⟩⟩
 | n + 1, hn => by
  obtain ⟨h1, h2⟩ := shutP_inv I (n := n) (by omega)
  obtain ⟨h3, h4⟩ := shutR_inv (a := n) h1 (Nat.le_refl h.length)
  refine ⟨h3, ?_⟩
  rw [shutP]
  rcases h2 with ⟨e, h2⟩ | h2
  ·rw [e] at h4 ⊢
   rcases h4 with ⟨e4, h4⟩ | h4
   ·refine .inl ⟨e4, fun a ha => ?_⟩
    rcases Nat.lt_or_ge a n with h' | h'
    ·exact h2 a h'
    ·have : a = n := by omega
     rw [this]
     exact h4
   ·exact .inr h4
  ·rcases h4 with ⟨e4, _⟩ | h4
   ·rw [e4]
    exact .inr h2
   ·exact .inr (by omega)
theorem shut_ends {h : List (List Ev)} {c : List Int} (I : CutI h c) : ∃ N, N ≤ sumC c ∧ wholeB h (shutAt h c N) = true ∧ (∀ i, i < N → wholeB h (shutAt h c i) = false) ∧ ∀ i, i ≤ N → CutI h (shutAt h c i) :=
 again_stop (f := shutO h) (stop := wholeB h) (μ := sumC) (I := CutI h) (fun x hx hs => by
  obtain ⟨h1, h2⟩ := shutP_inv hx (Nat.le_refl h.length)
  refine ⟨?_, h1⟩
  rcases h2 with ⟨_, h2⟩ | h2
  ·exfalso
   unfold wholeB at hs
   rw [allTo_to fun a ha => allTo_to fun b hb => decide_eq_true (h2 a (by rw [← hx.len]; exact ha) b (by rw [← hx.len]; exact hb))] at hs
   simp at hs
  ·exact h2) I
end Go.Proofs.Ytninncdacekfgaa.VM

/- What is told by its number; cuts of a system: reckoned. -/
namespace Go.Proofs.Ytninncdacekfgaa.VM
open Go Go.Proofs
set_option linter.unusedSimpArgs false
set_option linter.unusedVariables false
set_option maxRecDepth 100000
set_option maxHeartbeats 20000000
def nthI (es : List Ev) (k p : Int) (n i : Nat) : Int := (n : Int) - (cntE (es.take i) k p : Nat)
theorem nthI_0 (es : List Ev) (k p : Int) (n : Nat) : nthI es k p n 0 = n := by simp [nthI, cntE]
theorem nthI_step {es : List Ev} {k p : Int} {n i : Nat} (hi : i < nthN es k p n) : ∃ h : i < es.length, (isB es[i] k p = false ∧ nthI es k p n (i + 1) = nthI es k p n i) ∨ (isB es[i] k p = true ∧ nthI es k p n i ≠ 0 ∧ nthI es k p n (i + 1) = nthI es k p n i - 1 ∧ 0 ≤ nthI es k p n i ∧ nthI es k p n i ≤ n) := by
 have hi' : i < es.length := Nat.lt_of_lt_of_le hi (lead_le _ _)
 have hg : nthG es k p n i = true := lead_good (p := nthG es k p n) hi
 have hc := nth_cnt (Nat.le_of_lt hi)
 have hs := cntE_succ hi' k p
 unfold nthG at hg
 rw [evAt_of hi'] at hg
 refine ⟨hi', ?_⟩
 unfold nthI
 cases h : isB es[i] k p
 ·rw [h] at hs
  simp at hs
  exact .inl ⟨rfl, by rw [hs]⟩
 ·rw [h] at hs hg
  simp at hs hg
  exact .inr ⟨rfl, by omega, by rw [hs]; omega, by omega, by omega⟩
theorem nthI_end {es : List Ev} {k p : Int} {n : Nat} (h : nthN es k p n < es.length) : isB (es[nthN es k p n]'h) k p = true ∧ nthI es k p n (nthN es k p n) = 0 := by
 have hb : nthG es k p n (nthN es k p n) = false := lead_bad h
 unfold nthG at hb
 rw [evAt_of h] at hb
 simp at hb
 exact ⟨hb.1, by unfold nthI; omega⟩
def H_iNth (es : List Ev) (k p : Int) (n i : Nat) : St := ⟨[(1, .c (.v (.int .i64 k))), (2, .c (.v (.int .i64 p))), (3, .c (.v (.int .i64 (nthI es k p n i)))), (11, .c (.sl 0 [] 0 es.length)), (12, .c (.v (.int .i64 es.length))), (13, .c (.v (.int .i64 i)))], [(0, ⟨.ro, 29, evT es⟩)]⟩
theorem run_implNth {j : Nat} (hj : big ≤ j) (es : List Ev) (k p : Int) (n : Nat) (hl : es.length ≤ 1048576) (hn : n ≤ 1048576) :
  M.run (j + 2) 108 [.c (.r 29 es.length (evT es)), .c (.v (.int .i64 k)), .c (.v (.int .i64 p)), .c (.v (.int .i64 n))] = some ([.c (.v (.int .i64 (nthF es k p n)))], [.c (.r 29 es.length (evT es)), .c (.v (.int .i64 k)), .c (.v (.int .i64 p)), .c (.v (.int .i64 n))]) := by
 have hle : nthN es k p n ≤ es.length := lead_le _ _
 rw [m_run (fn := Try.f108) (i0 := 0) rfl Try.func108 rfl rfl (by simp)]
 simp -implicitDefEqProofs
 rw [loop_then (H_iNth es k p n) (nthN es k p n) (by simp -implicitDefEqProofs [H_iNth, hint1, nthI_0]) (by simp [big] at hj; omega) (fun i hi => by
  obtain ⟨hi', hc⟩ := nthI_step hi
  have e := run_isOf (j := j) es[i] k p
  simp only [tEv] at e
  rcases hc with ⟨hb, hs⟩ | ⟨hb, hne, hs, h0, h1⟩
  ·rw [hb] at e
   simp -implicitDefEqProofs [H_iNth, hint1, hi', own1, tEv, e, hs, w64 (x := (i : Int) + 1) (by omega), show i * 3 + 3 ≤ es.length * 3 by omega]
  ·rw [hb] at e
   simp -implicitDefEqProofs [H_iNth, hint1, hi', own1, tEv, e, hs, hne, w64 (x := (i : Int) + 1) (by omega), w64 (x := nthI es k p n i - 1) (by omega), show i * 3 + 3 ≤ es.length * 3 by omega])]
 unfold nthF
 by_cases hN : nthN es k p n = es.length
 ·rw [if_pos hN, hN]
  simp -implicitDefEqProofs [H_iNth]
 ·rw [if_neg hN]
  have hN : nthN es k p n < es.length := by omega
  obtain ⟨q1, q2⟩ := nthI_end hN
  generalize nthN es k p n = N at *
  have e := run_isOf (j := j) es[N] k p
  simp only [tEv] at e
  rw [q1] at e
  simp -implicitDefEqProofs [H_iNth, hN, own1, tEv, e, q2, show N * 3 + 3 ≤ es.length * 3 by omega]
def H_sNth (es : List Ev) (k p : Int) (n i : Nat) : St := ⟨[(0, .c (.sl 0 [] 0 es.length)), (1, .c (.v (.int .i64 k))), (2, .c (.v (.int .i64 p))), (3, .c (.v (.int .i64 (nthI es k p n i)))), (9, .c (.v (.int .i64 i)))], [(0, ⟨.ro, 29, evT es⟩)]⟩
theorem isB_true {e : Ev} {k p : Int} (h : isB e k p = true) : e.kind = k ∧ e.peer = p := by
 unfold isB at h
 simpa using h
theorem isB_false {e : Ev} {k p : Int} (h : isB e k p = false) : ¬ e.kind = k ∨ (e.kind = k ∧ ¬ e.peer = p) := by
 unfold isB at h
 by_cases h1 : e.kind = k
 ·simp [h1] at h
  exact .inr ⟨h1, h⟩
 ·exact .inl h1
/-! ### is it a cut -/
def H_cut1 (s : Sy) (c : List Int) (i : Nat) : St := ⟨[(1, .c (.sl 4 [] 0 c.length)), (2, .ptr 192 [] 0), (13, .c (.sl 4 [] 0 c.length)), (14, .c (.v (.int .i64 c.length))), (15, .c (.v (.int .i64 i)))], sysO s ++ [(4, ⟨.ro, 3, ints c⟩), (192, sysX s)]⟩
def H_cut2 (s : Sy) (c : List Int) (i : Nat) : St := ⟨[(1, .c (.sl 4 [] 0 c.length)), (2, .ptr 192 [] 0), (5, .c (.v (.int .i64 i)))], sysO s ++ [(4, ⟨.ro, 3, ints c⟩), (192, sysX s)]⟩
theorem run_implcut {j : Nat} (hj : big ≤ j) (s : Sy) (h : Small s) (c : List Int) (hc : c.length ≤ 1048576) : M.run (j + 2) 119 [.agg (syR s), .c (.r 3 c.length (ints c))] = some ([.c (.v (.bool (cutB s.hist c)))], [.agg (syR s), .c (.r 3 c.length (ints c))]) := by
 have b4 := h.hist
 rw [m_run (fn := Try.f119) (i0 := 0) rfl Try.func119 rfl rfl (by simp [syR])]
 unfold cutB
 by_cases hl : c.length = s.hist.length
 rotate_left
 ·simp -implicitDefEqProofs [syR, hl, show ¬ (c.length : Int) = s.hist.length by omega]
 simp -implicitDefEqProofs [syR, hl]
 rw [← hl]
 have eqg : ∀ i (hi : i < c.length) (hi3 : i < s.hist.length), inB ((c[i]?).getD 0) 0 (rowH s.hist i).length = inB c[i] 0 s.hist[i].length := fun i hi hi3 => by
  rw [List.getElem?_eq_getElem hi, rowH_of hi3]
  rfl
 obtain ⟨N, hN, hg, hN'⟩ := firstN (fun p => inB ((c[p]?).getD 0) 0 (rowH s.hist p).length) c.length
 rw [loop_then (H_cut1 s c) N (by simp -implicitDefEqProofs [H_cut1, sysO, sysX, hint1, hl]) (by simp [big] at hj; omega) (fun i hi => by
  have hi' : i < c.length := by omega
  have hi3 : i < s.hist.length := by omega
  have g := hg i hi
  try simp only at g
  rw [eqg i hi' hi3] at g
  have e := run64 (j := j) c[i] 0 s.hist[i].length
  rw [g] at e
  simp -implicitDefEqProofs [H_cut1, sysO, sysX, hint1, hi', hi3, own1, e, ints_get hi', rEvent_at hi3, rEvent, w64 (x := (i : Int) + 1) (by omega), show i + 1 ≤ c.length by omega])]
 rcases hN' with ⟨hN', hall⟩ | ⟨hlt, hbad, hall⟩
 ·rw [hall, hN']
  simp -implicitDefEqProofs [H_cut1, sysO, sysX]
 ·have hi3 : N < s.hist.length := by omega
  try simp only at hbad
  rw [eqg N hlt hi3] at hbad
  have e := run64 (j := j) c[N] 0 s.hist[N].length
  rw [hbad] at e
  rw [hall]
  simp -implicitDefEqProofs [H_cut1, sysO, sysX, hlt, hi3, own1, e, ints_get hlt, rEvent_at hi3, rEvent, show N + 1 ≤ c.length by omega]
theorem right_hist {s : Sy} (h : sysB s = true) : s.hist.length = s.progs.length := by
 unfold sysB shapeB at h
 simp only [Bool.and_eq_true, decide_eq_true_eq] at h
 exact h.1.2.2.1
noncomputable def cutOkB (s : Sy) (c : List Int) : Bool := sysB s && cutB s.hist c
theorem run_implCutOk {j : Nat} (hj : big ≤ j) (s : Sy) (h : Small s) (c : List Int) (hc : c.length ≤ 1048576) : M.run (j + 11) 105 [.agg (syR s), .c (.r 3 c.length (ints c))] = some ([.c (.v (.bool (cutOkB s c)))], [.agg (syR s), .c (.r 3 c.length (ints c))]) := by
 have e1 := run_implSysOk hj s h
 have e2 := run_implcut (j := j + 8) (by omega) s h c hc
 rw [m_run (fn := Try.f105) (i0 := 0) rfl Try.func105 rfl rfl (by simp [syR])]
 unfold cutOkB
 simp only [syR] at e1 e2 ⊢
 generalize cutB s.hist c = q2 at *
 cases hq : sysB s
 ·rw [hq] at e1
  simp -implicitDefEqProofs [own1, e1]
 ·rw [hq] at e1
  simp -implicitDefEqProofs [own1, e1, e2]
end Go.Proofs.Ytninncdacekfgaa.VM

/- Cuts that are whole: reckoned. -/
namespace Go.Proofs.Ytninncdacekfgaa.VM
open Go Go.Proofs
set_option linter.unusedSimpArgs false
set_option linter.unusedVariables false
set_option maxRecDepth 100000
set_option maxHeartbeats 20000000
theorem lackF_of {h : List (List Ev)} {c : List Int} {a b : Nat} (ha : a < h.length) (hb : b < h.length) : lackF h c a b = nthF (h[b].take (cAt c b)) 3 a (cntE (h[a].take (cAt c a)) 2 b) := by
 unfold lackF
 rw [rowH_of ha, rowH_of hb]
theorem run_lacks {j : Nat} (hj : big ≤ j) (s : Sy) (h : Small s) (c : List Int) (I : CutI s.hist c) (a b : Nat) (ha : a < c.length) (hb : b < c.length) :
  M.run (j + 4) 107 [.agg (syR s), .c (.r 3 c.length (ints c)), .c (.v (.int .i64 a)), .c (.v (.int .i64 b))] = some ([.c (.v (.int .i64 (lackF s.hist c a b)))], [.agg (syR s), .c (.r 3 c.length (ints c)), .c (.v (.int .i64 a)), .c (.v (.int .i64 b))]) := by
 have ha3 : a < s.hist.length := by rw [← I.len]; exact ha
 have hb3 : b < s.hist.length := by rw [← I.len]; exact hb
 obtain ⟨ca, la⟩ := I.at_ ha
 obtain ⟨cb, lb⟩ := I.at_ hb
 rw [rowH_of ha3] at la
 rw [rowH_of hb3] at lb
 have ta := h.his ha3
 have tb := h.his hb3
 have e1 := run_implCount (j := j) hj (s.hist[a].take (cAt c a)) 2 b (by rw [List.length_take]; omega)
 rw [valsE_cnt, List.length_take, Nat.min_eq_left la] at e1
 have hcnt : cntE (s.hist[a].take (cAt c a)) 2 b ≤ 1048576 := by
  rw [← valsE_cnt]
  have := valsE_le (s.hist[a].take (cAt c a)) 2 b
  rw [List.length_take] at this
  omega
 have e2 := run_implNth (j := j + 1) (by omega) (s.hist[b].take (cAt c b)) 3 a (cntE (s.hist[a].take (cAt c a)) 2 b) (by rw [List.length_take]; omega) hcnt
 rw [List.length_take, Nat.min_eq_left lb] at e2
 have ga := ints_get ha
 have gb := ints_get hb
 rw [ca] at ga
 rw [cb] at gb
 rw [m_run (fn := Try.f107) (i0 := 0) rfl Try.func107 rfl rfl (by simp [syR]), lackF_of ha3 hb3]
 generalize nthF (s.hist[b].take (cAt c b)) 3 a (cntE (s.hist[a].take (cAt c a)) 2 b) = D at *
 generalize cntE (s.hist[a].take (cAt c a)) 2 b = K at *
 simp -implicitDefEqProofs [syR, own1, ha, hb, ha3, hb3, rEvent_at ha3, rEvent_at hb3, rEvent, ga, gb, ca, cb, la, lb, e1, e2, show cAt c a * 3 ≤ s.hist[a].length * 3 by omega, show cAt c b * 3 ≤ s.hist[b].length * 3 by omega]
/-! ### is it whole -/
def cutO (s : Sy) (c : List Int) : List (Nat × Obj) := sysO s ++ [(4, ⟨.ro, 3, ints c⟩), (192, sysX s)]
def H_w1 (s : Sy) (c : List Int) (a : Nat) : St := ⟨[(1, .c (.sl 4 [] 0 c.length)), (2, .ptr 192 [] 0), (8, .c (.v (.int .i64 c.length))), (9, .c (.v (.int .i64 a)))], cutO s c⟩
def H_w2 (s : Sy) (c : List Int) (a b : Nat) : St := ⟨[(1, .c (.sl 4 [] 0 c.length)), (2, .ptr 192 [] 0), (5, .c (.v (.int .i64 a))), (8, .c (.v (.int .i64 c.length))), (9, .c (.v (.int .i64 a))), (13, .c (.v (.int .i64 c.length))), (14, .c (.v (.int .i64 b)))], cutO s c⟩
theorem run_whole {j : Nat} (hj : big ≤ j) (s : Sy) (h : Small s) (c : List Int) (I : CutI s.hist c) :
  M.run (j + 5) 106 [.agg (syR s), .c (.r 3 c.length (ints c))] = some ([.c (.v (.bool (wholeB s.hist c)))], [.agg (syR s), .c (.r 3 c.length (ints c))]) := by
 have hc : c.length ≤ 1048576 := by rw [I.len]; exact h.hist
 have el := fun a b ha hb => run_lacks hj s h c I a b ha hb
 rw [m_run (fn := Try.f106) (i0 := 0) rfl Try.func106 rfl rfl (by simp [syR])]
 unfold wholeB
 simp only [syR] at el ⊢
 simp -implicitDefEqProofs
 obtain ⟨A, hA, ag, hA'⟩ := firstN (fun a => allTo (fun b => decide (lackF s.hist c a b < 0)) c.length) c.length
 rw [loop_then (H_w1 s c) A (by simp -implicitDefEqProofs [H_w1, cutO, sysO, sysX, hint1]) (by simp [big] at hj; omega) (fun a ha => by
  have ha' : a < c.length := by omega
  have gg := allTo_of (ag a ha)
  simp -implicitDefEqProofs [H_w1, cutO, sysO, sysX, hint1, ha']
  rw [loop_then (H_w2 s c a) c.length (by simp -implicitDefEqProofs [H_w2, cutO, sysO, sysX, hint1]) (by simp [big] at hj; omega) (fun b hb => by
   have e := el a b ha' hb
   have g : lackF s.hist c a b < 0 := by simpa using gg b hb
   simp -implicitDefEqProofs [H_w2, cutO, sysO, sysX, hint1, own1, hb, e, show ¬ 0 ≤ lackF s.hist c a b by omega, w64 (x := (b : Int) + 1) (by omega)])]
  simp -implicitDefEqProofs [H_w2, cutO, sysO, sysX, hint1, w64 (x := (a : Int) + 1) (by omega)])]
 rcases hA' with ⟨hA', hall⟩ | ⟨hlt, hbad, hall⟩
 ·rw [hall, hA']
  simp -implicitDefEqProofs [H_w1, cutO, sysO, sysX]
 ·rw [hall]
  clear hall
  obtain ⟨B, hB, bg, hB'⟩ := firstN (fun b => decide (lackF s.hist c A b < 0)) c.length
  rw [hbad] at hB'
  have hB' := hB'.resolve_left (by simp)
  have hb : B < c.length := hB'.1
  have e := el A B hlt hb
  have g : ¬ lackF s.hist c A B < 0 := by simpa using hB'.2.1
  simp -implicitDefEqProofs [H_w1, cutO, sysO, sysX, hlt]
  rw [loop_then (H_w2 s c A) B (by simp -implicitDefEqProofs [H_w2, cutO, sysO, sysX, hint1]) (by simp [big] at hj; omega) (fun b hb => by
   have hb' : b < c.length := by omega
   have e := el A b hlt hb'
   have g : lackF s.hist c A b < 0 := by simpa using bg b hb
   simp -implicitDefEqProofs [H_w2, cutO, sysO, sysX, hint1, own1, hb', e, show ¬ 0 ≤ lackF s.hist c A b by omega, w64 (x := (b : Int) + 1) (by omega)])]
  simp -implicitDefEqProofs [H_w2, cutO, sysO, sysX, hb, own1, e, show 0 ≤ lackF s.hist c A B by omega]
def H_v1 (s : Sy) (c : List Int) (a : Nat) : St := ⟨[(1, .c (.sl 4 [] 0 c.length)), (2, .ptr 192 [] 0), (5, .c (.v (.int .i64 a)))], cutO s c⟩
def H_v2 (s : Sy) (c : List Int) (a b : Nat) : St := ⟨[(1, .c (.sl 4 [] 0 c.length)), (2, .ptr 192 [] 0), (5, .c (.v (.int .i64 a))), (6, .c (.v (.int .i64 b)))], cutO s c⟩
theorem cutOk_I {s : Sy} {c : List Int} (h : cutOkB s c = true) : CutI s.hist c := by
 unfold cutOkB at h
 rw [Bool.and_eq_true] at h
 exact cutB_iff.1 h.2
noncomputable def wholeOkB (s : Sy) (c : List Int) : Bool := cutOkB s c && wholeB s.hist c
theorem run_implWhole {j : Nat} (hj : big ≤ j) (s : Sy) (h : Small s) (c : List Int) (hc : c.length ≤ 1048576) : M.run (j + 12) 79 [.agg (syR s), .c (.r 3 c.length (ints c))] = some ([.c (.v (.bool (wholeOkB s c)))], [.agg (syR s), .c (.r 3 c.length (ints c))]) := by
 have e1 := run_implCutOk hj s h c hc
 rw [m_run (fn := Try.f79) (i0 := 0) rfl Try.func79 rfl rfl (by simp [syR])]
 unfold wholeOkB
 cases hq : cutOkB s c
 ·rw [hq] at e1
  simp only [syR] at e1 ⊢
  simp -implicitDefEqProofs [own1, e1]
 ·have e2 := run_whole (j := j + 6) (by omega) s h c (cutOk_I hq)
  rw [hq] at e1
  simp only [syR] at e1 e2 ⊢
  simp -implicitDefEqProofs [own1, e1, e2]
end Go.Proofs.Ytninncdacekfgaa.VM
