/- States and ways: plain laws; what comes: reckoned. -/
import Derived.Test.YtninncdacekfgaaK13
/- The plain law of steps: what a step of a right system leaves is a right system. -/
namespace Go.Proofs.Ytninncdacekfgaa.VM
open Go Go.Proofs
set_option linter.unusedSimpArgs false
set_option linter.unusedVariables false
set_option maxHeartbeats 4000000
/-! ### rows of events that can be put in a row -/
theorem sumD_eqv {d e : Nat → Nat} {n : Nat} (hle : ∀ q, q < n → d q ≤ e q) (hs : sumD d n = sumD e n) : ∀ q, q < n → d q = e q := fun q hq => by
 have key : ∀ m, (∀ q, q < m → d q ≤ e q) → sumD d m ≤ sumD e m ∧ (sumD d m = sumD e m → ∀ q, q < m → d q = e q) := by
  intro m
  induction m with
  | zero => intro _; exact ⟨Nat.le_refl _, fun _ q hq => by omega⟩
  | succ m ih =>
   intro hl
   obtain ⟨h1, h2⟩ := ih fun q hq => hl q (by omega)
   have h3 := hl m (by omega)
   rw [sumD, sumD]
   refine ⟨by omega, fun he q hq => ?_⟩
   rcases Nat.lt_or_ge q m with h' | h'
   ·exact h2 (by omega) q h'
   ·have : q = m := by omega
    subst this
    omega
 exact (key n hle).2 hs q hq
theorem rowH_out {h : List (List Ev)} {q : Nat} (hq : h.length ≤ q) : rowH h q = [] := by
 unfold rowH
 rw [List.getElem?_eq_none hq]
 rfl
def fullD (h : List (List Ev)) : Nat → Nat := fun q => (rowH h q).length
theorem ord_reach (h : List (List Ev)) : ordrB h = true ↔ Reach h (fullD h) := by
 obtain ⟨q1, q2, q3, q4⟩ := Classical.choose_spec (row_ends h)
 have hI : RowI h (rowF h) := q4 _ (Nat.le_refl _)
 have hst : Stuck h (rowF h).d := fun p hp => hI.stuck p (by
  have : (rowF h).p = h.length := q2
  omega)
 unfold ordrB
 rw [decide_eq_true_eq, hI.len]
 constructor
 ·intro he
  have hle := reach_len hI.reach
  have := sumD_eqv (fun q _ => hle q) he
  have e : (rowF h).d = fullD h := by
   funext q
   rcases Nat.lt_or_ge q h.length with hq | hq
   ·exact this q hq
   ·have := hle q
    unfold fullD
    rw [rowH_out hq] at this ⊢
    simpa using this
  rw [← e]
  exact hI.reach
 ·intro hr
  have h1 := reach_le hst hr
  have h2 := reach_len hI.reach
  exact Nat.le_antisymm (sumD_le h2 _) (sumD_le h1 _)
theorem enB_iff {h : List (List Ev)} {d : Nat → Nat} {p : Nat} (hd : d p < (rowH h p).length) : enB h d p = true ↔ ((evAt (rowH h p) (d p)).kind = 3 → cntE ((rowH h p).take (d p)) 3 (evAt (rowH h p) (d p)).peer < cntE ((rowH h (evAt (rowH h p) (d p)).peer.toNat).take (d (evAt (rowH h p) (d p)).peer.toNat)) 2 p) := by
 unfold enB
 rw [if_neg (by omega)]
 generalize evAt (rowH h p) (d p) = e
 by_cases hk : e.kind = 3
 ·simp [hk]
 ·simp [hk]
theorem enB_lt {h : List (List Ev)} {d : Nat → Nat} (hd : Reach h d) {p : Nat} (he : enB h d p = true) : d p < (rowH h p).length := by
 have := reach_len hd p
 unfold enB at he
 split at he
 ·simp at he
 ·omega
/-- What is longer goes as far. -/
theorem reach_ext {h h' : List (List Ev)} (hl : h'.length = h.length) (hx : ∀ q, ∃ t, rowH h' q = rowH h q ++ t) : ∀ {d : Nat → Nat}, Reach h d → Reach h' d := by
 intro d hd
 induction hd with
 | zero => exact .zero
 | @step d p hr hp he ih =>
  refine .step ih (by omega) ?_
  have hlt := enB_lt hr he
  rw [enB_iff hlt] at he
  have hle := reach_len hr
  have tk : ∀ q, (rowH h' q).take (d q) = (rowH h q).take (d q) := fun q => by
   obtain ⟨t, ht⟩ := hx q
   rw [ht, List.take_append_of_le_length (hle q)]
  have ev : evAt (rowH h' p) (d p) = evAt (rowH h p) (d p) := by
   obtain ⟨t, ht⟩ := hx p
   unfold evAt
   rw [ht, List.getElem?_append_left hlt]
  have hlt' : d p < (rowH h' p).length := by
   obtain ⟨t, ht⟩ := hx p
   rw [ht, List.length_append]
   omega
  rw [enB_iff hlt', ev, tk, tk]
  exact he
/-- What is cut where no take is without its send goes as far. -/
theorem reach_cut {h h' : List (List Ev)} {c : Nat → Nat} (hl : h'.length = h.length) (hx : ∀ q, rowH h' q = (rowH h q).take (c q)) (hc : ∀ q, c q ≤ (rowH h q).length)
  (hw : ∀ p, p < h.length → ∀ i, i < c p → (evAt (rowH h p) i).kind = 3 → ∃ q : Nat, (evAt (rowH h p) i).peer = q ∧ cntE ((rowH h p).take (c p)) 3 q ≤ cntE ((rowH h q).take (c q)) 2 p) :
  ∀ {d : Nat → Nat}, Reach h d → Reach h' (fun q => min (d q) (c q)) := by
 intro d hd
 induction hd with
 | zero =>
  have : (fun q => min 0 (c q)) = (fun _ => 0) := by funext q; exact Nat.zero_min _
  rw [this]
  exact .zero
 | @step d p hr hp he ih =>
  have hlt := enB_lt hr he
  have hle := reach_len hr
  by_cases hcp : d p < c p
  ·have e : (fun q => min (bump d p q) (c q)) = bump (fun q => min (d q) (c q)) p := by
    funext q
    simp only [bump]
    split
    ·rename_i hq
     subst hq
     omega
    ·rfl
   rw [e]
   refine .step ih (by omega) ?_
   have hm : min (d p) (c p) = d p := by omega
   have ev : evAt (rowH h' p) (d p) = evAt (rowH h p) (d p) := by
    unfold evAt
    rw [hx, List.getElem?_take, if_pos hcp]
   have hlt' : min (d p) (c p) < (rowH h' p).length := by
    rw [hx, List.length_take]
    omega
   rw [enB_iff hlt']
   rw [enB_iff hlt] at he
   simp only [hm, ev]
   intro hk
   have he := he hk
   obtain ⟨q, hq, hwq⟩ := hw p hp (d p) hcp hk
   rw [hq] at he ⊢
   rw [Int.toNat_natCast] at he ⊢
   rw [hx, hx, List.take_take, List.take_take, Nat.min_eq_left (Nat.le_of_lt hcp), Nat.min_assoc, Nat.min_self]
   rcases Nat.le_total (d q) (c q) with hdq | hdq
   ·rw [Nat.min_eq_left hdq]
    exact he
   ·rw [Nat.min_eq_right hdq]
    have h1 := cntE_succ hlt 3 q
    have h2 := evAt_of hlt
    rw [h2] at hk hq
    rw [show isB (rowH h p)[d p] 3 q = true by unfold isB; simp [hk, hq], if_pos rfl] at h1
    have h3 := cntE_mono (es := rowH h p) (k := 3) (p := (q : Int)) (a := d p + 1) (b := c p) hcp
    omega
  ·have e : (fun q => min (bump d p q) (c q)) = fun q => min (d q) (c q) := by
    funext q
    simp only [bump]
    split
    ·rename_i hq
     subst hq
     omega
    ·rfl
   rw [e]
   exact ih
end Go.Proofs.Ytninncdacekfgaa.VM

/- The plain law of steps: what a step of a right system leaves is a right system. -/
namespace Go.Proofs.Ytninncdacekfgaa.VM
open Go Go.Proofs
set_option linter.unusedSimpArgs false
set_option linter.unusedVariables false
set_option maxHeartbeats 4000000
def progOf (s : Sy) (p : Nat) : List Ins := (s.progs[p]?).getD []
def stOf (s : Sy) (p : Nat) : Sta := (s.states[p]?).getD ⟨0, [], [], 0⟩
/-- A system that is right. -/
structure Right (s : Sy) : Prop where
 n1 : 1 ≤ s.progs.length
 n4 : s.progs.length ≤ 4
 st : s.states.length = s.progs.length
 hi : s.hist.length = s.progs.length
 wa : s.ways.length = s.progs.length * s.progs.length
 way : ∀ a b, a < s.progs.length → b < s.progs.length → wayB (wayR s a b) = true
 proc : ∀ p, p < s.progs.length → procB s p = true
 fit : ∀ a b, a < s.progs.length → b < s.progs.length → fitsB s a b = true
 ord : Reach s.hist (fullD s.hist)
theorem right_iff {s : Sy} : sysB s = true ↔ Right s := by
 unfold sysB shapeB
 simp only [Bool.and_eq_true, decide_eq_true_eq]
 constructor
 ·rintro ⟨⟨h1, h2, h3, h4⟩, h5, h6, h7, h8⟩
  have := inB_le h1
  exact ⟨by omega, by omega, h2, h3, h4, (all_ways h4).1 h5, allTo_of h6, fun a b ha hb => allTo_of (allTo_of h7 a ha) b hb, (ord_reach _).1 h8⟩
 ·intro R
  have := R.n1
  have := R.n4
  exact ⟨⟨by simp [inB]; omega, R.st, R.hi, R.wa⟩, (all_ways R.wa).2 R.way, allTo_to R.proc, allTo_to fun a ha => allTo_to fun b hb => R.fit a b ha hb, (ord_reach _).2 R.ord⟩
/-- A process that is right. -/
structure PRight (n : Nat) (l : List Ins) (es : List Ev) (st : Sta) : Prop where
 pr : progB l n = true
 pr4 : progB l 4 = true
 len : es.length ≤ 200
 can : ∀ i, i < es.length → canB l (stAt l es i) (evAt es i) = true
 eq : stAt l es es.length = st
 peer : peersB es n = true
theorem same_eq {a b : Sta} : sameB a b = true ↔ a = b := by
 obtain ⟨a1, xs, ys, c⟩ := a
 obtain ⟨a2, us, vs, d⟩ := b
 unfold sameB
 simp only [Bool.and_eq_true, beq_iff_eq, decide_eq_true_eq, Sta.mk.injEq]
 constructor
 ·rintro ⟨h1, h2, h3, h4⟩; exact ⟨h1, h3, h4, h2⟩
 ·rintro ⟨h1, h2, h3, h4⟩; exact ⟨h1, h4, h2, h3⟩
theorem proc_iff {s : Sy} {p : Nat} : procB s p = true ↔ PRight s.progs.length (progOf s p) (rowH s.hist p) (stOf s p) := by
 unfold procB
 change (progB (progOf s p) _ && (peersB (rowH s.hist p) _ && (replayB (progOf s p) (rowH s.hist p) && sameB (replayS (progOf s p) (rowH s.hist p)) (stOf s p)))) = true ↔ _
 unfold replayB replayS repB repS repB
 simp only [Bool.and_eq_true, decide_eq_true_eq, same_eq]
 constructor
 ·rintro ⟨h1, h2, ⟨h3, h4, h5⟩, h6⟩
  rw [if_pos ⟨h3, h4⟩, if_pos h5] at h6
  exact ⟨h1, h3, h4, allTo_of h5, h6, h2⟩
 ·intro R
  have h5 : allTo (fun i => canB (progOf s p) (stAt (progOf s p) (rowH s.hist p) i) (evAt (rowH s.hist p) i)) (rowH s.hist p).length = true := allTo_to R.can
  exact ⟨R.pr, R.peer, ⟨R.pr4, R.len, h5⟩, by rw [if_pos ⟨R.pr4, R.len⟩, if_pos h5]; exact R.eq⟩
theorem PRight.rok {n : Nat} {l : List Ins} {es : List Ev} {st : Sta} (R : PRight n l es st) : Rok l st := by
 rw [← R.eq]
 exact st_rok R.pr4 R.can
theorem evAt_app {es : List Ev} {e : Ev} {i : Nat} (hi : i < es.length) : evAt (es ++ [e]) i = evAt es i := by
 unfold evAt
 rw [List.getElem?_append_left hi]
theorem evAt_last {es : List Ev} {e : Ev} : evAt (es ++ [e]) es.length = e := by
 unfold evAt
 simp
theorem stAt_app {l : List Ins} {es : List Ev} {e : Ev} : ∀ {i : Nat}, i ≤ es.length → stAt l (es ++ [e]) i = stAt l es i
 | 0, _ => rfl
 | i + 1, h => by rw [stAt, stAt, stAt_app (by omega), evAt_app (by omega)]
theorem PRight.snoc {n : Nat} {l : List Ins} {es : List Ev} {st : Sta} (R : PRight n l es st) {e : Ev} (hl : es.length < 200) (hc : st.code = 0) (hb : comesB e (nextE (insAt l st.at_) st.regs) = true) (hp : peerB e n = true) : PRight n l (es ++ [e]) (stepS l st e) := by
 refine ⟨R.pr, R.pr4, by simp; omega, fun i hi => ?_, ?_, ?_⟩
 ·rw [List.length_append, List.length_singleton] at hi
  rcases Nat.lt_or_ge i es.length with h | h
  ·rw [stAt_app (by omega), evAt_app h]
   exact R.can i h
  ·have : i = es.length := by omega
   subst this
   rw [stAt_app (Nat.le_refl _), evAt_last, R.eq]
   unfold canB
   rw [hc, hb]
   rfl
 ·rw [List.length_append, List.length_singleton, stAt, stAt_app (Nat.le_refl _), evAt_last, R.eq]
 ·unfold peersB
  rw [List.all_append]
  have := R.peer
  unfold peersB at this
  rw [this]
  simp [hp]
/-! ### what comes -/
def wantE (s : Sy) (p : Nat) : Ev := nextE (insAt (progOf s p) (stOf s p).at_) (stOf s p).regs
def takeN (s : Sy) (p : Nat) (a : Int) : Ev × Int := if inB a 0 ((s.progs.length : Int) - 1) = false then (⟨0, 0, 0⟩, 2) else match wayR s a.toNat p with
 | [] => (⟨0, 0, 0⟩, 3)
 | x :: _ => if x.mark = true then (⟨0, 0, 0⟩, 5) else (⟨3, a, x.v⟩, 0)
def comeN (s : Sy) (p : Nat) (peer : Int) : Ev × Int :=
 if (stOf s p).code ≠ 0 then (⟨0, 0, 0⟩, 6) else if 200 ≤ (rowH s.hist p).length then (⟨0, 0, 0⟩, 4)
 else if (wantE s p).kind = 2 then (if 12 ≤ (wayR s p (wantE s p).peer.toNat).length then (⟨0, 0, 0⟩, 4) else (wantE s p, 0))
 else if (wantE s p).kind = 3 then takeN s p (if (wantE s p).peer = 9 then peer else (wantE s p).peer) else (wantE s p, 0)
def comeF (s : Sy) (p peer : Int) : Ev × Int := if inB p 0 ((s.progs.length : Int) - 1) = false then (⟨0, 0, 0⟩, 2) else comeN s p.toNat peer
def waysN (s : Sy) (p : Nat) (e : Ev) : List (List Itm) := if e.kind = 2 then s.ways.set (p * s.progs.length + e.peer.toNat) (wayR s p e.peer.toNat ++ [⟨false, e.v⟩]) else if e.kind = 3 then s.ways.set (e.peer.toNat * s.progs.length + p) (wayR s e.peer.toNat p).tail else s.ways
def doneF (s : Sy) (p : Nat) (e : Ev) : Sy := ⟨s.progs, s.states.set p (stepS (progOf s p) (stOf s p) e), waysN s p e, s.hist.set p (rowH s.hist p ++ [e])⟩
def stepF (s : Sy) (p peer : Int) : Sy × Int := if (comeF s p peer).2 = 0 then (doneF s p.toNat (comeF s p peer).1, 0) else (s, (comeF s p peer).2)
/-- An event that may come. -/
structure MayBe (s : Sy) (p : Nat) (e : Ev) : Prop where
 hp : p < s.progs.length
 code : (stOf s p).code = 0
 len : (rowH s.hist p).length < 200
 comes : comesB e (wantE s p) = true
 how : (e.kind = 2 ∧ ∃ q : Nat, e.peer = q ∧ q < s.progs.length ∧ (wayR s p q).length < 12 ∧ numB e.v = true) ∨ (e.kind = 3 ∧ ∃ q : Nat, e.peer = q ∧ q < s.progs.length ∧ numB e.v = true ∧ ∃ t, wayR s q p = ⟨false, e.v⟩ :: t) ∨ (e.kind ≠ 2 ∧ e.kind ≠ 3)
theorem want_kind (x : Ins) (regs : List Int) : (x.op = 6 ∧ nextE x regs = ⟨2, x.n, (regs[x.a.toNat]?).getD 0⟩) ∨ (x.op = 7 ∧ nextE x regs = ⟨3, x.n, 0⟩) ∨ ((nextE x regs).kind ≠ 2 ∧ (nextE x regs).kind ≠ 3) := by
 by_cases h6 : x.op = 6
 ·exact .inl ⟨h6, by simp [nextE, h6]⟩
 by_cases h7 : x.op = 7
 ·exact .inr (.inl ⟨h7, by simp [nextE, h7]⟩)
 ·refine .inr (.inr ?_)
  unfold nextE
  rw [if_neg h6, if_neg h7]
  split <;> simp
theorem comes_self {w : Ev} (h : w.kind ≠ 3) : comesB w w = true := by
 rw [comes_not (by simp [h])]
 simp [evB]
theorem Right.pr {s : Sy} (R : Right s) {p : Nat} (hp : p < s.progs.length) : PRight s.progs.length (progOf s p) (rowH s.hist p) (stOf s p) := proc_iff.1 (R.proc p hp)
theorem ins_of {s : Sy} (R : Right s) {p : Nat} (hp : p < s.progs.length) : insB (insAt (progOf s p) (stOf s p).at_) (progOf s p).length s.progs.length = true ∧ insB (insAt (progOf s p) (stOf s p).at_) (progOf s p).length 4 = true := by
 have P := R.pr hp
 obtain ⟨i, hi, h1, h2⟩ := insAt_of P.rok
 rw [h2]
 have h3 := P.pr
 have h4 := P.pr4
 unfold progB at h3 h4
 simp only [Bool.and_eq_true] at h3 h4
 exact ⟨List.all_eq_true.1 h3.2 _ (List.getElem_mem _), List.all_eq_true.1 h4.2 _ (List.getElem_mem _)⟩
theorem come_came {s : Sy} (R : Right s) {p peer : Int} (h : (comeF s p peer).2 = 0) : ∃ m : Nat, p = m ∧ MayBe s m (comeF s p peer).1 := by
 unfold comeF at h ⊢
 cases hp : inB p 0 ((s.progs.length : Int) - 1)
 ·rw [hp] at h
  simp at h
 obtain ⟨m, rfl, hm⟩ := inB_nat hp
 rw [hp] at h
 simp only [Bool.true_eq_false, if_false, Int.toNat_natCast] at h ⊢
 refine ⟨m, rfl, ?_⟩
 unfold comeN at h ⊢
 by_cases hc : (stOf s m).code = 0
 rotate_left
 ·rw [if_pos hc] at h
  simp at h
 rw [if_neg (by simp [hc])] at h ⊢
 by_cases hl : 200 ≤ (rowH s.hist m).length
 ·rw [if_pos hl] at h
  simp at h
 rw [if_neg hl] at h ⊢
 obtain ⟨i1, i2⟩ := ins_of R hm
 have P := R.pr hm
 have hw : wantE s m = nextE (insAt (progOf s m) (stOf s m).at_) (stOf s m).regs := rfl
 have hi2 := i2
 simp only [insB, Bool.and_eq_true] at i1 hi2
 have l1 := i1.2
 rcases want_kind (insAt (progOf s m) (stOf s m).at_) (stOf s m).regs with ⟨o, hn⟩ | ⟨o, hn⟩ | ⟨k2, k3⟩
 ·rw [hn] at hw
  have hnum : numB (((stOf s m).regs[(insAt (progOf s m) (stOf s m).at_).a.toNat]?).getD 0) = true := by
   have ha := insB_a i2 (.inl o)
   have hr := P.rok.regs
   rw [List.getElem?_eq_getElem (by omega)]
   exact P.rok.nums _ (List.getElem_mem _)
  rw [hw] at h ⊢
  simp [lastB, hasB, formL, o] at l1
  obtain ⟨q, hq, hqn⟩ := inB_nat l1
  simp only [if_pos, hq, Int.toNat_natCast] at h ⊢
  by_cases h12 : 12 ≤ (wayR s m q).length
  ·rw [if_pos h12] at h
   simp at h
  rw [if_neg h12]
  refine ⟨hm, hc, by omega, ?_, .inl ⟨rfl, q, rfl, hqn, by omega, hnum⟩⟩
  rw [hw, hq]
  exact comes_self (by simp)
 ·rw [hn] at hw
  rw [hw] at h ⊢
  simp only [if_neg (show ¬ (3 : Int) = 2 by decide), if_pos] at h ⊢
  generalize hfrom : (if (insAt (progOf s m) (stOf s m).at_).n = 9 then peer else (insAt (progOf s m) (stOf s m).at_).n) = f at h ⊢
  unfold takeN at h ⊢
  cases hf : inB f 0 ((s.progs.length : Int) - 1)
  ·rw [hf] at h
   simp at h
  obtain ⟨q, rfl, hqn⟩ := inB_nat hf
  rw [hf] at h
  simp only [Bool.true_eq_false, if_false, Int.toNat_natCast] at h ⊢
  have hwb := R.way q m hqn hm
  cases hway : wayR s q m with
  | nil => rw [hway] at h; simp at h
  | cons x t =>
   rw [hway] at h hwb
   cases hmk : x.mark
   rotate_left
   ·simp [hmk] at h
   obtain ⟨xm, xv⟩ := x
   simp only at hmk
   subst hmk
   simp only [Bool.false_eq_true, if_false]
   unfold wayB at hwb
   simp only [Bool.and_eq_true, List.all_cons] at hwb
   have hnum : numB xv = true := by
    have := hwb.2.1
    unfold itemB at this
    simp only [Bool.and_eq_true] at this
    exact this.1
   refine ⟨hm, hc, by omega, ?_, .inr (.inl ⟨rfl, q, rfl, hqn, hnum, t, by first | rfl | exact hway⟩)⟩
   rw [hw, comes_take rfl rfl]
   simp only [hnum, Bool.true_and]
   have := R.n4
   by_cases h9 : (insAt (progOf s m) (stOf s m).at_).n = 9
   ·simp [h9, inB]
    omega
   ·rw [if_neg h9] at hfrom
    simp [hfrom]
    omega
 ·rw [hw] at h ⊢
  rw [if_neg k2, if_neg k3]
  exact ⟨hm, hc, by omega, by rw [hw]; exact comes_self k3, .inr (.inr ⟨k2, k3⟩)⟩
theorem MayBe.peer {s : Sy} {p : Nat} {e : Ev} (C : MayBe s p e) : peerB e s.progs.length = true := by
 unfold peerB
 rcases C.how with ⟨k, q, hq, hn, _⟩ | ⟨k, q, hq, hn, _⟩ | ⟨k2, k3⟩
 ·simp [k, hq, inB]; omega
 ·simp [k, hq, inB]; omega
 ·simp [k2, k3]
theorem rowH_set {h : List (List Ev)} {p q : Nat} {es : List Ev} (hp : p < h.length) : rowH (h.set p es) q = if q = p then es else rowH h q := by
 unfold rowH
 rw [List.getElem?_set]
 by_cases e : p = q
 ·subst e
  simp [hp]
 ·rw [if_neg e, if_neg fun x => e x.symm]
theorem idx_inj {a b p q n : Nat} (hb : b < n) (hq : q < n) (h : a * n + b = p * n + q) : a = p ∧ b = q := by
 have h1 : (a * n + b) / n = a := by rw [Nat.mul_comm, Nat.mul_add_div (by omega), Nat.div_eq_of_lt hb, Nat.add_zero]
 have h2 : (p * n + q) / n = p := by rw [Nat.mul_comm, Nat.mul_add_div (by omega), Nat.div_eq_of_lt hq, Nat.add_zero]
 have h3 : a = p := by rw [← h1, h, h2]
 subst h3
 exact ⟨rfl, by omega⟩
theorem wayR_set {s s' : Sy} {p q : Nat} {w : List Itm} (hn : s'.progs.length = s.progs.length) (hs : s'.ways = s.ways.set (p * s.progs.length + q) w) (hl : p * s.progs.length + q < s.ways.length) (hq : q < s.progs.length) {a b : Nat} (hb : b < s.progs.length) : wayR s' a b = if a = p ∧ b = q then w else wayR s a b := by
 unfold wayR
 rw [hn, hs, List.getElem?_set]
 by_cases h : p * s.progs.length + q = a * s.progs.length + b
 ·obtain ⟨h1, h2⟩ := idx_inj hb hq h.symm
  subst h1
  subst h2
  simp [hl]
 ·rw [if_neg h, if_neg fun ⟨h1, h2⟩ => h (by rw [h1, h2])]
theorem valsE_snoc (es : List Ev) (e : Ev) (k q : Int) : valsE (es ++ [e]) k q = valsE es k q ++ if isB e k q = true then [e.v] else [] := by
 unfold valsE
 rw [List.filter_append, List.map_append]
 by_cases h : isB e k q = true <;> simp [h]
theorem numsI_snoc (w : List Itm) (v : Int) : numsI (w ++ [⟨false, v⟩]) = numsI w ++ [v] := by
 unfold numsI
 simp
theorem right_done {s : Sy} (R : Right s) {p : Nat} {e : Ev} (C : MayBe s p e) : Right (doneF s p e) := by
 have hp := C.hp
 have hph : p < s.hist.length := by rw [R.hi]; exact hp
 have hps : p < s.states.length := by rw [R.st]; exact hp
 have rh : ∀ q, rowH (doneF s p e).hist q = if q = p then rowH s.hist p ++ [e] else rowH s.hist q := fun q => rowH_set hph
 have hn : (doneF s p e).progs.length = s.progs.length := rfl
 have fits0 : ∀ a b, a < s.progs.length → b < s.progs.length → valsE (rowH s.hist b) 3 a ++ numsI (wayR s a b) = valsE (rowH s.hist a) 2 b := fun a b ha hb => by
  have := R.fit a b ha hb
  unfold fitsB at this
  simpa using this
 have hpr := (R.pr hp).snoc C.len C.code C.comes C.peer
 refine ⟨R.n1, R.n4, by show (s.states.set _ _).length = _; rw [List.length_set]; exact R.st, by show (s.hist.set _ _).length = _; rw [List.length_set]; exact R.hi, ?_, fun a b ha hb => ?_, fun q hq => ?_, fun a b ha hb => ?_, ?_⟩
 ·show (waysN s p e).length = _
  unfold waysN
  (repeat' split) <;> first | (rw [List.length_set]; exact R.wa) | exact R.wa
 ·have ha : a < s.progs.length := ha
  have hb : b < s.progs.length := hb
  have w0 := R.way a b ha hb
  rcases C.how with ⟨k, q, hq, hqn, h12, hnum⟩ | ⟨k, q, hq, hqn, hnum, t, ht⟩ | ⟨k2, k3⟩
  ·rw [wayR_set (s := s) (s' := doneF s p e) (p := p) (q := q) (w := wayR s p q ++ [⟨false, e.v⟩]) rfl (by show waysN s p e = _; unfold waysN; rw [if_pos k, hq]; rfl) (idx_lt hp hqn R.wa) hqn hb]
   split
   ·have w1 := R.way p q hp hqn
    unfold wayB at w1 ⊢
    simp only [Bool.and_eq_true, decide_eq_true_eq] at w1 ⊢
    refine ⟨by simp; omega, ?_⟩
    rw [List.all_append, w1.2]
    simp [itemB, hnum]
   ·exact w0
  ·rw [wayR_set (s := s) (s' := doneF s p e) (p := q) (q := p) (w := (wayR s q p).tail) rfl (by show waysN s p e = _; unfold waysN; rw [if_neg (by rw [k]; decide), if_pos k, hq]; rfl) (idx_lt hqn hp R.wa) hp hb]
   split
   ·have w1 := R.way q p hqn hp
    rw [ht] at w1 ⊢
    unfold wayB at w1 ⊢
    simp only [Bool.and_eq_true, decide_eq_true_eq, List.length_cons, List.all_cons, List.tail_cons] at w1 ⊢
    refine ⟨?_, w1.2.2⟩
    have := w1.1
    exact decide_eq_true (by omega)
   ·exact w0
  ·have : wayR (doneF s p e) a b = wayR s a b := by
    unfold wayR
    show ((waysN s p e)[_]?).getD [] = _
    unfold waysN
    rw [if_neg k2, if_neg k3]
    rfl
   rw [this]
   exact w0
 ·have hq : q < s.progs.length := hq
  rw [proc_iff, rh q]
  by_cases h : q = p
  ·subst h
   rw [if_pos rfl]
   have e1 : stOf (doneF s q e) q = stepS (progOf s q) (stOf s q) e := by
    show (((s.states.set q _)[q]?).getD _) = _
    rw [List.getElem?_set, if_pos rfl, if_pos hps]
    rfl
   rw [e1]
   exact hpr
  ·rw [if_neg h]
   have e1 : stOf (doneF s p e) q = stOf s q := by
    show (((s.states.set p _)[q]?).getD _) = _
    rw [List.getElem?_set, if_neg fun x => h x.symm]
    rfl
   rw [e1]
   exact R.pr hq
 ·have ha : a < s.progs.length := ha
  have hb : b < s.progs.length := hb
  unfold fitsB
  rw [decide_eq_true_eq, rh a, rh b]
  have vals : ∀ (k : Int) (q r : Nat), valsE (if q = p then rowH s.hist p ++ [e] else rowH s.hist q) k r = valsE (rowH s.hist q) k r ++ if q = p ∧ isB e k r = true then [e.v] else [] := fun k q r => by
   by_cases h : q = p
   ·subst h
    rw [if_pos rfl, valsE_snoc]
    simp
   ·rw [if_neg h]
    simp [h]
  rw [vals, vals]
  rcases C.how with ⟨k, q, hq, hqn, h12, hnum⟩ | ⟨k, q, hq, hqn, hnum, t, ht⟩ | ⟨k2, k3⟩
  ·rw [wayR_set (s := s) (s' := doneF s p e) (p := p) (q := q) (w := wayR s p q ++ [⟨false, e.v⟩]) rfl (by show waysN s p e = _; unfold waysN; rw [if_pos k, hq]; rfl) (idx_lt hp hqn R.wa) hqn hb]
   have i3 : isB e 3 a = false := by simp [isB, k]
   rw [i3, if_neg (show ¬ (b = p ∧ false = true) by simp)]
   by_cases hab : a = p ∧ b = q
   ·obtain ⟨rfl, rfl⟩ := hab
    rw [if_pos ⟨rfl, rfl⟩, if_pos ⟨rfl, by simp [isB, k, hq]⟩, numsI_snoc, ← fits0 a b ha hb]
    simp
   ·rw [if_neg hab, if_neg (by
     rintro ⟨h1, h2⟩
     simp [isB, k, hq] at h2
     exact hab ⟨h1, by omega⟩), List.append_nil, ← fits0 a b ha hb]
    simp
  ·rw [wayR_set (s := s) (s' := doneF s p e) (p := q) (q := p) (w := (wayR s q p).tail) rfl (by show waysN s p e = _; unfold waysN; rw [if_neg (by rw [k]; decide), if_pos k, hq]; rfl) (idx_lt hqn hp R.wa) hp hb]
   have i2 : isB e 2 b = false := by simp [isB, k]
   rw [i2, if_neg (show ¬ (a = p ∧ false = true) by simp), List.append_nil, ← fits0 a b ha hb]
   by_cases hab : a = q ∧ b = p
   ·obtain ⟨rfl, rfl⟩ := hab
    rw [if_pos ⟨rfl, by simp [isB, k, hq]⟩, if_pos ⟨rfl, rfl⟩, ht]
    simp [numsI]
   ·rw [if_neg (by
     rintro ⟨h1, h2⟩
     simp [isB, k, hq] at h2
     exact hab ⟨by omega, h1⟩), if_neg hab, List.append_nil]
  ·have : wayR (doneF s p e) a b = wayR s a b := by
    unfold wayR
    show ((waysN s p e)[_]?).getD [] = _
    unfold waysN
    rw [if_neg k2, if_neg k3]
    rfl
   rw [this, show isB e 3 a = false by simp [isB, k3], show isB e 2 b = false by simp [isB, k2]]
   simp only [Bool.false_eq_true, and_false, if_false, List.append_nil]
   exact fits0 a b ha hb
 ·have ext : Reach (doneF s p e).hist (fullD s.hist) := reach_ext (by show (s.hist.set _ _).length = _; rw [List.length_set]) (fun q => by
   rw [rh q]
   by_cases h : q = p
   ·subst h; rw [if_pos rfl]; exact ⟨_, rfl⟩
   ·rw [if_neg h]; exact ⟨[], by simp⟩) R.ord
  have hb : fullD (doneF s p e).hist = bump (fullD s.hist) p := by
   funext q
   unfold fullD bump
   rw [rh q]
   by_cases h : q = p
   ·subst h; rw [if_pos rfl, if_pos rfl]; simp
   ·rw [if_neg h, if_neg h]
  rw [hb]
  refine .step ext (by show p < (s.hist.set _ _).length; rw [List.length_set]; exact hph) ?_
  have hlt : fullD s.hist p < (rowH (doneF s p e).hist p).length := by
   rw [rh p, if_pos rfl]
   unfold fullD
   simp
  rw [enB_iff hlt]
  have tk : ∀ q, (rowH (doneF s p e).hist q).take (fullD s.hist q) = rowH s.hist q := fun q => by
   rw [rh q]
   unfold fullD
   by_cases h : q = p
   ·subst h; rw [if_pos rfl]; simp
   ·rw [if_neg h, List.take_length]
  have ev : evAt (rowH (doneF s p e).hist p) (fullD s.hist p) = e := by
   rw [rh p, if_pos rfl]
   exact evAt_last
  rw [ev, tk, tk]
  intro hk
  rcases C.how with ⟨k, _⟩ | ⟨k, q, hq, hqn, hnum, t, ht⟩ | ⟨k2, k3⟩
  ·rw [k] at hk; simp at hk
  ·have := fits0 q p hqn hp
   rw [ht] at this
   rw [hq, Int.toNat_natCast, ← valsE_cnt, ← valsE_cnt, ← this]
   simp [numsI]
  ·exact absurd hk k3
/-! ### what is right is small -/
theorem tot_bound {α : Type} {c : Nat} : ∀ {l : List (List α)}, (∀ x ∈ l, x.length ≤ c) → tot l ≤ c * l.length
 | [], _ => by simp [tot]
 | x :: l, h => by
  have h1 := tot_bound (l := l) fun y hy => h y (List.mem_cons_of_mem _ hy)
  have h2 := h x (List.mem_cons_self ..)
  have : tot (x :: l) = x.length + tot l := by simp [tot]
  rw [this, List.length_cons, Nat.mul_add]
  omega
theorem Right.small {s : Sy} (R : Right s) : Small s := by
 have n4 := R.n4
 have hh := R.hi
 have hs := R.st
 have hw := R.wa
 have nn : s.progs.length * s.progs.length ≤ 16 := Nat.mul_le_mul n4 n4
 have p1 : tot s.progs ≤ 30 * s.progs.length := tot_bound fun x hx => by
  obtain ⟨i, hi, rfl⟩ := List.getElem_of_mem hx
  have := (R.pr hi).pr
  unfold progB progOf at this
  rw [List.getElem?_eq_getElem hi] at this
  simp only [Bool.and_eq_true] at this
  have := inB_le this.1
  simp at this
  omega
 have p2 : tot (s.states.map nums) ≤ 64 * (s.states.map nums).length := tot_bound fun x hx => by
  obtain ⟨y, hy, rfl⟩ := List.mem_map.1 hx
  obtain ⟨i, hi, rfl⟩ := List.getElem_of_mem hy
  have P := (R.pr (p := i) (by omega)).rok
  unfold stOf at P
  rw [List.getElem?_eq_getElem hi] at P
  have := P.regs
  have := P.out
  rw [nums_len]
  simp at *
  omega
 have p3 : tot s.ways ≤ 12 * s.ways.length := tot_bound fun x hx => by
  have h1 : s.ways.all wayB = true := (all_ways hw).2 R.way
  have := List.all_eq_true.1 h1 x hx
  unfold wayB at this
  simp only [Bool.and_eq_true, decide_eq_true_eq] at this
  exact this.1
 have p4 : tot s.hist ≤ 200 * s.hist.length := tot_bound fun x hx => by
  obtain ⟨i, hi, rfl⟩ := List.getElem_of_mem hx
  have := (R.pr (p := i) (by omega)).len
  rw [rowH_of hi] at this
  exact this
 rw [List.length_map] at p2
 exact ⟨by omega, by omega, by omega, by omega, by omega, by omega, by omega, by omega⟩
theorem Small.right {s : Sy} (h : sysB s = true) : Small s := (right_iff.1 h).small
theorem step_right {s : Sy} (R : Right s) (p peer : Int) : Right (stepF s p peer).1 := by
 unfold stepF
 by_cases h : (comeF s p peer).2 = 0
 ·rw [if_pos h]
  obtain ⟨m, rfl, C⟩ := come_came R h
  exact right_done R C
 ·rw [if_neg h]
  exact R
end Go.Proofs.Ytninncdacekfgaa.VM

/- What comes next; what is ready: the program's, reckoned. -/
namespace Go.Proofs.Ytninncdacekfgaa.VM
open Go Go.Proofs
set_option linter.unusedSimpArgs false
set_option linter.unusedVariables false
set_option maxRecDepth 100000
set_option maxHeartbeats 40000000
theorem gq {l : List T} {i : Nat} {v : T} (e : l[i]? = some v) (h : i < l.length) : l[i] = v := Option.some.inj ((List.getElem?_eq_getElem h).symm.trans e)
theorem stT_0 {l : List Sta} {i : Nat} (hi : i < l.length) : (stT l)[i * 4]? = some (.v (.int .i64 l[i].at_)) := by
 have := fm_get (o := 0) tSta_len hi (by omega)
 exact this
theorem stT_3 {l : List Sta} {i : Nat} (hi : i < l.length) : (stT l)[i * 4 + 3]? = some (.v (.int .i64 l[i].code)) := fm_get tSta_len hi (by omega)
def hdI (w : List Itm) : Itm := (w[0]?).getD ⟨false, 0⟩
def srcF (s : Sy) (p : Nat) (a : Int) : Int × Int := if inB a 0 ((s.progs.length : Int) - 1) = false then (0, 2) else if (wayR s a.toNat p).length = 0 then (0, 3) else if (hdI (wayR s a.toNat p)).mark = true then (0, 5) else (a, 0)
theorem takeN_src (s : Sy) (p : Nat) (a : Int) : takeN s p a = if (srcF s p a).2 = 0 then (⟨3, a, (hdI (wayR s a.toNat p)).v⟩, 0) else (⟨0, 0, 0⟩, (srcF s p a).2) := by
 unfold takeN srcF
 cases inB a 0 ((s.progs.length : Int) - 1)
 ·simp
 ·cases h : wayR s a.toNat p with
  | nil => simp
  | cons x t =>
   cases hm : x.mark <;> simp [hdI, hm]
theorem wayI_of {s : Sy} (R : Right s) {a b : Nat} (ha : a < s.progs.length) (hb : b < s.progs.length) : wayI s a b = ((a * s.progs.length + b : Nat) : Int) ∧ a * s.progs.length + b < s.ways.length ∧ wayR s a b = (s.ways[a * s.progs.length + b]?).getD [] := by
 have hi := idx_lt ha hb R.wa
 refine ⟨?_, hi, rfl⟩
 unfold wayI
 rw [if_pos ⟨by simp [inB]; omega, by simp [inB]; omega, by rw [← cast_idx]; omega⟩, cast_idx]
theorem run_source {j : Nat} (s : Sy) (R : Right s) (p : Nat) (hp : p < s.progs.length) (peer : Int) (x : Ins) : M.run (j + 3) 104 [.agg (syR s), .c (.v (.int .i64 p)), .c (.v (.int .i64 peer)), .agg (tIns x)] = some ([.c (.v (.int .i64 (srcF s p (if x.n = 9 then peer else x.n)).1)), .c (.v (.int .i64 (srcF s p (if x.n = 9 then peer else x.n)).2))], [.agg (syR s), .c (.v (.int .i64 p)), .c (.v (.int .i64 peer)), .agg (tIns x)]) := by
 have h := R.small
 rw [m_run (fn := Try.f104) (i0 := 0) rfl Try.func104 rfl rfl (by simp [syR, tIns])]
 have key : ∀ a : Int, a = (if x.n = 9 then peer else x.n) → True := fun _ _ => trivial
 generalize ha : (if x.n = 9 then peer else x.n) = a
 have e := run_wayAt (j := j) s h a p
 simp only [syR] at e ⊢
 unfold srcF
 cases hq : inB a 0 ((s.progs.length : Int) - 1)
 ·have : wayI s a p = -1 := by unfold wayI; rw [if_neg (by rw [hq]; simp)]
  rw [this] at e
  by_cases h9 : x.n = 9
  ·rw [if_pos h9] at ha
   subst ha
   simp -implicitDefEqProofs [tIns, h9, own1, e]
  ·rw [if_neg h9] at ha
   rw [← ha] at e ⊢
   simp -implicitDefEqProofs [tIns, h9, own1, e]
 ·obtain ⟨q, hqa, hqn⟩ := inB_nat hq
  subst hqa
  obtain ⟨w1, w2, w3⟩ := wayI_of R hqn hp
  rw [w1] at e
  rw [Int.toNat_natCast, w3, List.getElem?_eq_getElem w2]
  simp only [Option.getD_some]
  generalize hm : q * s.progs.length + p = m at *
  have hx9 : (x.n = 9 ∧ peer = q) ∨ (¬ x.n = 9 ∧ x.n = q) := by
   by_cases h9 : x.n = 9
   ·rw [if_pos h9] at ha; exact .inl ⟨h9, ha⟩
   ·rw [if_neg h9] at ha; exact .inr ⟨h9, ha⟩
  have hm0 : ¬ ((m : Int) < 0) := by omega
  by_cases h0 : s.ways[m].length = 0
  ·rcases hx9 with ⟨h9, rfl⟩ | ⟨h9, h9'⟩
   ·simp -implicitDefEqProofs [tIns, h9, own1, e, w2, hm0, rItem_at w2, rItem, h0]
   ·rw [h9'] at h9
    simp -implicitDefEqProofs [tIns, h9, h9', own1, e, w2, hm0, rItem_at w2, rItem, h0]
  ·have hpos : 0 < s.ways[m].length := by omega
   have f0 : (itT s.ways[m])[0]? = some (.v (.bool s.ways[m][0].mark)) := by simpa using itT_0 hpos
   have f0g := itT_0g hpos (by rw [itT_len]; omega)
   have hh : hdI s.ways[m] = s.ways[m][0] := by unfold hdI; rw [List.getElem?_eq_getElem hpos]; rfl
   simp only [hh]
   cases hk : s.ways[m][0].mark
   ·rw [hk] at f0
    rcases hx9 with ⟨h9, rfl⟩ | ⟨h9, h9'⟩
    ·simp -implicitDefEqProofs [tIns, h9, own1, e, w2, hm0, rItem_at w2, rItem, h0, hpos, f0, gq f0]
    ·rw [h9'] at h9
     simp -implicitDefEqProofs [tIns, h9, h9', own1, e, w2, hm0, rItem_at w2, rItem, h0, hpos, f0, gq f0]
   ·rw [hk] at f0
    rcases hx9 with ⟨h9, rfl⟩ | ⟨h9, h9'⟩
    ·simp -implicitDefEqProofs [tIns, h9, own1, e, w2, hm0, rItem_at w2, rItem, h0, hpos, f0, gq f0]
    ·rw [h9'] at h9
     simp -implicitDefEqProofs [tIns, h9, h9', own1, e, w2, hm0, rItem_at w2, rItem, h0, hpos, f0, gq f0]
theorem run_coming {j : Nat} (hj : big ≤ j) (s : Sy) (R : Right s) (p peer : Int) : M.run (j + 6) 77 [.agg (syR s), .c (.v (.int .i64 p)), .c (.v (.int .i64 peer))] = some ([.agg (tEv (comeF s p peer).1), .c (.v (.int .i64 (comeF s p peer).2))], [.agg (syR s), .c (.v (.int .i64 p)), .c (.v (.int .i64 peer))]) := by
 have h := R.small
 have n4 := R.n4
 have w := w64 (x := (s.progs.length : Int) - 1) (by omega)
 rw [m_run (fn := Try.f77) (i0 := 0) rfl Try.func77 rfl rfl (by simp [syR])]
 unfold comeF
 cases hq : inB p 0 ((s.progs.length : Int) - 1)
 ·simp -implicitDefEqProofs [syR, own1, run64, w, hq, tEv]
 obtain ⟨m, rfl, hm⟩ := inB_nat hq
 have h2 : m < s.states.length := by rw [R.st]; exact hm
 have h3 : m < s.hist.length := by rw [R.hi]; exact hm
 have P := R.pr hm
 have hst : stOf s m = s.states[m] := by unfold stOf; rw [List.getElem?_eq_getElem h2]; rfl
 have hpg : progOf s m = s.progs[m] := by unfold progOf; rw [List.getElem?_eq_getElem hm]; rfl
 have hrw := rowH_of h3
 simp only [Bool.true_eq_false, if_false, Int.toNat_natCast]
 unfold comeN
 rw [hst, hrw]
 have st3 := stT_3 h2
 by_cases hc : s.states[m].code = 0
 rotate_left
 ·rw [if_pos hc]
  simp -implicitDefEqProofs [syR, own1, run64, w, hq, tEv, hm, h2, st3, hc, show m * 4 + 4 ≤ s.states.length * 4 by omega]
 rw [if_neg (by simp [hc])]
 rw [hc] at st3
 by_cases hl : 200 ≤ s.hist[m].length
 ·rw [if_pos hl]
  simp -implicitDefEqProofs [syR, own1, run64, w, hq, tEv, hm, h2, h3, st3, rEvent_at h3, rEvent, hl, show (200 : Int) ≤ s.hist[m].length by omega, show m * 4 + 4 ≤ s.states.length * 4 by omega]
 rw [if_neg hl]
 have hl' : ¬ (200 : Int) ≤ s.hist[m].length := by omega
 rw [hst, hpg] at P
 obtain ⟨r1, _, _⟩ := round (j := j) hj P.pr4 P.rok ⟨0, 0, 0⟩
 have hw : wantE s m = nextE (insAt s.progs[m] s.states[m].at_) s.states[m].regs := by unfold wantE; rw [hst, hpg]
 rw [← hw] at r1
 obtain ⟨i, hi, hi1, hi2⟩ := insAt_of P.rok
 obtain ⟨q1, q2⟩ := ins_of R hm
 rw [hpg, hst, hi2] at q1
 have hx : (s.progs[m][i].op = 6 ∧ wantE s m = ⟨2, s.progs[m][i].n, (s.states[m].regs[s.progs[m][i].a.toNat]?).getD 0⟩) ∨ (s.progs[m][i].op = 7 ∧ wantE s m = ⟨3, s.progs[m][i].n, 0⟩) ∨ ((wantE s m).kind ≠ 2 ∧ (wantE s m).kind ≠ 3) := by
  rw [hw, hi2]
  exact want_kind _ _
 clear hw
 generalize wantE s m = e at *
 obtain ⟨ek, ep, ev⟩ := e
 simp only [tSta, stR, tEv] at r1 ⊢
 rcases hx with ⟨o, hx⟩ | ⟨o, hx⟩ | ⟨k2, k3⟩
 ·injection hx with x1 x2 x3
  subst x1; subst x2; subst x3
  have l1 := q1
  simp only [insB, Bool.and_eq_true] at l1
  have l1 := l1.2
  simp [lastB, hasB, formL, o] at l1
  obtain ⟨q, hq2, hqn⟩ := inB_nat l1
  obtain ⟨w1, w2, w3⟩ := wayI_of R hm hqn
  have e2 := run_wayAt (j := j + 3) s h m q
  rw [w1] at e2
  rw [hq2] at r1 ⊢
  rw [if_pos rfl, Int.toNat_natCast, w3, List.getElem?_eq_getElem w2, Option.getD_some]
  generalize m * s.progs.length + q = y at *
  have hy0 : ¬ ((y : Int) < 0) := by omega
  simp only [syR] at e2 ⊢
  by_cases h12 : 12 ≤ s.ways[y].length
  ·rw [if_pos h12]
   simp -implicitDefEqProofs [syR, own1, run64, w, hq, tEv, hm, h2, h3, st3, stT_1 h2, stT_2 h2, rEvent_at h3, rEvent, rIns_at hm, rIns, tSta, stR, hl', r1, e2, w2, hy0, rItem_at w2, rItem, show (12 : Int) ≤ s.ways[y].length by omega, show m * 4 + 4 ≤ s.states.length * 4 by omega]
  ·rw [if_neg h12]
   simp -implicitDefEqProofs [syR, own1, run64, w, hq, tEv, hm, h2, h3, st3, stT_1 h2, stT_2 h2, rEvent_at h3, rEvent, rIns_at hm, rIns, tSta, stR, hl', r1, e2, w2, hy0, rItem_at w2, rItem, show ¬ (12 : Int) ≤ s.ways[y].length by omega, show m * 4 + 4 ≤ s.states.length * 4 by omega]
 ·injection hx with x1 x2 x3
  subst x1; subst x2; subst x3
  have e3 := run_source (j := j + 2) s R m hm peer s.progs[m][i]
  rw [hi1] at r1
  rw [if_neg (by decide), if_pos rfl, takeN_src]
  generalize hA : (if s.progs[m][i].n = 9 then peer else s.progs[m][i].n) = A at *
  by_cases hs0 : (srcF s m A).2 = 0
  ·rw [if_pos hs0]
   have hin : inB A 0 ((s.progs.length : Int) - 1) = true := by
    cases hz : inB A 0 ((s.progs.length : Int) - 1) with
    | true => rfl
    | false => unfold srcF at hs0; rw [if_pos hz] at hs0; simp at hs0
   obtain ⟨q, hqA, hqn⟩ := inB_nat hin
   subst hqA
   obtain ⟨w1, w2, w3⟩ := wayI_of R hqn hm
   have hne : ¬ (wayR s q m).length = 0 := by
    intro hz
    unfold srcF at hs0
    rw [if_neg (by rw [hin]; simp), Int.toNat_natCast, if_pos hz] at hs0
    simp at hs0
   have hs1 : (srcF s m q).1 = q := by
    unfold srcF at hs0 ⊢
    rw [if_neg (by rw [hin]; simp), Int.toNat_natCast, if_neg hne] at hs0 ⊢
    split at hs0
    ·simp at hs0
    ·rename_i hmk
     rw [if_neg hmk]
   have e2 := run_wayAt (j := j + 3) s h q m
   rw [w1] at e2
   rw [hs0, hs1] at e3
   rw [Int.toNat_natCast]
   rw [w3, List.getElem?_eq_getElem w2, Option.getD_some] at hne ⊢
   generalize q * s.progs.length + m = y at *
   have hy0 : ¬ ((y : Int) < 0) := by omega
   have hpos : 0 < s.ways[y].length := by omega
   have f1 : (itT s.ways[y])[1]? = some (.v (.int .i64 s.ways[y][0].v)) := by simpa using itT_1 hpos
   have hh : hdI s.ways[y] = s.ways[y][0] := by unfold hdI; rw [List.getElem?_eq_getElem hpos]; rfl
   rw [hh]
   simp only [syR, tIns] at e2 e3 ⊢
   simp -implicitDefEqProofs [syR, own1, run64, w, hq, tEv, hm, h2, h3, hi, hi1, stT_0 h2, gq (stT_0 h2), st3, stT_1 h2, stT_2 h2, rEvent_at h3, rEvent, rIns_at hm, rIns, tIns, tSta, stR, hl', r1, e2, e3, w2, hy0, rItem_at w2, rItem, hpos, f1, gq f1, show m * 4 + 4 ≤ s.states.length * 4 by omega, show i * 5 + 5 ≤ s.progs[m].length * 5 by omega]
  ·rw [if_neg hs0]
   generalize srcF s m A = D at *
   obtain ⟨d1, d2⟩ := D
   simp only at hs0 e3 ⊢
   simp only [syR, tIns] at e3 ⊢
   simp -implicitDefEqProofs [syR, own1, run64, w, hq, tEv, hm, h2, h3, hi, hi1, stT_0 h2, gq (stT_0 h2), st3, stT_1 h2, stT_2 h2, rEvent_at h3, rEvent, rIns_at hm, rIns, tIns, tSta, stR, hl', r1, e3, hs0, show m * 4 + 4 ≤ s.states.length * 4 by omega, show i * 5 + 5 ≤ s.progs[m].length * 5 by omega]
 ·rw [if_neg k2, if_neg k3]
  simp only at k2 k3
  simp -implicitDefEqProofs [syR, own1, run64, w, hq, tEv, hm, h2, h3, st3, stT_1 h2, stT_2 h2, rEvent_at h3, rEvent, rIns_at hm, rIns, tSta, stR, hl', r1, k2, k3, show m * 4 + 4 ≤ s.states.length * 4 by omega]
end Go.Proofs.Ytninncdacekfgaa.VM
