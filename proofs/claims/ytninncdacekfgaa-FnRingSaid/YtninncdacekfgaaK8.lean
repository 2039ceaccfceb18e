/- Replay; rows of events put in a row. -/
import Derived.Test.YtninncdacekfgaaK6
/- Replay, reckoned. -/
namespace Go.Proofs.Ytninncdacekfgaa.VM
open Go Go.Proofs
set_option linter.unusedSimpArgs false
set_option linter.unusedVariables false
set_option maxRecDepth 100000
set_option maxHeartbeats 40000000
theorem evT_at0 {l : List Ev} (h : 0 < l.length) : (evT l).take 3 = tEv l[0] := by simpa using evT_at h
/-- impl.replayed, at a loop's head. -/
def H_replayed (l : List Ins) (es : List Ev) (i : Nat) : St := ⟨[(0, .c (.sl 0 [] 0 l.length)), (4, .ptr 320 [] 0), (6, .ptr 448 [] 0), (10, .c (.sl 3 [] 0 es.length)), (11, .c (.v (.int .i64 es.length))), (12, .c (.v (.int .i64 i)))],
 if i = 0 then [(0, ⟨.ro, 40, insT l⟩), (1, ⟨.own, 3, ints [0, 0, 0, 0]⟩), (2, ⟨.own, 3, ints []⟩), (3, ⟨.ro, 29, evT es⟩), (320, ⟨.box, 27, [.v (.int .i64 0), .l 1 [] 0 4, .l 2 [] 0 0, .v (.int .i64 0)]⟩), (448, ⟨.box, 27, [.v (.int .i64 0), .z, .z, .v (.int .i64 0)]⟩)]
 else [(0, ⟨.ro, 40, insT l⟩), (1, ⟨.own, 3, ints [0, 0, 0, 0]⟩), (2, ⟨.own, 3, ints []⟩), (3, ⟨.ro, 29, evT es⟩), (320, ⟨.box, 27, [.v (.int .i64 (stAt l es i).at_), .l 2049 [] 0 (stAt l es i).regs.length, .l 2050 [] 0 (stAt l es i).out.length, .v (.int .i64 (stAt l es i).code)]⟩), (448, ⟨.box, 27, [.v (.int .i64 0), .z, .z, .v (.int .i64 0)]⟩), (2049, ⟨.own, 3, ints (stAt l es i).regs⟩), (2050, ⟨.own, 3, ints (stAt l es i).out⟩)]⟩
def zSta (n : Nat) : List T := if n = 0 then hSta s0 else sSta s0
/-- What the round does, of the program's functions: the next event, whether it comes, what is behind it. -/
theorem round {j : Nat} (hj : big ≤ j) {l : List Ins} {s : Sta} (hp : progB l 4 = true) (h : Rok l s) (e : Ev) :
  M.run (j + 5) 35 [.c (.r 40 l.length (insT l)), .agg (tSta s)] = some ([.agg (tEv (nextE (insAt l s.at_) s.regs))], [.c (.r 40 l.length (insT l)), .agg (tSta s)]) ∧
  M.run (j + 5) 28 [.agg (tEv e), .agg (tEv (nextE (insAt l s.at_) s.regs))] = some ([.c (.v (.bool (comesB e (nextE (insAt l s.at_) s.regs))))], [.agg (tEv e), .agg (tEv (nextE (insAt l s.at_) s.regs))]) ∧
  M.run (j + 5) 30 [.c (.r 40 l.length (insT l)), .agg (tSta s), .agg (tEv e)] = some ([.agg (sSta (stepS l s e))], [.c (.r 40 l.length (insT l)), .agg (tSta s), .agg (tEv e)]) := by
 have R := rok_rt hp h
 obtain ⟨i, hi, h1, h2⟩ := insAt_of h
 obtain ⟨a, xs, ys, c⟩ := s
 simp only at h1
 subst h1
 simp only [stepS] at *
 rw [h2] at R ⊢
 exact ⟨run84 (j := j + 4) l i hi c xs ys R.regs (fun _ => R.a), run_comes (j := j + 2) e _, run_did (j := j + 1) l i hi xs ys c R e⟩
theorem run_replayed {j : Nat} (hj : big ≤ j) (l : List Ins) (es : List Ev) (hp : progB l 4 = true) (hn : es.length ≤ 1048576) :
  M.run (j + 6) 116 [.c (.r 40 l.length (insT l)), .agg (sSta s0), .c (.r 29 es.length (evT es))] = some ([.agg (sSta (repS l es)), .c (.v (.bool (repB l es)))], [.c (.r 40 l.length (insT l)), .agg (if repB l es = true then zSta es.length else sSta s0), .c (.r 29 es.length (evT es))]) := by
 rw [m_run (fn := Try.f116) (i0 := 0) rfl Try.func116 rfl rfl (by simp [sSta, stS])]
 rcases allTo_or (fun i => canB l (stAt l es i) (evAt es i)) es.length with ⟨hb, hall⟩ | ⟨hb, m, hm, hbad, hall⟩
 ·have hb' : repB l es = true := hb
  rw [show repS l es = stAt l es es.length by unfold repS; rw [if_pos hb'], hb', if_pos rfl]
  simp -implicitDefEqProofs [sSta, stS, s0]
  rw [loop_to (H_replayed l es) es.length (by simp -implicitDefEqProofs [H_replayed, hint1]) (by simp [big] at hj; omega) (fun i hi => by
   have hc := hall i hi
   have R := round hj hp (st_rok (n := i) hp fun k hk => hall k (by omega)) (evAt es i)
   simp only [canB, Bool.and_eq_true, beq_iff_eq] at hc
   obtain ⟨hc1, hc2⟩ := hc
   rw [hc2, show stepS l (stAt l es i) (evAt es i) = stAt l es (i + 1) from rfl, evAt_of hi] at R
   obtain ⟨r1, r2, r3⟩ := R
   have hi3 : i * 3 + 3 ≤ es.length * 3 := by omega
   by_cases z : i = 0
   ·subst z
    rw [show stAt l es 0 = s0 from rfl] at r1 r2 r3
    simp -implicitDefEqProofs [tSta, stR, sSta, stS, tEv, s0] at r1 r2 r3
    simp -implicitDefEqProofs [H_replayed, hint1, hi, show 3 ≤ es.length * 3 by omega, evT_at0 (l := es) (by omega), w64 (x := (1 : Int)) (by omega), tEv, own1, r1, r2, r3]
   ·simp -implicitDefEqProofs [tSta, stR, sSta, stS, tEv, hc1] at r1 r2 r3
    simp -implicitDefEqProofs [H_replayed, z, hint1, hi, hi3, w64 (x := (i : Int) + 1) (by omega), tEv, own1, r1, r2, r3, hc1]) (by
   by_cases h : es.length = 0
   ·simp -implicitDefEqProofs [H_replayed, stops, h]
   ·simp -implicitDefEqProofs [H_replayed, stops, show ¬ es = [] from fun e => h (by rw [e]; rfl)])]
  by_cases h : es.length = 0
  ·simp -implicitDefEqProofs [H_replayed, h, stAt, s0, zSta, hSta]
  ·have hne : ¬ es = [] := fun e => h (by rw [e]; rfl)
   rw [show zSta es.length = sSta s0 from if_neg h]
   generalize hs : stAt l es es.length = s' at *
   simp -implicitDefEqProofs [H_replayed, hne, hs, sSta, stS, s0]
 ·have hb' : repB l es = false := hb
  rw [show repS l es = ⟨0, [], [], 0⟩ by unfold repS; rw [hb']; rfl, hb', if_neg (by simp)]
  have R := round hj hp (st_rok (n := m) hp hall) (evAt es m)
  rw [evAt_of hm] at R
  have hcm : ¬ (stAt l es m).code = 0 ∨ ((stAt l es m).code = 0 ∧ comesB es[m] (nextE (insAt l (stAt l es m).at_) (stAt l es m).regs) = false) := by
   simp only [canB, Bool.and_eq_false_iff, beq_eq_false_iff_ne, evAt_of hm] at hbad
   by_cases h0 : (stAt l es m).code = 0
   ·exact .inr ⟨h0, hbad.resolve_left fun h => h h0⟩
   ·exact .inl h0
  have hm3 : m * 3 + 3 ≤ es.length * 3 := by omega
  simp -implicitDefEqProofs [sSta, stS, s0]
  rw [loop_to (H_replayed l es) m (by simp -implicitDefEqProofs [H_replayed, hint1]) (by simp [big] at hj; omega) (fun i hi => by
   have hi' : i < es.length := by omega
   have hc := hall i hi
   have R := round hj hp (st_rok (n := i) hp fun k hk => hall k (by omega)) (evAt es i)
   simp only [canB, Bool.and_eq_true, beq_iff_eq] at hc
   obtain ⟨hc1, hc2⟩ := hc
   rw [hc2, show stepS l (stAt l es i) (evAt es i) = stAt l es (i + 1) from rfl, evAt_of hi'] at R
   obtain ⟨r1, r2, r3⟩ := R
   have hi3 : i * 3 + 3 ≤ es.length * 3 := by omega
   by_cases z : i = 0
   ·subst z
    rw [show stAt l es 0 = s0 from rfl] at r1 r2 r3
    simp -implicitDefEqProofs [tSta, stR, sSta, stS, tEv, s0] at r1 r2 r3
    simp -implicitDefEqProofs [H_replayed, hint1, hi', show 3 ≤ es.length * 3 by omega, evT_at0 (l := es) (by omega), w64 (x := (1 : Int)) (by omega), tEv, own1, r1, r2, r3]
   ·simp -implicitDefEqProofs [tSta, stR, sSta, stS, tEv, hc1] at r1 r2 r3
    simp -implicitDefEqProofs [H_replayed, z, hint1, hi', hi3, w64 (x := (i : Int) + 1) (by omega), tEv, own1, r1, r2, r3, hc1]) (by
   obtain ⟨r1, r2, r3⟩ := R
   by_cases z : m = 0
   ·subst z
    rw [show stAt l es 0 = s0 from rfl] at r1 r2 r3 hcm
    rcases hcm with h | ⟨_, h⟩
    ·exact absurd rfl h
    ·rw [h] at r2
     simp -implicitDefEqProofs [tSta, stR, sSta, stS, tEv, s0] at r1 r2 r3
     simp -implicitDefEqProofs [H_replayed, hint1, stops, hm, show 3 ≤ es.length * 3 by omega, evT_at0 (l := es) (by omega), tEv, own1, r1, r2]
   ·rcases hcm with h | ⟨h0, h⟩
    ·simp -implicitDefEqProofs [H_replayed, z, hint1, stops, hm, hm3, tEv, own1, h]
    ·rw [h] at r2
     simp -implicitDefEqProofs [tSta, stR, sSta, stS, tEv, h0] at r1 r2 r3
     simp -implicitDefEqProofs [H_replayed, z, hint1, stops, hm, hm3, tEv, own1, r1, r2, h0])]
  obtain ⟨r1, r2, r3⟩ := R
  by_cases z : m = 0
  ·subst z
   rw [show stAt l es 0 = s0 from rfl] at r1 r2 r3 hcm
   rcases hcm with h | ⟨_, h⟩
   ·exact absurd rfl h
   ·rw [h] at r2
    simp -implicitDefEqProofs [tSta, stR, sSta, stS, tEv, s0] at r1 r2 r3
    simp -implicitDefEqProofs [H_replayed, hm, show 3 ≤ es.length * 3 by omega, evT_at0 (l := es) (by omega), tEv, own1, r1, r2]
  ·rcases hcm with h | ⟨h0, h⟩
   ·simp -implicitDefEqProofs [H_replayed, z, hm, hm3, tEv, own1, h]
   ·rw [h] at r2
    simp -implicitDefEqProofs [tSta, stR, sSta, stS, tEv, h0] at r1 r2 r3
    simp -implicitDefEqProofs [H_replayed, z, hm, hm3, tEv, own1, r1, r2, h0]
end Go.Proofs.Ytninncdacekfgaa.VM

/- Replay of the specification, reckoned; both. -/
namespace Go.Proofs.Ytninncdacekfgaa.VM
open Go Go.Proofs
set_option linter.unusedSimpArgs false
set_option linter.unusedVariables false
set_option maxRecDepth 100000
set_option maxHeartbeats 40000000
def H_l3Replay (l : List Ins) (es : List Ev) (i : Nat) : St := ⟨[(0, .c (.sl 0 [] 0 l.length)), (1, .c (.sl 1 [] 0 es.length)), (4, .ptr 320 [] 0), (6, .ptr 448 [] 0), (7, .c (.v (.int .i64 i)))],
 [(0, ⟨.ro, 40, insT l⟩), (1, ⟨.ro, 29, evT es⟩), (320, ⟨.box, 27, [.v (.int .i64 0), .z, .z, .v (.int .i64 0)]⟩), (448, ⟨.box, 27, [.v (.int .i64 (stAt l es i).at_), .l 705 [] 0 (stAt l es i).regs.length, .l 706 [] 0 (stAt l es i).out.length, .v (.int .i64 (stAt l es i).code)]⟩), (705, ⟨.own, 3, ints (stAt l es i).regs⟩), (706, ⟨.own, 3, ints (stAt l es i).out⟩)]⟩
theorem roundS {j : Nat} {l : List Ins} {s : Sta} (hp : progB l 4 = true) (h : Rok l s) (e : Ev) :
  M.run (j + 4) 33 [.c (.r 40 l.length (insT l)), .agg (tSta s), .agg (tEv e)] = some ([.agg (sSta (if comesB e (nextE (insAt l s.at_) s.regs) = true then stepS l s e else s)), .c (.v (.bool (comesB e (nextE (insAt l s.at_) s.regs))))], [.c (.r 40 l.length (insT l)), .agg (tSta s), .agg (tEv e)]) := by
 have R := rok_rt hp h
 obtain ⟨i, hi, h1, h2⟩ := insAt_of h
 obtain ⟨a, xs, ys, c⟩ := s
 simp only at h1
 subst h1
 simp only [stepS] at *
 rw [h2] at R ⊢
 exact run98 (j := j) l i hi xs ys c R e
def replayB (l : List Ins) (es : List Ev) : Bool := progB l 4 && (decide (es.length ≤ 200) && repB l es)
def replayS (l : List Ins) (es : List Ev) : Sta := if (progB l 4 && decide (es.length ≤ 200)) = true then repS l es else ⟨0, [], [], 0⟩
theorem run_implReplay {j : Nat} (hj : big ≤ j) (l : List Ins) (es : List Ev) (hl : l.length ≤ 1048576) (hn : es.length ≤ 1048576) :
  M.run (j + 8) 97 [.c (.r 40 l.length (insT l)), .c (.r 29 es.length (evT es))] = some ([.agg (sSta (replayS l es)), .c (.v (.bool (replayB l es)))], [.c (.r 40 l.length (insT l)), .c (.r 29 es.length (evT es))]) := by
 rw [m_run (fn := Try.f97) (i0 := 0) rfl Try.func97 rfl rfl (by simp)]
 have e1 := run50 (j := j) (by omega) l 4 hl
 have e0 := run16 (j := j + 6)
 simp -implicitDefEqProofs [stS] at e0
 unfold replayB replayS
 cases h1 : progB l 4
 ·rw [h1] at e1
  simp -implicitDefEqProofs [own1, e1, sSta, stS]
 ·have e2 := run_replayed (j := j + 1) (by omega) l es h1 hn
  rw [h1] at e1
  by_cases h2 : es.length ≤ 200
  ·have hz : (if repB l es = true then zSta es.length else sSta s0) = hSta s0 ∨ (if repB l es = true then zSta es.length else sSta s0) = sSta s0 := by
    unfold zSta
    (repeat' split) <;> simp
   rcases hz with hz | hz
   ·rw [hz] at e2
    simp -implicitDefEqProofs [sSta, stS, hSta, s0] at e2
    simp -implicitDefEqProofs [own1, e1, e0, e2, sSta, stS, h2, show ¬ (200 : Int) < es.length by omega]
   ·rw [hz] at e2
    simp -implicitDefEqProofs [sSta, stS, hSta, s0] at e2
    simp -implicitDefEqProofs [own1, e1, e0, e2, sSta, stS, h2, show ¬ (200 : Int) < es.length by omega]
  ·simp -implicitDefEqProofs [own1, e1, sSta, stS, h2, show (200 : Int) < es.length by omega]
end Go.Proofs.Ytninncdacekfgaa.VM

/- The plain law of the rows of events: what goes on greedily comes to one end. -/
namespace Go.Proofs.Ytninncdacekfgaa.VM
open Go Go.Proofs
set_option linter.unusedVariables false
set_option linter.unusedSimpArgs false
/-- How many of a Kind and a Peer. -/
def cntE (es : List Ev) (k p : Int) : Nat := es.countP fun e => e.kind == k && e.peer == p
theorem cntE_mono {es : List Ev} {k p : Int} {a b : Nat} (h : a ≤ b) : cntE (es.take a) k p ≤ cntE (es.take b) k p := by
 unfold cntE
 exact List.Sublist.countP_le (List.take_sublist_take_left h)
/-- A row of a history. -/
def rowH (h : List (List Ev)) (p : Nat) : List Ev := (h[p]?).getD []
/-- May the next event of a process come. -/
def enB (h : List (List Ev)) (d : Nat → Nat) (p : Nat) : Bool :=
 if d p = (rowH h p).length then false
 else !((evAt (rowH h p) (d p)).kind == 3 && decide (cntE ((rowH h (evAt (rowH h p) (d p)).peer.toNat).take (d (evAt (rowH h p) (d p)).peer.toNat)) 2 p ≤ cntE ((rowH h p).take (d p)) 3 (evAt (rowH h p) (d p)).peer))
def bump (d : Nat → Nat) (p : Nat) : Nat → Nat := fun q => if q = p then d q + 1 else d q
inductive Reach (h : List (List Ev)) : (Nat → Nat) → Prop where
 | zero : Reach h (fun _ => 0)
 | step {d : Nat → Nat} {p : Nat} : Reach h d → p < h.length → enB h d p = true → Reach h (bump d p)
def Stuck (h : List (List Ev)) (d : Nat → Nat) : Prop := ∀ p, p < h.length → enB h d p = false
/-- All that is reached lies within what is stuck. -/
theorem reach_le {h : List (List Ev)} {D : Nat → Nat} (hD : Stuck h D) : ∀ {d : Nat → Nat}, Reach h d → ∀ q, d q ≤ D q := by
 intro d hd
 induction hd with
 | zero => intro q; exact Nat.zero_le _
 | @step d p hr hp he ih =>
  intro q
  unfold bump
  split
  ·rename_i e
   subst e
   rcases Nat.lt_or_ge (d q) (D q) with h1 | h1
   ·exact h1
   ·exfalso
    have heq : d q = D q := Nat.le_antisymm (ih q) h1
    have hs := hD q hp
    unfold enB at hs he
    rw [← heq] at hs
    split at he
    ·simp at he
    ·rename_i hne
     rw [if_neg hne] at hs
     simp only [Bool.not_eq_true', Bool.and_eq_false_iff, decide_eq_false_iff_not] at he
     simp only [Bool.not_eq_false', Bool.and_eq_true, decide_eq_true_eq] at hs
     rcases he with he | he
     ·rw [hs.1] at he
      simp at he
     ·exact he (Nat.le_trans (cntE_mono (ih _)) hs.2)
  ·exact ih q
theorem stuck_one {h : List (List Ev)} {D E : Nat → Nat} (h1 : Reach h D) (h2 : Stuck h D) (h3 : Reach h E) (h4 : Stuck h E) : D = E := by
 funext q
 exact Nat.le_antisymm (reach_le h4 h1 q) (reach_le h2 h3 q)
theorem reach_len {h : List (List Ev)} : ∀ {d : Nat → Nat}, Reach h d → ∀ q, d q ≤ (rowH h q).length := by
 intro d hd
 induction hd with
 | zero => intro q; exact Nat.zero_le _
 | @step d p hr hp he ih =>
  intro q
  unfold bump
  split
  ·rename_i e
   subst e
   have := ih q
   unfold enB at he
   split at he
   ·simp at he
   ·omega
  ·exact ih q
end Go.Proofs.Ytninncdacekfgaa.VM

/- The plain law of the rows of events: two ways of going on greedily, each to its end. -/
namespace Go.Proofs.Ytninncdacekfgaa.VM
open Go Go.Proofs
set_option linter.unusedVariables false
set_option linter.unusedSimpArgs false
/-- Again and again. -/
def again {α : Type} (f : α → α) : Nat → α → α
 | 0, x => x
 | n + 1, x => f (again f n x)
theorem again_stop {α : Type} {f : α → α} {stop : α → Bool} {μ : α → Nat} {I : α → Prop} (h : ∀ x, I x → stop x = false → μ (f x) < μ x ∧ I (f x)) {x : α} (hx : I x) :
  ∃ N, N ≤ μ x ∧ stop (again f N x) = true ∧ (∀ i, i < N → stop (again f i x) = false) ∧ ∀ i, i ≤ N → I (again f i x) := by
 have key : ∀ m, ∀ x, I x → μ x ≤ m → ∃ N, N ≤ μ x ∧ stop (again f N x) = true ∧ (∀ i, i < N → stop (again f i x) = false) ∧ ∀ i, i ≤ N → I (again f i x) := by
  have shift : ∀ n (x : α), again f n (f x) = again f (n + 1) x := by
   intro n
   induction n with
   | zero => intro x; rfl
   | succ n ih => intro x; show f (again f n (f x)) = f (again f (n + 1) x); rw [ih]
  intro m
  induction m with
  | zero =>
   intro x hx hm
   cases hs : stop x with
   | true => exact ⟨0, Nat.zero_le _, hs, fun i hi => by omega, fun i hi => by
    have h0 : i = 0 := by omega
    rw [h0]
    exact hx⟩
   | false => have := (h x hx hs).1; omega
  | succ m ih =>
   intro x hx hm
   cases hs : stop x with
   | true => exact ⟨0, Nat.zero_le _, hs, fun i hi => by omega, fun i hi => by
    have h0 : i = 0 := by omega
    rw [h0]
    exact hx⟩
   | false =>
    obtain ⟨h1, h2⟩ := h x hx hs
    obtain ⟨N, k1, k2, k3, k4⟩ := ih (f x) h2 (by omega)
    refine ⟨N + 1, by omega, by rw [← shift]; exact k2, fun i hi => ?_, fun i hi => ?_⟩
    ·cases i with
     | zero => exact hs
     | succ i => rw [← shift]; exact k3 i (by omega)
    ·cases i with
     | zero => exact hx
     | succ i => rw [← shift]; exact k4 i (by omega)
 exact key (μ x) x hx (Nat.le_refl _)
def sumD (d : Nat → Nat) : Nat → Nat
 | 0 => 0
 | n + 1 => sumD d n + d n
theorem sumD_same {d e : Nat → Nat} : ∀ {n : Nat}, (∀ q, q < n → d q = e q) → sumD d n = sumD e n
 | 0, _ => rfl
 | n + 1, h => by rw [sumD, sumD, sumD_same fun q hq => h q (by omega), h n (by omega)]
theorem sumD_bump {d : Nat → Nat} {p : Nat} : ∀ {n : Nat}, p < n → sumD (bump d p) n = sumD d n + 1
 | 0, h => by omega
 | n + 1, h => by
  rw [sumD, sumD]
  by_cases hp : p = n
  ·subst hp
   rw [sumD_same (d := bump d p) (e := d) fun q hq => by unfold bump; rw [if_neg (by omega)]]
   unfold bump
   rw [if_pos rfl]
   omega
  ·rw [sumD_bump (by omega)]
   unfold bump
   rw [if_neg (by omega)]
   omega
theorem sumD_le {d e : Nat → Nat} (h : ∀ q, d q ≤ e q) : ∀ n, sumD d n ≤ sumD e n
 | 0 => Nat.le_refl _
 | n + 1 => by rw [sumD, sumD]; have := sumD_le h n; have := h n; omega
/-- All events. -/
def allE (h : List (List Ev)) : Nat := sumD (fun q => (rowH h q).length) h.length
theorem reach_sum {h : List (List Ev)} {d : Nat → Nat} (hd : Reach h d) : sumD d h.length ≤ allE h := sumD_le (reach_len hd) _
/-! ### from the least one again -/
structure RowS where
 d : Nat → Nat
 p : Nat
 out : List (Int × Int)
def rowStep (h : List (List Ev)) (x : RowS) : RowS := if enB h x.d x.p = true then ⟨bump x.d x.p, 0, x.out ++ [((x.p : Int), (x.d x.p : Int))]⟩ else ⟨x.d, x.p + 1, x.out⟩
def row0 : RowS := ⟨fun _ => 0, 0, []⟩
def rowAt (h : List (List Ev)) (i : Nat) : RowS := again (rowStep h) i row0
structure RowI (h : List (List Ev)) (x : RowS) : Prop where
 reach : Reach h x.d
 le : x.p ≤ h.length
 stuck : ∀ q, q < x.p → enB h x.d q = false
 len : x.out.length = sumD x.d h.length
theorem sumD_zero : ∀ n, sumD (fun _ => 0) n = 0
 | 0 => rfl
 | n + 1 => by rw [sumD, sumD_zero n]
theorem row_ends (h : List (List Ev)) : ∃ N, N ≤ (allE h + 1) * (h.length + 1) ∧ (rowAt h N).p = h.length ∧ (∀ i, i < N → (rowAt h i).p < h.length) ∧ ∀ i, i ≤ N → RowI h (rowAt h i) := by
 have key := again_stop (f := rowStep h) (stop := fun x => decide (h.length ≤ x.p)) (μ := fun x => (allE h - sumD x.d h.length) * (h.length + 1) + (h.length - x.p)) (I := RowI h) (fun x hx hs => by
  have hp : x.p < h.length := by simpa using hs
  unfold rowStep
  by_cases he : enB h x.d x.p = true
  ·rw [if_pos he]
   have hr : Reach h (bump x.d x.p) := .step hx.reach hp he
   have h1 := reach_sum hr
   have h2 := sumD_bump (d := x.d) hp
   refine ⟨?_, hr, Nat.zero_le _, fun q hq => by simp at hq, by rw [List.length_append, hx.len, h2]; rfl⟩
   have e : allE h - sumD x.d h.length = (allE h - sumD (bump x.d x.p) h.length) + 1 := by omega
   simp only [e, Nat.add_mul, Nat.one_mul]
   omega
  ·rw [if_neg he]
   refine ⟨by simp only; omega, hx.reach, by simp only; omega, fun q hq => ?_, hx.len⟩
   simp only at hq
   by_cases hq2 : q = x.p
   ·rw [hq2]; simpa using he
   ·exact hx.stuck q (by omega)) (x := row0) ⟨.zero, Nat.zero_le _, fun q hq => by simp [row0] at hq, by simp [row0, sumD_zero]⟩
 obtain ⟨N, k1, k2, k3, k4⟩ := key
 have k2 : h.length ≤ (again (rowStep h) N row0).p := by simpa using k2
 refine ⟨N, ?_, Nat.le_antisymm (k4 N (Nat.le_refl _)).le k2, fun i hi => show (again (rowStep h) i row0).p < h.length by have := k3 i hi; simpa using this, k4⟩
 simp only [row0, sumD_zero, Nat.sub_zero] at k1
 rw [Nat.add_mul, Nat.one_mul]
 omega
/-! ### one behind the other, pasRound by pasRound -/
structure PasS where
 d : Nat → Nat
 left : Int
 more : Bool
def pasStep (h : List (List Ev)) (p : Nat) (x : PasS) : PasS := if enB h x.d p = true then ⟨bump x.d p, x.left - 1, true⟩ else x
def pass (h : List (List Ev)) (x : PasS) : Nat → PasS
 | 0 => x
 | p + 1 => pasStep h p (pass h x p)
def pasRound (h : List (List Ev)) (x : PasS) : PasS := pass h ⟨x.d, x.left, false⟩ h.length
def pas0 (h : List (List Ev)) : PasS := ⟨fun _ => 0, allE h, true⟩
def pasAt (h : List (List Ev)) (i : Nat) : PasS := again (pasRound h) i (pas0 h)
structure PasI (h : List (List Ev)) (x : PasS) : Prop where
 reach : Reach h x.d
 left : x.left = allE h - sumD x.d h.length
 stuck : x.more = false → Stuck h x.d
theorem pass_inv {h : List (List Ev)} {x : PasS} (hr : Reach h x.d) (hl : x.left = allE h - sumD x.d h.length) : ∀ {p : Nat}, p ≤ h.length → Reach h (pass h ⟨x.d, x.left, false⟩ p).d ∧ (pass h ⟨x.d, x.left, false⟩ p).left = allE h - sumD (pass h ⟨x.d, x.left, false⟩ p).d h.length ∧
  (((pass h ⟨x.d, x.left, false⟩ p).more = false ∧ (pass h ⟨x.d, x.left, false⟩ p).d = x.d ∧ ∀ q, q < p → enB h x.d q = false) ∨ ((pass h ⟨x.d, x.left, false⟩ p).more = true ∧ sumD x.d h.length < sumD (pass h ⟨x.d, x.left, false⟩ p).d h.length))
 | 0, _ => ⟨hr, hl, .inl ⟨rfl, rfl, fun q hq => by omega⟩⟩
 | p + 1, hp => by
  obtain ⟨h1, h2, h3⟩ := pass_inv hr hl (p := p) (by omega)
  rw [pass]
  generalize pass h ⟨x.d, x.left, false⟩ p = y at h1 h2 h3 ⊢
  unfold pasStep
  by_cases he : enB h y.d p = true
  ·rw [if_pos he]
   have hb := sumD_bump (d := y.d) (p := p) (n := h.length) (by omega)
   refine ⟨.step h1 (by omega) he, by simp only [h2, hb]; omega, .inr ⟨rfl, ?_⟩⟩
   simp only [hb]
   rcases h3 with ⟨_, h4, _⟩ | ⟨_, h4⟩
   ·rw [h4]; omega
   ·omega
  ·rw [if_neg he]
   refine ⟨h1, h2, ?_⟩
   rcases h3 with ⟨h4, h5, h6⟩ | h4
   ·refine .inl ⟨h4, h5, fun q hq => ?_⟩
    by_cases hq2 : q = p
    ·rw [hq2, ← h5]; simpa using he
    ·exact h6 q (by omega)
   ·exact .inr h4
theorem pas_ends (h : List (List Ev)) : ∃ N, N ≤ allE h + 1 ∧ (pasAt h N).more = false ∧ (∀ i, i < N → (pasAt h i).more = true) ∧ ∀ i, i ≤ N → PasI h (pasAt h i) := by
 have key := again_stop (f := pasRound h) (stop := fun x => !x.more) (μ := fun x => (allE h - sumD x.d h.length) + (if x.more = true then 1 else 0)) (I := PasI h) (fun x hx hs => by
  have hm : x.more = true := by simpa using hs
  obtain ⟨h1, h2, h3⟩ := pass_inv hx.reach hx.left (p := h.length) (Nat.le_refl _)
  show _ ∧ PasI h (pass h ⟨x.d, x.left, false⟩ h.length)
  unfold pasRound
  generalize pass h ⟨x.d, x.left, false⟩ h.length = y at h1 h2 h3 ⊢
  have hs := reach_sum h1
  rcases h3 with ⟨h4, h5, h6⟩ | ⟨h4, h5⟩
  ·refine ⟨by simp only [h4, h5, hm]; simp, h1, h2, fun _ p hp => by rw [h5]; exact h6 p hp⟩
  ·exact ⟨by simp only [h4, hm, if_pos]; omega, h1, h2, fun h => by rw [h4] at h; simp at h⟩) (x := pas0 h) ⟨.zero, by simp [pas0, sumD_zero], fun h => by simp [pas0] at h⟩
 obtain ⟨N, k1, k2, k3, k4⟩ := key
 refine ⟨N, ?_, show (again (pasRound h) N (pas0 h)).more = false by simpa using k2, fun i hi => show (again (pasRound h) i (pas0 h)).more = true by have := k3 i hi; simpa using this, k4⟩
 simpa [pas0, sumD_zero] using k1
/-- Both come to one end. -/
theorem ends_one {h : List (List Ev)} {N K : Nat} (h1 : RowI h (rowAt h N)) (h2 : (rowAt h N).p = h.length) (h3 : PasI h (pasAt h K)) (h4 : (pasAt h K).more = false) : (rowAt h N).d = (pasAt h K).d :=
 stuck_one h1.reach (fun p hp => h1.stuck p (by omega)) h3.reach (h3.stuck h4)
end Go.Proofs.Ytninncdacekfgaa.VM

/- Loops: what comes behind the good rounds. -/
namespace Go.Proofs.Ytninncdacekfgaa.VM
open Go Go.Proofs
set_option linter.unusedVariables false
set_option linter.unusedSimpArgs false
noncomputable def contC (E : Env) (k : Nat) (h : Nat → List Nat × List Nat) (a : Code) (n : Nat) : Ex × St → Option (Ex × St)
 | (.normal, σ) => iter (E.exec k h a) (h (firstR a)) n σ
 | (.exit i, σ) => some (.exit i, σ)
 | (.ret, σ) => some (.ret, σ)
@[simp] theorem cont_exit {E : Env} {k : Nat} {h : Nat → List Nat × List Nat} {a : Code} {n i : Nat} {σ : St} : contC E k h a n (.exit i, σ) = some (.exit i, σ) := rfl
@[simp] theorem cont_ret {E : Env} {k : Nat} {h : Nat → List Nat × List Nat} {a : Code} {n : Nat} {σ : St} : contC E k h a n (.ret, σ) = some (.ret, σ) := rfl
theorem loop_then {E : Env} {k : Nat} {h : Nat → List Nat × List Nat} {a : Code} {σ : St} (H : Nat → St) (n : Nat) (h0 : σ.keep (h (firstR a)) = H 0) (hk : n < k) (hstep : ∀ i, i < n → (E.exec k h a (H i)).bind (keepC (h (firstR a))) = some (.normal, H (i + 1))) : loopE E k h a σ = (E.exec k h a (H n)).bind (contC E k h a (k - n - 1)) := by
 have key : ∀ m i σ q, i + m = n → σ.keep (h (firstR a)) = H i → m < q → iter (E.exec k h a) (h (firstR a)) q σ = (E.exec k h a (H n)).bind (contC E k h a (q - m - 1)) := by
  intro m
  induction m with
  | zero =>
   intro i σ q hi hs hq
   obtain ⟨q, rfl⟩ : ∃ j, q = j + 1 := ⟨q - 1, by omega⟩
   have : i = n := by omega
   subst this
   rw [iter, hs]
   show Option.bind _ _ = _
   congr 1
   funext ⟨x, τ⟩
   cases x <;> rfl
  | succ m ih =>
   intro i σ q hi hs hq
   obtain ⟨q, rfl⟩ : ∃ j, q = j + 1 := ⟨q - 1, by omega⟩
   obtain ⟨⟨y, τ⟩, h1, h2⟩ := Option.bind_eq_some_iff.1 (hstep i (by omega))
   simp only [keepC, Option.some.injEq, Prod.mk.injEq] at h2
   obtain ⟨rfl, h2⟩ := h2
   rw [iter, hs, h1]
   have := ih (i + 1) τ q (by omega) h2 (by omega)
   rw [show q + 1 - (m + 1) - 1 = q - m - 1 by omega]
   exact this
 exact key n 0 σ k (by omega) h0 hk
theorem firstN (p : Nat → Bool) (n : Nat) : ∃ N, N ≤ n ∧ (∀ i, i < N → p i = true) ∧ ((N = n ∧ allTo p n = true) ∨ (N < n ∧ p N = false ∧ allTo p n = false)) := by
 rcases allTo_or p n with ⟨h1, h2⟩ | ⟨h1, m, h2, h3, h4⟩
 ·exact ⟨n, Nat.le_refl _, h2, .inl ⟨rfl, h1⟩⟩
 ·exact ⟨m, by omega, h4, .inr ⟨h2, h3, h1⟩⟩
end Go.Proofs.Ytninncdacekfgaa.VM
