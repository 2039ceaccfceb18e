/- Replay of the specification, reckoned; both. -/
import Derived.Test.YtbdidcfjaohglaaRep2
namespace Go.Proofs.Ytbdidcfjaohglaa.VM
open Go Go.Proofs
set_option linter.unusedSimpArgs false
set_option linter.unusedVariables false
set_option maxRecDepth 100000
set_option maxHeartbeats 40000000
def H_l3Replay (l : List Ins) (es : List Ev) (i : Nat) : St := ⟨[(0, .c (.sl 0 [] 0 l.length)), (1, .c (.sl 1 [] 0 es.length)), (4, .ptr 320 [] 0), (6, .ptr 448 [] 0), (7, .c (.v (.int .i64 i)))],
  [(0, ⟨.ro, 110, insT l⟩), (1, ⟨.ro, 61, evT es⟩), (320, ⟨.box, 55, [.v (.int .i64 0), .z, .z, .v (.int .i64 0)]⟩), (448, ⟨.box, 55, [.v (.int .i64 (stAt l es i).at_), .l 705 [] 0 (stAt l es i).regs.length, .l 706 [] 0 (stAt l es i).out.length, .v (.int .i64 (stAt l es i).code)]⟩), (705, ⟨.own, 3, ints (stAt l es i).regs⟩), (706, ⟨.own, 3, ints (stAt l es i).out⟩)]⟩
theorem roundS {j : Nat} {l : List Ins} {s : Sta} (hp : progB l 4 = true) (h : Rok l s) (e : Ev) :
    M.run (j + 4) 75 [.c (.r 110 l.length (insT l)), .agg (tSta s), .agg (tEv e)] = some ([.agg (sSta (if comesB e (nextE (insAt l s.at_) s.regs) = true then stepS l s e else s)), .c (.v (.bool (comesB e (nextE (insAt l s.at_) s.regs))))], [.c (.r 110 l.length (insT l)), .agg (tSta s), .agg (tEv e)]) := by
  have R := rok_rt hp h
  obtain ⟨i, hi, h1, h2⟩ := insAt_of h
  obtain ⟨a, xs, ys, c⟩ := s
  simp only at h1
  subst h1
  simp only [stepS] at *
  rw [h2] at R ⊢
  exact run98 (j := j) l i hi xs ys c R e
theorem run_l3Replay {j : Nat} (hj : big ≤ j) (l : List Ins) (es : List Ev) (hp : progB l 4 = true) (hn : es.length ≤ 1048576) :
    M.run (j + 5) 93 [.c (.r 110 l.length (insT l)), .c (.r 61 es.length (evT es))] = some ([.agg (sSta (repS l es)), .c (.v (.bool (repB l es)))], [.c (.r 110 l.length (insT l)), .c (.r 61 es.length (evT es))]) := by
  have e0 := run15 (j := j + 3)
  simp -implicitDefEqProofs [stS] at e0
  have h0 : stAt l es 0 = s0 := rfl
  rw [m_run (fn := Try.f93) (i0 := 0) rfl Try.func93 rfl rfl (by simp)]
  rcases allTo_or (fun i => canB l (stAt l es i) (evAt es i)) es.length with ⟨hb, hall⟩ | ⟨hb, m, hm, hbad, hall⟩
  · have hb' : repB l es = true := hb
    rw [show repS l es = stAt l es es.length by unfold repS; rw [if_pos hb'], hb']
    simp -implicitDefEqProofs [e0]
    rw [loop_to (H_l3Replay l es) es.length (by simp -implicitDefEqProofs [H_l3Replay, hint1, h0, s0]) (by simp [big] at hj; omega) (fun i hi => by
      have hc := hall i hi
      have R := roundS (j := j) hp (st_rok (n := i) hp fun k hk => hall k (by omega)) (evAt es i)
      simp only [canB, Bool.and_eq_true, beq_iff_eq] at hc
      obtain ⟨hc1, hc2⟩ := hc
      rw [hc2, if_pos rfl, show stepS l (stAt l es i) (evAt es i) = stAt l es (i + 1) from rfl, evAt_of hi] at R
      have hi3 : i * 3 + 3 ≤ es.length * 3 := by omega
      simp -implicitDefEqProofs [tSta, stR, sSta, stS, tEv, hc1] at R
      simp -implicitDefEqProofs [H_l3Replay, hint1, hi, hi3, w64 (x := (i : Int) + 1) (by omega), tEv, own1, R, hc1]) (by
      simp -implicitDefEqProofs [H_l3Replay, stops])]
    simp -implicitDefEqProofs [H_l3Replay, sSta, stS]
  · have hb' : repB l es = false := hb
    rw [show repS l es = ⟨0, [], [], 0⟩ by unfold repS; rw [hb']; rfl, hb']
    have R := roundS (j := j) hp (st_rok (n := m) hp hall) (evAt es m)
    rw [evAt_of hm] at R
    have hcm : ¬ (stAt l es m).code = 0 ∨ ((stAt l es m).code = 0 ∧ comesB es[m] (nextE (insAt l (stAt l es m).at_) (stAt l es m).regs) = false) := by
      simp only [canB, Bool.and_eq_false_iff, beq_eq_false_iff_ne, evAt_of hm] at hbad
      by_cases h0 : (stAt l es m).code = 0
      · exact .inr ⟨h0, hbad.resolve_left fun h => h h0⟩
      · exact .inl h0
    have hm3 : m * 3 + 3 ≤ es.length * 3 := by omega
    simp -implicitDefEqProofs [e0]
    rw [loop_to (H_l3Replay l es) m (by simp -implicitDefEqProofs [H_l3Replay, hint1, h0, s0]) (by simp [big] at hj; omega) (fun i hi => by
      have hi' : i < es.length := by omega
      have hc := hall i hi
      have R := roundS (j := j) hp (st_rok (n := i) hp fun k hk => hall k (by omega)) (evAt es i)
      simp only [canB, Bool.and_eq_true, beq_iff_eq] at hc
      obtain ⟨hc1, hc2⟩ := hc
      rw [hc2, if_pos rfl, show stepS l (stAt l es i) (evAt es i) = stAt l es (i + 1) from rfl, evAt_of hi'] at R
      have hi3 : i * 3 + 3 ≤ es.length * 3 := by omega
      simp -implicitDefEqProofs [tSta, stR, sSta, stS, tEv, hc1] at R
      simp -implicitDefEqProofs [H_l3Replay, hint1, hi', hi3, w64 (x := (i : Int) + 1) (by omega), tEv, own1, R, hc1]) (by
      rcases hcm with h | ⟨h1, h⟩
      · simp -implicitDefEqProofs [H_l3Replay, hint1, stops, hm, hm3, tEv, own1, h]
      · rw [h, if_neg (by simp)] at R
        simp -implicitDefEqProofs [tSta, stR, sSta, stS, tEv, h1] at R
        simp -implicitDefEqProofs [H_l3Replay, hint1, stops, hm, hm3, tEv, own1, R, h1])]
    rcases hcm with h | ⟨h1, h⟩
    · simp -implicitDefEqProofs [H_l3Replay, hm, hm3, tEv, own1, h, sSta, stS]
    · rw [h, if_neg (by simp)] at R
      simp -implicitDefEqProofs [tSta, stR, sSta, stS, tEv, h1] at R
      simp -implicitDefEqProofs [H_l3Replay, hm, hm3, tEv, own1, R, h1, sSta, stS]
def replayB (l : List Ins) (es : List Ev) : Bool := progB l 4 && (decide (es.length ≤ 200) && repB l es)
def replayS (l : List Ins) (es : List Ev) : Sta := if (progB l 4 && decide (es.length ≤ 200)) = true then repS l es else ⟨0, [], [], 0⟩
theorem run_specReplay {j : Nat} (hj : big ≤ j) (l : List Ins) (es : List Ev) (hl : l.length ≤ 1048576) (hn : es.length ≤ 1048576) :
    M.run (j + 6) 43 [.c (.r 110 l.length (insT l)), .c (.r 61 es.length (evT es))] = some ([.agg (sSta (replayS l es)), .c (.v (.bool (replayB l es)))], [.c (.r 110 l.length (insT l)), .c (.r 61 es.length (evT es))]) := by
  rw [m_run (fn := Try.f43) (i0 := 0) rfl Try.func43 rfl rfl (by simp)]
  have e1 := run49 (j := j + 1) (by omega) l 4 hl
  unfold replayB replayS
  cases h1 : progB l 4
  · rw [h1] at e1
    simp -implicitDefEqProofs [own1, e1, sSta, stS]
  · have e2 := run_l3Replay hj l es h1 hn
    rw [h1] at e1
    by_cases h2 : es.length ≤ 200
    · simp -implicitDefEqProofs [sSta, stS] at e2
      simp -implicitDefEqProofs [own1, e1, e2, sSta, stS, h2, show ¬ (200 : Int) < es.length by omega]
    · simp -implicitDefEqProofs [own1, e1, sSta, stS, h2, show (200 : Int) < es.length by omega]
theorem run_implReplay {j : Nat} (hj : big ≤ j) (l : List Ins) (es : List Ev) (hl : l.length ≤ 1048576) (hn : es.length ≤ 1048576) :
    M.run (j + 8) 45 [.c (.r 110 l.length (insT l)), .c (.r 61 es.length (evT es))] = some ([.agg (sSta (replayS l es)), .c (.v (.bool (replayB l es)))], [.c (.r 110 l.length (insT l)), .c (.r 61 es.length (evT es))]) := by
  rw [m_run (fn := Try.f45) (i0 := 0) rfl Try.func45 rfl rfl (by simp)]
  have e1 := run50 (j := j) (by omega) l 4 hl
  have e0 := run16 (j := j + 6)
  simp -implicitDefEqProofs [stS] at e0
  unfold replayB replayS
  cases h1 : progB l 4
  · rw [h1] at e1
    simp -implicitDefEqProofs [own1, e1, sSta, stS]
  · have e2 := run_replayed (j := j + 1) (by omega) l es h1 hn
    rw [h1] at e1
    by_cases h2 : es.length ≤ 200
    · have hz : (if repB l es = true then zSta es.length else sSta s0) = hSta s0 ∨ (if repB l es = true then zSta es.length else sSta s0) = sSta s0 := by
        unfold zSta
        (repeat' split) <;> simp
      rcases hz with hz | hz
      · rw [hz] at e2
        simp -implicitDefEqProofs [sSta, stS, hSta, s0] at e2
        simp -implicitDefEqProofs [own1, e1, e0, e2, sSta, stS, h2, show ¬ (200 : Int) < es.length by omega]
      · rw [hz] at e2
        simp -implicitDefEqProofs [sSta, stS, hSta, s0] at e2
        simp -implicitDefEqProofs [own1, e1, e0, e2, sSta, stS, h2, show ¬ (200 : Int) < es.length by omega]
    · simp -implicitDefEqProofs [own1, e1, sSta, stS, h2, show (200 : Int) < es.length by omega]
end Go.Proofs.Ytbdidcfjaohglaa.VM
