/- Replay, reckoned. -/
import Derived.Test.YtbdidcfjaohglaaRep1
namespace Go.Proofs.Ytbdidcfjaohglaa.VM
open Go Go.Proofs
set_option linter.unusedSimpArgs false
set_option linter.unusedVariables false
set_option maxRecDepth 100000
set_option maxHeartbeats 40000000
theorem evT_at0 {l : List Ev} (h : 0 < l.length) : (evT l).take 3 = tEv l[0] := by simpa using evT_at h
/-- impl.replayed, at a loop's head. -/
def H_replayed (l : List Ins) (es : List Ev) (i : Nat) : St := ⟨[(0, .c (.sl 0 [] 0 l.length)), (4, .ptr 320 [] 0), (6, .ptr 448 [] 0), (10, .c (.sl 3 [] 0 es.length)), (11, .c (.v (.int .i64 es.length))), (12, .c (.v (.int .i64 i)))],
  if i = 0 then [(0, ⟨.ro, 110, insT l⟩), (1, ⟨.own, 3, ints [0, 0, 0, 0]⟩), (2, ⟨.own, 3, ints []⟩), (3, ⟨.ro, 61, evT es⟩), (320, ⟨.box, 55, [.v (.int .i64 0), .l 1 [] 0 4, .l 2 [] 0 0, .v (.int .i64 0)]⟩), (448, ⟨.box, 55, [.v (.int .i64 0), .z, .z, .v (.int .i64 0)]⟩)]
  else [(0, ⟨.ro, 110, insT l⟩), (1, ⟨.own, 3, ints [0, 0, 0, 0]⟩), (2, ⟨.own, 3, ints []⟩), (3, ⟨.ro, 61, evT es⟩), (320, ⟨.box, 55, [.v (.int .i64 (stAt l es i).at_), .l 2049 [] 0 (stAt l es i).regs.length, .l 2050 [] 0 (stAt l es i).out.length, .v (.int .i64 (stAt l es i).code)]⟩), (448, ⟨.box, 55, [.v (.int .i64 0), .z, .z, .v (.int .i64 0)]⟩), (2049, ⟨.own, 3, ints (stAt l es i).regs⟩), (2050, ⟨.own, 3, ints (stAt l es i).out⟩)]⟩
def zSta (n : Nat) : List T := if n = 0 then hSta s0 else sSta s0
/-- What the round does, of the program's functions: the next event, whether it comes, what is behind it. -/
theorem round {j : Nat} (hj : big ≤ j) {l : List Ins} {s : Sta} (hp : progB l 4 = true) (h : Rok l s) (e : Ev) :
    M.run (j + 5) 87 [.c (.r 110 l.length (insT l)), .agg (tSta s)] = some ([.agg (tEv (nextE (insAt l s.at_) s.regs))], [.c (.r 110 l.length (insT l)), .agg (tSta s)]) ∧
    M.run (j + 5) 78 [.agg (tEv e), .agg (tEv (nextE (insAt l s.at_) s.regs))] = some ([.c (.v (.bool (comesB e (nextE (insAt l s.at_) s.regs))))], [.agg (tEv e), .agg (tEv (nextE (insAt l s.at_) s.regs))]) ∧
    M.run (j + 5) 80 [.c (.r 110 l.length (insT l)), .agg (tSta s), .agg (tEv e)] = some ([.agg (sSta (stepS l s e))], [.c (.r 110 l.length (insT l)), .agg (tSta s), .agg (tEv e)]) := by
  have R := rok_rt hp h
  obtain ⟨i, hi, h1, h2⟩ := insAt_of h
  obtain ⟨a, xs, ys, c⟩ := s
  simp only at h1
  subst h1
  simp only [stepS] at *
  rw [h2] at R ⊢
  exact ⟨run84 (j := j + 4) l i hi c xs ys R.regs (fun _ => R.a), run_comes (j := j + 2) e _, run_did (j := j + 1) l i hi xs ys c R e⟩
theorem run_replayed {j : Nat} (hj : big ≤ j) (l : List Ins) (es : List Ev) (hp : progB l 4 = true) (hn : es.length ≤ 1048576) :
    M.run (j + 6) 94 [.c (.r 110 l.length (insT l)), .agg (sSta s0), .c (.r 61 es.length (evT es))] = some ([.agg (sSta (repS l es)), .c (.v (.bool (repB l es)))], [.c (.r 110 l.length (insT l)), .agg (if repB l es = true then zSta es.length else sSta s0), .c (.r 61 es.length (evT es))]) := by
  rw [m_run (fn := Try.f94) (i0 := 0) rfl Try.func94 rfl rfl (by simp [sSta, stS])]
  rcases allTo_or (fun i => canB l (stAt l es i) (evAt es i)) es.length with ⟨hb, hall⟩ | ⟨hb, m, hm, hbad, hall⟩
  · have hb' : repB l es = true := hb
    rw [show repS l es = stAt l es es.length by unfold repS; rw [if_pos hb'], hb', if_pos rfl]
    simp -implicitDefEqProofs [sSta, stS, s0]
    rw [loop_to (H_replayed l es) es.length (by simp -implicitDefEqProofs [H_replayed, hint1]) (by simp [big] at hj; omega) (fun i hi => by
      have hc := hall i hi
      have R := round hj hp (st_rok (n := i) hp fun k hk => hall k (by omega)) (evAt es i)
      simp only [canB, Bool.and_eq_true, beq_iff_eq] at hc
      obtain ⟨hc1, hc2⟩ := hc
      rw [hc2, show stepS l (stAt l es i) (evAt es i) = stAt l es (i + 1) from rfl, evAt_of hi] at R
      obtain ⟨r1, r2, r3⟩ := R
      have hi3 : i * 3 + 3 ≤ es.length * 3 := by omega
      by_cases z : i = 0
      · subst z
        rw [show stAt l es 0 = s0 from rfl] at r1 r2 r3
        simp -implicitDefEqProofs [tSta, stR, sSta, stS, tEv, s0] at r1 r2 r3
        simp -implicitDefEqProofs [H_replayed, hint1, hi, show 3 ≤ es.length * 3 by omega, evT_at0 (l := es) (by omega), w64 (x := (1 : Int)) (by omega), tEv, own1, r1, r2, r3]
      · simp -implicitDefEqProofs [tSta, stR, sSta, stS, tEv, hc1] at r1 r2 r3
        simp -implicitDefEqProofs [H_replayed, z, hint1, hi, hi3, w64 (x := (i : Int) + 1) (by omega), tEv, own1, r1, r2, r3, hc1]) (by
      by_cases h : es.length = 0
      · simp -implicitDefEqProofs [H_replayed, stops, h]
      · simp -implicitDefEqProofs [H_replayed, stops, show ¬ es = [] from fun e => h (by rw [e]; rfl)])]
    by_cases h : es.length = 0
    · simp -implicitDefEqProofs [H_replayed, h, stAt, s0, zSta, hSta]
    · have hne : ¬ es = [] := fun e => h (by rw [e]; rfl)
      rw [show zSta es.length = sSta s0 from if_neg h]
      generalize hs : stAt l es es.length = s' at *
      simp -implicitDefEqProofs [H_replayed, hne, hs, sSta, stS, s0]
  · have hb' : repB l es = false := hb
    rw [show repS l es = ⟨0, [], [], 0⟩ by unfold repS; rw [hb']; rfl, hb', if_neg (by simp)]
    have R := round hj hp (st_rok (n := m) hp hall) (evAt es m)
    rw [evAt_of hm] at R
    have hcm : ¬ (stAt l es m).code = 0 ∨ ((stAt l es m).code = 0 ∧ comesB es[m] (nextE (insAt l (stAt l es m).at_) (stAt l es m).regs) = false) := by
      simp only [canB, Bool.and_eq_false_iff, beq_eq_false_iff_ne, evAt_of hm] at hbad
      by_cases h0 : (stAt l es m).code = 0
      · exact .inr ⟨h0, hbad.resolve_left fun h => h h0⟩
      · exact .inl h0
    have hm3 : m * 3 + 3 ≤ es.length * 3 := by omega
    simp -implicitDefEqProofs [sSta, stS, s0]
    rw [loop_to (H_replayed l es) m (by simp -implicitDefEqProofs [H_replayed, hint1]) (by simp [big] at hj; omega) (fun i hi => by
      have hi' : i < es.length := by omega
      have hc := hall i hi
      have R := round hj hp (st_rok (n := i) hp fun k hk => hall k (by omega)) (evAt es i)
      simp only [canB, Bool.and_eq_true, beq_iff_eq] at hc
      obtain ⟨hc1, hc2⟩ := hc
      rw [hc2, show stepS l (stAt l es i) (evAt es i) = stAt l es (i + 1) from rfl, evAt_of hi'] at R
      obtain ⟨r1, r2, r3⟩ := R
      have hi3 : i * 3 + 3 ≤ es.length * 3 := by omega
      by_cases z : i = 0
      · subst z
        rw [show stAt l es 0 = s0 from rfl] at r1 r2 r3
        simp -implicitDefEqProofs [tSta, stR, sSta, stS, tEv, s0] at r1 r2 r3
        simp -implicitDefEqProofs [H_replayed, hint1, hi', show 3 ≤ es.length * 3 by omega, evT_at0 (l := es) (by omega), w64 (x := (1 : Int)) (by omega), tEv, own1, r1, r2, r3]
      · simp -implicitDefEqProofs [tSta, stR, sSta, stS, tEv, hc1] at r1 r2 r3
        simp -implicitDefEqProofs [H_replayed, z, hint1, hi', hi3, w64 (x := (i : Int) + 1) (by omega), tEv, own1, r1, r2, r3, hc1]) (by
      obtain ⟨r1, r2, r3⟩ := R
      by_cases z : m = 0
      · subst z
        rw [show stAt l es 0 = s0 from rfl] at r1 r2 r3 hcm
        rcases hcm with h | ⟨_, h⟩
        · exact absurd rfl h
        · rw [h] at r2
          simp -implicitDefEqProofs [tSta, stR, sSta, stS, tEv, s0] at r1 r2 r3
          simp -implicitDefEqProofs [H_replayed, hint1, stops, hm, show 3 ≤ es.length * 3 by omega, evT_at0 (l := es) (by omega), tEv, own1, r1, r2]
      · rcases hcm with h | ⟨h0, h⟩
        · simp -implicitDefEqProofs [H_replayed, z, hint1, stops, hm, hm3, tEv, own1, h]
        · rw [h] at r2
          simp -implicitDefEqProofs [tSta, stR, sSta, stS, tEv, h0] at r1 r2 r3
          simp -implicitDefEqProofs [H_replayed, z, hint1, stops, hm, hm3, tEv, own1, r1, r2, h0])]
    obtain ⟨r1, r2, r3⟩ := R
    by_cases z : m = 0
    · subst z
      rw [show stAt l es 0 = s0 from rfl] at r1 r2 r3 hcm
      rcases hcm with h | ⟨_, h⟩
      · exact absurd rfl h
      · rw [h] at r2
        simp -implicitDefEqProofs [tSta, stR, sSta, stS, tEv, s0] at r1 r2 r3
        simp -implicitDefEqProofs [H_replayed, hm, show 3 ≤ es.length * 3 by omega, evT_at0 (l := es) (by omega), tEv, own1, r1, r2]
    · rcases hcm with h | ⟨h0, h⟩
      · simp -implicitDefEqProofs [H_replayed, z, hm, hm3, tEv, own1, h]
      · rw [h] at r2
        simp -implicitDefEqProofs [tSta, stR, sSta, stS, tEv, h0] at r1 r2 r3
        simp -implicitDefEqProofs [H_replayed, z, hm, hm3, tEv, own1, r1, r2, h0]
end Go.Proofs.Ytbdidcfjaohglaa.VM
