/- The law FnExactStep: reckoned. -/
import Derived.Test.YtiejcppjjmmihaaGreatK16
import Derived.Test.YtiejcppjjmmihaaGreatK18
import Derived.Test.YtiejcppjjmmihaaGreatK19
/- Systems copied by the specification: reckoned. -/
namespace Go.Proofs.YtiejcppjjmmihaaGreat.VM
open Go Go.Proofs
set_option linter.unusedSimpArgs false
set_option linter.unusedVariables false
set_option maxRecDepth 100000
set_option maxHeartbeats 40000000
theorem r13 : List.range 13 = [0, 1, 2, 3, 4, 5, 6, 7, 8, 9, 10, 11, 12] := rfl
def H_cp1 (s : Sy) (i : Nat) : St := ⟨[(1, .ptr 128 [] 0), (2, .ptr 192 [] 0), (3, .ptr 256 [] 0), (4, .c (.v (.int .i64 i)))], sysO s ++ ([(128, sysX s), (192, zBox), (256, ⟨.box, 35, [.l 576 [] 0 s.progs.length, lkZ 1920 i, .z, .l 768 [] 0 s.hist.length]⟩), (576, ⟨.own, 81, s.progs.map (sIns 110)⟩), (768, ⟨.own, 86, s.hist.map (sEvent 89)⟩)] ++ obZ 1920 i ⟨.own, 83, ssT (s.states.take i)⟩)⟩
def H_cp2 (s : Sy) (sn i : Nat) : St := ⟨[(1, .ptr 128 [] 0), (2, .ptr 192 [] 0), (3, .ptr 256 [] 0), (5, .c (.v (.int .i64 i)))], sysO s ++ ([(128, sysX s), (192, zBox), (256, ⟨.box, 35, [.l 576 [] 0 s.progs.length, lkZ 1920 sn, lkZ 3136 i, .l 768 [] 0 s.hist.length]⟩), (576, ⟨.own, 81, s.progs.map (sIns 110)⟩), (768, ⟨.own, 86, s.hist.map (sEvent 89)⟩)] ++ (obZ 1920 sn ⟨.own, 83, ssT s.states⟩ ++ obZ 3136 i ⟨.own, 92, (s.ways.take i).map (sItem 142)⟩))⟩
theorem run_l4Copy {j : Nat} (hj : big ≤ j) (s : Sy) (h : Small s) : M.run (j + 2) 136 [.agg (syR s)] = some ([.agg (syS s)], [.agg (syR s)]) := by
  have b1 := h.progs
  have b2 := h.states
  have b3 := h.ways
  have b4 := h.hist
  have e1 := run_l4Ins hj s.progs b1 (fun x hx => by obtain ⟨i, hi, rfl⟩ := List.getElem_of_mem hx; exact h.prog hi)
  have e2 := run_l4Events hj s.hist b4 (fun x hx => by obtain ⟨i, hi, rfl⟩ := List.getElem_of_mem hx; exact h.his hi)
  rw [m_run (fn := Tryz.f136) (i0 := 0) rfl Tryz.func136 rfl rfl (by simp [syR])]
  simp only [syR, syS]
  simp -implicitDefEqProofs [own1, e1, e2]
  rw [loop_then (H_cp1 s) s.states.length (by simp -implicitDefEqProofs [H_cp1, sysO, sysX, zBox, hint1]) (by simp [big] at hj; omega) (fun i hi => by
    have hb := h.sta _ (List.getElem_mem hi)
    have e3 := run97 (j := j) s.states[i] hb.1 hb.2
    simp only [tSta, stR, sSta, stS] at e3
    have hs := ssT_snoc hi
    have tk := ssT_tk s.states i
    have hm : min i s.states.length = i := by omega
    have lm : (i + 1) * 4 ≤ most := by unfold most; omega
    have lm' : i * 4 + 4 ≤ most := by unfold most; omega
    have l4 : 4 ≤ most := by unfold most; omega
    simp only [sSta, stS] at hs
    by_cases hz : i = 0
    · have hs0 : ssT (s.states.take i) = [] := by rw [hz]; rfl
      rw [hs0] at hs
      simp -implicitDefEqProofs [H_cp1, sysO, sysX, zBox, hint1, hi, own1, e3, tSta, stR, stT_1 hi, stT_2 hi, hs, hs0, hm, l4, lkZ_z hz, obZ_z hz, w64 (x := (i : Int) + 1) (by omega)] <;> omega
    · simp -implicitDefEqProofs [H_cp1, sysO, sysX, zBox, hint1, hi, own1, e3, tSta, stR, stT_1 hi, stT_2 hi, hs, tk, hm, lm, lm', lkZ_of hz, obZ_of hz, w64 (x := (i : Int) + 1) (by omega)])]
  have e4 : ∀ i (hi : i < s.ways.length), s.ways[i].length * 2 ≤ most := fun i hi => by have := h.way hi; unfold most; omega
  have fin : (ssT s.states).take (s.states.length * 4) = ssT s.states := List.take_of_length_le (by rw [ssT_len]; exact Nat.le_refl _)
  have finw : (s.ways.map (sItem 142)).take s.ways.length = s.ways.map (sItem 142) := List.take_of_length_le (by simp)
  have finp : (s.progs.map (sIns 110)).take s.progs.length = s.progs.map (sIns 110) := List.take_of_length_le (by simp)
  have finh : (s.hist.map (sEvent 89)).take s.hist.length = s.hist.map (sEvent 89) := List.take_of_length_le (by simp)
  have f1 : s.states.take s.states.length = s.states := List.take_length
  have f2 : s.ways.take s.ways.length = s.ways := List.take_length
  simp -implicitDefEqProofs [H_cp1, sysO, sysX, zBox, f1]
  generalize hSn : s.states.length = sn at *
  rw [loop_then (H_cp2 s sn) s.ways.length (by cases sn <;> simp -implicitDefEqProofs [H_cp2, sysO, sysX, zBox, hint1, hSn]) (by simp [big] at hj; omega) (fun i hi => by
    have hs := sItem_snoc (e := 142) hi
    have tk := take_map (sItem 142) s.ways i
    have hm : min i s.ways.length = i := by omega
    have lm := le_most (n := i + 1) (by omega)
    have l1 : 1 ≤ most := by unfold most; omega
    have hb := e4 i hi
    by_cases hz : i = 0
    · have hs0 : s.ways.take i = [] := by rw [hz]; rfl
      rw [hs0] at hs
      cases sn with
      | zero => simp -implicitDefEqProofs [exQ, exB, behind, hasAfter, r13, Region.binds, H_cp2, sysO, sysX, zBox, hint1, hi, own1, rItem_at hi, rItem, sItem, hs, hs0, hm, l1, hSn, hb, lkZ_z hz, obZ_z hz, w64 (x := (i : Int) + 1) (by omega)] <;> omega
      | succ sn => simp -implicitDefEqProofs [exQ, exB, behind, hasAfter, r13, Region.binds, H_cp2, sysO, sysX, zBox, hint1, hi, own1, rItem_at hi, rItem, sItem, hs, hs0, hm, l1, hSn, hb, lkZ_z hz, obZ_z hz, w64 (x := (i : Int) + 1) (by omega)] <;> omega
    · cases sn with
      | zero => simp -implicitDefEqProofs [exQ, exB, behind, hasAfter, r13, Region.binds, H_cp2, sysO, sysX, zBox, hint1, hi, own1, rItem_at hi, rItem, sItem, hs, tk, hm, lm, hSn, hb, lkZ_of hz, obZ_of hz, w64 (x := (i : Int) + 1) (by omega), -List.map_take]
      | succ sn => simp -implicitDefEqProofs [exQ, exB, behind, hasAfter, r13, Region.binds, H_cp2, sysO, sysX, zBox, hint1, hi, own1, rItem_at hi, rItem, sItem, hs, tk, hm, lm, hSn, hb, lkZ_of hz, obZ_of hz, w64 (x := (i : Int) + 1) (by omega), -List.map_take])]
  clear e4
  have z1 : sn = 0 → ssT s.states = [] := fun e => by
    have : s.states = [] := List.eq_nil_of_length_eq_zero (by omega)
    rw [this]; rfl
  have z2 : s.ways.length = 0 → s.ways.map (sItem 142) = [] := fun e => by
    have : s.ways = [] := List.eq_nil_of_length_eq_zero e
    rw [this]; rfl
  generalize hWn : s.ways.length = wn at *
  cases sn with
  | zero =>
    cases wn with
    | zero => simp -implicitDefEqProofs [H_cp2, sysO, sysX, zBox, hSn, hWn, f1, f2, z1, z2, finp, finh]
    | succ wn => simp -implicitDefEqProofs [H_cp2, sysO, sysX, zBox, hSn, hWn, f1, f2, z1, finw, finp, finh]
  | succ sn =>
    cases wn with
    | zero => simp -implicitDefEqProofs [H_cp2, sysO, sysX, zBox, hSn, hWn, f1, f2, z2, fin, finp, finh]
    | succ wn => simp -implicitDefEqProofs [H_cp2, sysO, sysX, zBox, hSn, hWn, f1, f2, fin, finw, finp, finh]
end Go.Proofs.YtiejcppjjmmihaaGreat.VM

/- The law FnExactStep, reckoned. -/
namespace Go.Proofs.YtiejcppjjmmihaaGreat.VM
open Go Go.Proofs
set_option linter.unusedSimpArgs false
set_option linter.unusedVariables false
set_option maxRecDepth 100000
set_option maxHeartbeats 40000000
noncomputable def stepR (s : Sy) (p peer : Int) : Sy × Int := if sysB s = true then stepF s p peer else (zSy, 1)
theorem zSy_small : Small zSy := by refine ⟨?_, ?_, ?_, ?_, ?_, ?_, ?_, ?_⟩ <;> simp [zSy, tot]
theorem stepR_small (s : Sy) (p peer : Int) : Small (stepR s p peer).1 := by
  unfold stepR
  split
  · rename_i h
    exact (step_right (right_iff.1 h) p peer).small
  · exact zSy_small
theorem run_implStep {j : Nat} (hj : big ≤ j) (s : Sy) (h : Small s) (p peer : Int) : M.run (j + 11) 62 [.agg (syR s), .c (.v (.int .i64 p)), .c (.v (.int .i64 peer))] = some ([.agg (syS (stepR s p peer).1), .c (.v (.int .i64 (stepR s p peer).2))], [.agg (syR s), .c (.v (.int .i64 p)), .c (.v (.int .i64 peer))]) := by
  have e1 := run_implSysOk hj s h
  rw [m_run (fn := Tryz.f62) (i0 := 0) rfl Tryz.func62 rfl rfl (by simp [syR])]
  unfold stepR
  cases hb : sysB s
  · rw [hb] at e1
    simp only [syR] at e1 ⊢
    simp -implicitDefEqProofs [own1, e1, syS, zSy]
  · have R := right_iff.1 hb
    have e2 := run_step (j := j + 3) (by omega) s R p peer
    rw [hb] at e1
    have q := (step_right R p peer).small
    generalize stepF s p peer = D at *
    obtain ⟨S, c⟩ := D
    have t1 : (S.progs.map (sIns 110)).take S.progs.length = S.progs.map (sIns 110) := List.take_of_length_le (by simp)
    have t2 : (ssT S.states).take (S.states.length * 4) = ssT S.states := List.take_of_length_le (by rw [ssT_len]; exact Nat.le_refl _)
    have t3 : (S.ways.map (sItem 142)).take S.ways.length = S.ways.map (sItem 142) := List.take_of_length_le (by simp)
    have t4 : (S.hist.map (sEvent 89)).take S.hist.length = S.hist.map (sEvent 89) := List.take_of_length_le (by simp)
    simp only [syR, syS] at e1 e2 ⊢
    simp -implicitDefEqProofs [own1, e1, e2, t1, t2, t3, t4, -List.map_take]
theorem run_specStep {j : Nat} (hj : big ≤ j) (s : Sy) (h : Small s) (p peer : Int) : M.run (j + 8) 61 [.agg (syR s), .c (.v (.int .i64 p)), .c (.v (.int .i64 peer))] = some ([.agg (syS (stepR s p peer).1), .c (.v (.int .i64 (stepR s p peer).2))], [.agg (syR s), .c (.v (.int .i64 p)), .c (.v (.int .i64 peer))]) := by
  have e1 := run_specSys hj s h
  have e3 := run_l4Copy (j := j + 5) (by omega) s h
  rw [m_run (fn := Tryz.f61) (i0 := 0) rfl Tryz.func61 rfl rfl (by simp [syR])]
  unfold stepR
  cases hb : sysB s
  · rw [hb] at e1
    simp only [syR] at e1 ⊢
    simp -implicitDefEqProofs [own1, e1, syS, zSy]
  · have R := right_iff.1 hb
    have e2 := run_l5Step (j := j + 2) (by omega) s R p peer
    rw [hb] at e1
    have hs : (stepF s p peer).2 ≠ 0 → (stepF s p peer).1 = s := by
      intro hn
      unfold stepF at hn ⊢
      split
      · rename_i hc
        rw [if_pos hc] at hn
        exact absurd rfl hn
      · rfl
    have w1 : ∀ l : List (List Ins), (l.map (sIns 110)).take l.length = l.map (sIns 110) := fun l => List.take_of_length_le (by simp)
    have w2 : ∀ l : List Sta, (ssT l).take (l.length * 4) = ssT l := fun l => List.take_of_length_le (by rw [ssT_len]; exact Nat.le_refl _)
    have w3 : ∀ l : List (List Itm), (l.map (sItem 142)).take l.length = l.map (sItem 142) := fun l => List.take_of_length_le (by simp)
    have w4 : ∀ l : List (List Ev), (l.map (sEvent 89)).take l.length = l.map (sEvent 89) := fun l => List.take_of_length_le (by simp)
    generalize stepF s p peer = D at *
    obtain ⟨S, c⟩ := D
    simp only at hs
    by_cases hc : c = 0
    · subst hc
      simp only [syR, syS, goneS] at e1 e2 e3 ⊢
      simp -implicitDefEqProofs [own1, e1, e2, e3, w1, w2, w3, w4, -List.map_take]
    · have hS := hs hc
      subst hS
      simp only [syR, syS, goneS] at e1 e2 e3 ⊢
      simp -implicitDefEqProofs [own1, e1, e2, e3, hc, w1, w2, w3, w4, -List.map_take]
theorem run_FnExactStep {j : Nat} (hj : big ≤ j) (s : Sy) (hs : syOk s) (p peer : Int) : M.run (j + 12) 17 [.agg (syL s), .c (.v (.int .i64 p)), .c (.v (.int .i64 peer))] = some ([.c (.v (.bool true))], [.agg (syL s), .c (.v (.int .i64 p)), .c (.v (.int .i64 peer))]) := by
  obtain ⟨r, e1, k1⟩ := run_szSys (j := j + 7) (by omega) s hs
  by_cases h1 : r < 0
  · rw [m_run (fn := Tryz.f17) (i0 := 0) rfl Tryz.func17 rfl rfl (by simp [syL])]
    simp only [syL] at e1 ⊢
    simp -implicitDefEqProofs [own1, e1, h1]
  · have h := (k1.resolve_left h1).2
    have e2 := run_toSys (j := j + 7) (by omega) s h
    have e3 := run_specStep (j := j + 3) (by omega) s h p peer
    have e4 := run_implStep (j := j) hj s h p peer
    have h' := stepR_small s p peer
    have e5 := run_eqSys (j := j + 7) (by omega) (stepR s p peer).1 h'
    have e6 := run_eqSys (j := j + 7) (by omega) s h
    have e7 := run_markSys3 (j := j + 8) (by omega) s h
    have e8 := run_markSys3 (j := j + 8) (by omega) (stepR s p peer).1 h'
    have e9 := run_heldSys (j := j + 8) (by omega) (stepR s p peer).1 h'
    have n1 : ¬ (markR s < 0) := by have := (markR_pos s h).1; omega
    have n2 : ¬ (markR (stepR s p peer).1 < 0) := by have := (markR_pos (stepR s p peer).1 h').1; omega
    generalize stepR s p peer = D at *
    obtain ⟨S, c⟩ := D
    simp only at e3 e4 e5 e8 e9 n2 ⊢
    generalize markR S = mr at *
    generalize markR s = mr0 at *
    have u1 : ∀ x : Sy, (mkSy x).progs.length = x.progs.length := fun x => by simp [mkSy, mkInsR_len]
    have u2 : ∀ x : Sy, (mkSy x).states.length = x.states.length := fun x => by simp [mkSy, mkStR_len]
    have u3 : ∀ x : Sy, (mkSy x).ways.length = x.ways.length := fun x => by simp [mkSy, mkItemR_len]
    have u4 : ∀ x : Sy, (mkSy x).hist.length = x.hist.length := fun x => by simp [mkSy, mkEventR_len]
    have q1 := u1 S
    have q2 := u2 S
    have q3 := u3 S
    have q4 := u4 S
    have q5 := u1 s
    have q6 := u2 s
    have q7 := u3 s
    have q8 := u4 s
    generalize mkSy S = ms at *
    generalize mkSy s = ms0 at *
    clear u1 u2 u3 u4
    have t1 : (ms.progs.map (sIns 110)).take S.progs.length = ms.progs.map (sIns 110) := List.take_of_length_le (by simp [q1])
    have t2 : ms.states.take S.states.length = ms.states := List.take_of_length_le (by simp [q2])
    have t3 : (ms.ways.map (sItem 142)).take S.ways.length = ms.ways.map (sItem 142) := List.take_of_length_le (by simp [q3])
    have t4 : (ms.hist.map (sEvent 89)).take S.hist.length = ms.hist.map (sEvent 89) := List.take_of_length_le (by simp [q4])
    have w1 : ∀ l : List (List Ins), (l.map (sIns 110)).take l.length = l.map (sIns 110) := fun l => List.take_of_length_le (by simp)
    have w3 : ∀ l : List (List Itm), (l.map (sItem 142)).take l.length = l.map (sItem 142) := fun l => List.take_of_length_le (by simp)
    have w4 : ∀ l : List (List Ev), (l.map (sEvent 89)).take l.length = l.map (sEvent 89) := fun l => List.take_of_length_le (by simp)
    rw [m_run (fn := Tryz.f17) (i0 := 0) rfl Tryz.func17 rfl rfl (by simp [syL])]
    simp only [syL, syR, syS, q1, q2, q3, q4, q5, q6, q7, q8] at e1 e2 e3 e4 e5 e6 e7 e8 e9 ⊢
    simp -implicitDefEqProofs (maxSteps := 10000000) [own1, e1, e2, e3, e4, e5, e6, e7, e8, e9, h1, n1, n2, q1, q2, q3, q4, t1, t2, t3, t4, w1, w3, w4, -List.map_take]
theorem law_FnExactStep (s : Sy) (p peer : Int) (hs : syOk s) (_ : i64 p) (_ : i64 peer) : ∃ k xs, M.run k 17 [.agg (tSyL s), .c (.v (.int .i64 p)), .c (.v (.int .i64 peer))] = some ([.c (.v (.bool true))], xs) :=
  ⟨_, _, run_FnExactStep (Nat.le_refl _) s hs p peer⟩
end Go.Proofs.YtiejcppjjmmihaaGreat.VM
