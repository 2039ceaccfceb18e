/- The law FnStep. -/
import Derived.Test.YtkgkbkpgpbpjhaaGreatK37f
import Derived.Test.YtkgkbkpgpbpjhaaGreatK39f
set_option linter.unusedSimpArgs false
set_option linter.unusedVariables false
set_option maxRecDepth 100000
set_option maxHeartbeats 40000000
namespace Go.Proofs.YtkgkbkpgpbpjhaaGreat.VM
open Go Go.Proofs
theorem rowH_same {h : List (List Ev)} {m q : Nat} {es : List Ev} (hq : q ≠ m) : rowH (h.set m es) q = rowH h q := by
 unfold rowH
 rw [List.getElem?_set_ne (fun e => hq e.symm)]
def H_st (S S' : Sy) (p : Int) (q : Nat) : St := ⟨[(3, .ptr 256 [] 0), (4, .c (.v (.int .i64 p))), (6, .ptr 448 [] 0), (10, .c (.v (.int .i64 q)))], [(256, bxR 1088 S), (448, bxR 1600 S')] ++ (obR 1088 S ++ obR 1600 S')⟩
theorem run_FnStep {j : Nat} (hj : big ≤ j ∧ j ≤ big + 700) (bs : List Int) (hb : bs.length ≤ 9223372036854775807) : M.run (j + 15) 3 [.c (.r 5 bs.length (octT bs))] = some ([.c (.v (.bool true))], [.c (.r 5 bs.length (octT bs))]) := by
 have e0 := run_big (j := j + 13) bs.length (octT bs) hb
 rw [m_run (fn := Tryz.f3) (i0 := 0) rfl Tryz.func3 rfl rfl (by simp)]
 by_cases h1 : 1048576 < bs.length
 ·rw [decide_eq_true h1] at e0
  simp -implicitDefEqProofs [own1, e0]
 rw [decide_eq_false h1] at e0
 obtain ⟨S, p, q, T, e1⟩ := run_drawStep (j := j + 1) (by omega) bs (by omega)
 have e2 := run_implStep (j := j + 3) (by omega) S T.small p q
 have e3 := run_specStep (j := j + 6) (by omega) S T.small p q
 obtain ⟨w1, w2, w3, w4⟩ := takeS S
 unfold stepR at e2 e3
 cases hq : sysB S
 ·rw [hq] at e2 e3
  simp only [syS, syR, zSy] at e1 e2 e3
  simp -implicitDefEqProofs [ssT] at e2 e3
  simp -implicitDefEqProofs (maxSteps := 10000000) [own1, e0, e1, e2, e3, w1, w2, w3, w4, -List.map_take]
 rw [hq] at e2 e3
 rw [if_pos rfl] at e2 e3
 have R := right_iff.1 hq
 by_cases hc : (comeF S p q).2 = 0
 ·obtain ⟨m, rfl, C⟩ := come_came R hc
  have R' := right_done R C
  have hd : stepF S m q = (doneF S m (comeF S m q).1, 0) := by
   unfold stepF
   rw [if_pos hc, Int.toNat_natCast]
  rw [hd] at e2 e3
  have hmh : m < S.hist.length := by rw [R.hi]; exact C.hp
  have hms : m < S.states.length := by rw [R.st]; exact C.hp
  generalize (comeF S m q).1 = e at *
  have g1 : (doneF S m e).progs.length = S.progs.length := rfl
  have g2 : (doneF S m e).states.length = S.states.length := by simp [doneF]
  have g4 : (doneF S m e).hist.length = S.hist.length := by simp [doneF]
  have g5 : rowH (doneF S m e).hist m = rowH S.hist m ++ [e] := by
   show rowH (S.hist.set m _) m = _
   rw [rowH_set hmh, if_pos rfl]
  have g6 : ∀ q, q ≠ m → rowH (doneF S m e).hist q = rowH S.hist q := fun q hq => rowH_same hq
  have g7 : ∀ q, q ≠ m → (doneF S m e).states[q]? = S.states[q]? := fun q hq => by
   show (S.states.set m _)[q]? = _
   rw [List.getElem?_set_ne (fun e => hq e.symm)]
  have e4 := run_implSysOk (j := j + 4) (by omega) (doneF S m e) R'.small
  rw [right_iff.2 R'] at e4
  have T' := R'.tiny
  generalize doneF S m e = S' at *
  have nh := S'.hist.length
  simp only [syS, syR, g1, g2, g4] at e1 e2 e3 e4
  obtain ⟨_, u2, u3, u4⟩ := takeS S'
  have u1 : (S'.progs.map (sIns 116)).take S.progs.length = S'.progs.map (sIns 116) := List.take_of_length_le (by simp [g1])
  have u2 : (ssT S'.states).take (S.states.length * 4) = ssT S'.states := List.take_of_length_le (by rw [ssT_len, g2]; exact Nat.le_refl _)
  have u4 : (S'.hist.map (sEvent 65)).take S.hist.length = S'.hist.map (sEvent 65) := List.take_of_length_le (by simp [g4])
  simp -implicitDefEqProofs (maxSteps := 10000000) [own1, e0, e1, e2, e3, g1, g2, g4, w1, w2, w3, w4, u1, u2, u3, u4, -List.map_take]
  rw [loop_then (H_st S S' m) S.hist.length (by simp -implicitDefEqProofs [H_st, bxR, obR, hint1, g1, g2, g4]) (by have := T.hi; simp [big] at hj; omega) (fun k hk => by
   have hk' : k < S'.hist.length := by omega
   have b1 := T.ev _ (List.getElem_mem hk)
   have h4 := T.hi
   have wz := w64 (x := 0) (by omega)
   have wo := w64 (x := 1) (by omega)
   have b2 := T'.ev _ (List.getElem_mem hk')
   by_cases hkm : k = m
   ·subst hkm
    have q5 : S'.hist[k].length = S.hist[k].length + 1 := by
     rw [rowH_of hk', rowH_of hk] at g5
     rw [g5, List.length_append]
     rfl
    simp -implicitDefEqProofs [H_st, bxR, obR, hint1, own1, g1, g2, g4, hk, hk', sEvent_at hk, sEvent_at hk', sEvent, q5, wz, wo, w64 (x := (S.hist[k].length : Int) + 1 - S.hist[k].length) (by omega), show (S.hist[k].length : Int) + 1 - S.hist[k].length = 1 by omega, w64 (x := (k : Int) + 1) (by omega)]
   ·have q5 : S'.hist[k].length = S.hist[k].length := by
     have := g6 k hkm
     rw [rowH_of hk', rowH_of hk] at this
     rw [this]
    have hks : k < S.states.length := by have := R.hi; have := R.st; omega
    have hks' : k < S'.states.length := by omega
    have q7 : S'.states[k] = S.states[k] := by
     have := g7 k hkm
     rw [List.getElem?_eq_getElem hks', List.getElem?_eq_getElem hks] at this
     exact Option.some.inj this
    obtain ⟨s1, s2⟩ := T.small.sta _ (List.getElem_mem hks)
    have e6 := run_sameSt (j := j + 12) (by omega) S.states[k] s1 s2
    have a1 := ssN_1 hks
    have a2 := ssN_2 hks
    have c1 := ssN_1 hks'
    have c2 := ssN_2 hks'
    rw [q7] at c1 c2
    have a5 : ((ssT S.states).drop (k * 4)).take 4 = sSta S.states[k] := fm_at sSta_len hks
    have c5 : ((ssT S'.states).drop (k * 4)).take 4 = sSta S.states[k] := by rw [← q7]; exact fm_at sSta_len hks'
    simp only [sSta, stS] at a5 c5
    simp only [tSta, stR] at e6
    simp -implicitDefEqProofs [H_st, bxR, obR, hint1, own1, g1, g2, g4, hk, hk', hks, hks', sEvent_at hk, sEvent_at hk', sEvent, q5, wz, wo, hkm, show ¬ (k : Int) = m by omega, a1, a2, c1, c2, gqL a1, gqL a2, gqL c1, gqL c2, a5, c5, e6, ros, sSta, stS, show k * 4 + 4 ≤ S.states.length * 4 by omega, w64 (x := (k : Int) + 1) (by omega)])]
  simp -implicitDefEqProofs (maxSteps := 10000000) [H_st, bxR, obR, own1, e4, g1, g2, g4, w1, w2, w3, w4, u1, u2, u3, u4, -List.map_take]
 ·have hd : stepF S p q = (S, (comeF S p q).2) := by
   unfold stepF
   rw [if_neg hc]
  rw [hd] at e2 e3
  generalize (comeF S p q).2 = c at *
  have e5 := run_sameHist (j := j + 12) (by omega) S S T.small rfl
  have e6 := run_sameStates (j := j + 11) (by omega) S S T.small rfl
  have hn : ¬ S.progs.length = 0 := by have := R.n1; omega
  simp only [syS, syR] at e1 e2 e3 e5 e6
  by_cases hc1 : c = 1
  ·subst hc1
   simp -implicitDefEqProofs (maxSteps := 10000000) [own1, e0, e1, e2, e3, e5, e6, hn, w1, w2, w3, w4, -List.map_take]
  ·simp -implicitDefEqProofs (maxSteps := 10000000) [own1, e0, e1, e2, e3, e5, e6, hc, hc1, hn, w1, w2, w3, w4, -List.map_take]
theorem law_FnStep (bs : List Int) (hb : (∀ n ∈ bs, 0 ≤ n ∧ n ≤ 255) ∧ bs.length ≤ maxLen) : ∃ k xs, M.run k 3 [.c (.r 5 bs.length (octT bs))] = some ([.c (.v (.bool true))], xs) :=
 ⟨_, _, run_FnStep (j := big) (by omega) bs (by have := hb.2; unfold maxLen at this; omega)⟩
end Go.Proofs.YtkgkbkpgpbpjhaaGreat.VM
