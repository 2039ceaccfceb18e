/- The law FnGreatest. -/
import Derived.Test.YtkgkbkpgpbpjhaaGreatK42g
import Derived.Test.YtkgkbkpgpbpjhaaGreatK44g
set_option linter.unusedSimpArgs false
set_option linter.unusedVariables false
set_option maxRecDepth 100000
set_option maxHeartbeats 40000000
namespace Go.Proofs.YtkgkbkpgpbpjhaaGreat.VM
open Go Go.Proofs
def abB (c : List Int) (f : Nat → Nat) : Nat → Bool
 | 0 => false
 | k + 1 => abB c f k || decide (cAt c k < f k)
theorem abB_has {c : List Int} {f : Nat → Nat} : ∀ {k q : Nat}, q < k → cAt c q < f q → abB c f k = true
 | 0, q, h, _ => by omega
 | k + 1, q, h, hw => by
  unfold abB
  by_cases e : q = k
  ·subst e
   rw [decide_eq_true hw, Bool.or_true]
  ·rw [abB_has (show q < k by omega) hw, Bool.true_or]
def H_g12 (S : Sy) (c F : List Int) (p : Nat) : St := ⟨[(3, .ptr 256 [] 0), (4, .c (.sl 964 [] 0 c.length)), (5, .c (.sl 1280 [] 0 F.length)), (6, .c (.v (.int .i64 p)))], (256, bxR 960 S) :: (obR 960 S ++ [(964, ⟨.own, 3, ints c⟩), (1280, ⟨.own, 3, ints F⟩)])⟩
def H_g20 (S : Sy) (c F : List Int) (D : Nat → Nat) (p q : Nat) : St := ⟨[(3, .ptr 256 [] 0), (4, .c (.sl 964 [] 0 c.length)), (5, .c (.sl 1280 [] 0 F.length)), (6, .c (.v (.int .i64 p))), (7, .c (.sl 4736 [] 0 S.hist.length)), (8, .c (.v (.bool (abB c D q)))), (9, .c (.v (.int .i64 q)))], (256, bxR 960 S) :: (obR 960 S ++ [(964, ⟨.own, 3, ints c⟩), (1280, ⟨.own, 3, ints F⟩), (4736, ⟨.own, 3, ints (dL D S.hist.length)⟩)])⟩
theorem run_FnGreatest {j : Nat} (hj : big ≤ j ∧ j ≤ big + 700) (bs : List Int) (hb : bs.length ≤ 9223372036854775807) : M.run (j + 16) 10 [.c (.r 5 bs.length (octT bs))] = some ([.c (.v (.bool true))], [.c (.r 5 bs.length (octT bs))]) := by
 have e0 := run_big (j := j + 14) bs.length (octT bs) hb
 rw [m_run (fn := Tryz.f10) (i0 := 0) rfl Tryz.func10 rfl rfl (by simp)]
 by_cases h1 : 1048576 < bs.length
 ·rw [decide_eq_true h1] at e0
  simp -implicitDefEqProofs [own1, e0]
 rw [decide_eq_false h1] at e0
 obtain ⟨S, c, T, lc, e1⟩ := run_drawClose (j := j + 1) (by omega) bs (by omega)
 have e2 := run_implClose (j := j + 3) (by omega) S T.small c (by omega)
 have e3 := run_specClose (j := j + 6) (by omega) S T.small c (by omega)
 have e5 := run_specCutOk (j := j + 7) (by omega) S T.small c (by omega)
 have e6 := run_implWhole (j := j + 3) (by omega) S T.small c (by omega)
 obtain ⟨w1, w2, w3, w4⟩ := takeS S
 have h4 := T.hi
 have tkc : (ints c).take c.length = ints c := List.take_of_length_le (by simp)
 cases hq : cutOkB S c
 ·rw [hq] at e2 e3 e5
  rw [if_neg (by simp)] at e2 e3
  unfold wholeOkB at e6
  rw [hq] at e6
  have e4 := run_sameInts (j := j + 14) (by omega) [] (by simp)
  simp only [syS, syR] at e1 e2 e3 e5 e6
  simp -implicitDefEqProofs at e2 e3 e4
  simp -implicitDefEqProofs (maxSteps := 10000000) [own1, e0, e1, e2, e3, e4, e5, e6, tkc, w1, w2, w3, w4, -List.map_take]
 have I := cutOk_I hq
 have hs : sysB S = true := by
  unfold cutOkB at hq
  rw [Bool.and_eq_true] at hq
  exact hq.1
 have O := (right_iff.1 hs).ord
 obtain ⟨J, Hd, wF⟩ := shutF_hold O I
 rw [hq] at e2 e3 e5
 rw [if_pos rfl] at e2 e3
 have lF := shutF_len I
 have hcl := I.len
 have hW : wholeOkB S (shutF S.hist c) = true := by
  unfold wholeOkB cutOkB
  rw [hs, cutB_iff.2 J, wF]
  rfl
 have e7 := run_implWhole (j := j + 3) (by omega) S T.small (shutF S.hist c) (by omega)
 rw [hW] at e7
 have e4 := run_sameInts (j := j + 14) (by omega) (shutF S.hist c) (by omega)
 have e9 := fun q v => run_implClock (j := j + 3) (by omega) S T.small (q : Nat) (v : Nat)
 clear hW wF
 generalize shutF S.hist c = F at *
 have tkF : (ints F).take F.length = ints F := List.take_of_length_le (by simp)
 have tkd : ∀ f : Nat → Nat, (dL f S.hist.length).take S.hist.length = dL f S.hist.length := fun f => List.take_of_length_le (by simp)
 simp only [syS, syR] at e1 e2 e3 e5 e6 e7 e9
 simp -implicitDefEqProofs (maxSteps := 10000000) [own1, e0, e1, e2, e3, e4, e5, e7, tkc, tkF, w1, w2, w3, w4, -List.map_take]
 rw [loop_then (H_g12 S c F) F.length (by simp -implicitDefEqProofs [H_g12, bxR, obR, hint1]) (by simp [big] at hj; omega) (fun p hp => by
  have hpc : p < c.length := by omega
  have hph : p < S.hist.length := by omega
  obtain ⟨fF, lF2⟩ := J.at_ hp
  obtain ⟨fc, lc2⟩ := I.at_ hpc
  obtain ⟨g1, g2⟩ := Hd p hph
  have aF := ints_get hp
  have ac := ints_get hpc
  rw [fF] at aF
  rw [fc] at ac
  rw [rowH_of hph] at lF2
  have ev := T.ev _ (List.getElem_mem hph)
  have wp := w64 (x := (p : Int) + 1) (by omega)
  have n1 : ¬ (cAt c p : Int) < cAt F p := by omega
  have n1' : ¬ cAt c p < cAt F p := by omega
  by_cases he : cAt F p = cAt c p
  ·simp -implicitDefEqProofs (maxSteps := 10000000) [H_g12, bxR, obR, hint1, own1, hp, hpc, aF, ac, gq aF, gq ac, fF, fc, he, wp]
  ·obtain ⟨q0, hq0, hw0⟩ := g2 (by omega)
   have lc3 := (I.at_ hpc).2
   rw [rowH_of hph] at lc3
   have hev : isEvB S p (cAt F p) = true := by
    unfold isEvB
    rw [hs, Int.toNat_natCast, rowH_of hph]
    simp [inB]
    omega
   have hz2 : clockI S p (cAt F p) = dL (clk S.hist p (cAt F p)) S.hist.length := by
    unfold clockI
    rw [if_pos hev, Int.toNat_natCast, Int.toNat_natCast]
   have e9 := e9 p (cAt F p)
   rw [hz2, dL_len] at e9
   have n2 : ¬ (cAt F p : Int) = cAt c p := by omega
   generalize clk S.hist p (cAt F p) = D at *
   have fin : abB c D c.length = true := abB_has (q := q0) (by omega) hw0
   simp -implicitDefEqProofs (maxSteps := 10000000) [H_g12, bxR, obR, hint1, own1, hp, hpc, aF, ac, gq aF, gq ac, fF, fc, n1, n1', n2, he, e9, tkc, tkF, tkd, w1, w2, w3, w4, -List.map_take]
   rw [loop_then (H_g20 S c F D p) c.length (by simp -implicitDefEqProofs [H_g20, bxR, obR, hint1, abB]) (by simp [big] at hj; omega) (fun q hqc => by
    have hqh : q < S.hist.length := by omega
    obtain ⟨fq, _⟩ := I.at_ hqc
    have aq := ints_get hqc
    rw [fq] at aq
    have fD := dL_get (d := D) hqh
    have wq := w64 (x := (q : Int) + 1) (by omega)
    have hab : abB c D (q + 1) = (abB c D q || decide (cAt c q < D q)) := rfl
    by_cases hlt : cAt c q < D q
    ·cases hb0 : abB c D q <;>
     simp -implicitDefEqProofs (maxSteps := 10000000) [hab, hb0, H_g20, bxR, obR, hint1, own1, hqc, hqh, aq, gq aq, fq, fD, gq fD, hlt, show (cAt c q : Int) < D q by omega, wq]
    ·cases hb0 : abB c D q <;>
     simp -implicitDefEqProofs (maxSteps := 10000000) [hab, hb0, H_g20, bxR, obR, hint1, own1, hqc, hqh, aq, gq aq, fq, fD, gq fD, hlt, show ¬ (cAt c q : Int) < D q by omega, wq])]
   rw [H_g20, fin]
   simp -implicitDefEqProofs (maxSteps := 10000000) [H_g12, bxR, obR, hint1, wp])]
 simp -implicitDefEqProofs (maxSteps := 10000000) [H_g12, bxR, obR]
theorem law_FnGreatest (bs : List Int) (hb : (∀ n ∈ bs, 0 ≤ n ∧ n ≤ 255) ∧ bs.length ≤ maxLen) : ∃ k xs, M.run k 10 [.c (.r 5 bs.length (octT bs))] = some ([.c (.v (.bool true))], xs) :=
 ⟨_, _, run_FnGreatest (j := big) (by omega) bs (by have := hb.2; unfold maxLen at this; omega)⟩
end Go.Proofs.YtkgkbkpgpbpjhaaGreat.VM
