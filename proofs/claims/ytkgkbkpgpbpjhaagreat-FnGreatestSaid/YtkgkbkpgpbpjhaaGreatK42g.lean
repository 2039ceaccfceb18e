/- The law FnClock. -/
import Derived.Test.YtkgkbkpgpbpjhaaGreatK38g
import Derived.Test.YtkgkbkpgpbpjhaaGreatK27g
import Derived.Test.YtkgkbkpgpbpjhaaGreatK15g
import Derived.Test.YtkgkbkpgpbpjhaaGreatK34g
import Derived.Test.YtkgkbkpgpbpjhaaGreatK31g
import Derived.Test.YtkgkbkpgpbpjhaaGreatK32g
set_option linter.unusedSimpArgs false
set_option linter.unusedVariables false
set_option maxRecDepth 100000
set_option maxHeartbeats 40000000
namespace Go.Proofs.YtkgkbkpgpbpjhaaGreat.VM
open Go Go.Proofs
theorem dL_cut {h : List (List Ev)} {f : Nat → Nat} (hf : ∀ q, q < h.length → f q ≤ (rowH h q).length) : CutI h (dL f h.length) := ⟨by simp, fun p hp => ⟨f p, by simp, hf p (by simpa using hp)⟩⟩
theorem clk_max {h : List (List Ev)} (R : Reach h (fullD h)) {p i : Nat} (hi : i < (rowH h p).length) (q : Nat) : clk h p i q ≤ (rowH h q).length := clk_le R R p i hi q
def H_k10 (S : Sy) (C : List Int) (p i : Int) (q : Nat) : St := ⟨[(3, .ptr 256 [] 0), (4, .c (.v (.int .i64 p))), (5, .c (.v (.int .i64 i))), (6, .c (.sl 1408 [] 0 S.hist.length)), (7, .c (.v (.int .i64 q)))], (256, bxR 960 S) :: (obR 960 S ++ [(1408, ⟨.own, 3, ints C⟩)])⟩
def H_k17 (S : Sy) (C D : List Int) (p i : Int) (q r : Nat) : St := ⟨[(3, .ptr 256 [] 0), (4, .c (.v (.int .i64 p))), (5, .c (.v (.int .i64 i))), (6, .c (.sl 1408 [] 0 S.hist.length)), (7, .c (.v (.int .i64 q))), (8, .c (.sl 6528 [] 0 S.hist.length)), (9, .c (.v (.int .i64 r)))], (256, bxR 960 S) :: (obR 960 S ++ [(1408, ⟨.own, 3, ints C⟩), (6528, ⟨.own, 3, ints D⟩)])⟩
theorem run_FnClock {j : Nat} (hj : big ≤ j ∧ j ≤ big + 700) (bs : List Int) (hb : bs.length ≤ 9223372036854775807) : M.run (j + 16) 9 [.c (.r 5 bs.length (octT bs))] = some ([.c (.v (.bool true))], [.c (.r 5 bs.length (octT bs))]) := by
 have e0 := run_big (j := j + 14) bs.length (octT bs) hb
 rw [m_run (fn := Tryz.f9) (i0 := 0) rfl Tryz.func9 rfl rfl (by simp)]
 by_cases h1 : 1048576 < bs.length
 ·rw [decide_eq_true h1] at e0
  simp -implicitDefEqProofs [own1, e0]
 rw [decide_eq_false h1] at e0
 obtain ⟨S, p, i, T, hp, hi, e1⟩ := run_drawClock (j := j + 1) (by omega) bs (by omega)
 have e2 := run_implClock (j := j + 3) (by omega) S T.small p i
 have e3 := run_specClock (j := j + 6) (by omega) S T.small p i
 have e5 := run_specSys (j := j + 8) (by omega) S T.small
 have e7 := fun c (hc : c.length ≤ 1048576) => run_implWhole (j := j + 3) (by omega) S T.small c hc
 obtain ⟨w1, w2, w3, w4⟩ := takeS S
 have h4 := T.hi
 cases hE : isEvB S p i
 ·have hz : clockI S p i = [] := by unfold clockI; rw [hE]; rfl
  have e4 := run_sameInts (j := j + 14) (by omega) [] (by simp)
  rw [hz] at e2 e3
  simp -implicitDefEqProofs [ints] at e2 e3 e4
  unfold isEvB at hE
  cases hs : sysB S
  ·rw [hs] at e5
   simp only [syS, syR] at e1 e2 e3 e5
   simp -implicitDefEqProofs (maxSteps := 10000000) [own1, e0, e1, e2, e3, e4, e5, ints, w1, w2, w3, w4, -List.map_take]
  rw [hs] at e5 hE
  rw [Bool.true_and] at hE
  simp only [syS, syR] at e1 e2 e3 e5
  by_cases p0 : p < 0
  ·simp -implicitDefEqProofs (maxSteps := 10000000) [own1, e0, e1, e2, e3, e4, e5, p0, ints, w1, w2, w3, w4, -List.map_take]
  by_cases p1 : (S.hist.length : Int) ≤ p
  ·simp -implicitDefEqProofs (maxSteps := 10000000) [own1, e0, e1, e2, e3, e4, e5, p0, p1, ints, w1, w2, w3, w4, -List.map_take]
  by_cases i0 : i < 0
  ·simp -implicitDefEqProofs (maxSteps := 10000000) [own1, e0, e1, e2, e3, e4, e5, p0, p1, i0, ints, w1, w2, w3, w4, -List.map_take]
  obtain ⟨m, rfl⟩ : ∃ m : Nat, p = m := ⟨p.toNat, by omega⟩
  have hm : m < S.hist.length := by omega
  have hlast : (S.hist[m].length : Int) ≤ i := by
   rw [Int.toNat_natCast, rowH_of hm, show inB (m : Int) 0 ((S.hist.length : Int) - 1) = true by simp [inB]; omega, Bool.true_and] at hE
   simp [inB] at hE
   omega
  simp -implicitDefEqProofs (maxSteps := 10000000) [own1, e0, e1, e2, e3, e4, e5, p1, i0, hm, hlast, sEvent_at hm, sEvent, show ¬ (m : Int) < 0 by omega, show ¬ (S.hist.length : Int) ≤ m by omega, ints, w1, w2, w3, w4, -List.map_take]
 obtain ⟨hs, m, n, rfl, rfl, hm, hn⟩ := isEvB_at hE
 have R := right_iff.1 hs
 have O := R.ord
 have hz : clockI S m n = dL (clk S.hist m n) S.hist.length := by
  unfold clockI
  rw [if_pos hE, Int.toNat_natCast, Int.toNat_natCast]
 rw [hz] at e2 e3
 have hn' : n < (rowH S.hist m).length := by rw [rowH_of hm]; exact hn
 have cmax := fun q => clk_max O hn' q
 have own := clk_own O hn'
 have trans := fun q (hq : 0 < clk S.hist m n q) r => clk_trans O O m n hn' q hq r
 have hC := dL_cut (h := S.hist) (f := clk S.hist m n) fun q _ => cmax q
 have hW : wholeOkB S (dL (clk S.hist m n) S.hist.length) = true := by
  unfold wholeOkB cutOkB
  rw [hs, cutB_iff.2 hC]
  exact clk_whole O hn'
 have e7 := e7 (dL (clk S.hist m n) S.hist.length) (by rw [dL_len]; omega)
 rw [hW] at e7
 have e4 := run_sameInts (j := j + 14) (by omega) (dL (clk S.hist m n) S.hist.length) (by rw [dL_len]; omega)
 have e6 := fun q v => run_implClock (j := j + 3) (by omega) S T.small (q : Nat) (v : Nat)
 rw [dL_len] at e2 e3 e4 e7
 have hn0 : ¬ S.hist.length = 0 := by omega
 have tkd : ∀ f : Nat → Nat, (dL f S.hist.length).take S.hist.length = dL f S.hist.length := fun f => List.take_of_length_le (by simp)
 simp only [syS, syR] at e1 e2 e3 e6 e7
 simp -implicitDefEqProofs (maxSteps := 10000000) [own1, e0, e1, e2, e3, e4, hn0, tkd, w1, w2, w3, w4, -List.map_take]
 rw [loop_then (H_k10 S (dL (clk S.hist m n) S.hist.length) m n) S.hist.length (by simp -implicitDefEqProofs [H_k10, bxR, obR, hint1]) (by simp [big] at hj; omega) (fun q hq => by
  have c1 := cmax q
  rw [rowH_of hq] at c1
  have ev := T.ev _ (List.getElem_mem hq)
  have fl := dL_get (d := clk S.hist m n) hq
  have hq1 : q + 1 ≤ S.hist.length := hq
  have wq := w64 (x := (q : Int) + 1) (by omega)
  by_cases z : clk S.hist m n q = 0
  ·simp -implicitDefEqProofs (maxSteps := 10000000) [H_k10, bxR, obR, hint1, own1, hq, fl, gq fl, z, show ¬ ((S.hist[q].length : Int) < 0) by omega, sEvent_at hq, sEvent, wq]
  by_cases hqm : q = m
  ·subst hqm
   simp -implicitDefEqProofs (maxSteps := 10000000) [H_k10, bxR, obR, hint1, own1, hq, fl, gq fl, z, show ¬ (S.hist[q].length : Int) < clk S.hist q n q by omega, show ¬ ((clk S.hist q n q : Int) < 0) by omega, show ¬ ((clk S.hist q n q : Int) = 0) by omega, show ¬ S.hist[q].length < clk S.hist q n q by omega, sEvent_at hq, sEvent, wq]
  ·have tr := trans q (by omega)
   have e6 := e6 q (clk S.hist m n q - 1)
   have hv : ((clk S.hist m n q - 1 : Nat) : Int) = (clk S.hist m n q : Int) - 1 := by omega
   have hev : isEvB S q ((clk S.hist m n q - 1 : Nat) : Int) = true := by
    unfold isEvB
    rw [hs, Int.toNat_natCast, rowH_of hq, show inB (q : Int) 0 ((S.hist.length : Int) - 1) = true by simp [inB]; omega]
    simp [inB]
    omega
   have hz2 : clockI S q ((clk S.hist m n q - 1 : Nat) : Int) = dL (clk S.hist q (clk S.hist m n q - 1)) S.hist.length := by
    unfold clockI
    rw [if_pos hev, Int.toNat_natCast, Int.toNat_natCast]
   rw [hz2, dL_len, hv] at e6
   generalize hD : clk S.hist q (clk S.hist m n q - 1) = D at *
   have n1 : ¬ (S.hist[q].length : Int) < clk S.hist m n q := by omega
   have n2 : ¬ ((clk S.hist m n q : Int) < 0) := by omega
   have n3 : ¬ ((clk S.hist m n q : Int) = 0) := by omega
   have n4 : ¬ S.hist[q].length < clk S.hist m n q := by omega
   have n5 : ¬ (q : Int) = m := by omega
   have w5 := w64 (x := (clk S.hist m n q : Int) - 1) (by omega)
   simp -implicitDefEqProofs (maxSteps := 10000000) [H_k10, bxR, obR, hint1, own1, hq, fl, gq fl, z, n1, n2, n3, n4, n5, hqm, w5, e6, sEvent_at hq, sEvent, wq, tkd, w1, w2, w3, w4, -List.map_take]
   rw [loop_then (H_k17 S (dL (clk S.hist m n) S.hist.length) (dL D S.hist.length) m n q) S.hist.length (by simp -implicitDefEqProofs [H_k17, bxR, obR, hint1]) (by simp [big] at hj; omega) (fun r hr => by
    have fr := dL_get (d := clk S.hist m n) hr
    have fD := dL_get (d := D) hr
    have hle := tr r
    simp -implicitDefEqProofs (maxSteps := 10000000) [H_k17, bxR, obR, hint1, own1, hr, fr, gq fr, fD, gq fD, show ¬ (clk S.hist m n r : Int) < D r by omega, show ¬ clk S.hist m n r < D r by omega, w64 (x := (r : Int) + 1) (by omega)])]
   simp -implicitDefEqProofs (maxSteps := 10000000) [H_k17, H_k10, bxR, obR, hint1, wq])]
 have fm := dL_get (d := clk S.hist m n) hm
 simp -implicitDefEqProofs (maxSteps := 10000000) [H_k10, bxR, obR, own1, e7, hm, fm, gq fm, own, tkd, w1, w2, w3, w4, w64 (x := (n : Int) + 1) (by omega), -List.map_take]
theorem law_FnClock (bs : List Int) (hb : (∀ n ∈ bs, 0 ≤ n ∧ n ≤ 255) ∧ bs.length ≤ maxLen) : ∃ k xs, M.run k 9 [.c (.r 5 bs.length (octT bs))] = some ([.c (.v (.bool true))], xs) :=
 ⟨_, _, run_FnClock (j := big) (by omega) bs (by have := hb.2; unfold maxLen at this; omega)⟩
end Go.Proofs.YtkgkbkpgpbpjhaaGreat.VM
