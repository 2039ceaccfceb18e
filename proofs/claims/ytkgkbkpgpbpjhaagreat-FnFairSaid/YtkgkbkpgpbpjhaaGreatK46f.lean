/- The law FnFair. -/
import Derived.Test.YtkgkbkpgpbpjhaaGreatK21f
import Derived.Test.YtkgkbkpgpbpjhaaGreatK23f
import Derived.Test.YtkgkbkpgpbpjhaaGreatK37f
import Derived.Test.YtkgkbkpgpbpjhaaGreatK39f
set_option linter.unusedSimpArgs false
set_option linter.unusedVariables false
set_option maxRecDepth 100000
set_option maxHeartbeats 40000000
namespace Go.Proofs.YtkgkbkpgpbpjhaaGreat.VM
open Go Go.Proofs
theorem fairP_shift (x : Sy) (a c : Int) (p : Nat) : fairP (x, a + c) p = ((fairP (x, a) p).1, (fairP (x, a) p).2 + c) := by
 unfold fairP
 simp only
 split
 ·rfl
 ·simp only [Prod.mk.injEq, true_and]
  omega
theorem fairI_shift (x : Sy) (a c : Int) : ∀ k, fairI (x, a + c) k = ((fairI (x, a) k).1, (fairI (x, a) k).2 + c)
 | 0 => rfl
 | k + 1 => by
  rw [fairI, fairI_shift x a c k, fairI]
  exact fairP_shift _ _ c k
theorem fairN_add {s : Sy} (R : Right s) (k : Nat) : ∀ m, fairN s (k + m) = ((fairN (fairN s k).1 m).1, (fairN (fairN s k).1 m).2 + (fairN s k).2)
 | 0 => by simp [fairN]
 | m + 1 => by
  rw [show k + (m + 1) = (k + m) + 1 from rfl, fairN, fairN_add R k m, fairI_shift, fairN, (fairN_ok R k).p]
theorem halt_fair {s : Sy} (h : haltF s = true) : ∀ k, fairN s k = (s, 0)
 | 0 => rfl
 | k + 1 => by
  rw [fairN, halt_fair h k]
  unfold haltF at h
  rw [Bool.and_eq_true] at h
  have key : ∀ n, n ≤ s.progs.length → fairI (s, 0) n = (s, 0) := by
   intro n
   induction n with
   | zero => intro _; rfl
   | succ n ih =>
    intro hn
    rw [fairI, ih (by omega)]
    unfold fairP
    exact if_pos (of_decide_eq_true (allTo_of h.2 n (by omega)))
  exact key _ (Nat.le_refl _)
end Go.Proofs.YtkgkbkpgpbpjhaaGreat.VM
namespace Go.Proofs.YtkgkbkpgpbpjhaaGreat.VM
open Go Go.Proofs
theorem run_at2 {j : Nat} (bs : List Int) (hb : bs.length ≤ 1048576) (hB : ∀ n ∈ bs, 0 ≤ n ∧ n ≤ 255) (i : Nat) (hi : i ≤ 2) : ∃ v : Int, (0 ≤ v ∧ v ≤ 255) ∧ M.run (j + 1) 30 [.c (.r 5 bs.length (octT bs)), .c (.v (.int .i64 i))] = some ([.c (.v (.int .i64 v))], [.c (.r 5 bs.length (octT bs)), .c (.v (.int .i64 i))]) := by
 by_cases h : i < bs.length
 ·have hv := hB _ (List.getElem_mem h)
  refine ⟨bs[i], hv, ?_⟩
  have o1 := oct_at h
  rw [m_run (fn := Tryz.f30) (i0 := 0) rfl Tryz.func30 rfl rfl (by simp)]
  simp -implicitDefEqProofs [own1, h, o1, gq o1, w64 (x := bs[i]) (by omega)]
 ·have hm : 0 ≤ Int.tmod ((i : Int) * 7 + bs.length) 256 ∧ Int.tmod ((i : Int) * 7 + bs.length) 256 ≤ 255 := by
   rw [Int.tmod_eq_emod_of_nonneg (by omega)]
   omega
  refine ⟨Int.tmod ((i : Int) * 7 + bs.length) 256, hm, ?_⟩
  rw [m_run (fn := Tryz.f30) (i0 := 0) rfl Tryz.func30 rfl rfl (by simp)]
  simp -implicitDefEqProofs [own1, h, w64 (x := (i : Int) * 7) (by omega), w64 (x := (i : Int) * 7 + bs.length) (by omega)]
theorem fairK_nat {n : Int} (h : -1 ≤ n ∧ n ≤ 60) : fairK n = n.toNat := by
 unfold fairK
 rw [Int.min_eq_left h.2]
theorem run_FnFair {j : Nat} (hj : big ≤ j ∧ j ≤ big + 700) (bs : List Int) (hb : bs.length ≤ 9223372036854775807) (hB : ∀ n ∈ bs, 0 ≤ n ∧ n ≤ 255) : M.run (j + 16) 6 [.c (.r 5 bs.length (octT bs))] = some ([.c (.v (.bool true))], [.c (.r 5 bs.length (octT bs))]) := by
 have e0 := run_big (j := j + 14) bs.length (octT bs) hb
 rw [m_run (fn := Tryz.f6) (i0 := 0) rfl Tryz.func6 rfl rfl (by simp)]
 by_cases h1 : 1048576 < bs.length
 ·rw [decide_eq_true h1] at e0
  simp -implicitDefEqProofs [own1, e0]
 rw [decide_eq_false h1] at e0
 obtain ⟨S, n, T, hn, e1⟩ := run_drawFair (j := j + 2) (by omega) bs (by omega)
 have e2 := run_implFair (j := j + 4) (by omega) S T.small n
 have e3 := run_specFair (j := j + 7) (by omega) S T.small n
 have e4 := run_specSys (j := j + 8) (by omega) S T.small
 obtain ⟨w1, w2, w3, w4⟩ := takeS S
 unfold fairF at e2 e3
 cases hq : sysB S
 ·rw [hq] at e2 e3 e4
  rw [if_neg (by simp)] at e2 e3
  simp only [syS, syR, zSy] at e1 e2 e3 e4
  simp -implicitDefEqProofs at e2 e3
  simp -implicitDefEqProofs (maxSteps := 10000000) [own1, e0, e1, e2, e3, e4, w1, w2, w3, w4, -List.map_take]
 rw [hq] at e2 e3 e4
 rw [if_pos rfl, fairK_nat (by omega)] at e2 e3
 have R := right_iff.1 hq
 obtain ⟨v, hv, e5⟩ := run_at2 (j := j + 14) bs (by omega) hB 1 (by omega)
 simp -implicitDefEqProofs at e5
 obtain ⟨k, hk, K⟩ : ∃ k : Nat, k ≤ n.toNat ∧ ((n ≤ 0 ∧ k = 0) ∨ (0 < n ∧ Int.tmod v n = k)) := by
  by_cases h0 : 0 < n
  ·have h2 : 0 ≤ Int.tmod v n ∧ Int.tmod v n < n := by
    rw [Int.tmod_eq_emod_of_nonneg (by omega)]
    exact ⟨Int.emod_nonneg v (by omega), Int.emod_lt_of_pos v h0⟩
   exact ⟨(Int.tmod v n).toNat, by omega, .inr ⟨h0, by omega⟩⟩
  ·exact ⟨0, by omega, .inl ⟨by omega, rfl⟩⟩
 have e6 := run_implFair (j := j + 4) (by omega) S T.small k
 unfold fairF at e6
 rw [if_pos hq, fairK_nat (by omega), Int.toNat_natCast] at e6
 have RA := (fairN_ok R k).r
 have hA2 := fairN_ok R k
 have hT2 := fairN_ok R n.toNat
 have e7 := run_implFair (j := j + 4) (by omega) (fairN S k).1 RA.small (n - k)
 unfold fairF at e7
 rw [if_pos (right_iff.2 RA), fairK_nat (by omega)] at e7
 have hadd := fairN_add R k (n - k).toNat
 have hB2 := fairN_ok RA (n - k).toNat
 rw [show n - (k : Int) = n - k from rfl] at e7
 have RB := hB2.r
 have hsum : (fairN S n.toNat).1 = (fairN (fairN S k).1 (n - k).toNat).1 ∧ (fairN S k).2 + (fairN (fairN S k).1 (n - k).toNat).2 = (fairN S n.toNat).2 := by
  by_cases h0 : 0 ≤ n
  ·rw [show k + (n - (k : Int)).toNat = n.toNat by omega] at hadd
   rw [hadd]
   exact ⟨rfl, Int.add_comm _ _⟩
  ·have hk0 : k = 0 := by omega
   subst hk0
   have : (n - ((0 : Nat) : Int)).toNat = n.toNat := by omega
   rw [this]
   have hz : n.toNat = 0 := by omega
   rw [hz]
   exact ⟨rfl, rfl⟩
 obtain ⟨V, p, TV, e8⟩ := run_drawPrinted (j := j + 2) (by omega) bs (by omega)
 have e9 := run_implPrinted (j := j + 13) V TV.small p
 have ea := run_specPrinted (j := j + 13) V TV.small p
 have eb := run_implHalted (j := j + 4) (by omega) S T.small
 have hhalt : haltF S = true → (fairN S n.toNat).2 = 0 := fun h => by rw [halt_fair h]
 have s1 := hsum.1
 have s2 := hsum.2
 have e10 := run_sameHist (j := j + 13) (by omega) (fairN (fairN S k).1 (n - k).toNat).1 (fairN S n.toNat).1 RB.small (by rw [s1])
 have lo1 := hA2.lo
 have hi1 := hA2.hi
 have lo2 := hB2.lo
 have hi2 := hB2.hi
 clear hsum hadd hA2 hT2 hB2
 have p1 := printedF_len V TV.small p
 have e11 := run_sameInts (j := j + 14) (by omega) (printedF V p) (by omega)
 generalize printedF V p = P1 at *
 generalize fairN S n.toNat = D at *
 obtain ⟨D1, D2⟩ := D
 generalize fairN S k = A at *
 obtain ⟨A1, A2⟩ := A
 simp only at *
 generalize fairN A1 (n - k).toNat = B at *
 obtain ⟨B1, B2⟩ := B
 simp only at *
 obtain ⟨u1, u2, u3, u4⟩ := takeS D1
 have tkp : (ints P1).take P1.length = ints P1 := List.take_of_length_le (by simp)
 have wn := w64 (x := n - k) (by omega)
 have ws := w64 (x := D2) (by omega)
 have wz := w64 (x := 0) (by omega)
 subst s1
 simp only [syS, syR] at e1 e2 e3 e4 e6 e7 e8 e9 ea eb e10
 rcases K with ⟨h0, rfl⟩ | ⟨h0, hk0⟩
 ·have h0' : ¬ 0 < n := by omega
  simp only [show ((0 : Nat) : Int) = 0 from rfl, Int.sub_zero] at e6 e7 wn
  cases hh : haltF S
  ·rw [hh] at eb
   simp -implicitDefEqProofs (maxSteps := 10000000) [own1, e0, e1, e2, e3, e4, e6, e7, e8, e9, ea, eb, e10, e11, h0', wn, ws, wz, s2, tkp, w1, w2, w3, w4, u1, u2, u3, u4, -List.map_take]
  ·rw [hh] at eb
   have hz := hhalt hh
   simp -implicitDefEqProofs (maxSteps := 10000000) [own1, e0, e1, e2, e3, e4, e6, e7, e8, e9, ea, eb, e10, e11, h0', wn, ws, wz, s2, hz, tkp, w1, w2, w3, w4, u1, u2, u3, u4, -List.map_take]
 ·have hn0 : ¬ n = 0 := by omega
  cases hh : haltF S
  ·rw [hh] at eb
   simp -implicitDefEqProofs (maxSteps := 10000000) [own1, e0, e1, e2, e3, e4, e5, e6, e7, e8, e9, ea, eb, e10, e11, h0, hn0, hk0, wn, ws, wz, s2, tkp, w1, w2, w3, w4, u1, u2, u3, u4, -List.map_take]
  ·rw [hh] at eb
   have hz := hhalt hh
   simp -implicitDefEqProofs (maxSteps := 10000000) [own1, e0, e1, e2, e3, e4, e5, e6, e7, e8, e9, ea, eb, e10, e11, h0, hn0, hk0, wn, ws, wz, s2, hz, tkp, w1, w2, w3, w4, u1, u2, u3, u4, -List.map_take]
theorem law_FnFair (bs : List Int) (hb : (∀ n ∈ bs, 0 ≤ n ∧ n ≤ 255) ∧ bs.length ≤ maxLen) : ∃ k xs, M.run k 6 [.c (.r 5 bs.length (octT bs))] = some ([.c (.v (.bool true))], xs) :=
 ⟨_, _, run_FnFair (j := big) (by omega) bs (by have := hb.2; unfold maxLen at this; omega) hb.1⟩
end Go.Proofs.YtkgkbkpgpbpjhaaGreat.VM
