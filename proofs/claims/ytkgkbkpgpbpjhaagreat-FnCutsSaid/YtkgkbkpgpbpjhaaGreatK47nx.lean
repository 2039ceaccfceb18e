/- The law FnCuts. -/
import Derived.Test.YtkgkbkpgpbpjhaaGreatK44g
import Derived.Test.YtkgkbkpgpbpjhaaGreatK27g
import Derived.Test.YtkgkbkpgpbpjhaaGreatK15g
import Derived.Test.YtkgkbkpgpbpjhaaGreatK34g
import Derived.Test.YtkgkbkpgpbpjhaaGreatK32g
import Derived.Test.YtkgkbkpgpbpjhaaGreatFxnx
import Derived.Test.YtkgkbkpgpbpjhaaGreatTabnx
set_option linter.unusedSimpArgs false
set_option linter.unusedVariables false
set_option maxRecDepth 100000
set_option maxHeartbeats 40000000
namespace Go.Proofs.YtkgkbkpgpbpjhaaGreat.VM
open Go Go.Proofs
def mxL (a c : List Int) (k : Nat) : List Int := (List.range k).map fun p => ((max (cAt a p) (cAt c p) : Nat) : Int)
def mnL (a c : List Int) (k : Nat) : List Int := (List.range k).map fun p => ((min (cAt a p) (cAt c p) : Nat) : Int)
theorem mxL_succ (a c : List Int) (k : Nat) : mxL a c (k + 1) = mxL a c k ++ [((max (cAt a k) (cAt c k) : Nat) : Int)] := by simp [mxL, List.range_succ]
theorem mnL_succ (a c : List Int) (k : Nat) : mnL a c (k + 1) = mnL a c k ++ [((min (cAt a k) (cAt c k) : Nat) : Int)] := by simp [mnL, List.range_succ]
theorem mxL_cAt {a c : List Int} {k p : Nat} (hp : p < k) : cAt (mxL a c k) p = max (cAt a p) (cAt c p) := by
 conv => lhs; unfold cAt mxL
 rw [List.getElem?_map, List.getElem?_range hp, Option.map_some, Option.getD_some, Int.toNat_natCast]
theorem mnL_cAt {a c : List Int} {k p : Nat} (hp : p < k) : cAt (mnL a c k) p = min (cAt a p) (cAt c p) := by
 conv => lhs; unfold cAt mnL
 rw [List.getElem?_map, List.getElem?_range hp, Option.map_some, Option.getD_some, Int.toNat_natCast]
def H_ct (S : Sy) (a c : List Int) (k : Nat) : St := ⟨[(3, .ptr 256 [] 0), (4, .c (.sl 1220 [] 0 a.length)), (8, .c (.sl 5056 [] 0 c.length)), (9, .c (.sl 5696 [] 0 k)), (10, .c (.sl 5760 [] 0 k)), (11, .c (.v (.int .i64 k)))], (256, bxR 1216 S) :: (obR 1216 S ++ [(1220, ⟨.own, 3, ints a⟩), (5056, ⟨.own, 3, ints c⟩), (5696, ⟨.own, 3, ints (mxL a c k)⟩), (5760, ⟨.own, 3, ints (mnL a c k)⟩)])⟩
theorem run_FnCuts {j : Nat} (hj : big ≤ j ∧ j ≤ big + 700) (bs : List Int) (hb : bs.length ≤ 9223372036854775807) : M.run (j + 16) 8 [.c (.r 5 bs.length (octT bs))] = some ([.c (.v (.bool true))], [.c (.r 5 bs.length (octT bs))]) := by
 have e0 := run_big (j := j + 14) bs.length (octT bs) hb
 rw [m_run (fn := Tryz.f8) (i0 := 0) rfl Tryz.func8 rfl rfl (by simp)]
 by_cases h1 : 1048576 < bs.length
 ·rw [decide_eq_true h1] at e0
  simp -implicitDefEqProofs [own1, e0]
 rw [decide_eq_false h1] at e0
 obtain ⟨S, a, T, la, e1⟩ := run_drawWhole (j := j + 2) (by omega) bs (by omega)
 obtain ⟨S2, b, T2, lb, e2⟩ := run_drawCutOk (j := j + 1) (by omega) bs (by omega)
 have e3 := run_implWhole (j := j + 3) (by omega) S T.small a (by omega)
 have e4 := run_specWhole (j := j + 6) (by omega) S T.small a (by omega)
 have e5 := run_implCutOk (j := j + 4) (by omega) S T.small a (by omega)
 have e6 := run_specCutOk (j := j + 7) (by omega) S T.small a (by omega)
 have e7 := run_implFull (j := j + 4) (by omega) S T.small
 have e8 := run_specFull (j := j + 7) (by omega) S T.small
 have e9 := run_specSys (j := j + 8) (by omega) S T.small
 obtain ⟨w1, w2, w3, w4⟩ := takeS S
 obtain ⟨u1, u2, u3, u4⟩ := takeS S2
 have h4 := T.hi
 have tka : (ints a).take a.length = ints a := List.take_of_length_le (by simp)
 have tkb : (ints b).take b.length = ints b := List.take_of_length_le (by simp)
 cases hs : sysB S
 ·have hw : wholeOkB S a = false := by unfold wholeOkB cutOkB; rw [hs]; rfl
  have hc : cutOkB S a = false := by unfold cutOkB; rw [hs]; rfl
  have hf : fullF S = [] := by unfold fullF; rw [hs]; rfl
  rw [hw] at e3 e4
  rw [hc] at e5 e6
  rw [hf] at e7 e8
  rw [hs] at e9
  have e10 := run_sameInts (j := j + 14) (by omega) [] (by simp)
  simp only [syS, syR] at e1 e2 e3 e4 e5 e6 e7 e8 e9
  simp -implicitDefEqProofs at e7 e8 e10
  simp -implicitDefEqProofs (maxSteps := 10000000) [own1, e0, e1, e2, e3, e4, e5, e6, e7, e8, e9, e10, tka, tkb, w1, w2, w3, w4, u1, u2, u3, u4, -List.map_take]
 have O := (right_iff.1 hs).ord
 have hf : fullF S = lensI S.hist := by unfold fullF; rw [if_pos hs]
 rw [hf] at e7 e8
 rw [hs] at e9
 have ll : (lensI S.hist).length = S.hist.length := by simp [lensI]
 have e10 := run_sameInts (j := j + 14) (by omega) (lensI S.hist) (by omega)
 have hW : ∀ c, CutI S.hist c → wholeB S.hist c = true → wholeOkB S c = true := fun c I w => by
  unfold wholeOkB cutOkB
  rw [hs, cutB_iff.2 I, w]
  rfl
 have e11 := run_implWhole (j := j + 3) (by omega) S T.small (lensI S.hist) (by omega)
 rw [hW _ (lens_cut _) (lens_whole O)] at e11
 have e12 := run_implWhole (j := j + 3) (by omega) S T.small (List.replicate S.hist.length 0) (by simp; omega)
 rw [hW _ (zero_cut _) (zero_whole _), List.length_replicate] at e12
 have tkl : (lensI S.hist).take S.hist.length = lensI S.hist := List.take_of_length_le (by omega)
 rw [ll] at e7 e8 e10 e11
 have e13 := run_implClose (j := j + 3) (by omega) S T.small b (by omega)
 have C : ∃ c : List Int, (if cutOkB S b = true then shutF S.hist b else []) = c ∧ (c = [] ∨ (CutI S.hist c ∧ wholeB S.hist c = true)) := by
  refine ⟨_, rfl, ?_⟩
  split
  ·rename_i hq
   have J := shutF_hold O (cutOk_I hq)
   exact .inr ⟨J.1, J.2.2⟩
  ·exact .inl rfl
 obtain ⟨c, hc, hcc⟩ := C
 rw [hc] at e13
 clear hc
 have tkc : (ints c).take c.length = ints c := List.take_of_length_le (by simp)
 have lc := le_most (n := S.hist.length) (by omega)
 cases hw : wholeOkB S a
 ·rw [hw] at e3 e4
  generalize cutOkB S a = K at *
  simp only [syS, syR] at e1 e2 e3 e4 e5 e6 e7 e8 e9 e11 e12 e13
  simp -implicitDefEqProofs (maxSteps := 10000000) [own1, e0, e1, e2, e3, e4, e5, e6, e7, e8, e9, e10, e11, e12, e13, lc, ll, ints_rep, tka, tkb, tkc, tkl, w1, w2, w3, w4, u1, u2, u3, u4, -List.map_take]
 have Ia : CutI S.hist a ∧ wholeB S.hist a = true := by
  unfold wholeOkB at hw
  rw [Bool.and_eq_true] at hw
  exact ⟨cutOk_I hw.1, hw.2⟩
 rw [hw] at e3 e4
 by_cases hl : c.length = a.length
 ·have n1 := (right_iff.1 hs).n1
  have hh := (right_iff.1 hs).hi
  have al := Ia.1.len
  obtain ⟨Ic, wc⟩ : CutI S.hist c ∧ wholeB S.hist c = true := by
   rcases hcc with rfl | h
   ·simp at hl
    omega
   ·exact h
  have mx : CutI S.hist (mxL a c a.length) := ⟨by simp [mxL, al], fun p hp => ⟨max (cAt a p) (cAt c p), by simp [mxL], by
   have hp' : p < a.length := by simpa [mxL] using hp
   have := (Ia.1.at_ hp').2
   have := (Ic.at_ (show p < c.length by omega)).2
   omega⟩⟩
  have mn : CutI S.hist (mnL a c a.length) := ⟨by simp [mnL, al], fun p hp => ⟨min (cAt a p) (cAt c p), by simp [mnL], by
   have hp' : p < a.length := by simpa [mnL] using hp
   have := (Ia.1.at_ hp').2
   omega⟩⟩
  have wx := whole_max Ia.1 Ic mx Ia.2 wc fun p hp => mxL_cAt (by omega)
  have wn := whole_min Ia.1 Ic mn Ia.2 wc fun p hp => mnL_cAt (by omega)
  have lx : (mxL a c a.length).length = a.length := by simp [mxL]
  have ln : (mnL a c a.length).length = a.length := by simp [mnL]
  have e14 := run_implWhole (j := j + 3) (by omega) S T.small (mxL a c a.length) (by omega)
  have e15 := run_implWhole (j := j + 3) (by omega) S T.small (mnL a c a.length) (by omega)
  rw [hW _ mx wx, lx] at e14
  rw [hW _ mn wn, ln] at e15
  have tkx : (mxL a c a.length).take a.length = mxL a c a.length := List.take_of_length_le (by omega)
  have tkn : (mnL a c a.length).take a.length = mnL a c a.length := List.take_of_length_le (by omega)
  generalize cutOkB S a = K at *
  simp only [syS, syR] at e1 e2 e3 e4 e5 e6 e7 e8 e9 e11 e12 e13 e14 e15
  simp -implicitDefEqProofs (maxSteps := 10000000) [own1, e0, e1, e2, e3, e4, e5, e6, e7, e8, e9, e10, e11, e12, e13, lc, ll, hl, ints_rep, tka, tkb, tkc, tkl, w1, w2, w3, w4, u1, u2, u3, u4, -List.map_take]
  rw [loop_then (H_ct S a c) a.length (by simp -implicitDefEqProofs [H_ct, bxR, obR, hint1, mxL, mnL, ints, hl]) (by simp [big] at hj; omega) (fun k hk => by
   have hkc : k < c.length := by omega
   obtain ⟨fa, _⟩ := Ia.1.at_ hk
   obtain ⟨fc, _⟩ := Ic.at_ hkc
   have aa := ints_get hk
   have ac := ints_get hkc
   rw [fa] at aa
   rw [fc] at ac
   have xs := mxL_succ a c k
   have ns := mnL_succ a c k
   have tk1 : (mxL a c k).take k = mxL a c k := List.take_of_length_le (by simp [mxL])
   have tk2 : (mnL a c k).take k = mnL a c k := List.take_of_length_le (by simp [mnL])
   have l1 : (mxL a c k).length = k := by simp [mxL]
   have l2 : (mnL a c k).length = k := by simp [mnL]
   have wk := w64 (x := (k : Int) + 1) (by omega)
   have lk := le_most (n := k + 1) (by omega)
   by_cases hlt : cAt a k < cAt c k
   ·rw [Nat.max_eq_right (by omega)] at xs
    rw [Nat.min_eq_left (by omega)] at ns
    simp -implicitDefEqProofs (maxSteps := 10000000) [H_ct, bxR, obR, hint1, own1, hk, hkc, hl, aa, gq aa, ac, gq ac, fa, fc, hlt, show (cAt a k : Int) < cAt c k by omega, xs, ns, tk1, tk2, l1, l2, ints_snoc, lk, wk]
   ·rw [Nat.max_eq_left (by omega)] at xs
    rw [Nat.min_eq_right (by omega)] at ns
    simp -implicitDefEqProofs (maxSteps := 10000000) [H_ct, bxR, obR, hint1, own1, hk, hkc, hl, aa, gq aa, ac, gq ac, fa, fc, hlt, show ¬ (cAt a k : Int) < cAt c k by omega, xs, ns, tk1, tk2, l1, l2, ints_snoc, lk, wk])]
  simp -implicitDefEqProofs (maxSteps := 10000000) [H_ct, bxR, obR, own1, e14, e15, tkx, tkn, lx, ln, w1, w2, w3, w4, -List.map_take]
 ·generalize cutOkB S a = K at *
  simp only [syS, syR] at e1 e2 e3 e4 e5 e6 e7 e8 e9 e11 e12 e13
  simp -implicitDefEqProofs (maxSteps := 10000000) [own1, e0, e1, e2, e3, e4, e5, e6, e7, e8, e9, e10, e11, e12, e13, lc, ll, hl, show ¬ (c.length : Int) = a.length by omega, ints_rep, tka, tkb, tkc, tkl, w1, w2, w3, w4, u1, u2, u3, u4, -List.map_take]
theorem law_FnCuts (bs : List Int) (hb : (∀ n ∈ bs, 0 ≤ n ∧ n ≤ 255) ∧ bs.length ≤ maxLen) : ∃ k xs, M.run k 8 [.c (.r 5 bs.length (octT bs))] = some ([.c (.v (.bool true))], xs) :=
 ⟨_, _, run_FnCuts (j := big) (by omega) bs (by have := hb.2; unfold maxLen at this; omega)⟩
end Go.Proofs.YtkgkbkpgpbpjhaaGreat.VM
