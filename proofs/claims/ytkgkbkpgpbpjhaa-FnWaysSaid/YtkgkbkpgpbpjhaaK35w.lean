/- The law FnWays. -/
import Derived.Test.YtkgkbkpgpbpjhaaK34w
import Derived.Test.YtkgkbkpgpbpjhaaK26w
namespace Go.Proofs.Ytkgkbkpgpbpjhaa.VM
open Go Go.Proofs
set_option linter.unusedSimpArgs false
set_option linter.unusedVariables false
set_option maxRecDepth 100000
set_option maxHeartbeats 40000000
theorem takeW (S : Sy) : (∀ l : List (List Ins), (l.map (sIns 29)).take l.length = l.map (sIns 29)) ∧ (∀ l : List Sta, (ssT l).take (l.length * 4) = ssT l) ∧ (∀ l : List (List Itm), (l.map (sItem 113)).take l.length = l.map (sItem 113)) ∧ (∀ l : List (List Ev), (l.map (sEvent 42)).take l.length = l.map (sEvent 42)) :=
 ⟨fun l => List.take_of_length_le (by simp), fun l => List.take_of_length_le (by rw [ssT_len]; exact Nat.le_refl _), fun l => List.take_of_length_le (by simp), fun l => List.take_of_length_le (by simp)⟩
theorem run_drawWayOf {j : Nat} (hj : big ≤ j ∧ j ≤ big + 800) (bs : List Int) (hb : bs.length ≤ 1048576) : ∃ (S : Sy) (a b : Int), Tiny S ∧ (-1 ≤ a ∧ a ≤ 4) ∧ (-1 ≤ b ∧ b ≤ 4) ∧ M.run (j + 13) 42 [.c (.r 5 bs.length (octT bs))] = some ([.agg (syS S), .c (.v (.int .i64 a)), .c (.v (.int .i64 b))], [.c (.r 5 bs.length (octT bs))]) := by
 have e0 := run_new (j := j + 11) hb
 have k0 := new_cur hb
 generalize hashK bs (min bs.length 4000) = h0 at *
 obtain ⟨S, i1, h1, k1, T, e1⟩ := drawSys_ex k0 hb
 obtain ⟨a, i2, h2, k2, _, l2, e2⟩ := below_ex k1 5
 obtain ⟨b, i3, h3, k3, _, l3, e3⟩ := below_ex k2 20
 obtain ⟨c, i4, h4, k4, _, l4, e4⟩ := below_ex k3 5
 obtain ⟨d, i5, h5, k5, _, l5, e5⟩ := below_ex k4 20
 have l2 := l2 (by omega)
 have l3 := l3 (by omega)
 have l4 := l4 (by omega)
 have l5 := l5 (by omega)
 have hq : 0 ≤ Int.tdiv b 19 ∧ Int.tdiv b 19 ≤ 1 := by
  rw [Int.tdiv_eq_ediv_of_nonneg (by omega)]
  omega
 have hr : 0 ≤ Int.tdiv d 19 ∧ Int.tdiv d 19 ≤ 1 := by
  rw [Int.tdiv_eq_ediv_of_nonneg (by omega)]
  omega
 have e1 := e1 j hj
 have e2 := e2 (j + 10)
 have e3 := e3 (j + 10)
 have e4 := e4 (j + 10)
 have e5 := e5 (j + 10)
 obtain ⟨w1, w2, w3, w4⟩ := takeW S
 refine ⟨S, a - Int.tdiv b 19, c - Int.tdiv d 19, T, by omega, by omega, ?_⟩
 rw [m_run (fn := Try.f42) (i0 := 0) rfl Try.func42 rfl rfl (by simp)]
 simp only [curT, z0, syS] at e1 e2 e3 e4 e5 ⊢
 simp -implicitDefEqProofs (maxSteps := 10000000) [own1, St.make, maker, e0, e1, e2, e3, e4, e5, w1, w2, w3, w4, w64 (x := Int.tdiv b 19) (by omega), w64 (x := a - Int.tdiv b 19) (by omega), w64 (x := Int.tdiv d 19) (by omega), w64 (x := c - Int.tdiv d 19) (by omega), -List.map_take]
def nmE (c : Cu) : Itm × Cu := (⟨decide ((belowF (belowF c 8).2 3).1 = 0), (belowF (belowF (belowF c 8).2 3).2 9).1⟩, (belowF (belowF (belowF c 8).2 3).2 9).2)
def nmK (c : Cu) : Nat → List Itm × Cu
 | 0 => ([], c)
 | k + 1 => ((nmK c k).1 ++ [(nmE (nmK c k).2).1], (nmE (nmK c k).2).2)
theorem nmK_ok {c : Cu} (h : CuOk c) : ∀ k, (nmK c k).1.length = k ∧ CuOk (nmK c k).2 ∧ (nmK c k).2.bs = c.bs
 | 0 => ⟨rfl, h, rfl⟩
 | k + 1 => by
  obtain ⟨a, b, d⟩ := nmK_ok h k
  exact ⟨by simp [nmK, a], belowF_ok (belowF_ok (belowF_ok b 8) 3) 9, ((belowF_bs _ _).trans ((belowF_bs _ _).trans (belowF_bs _ _))).trans d⟩
def H_nm (bs : List Int) (k : Nat) (x : List Itm × Cu) : St := ⟨[(3, .ptr 512 [] 0), (4, .c (.sl 576 [] 0 k)), (5, .c (.v (.int .i64 k)))], [(0, ⟨.ro, 5, octT bs⟩), (512, ⟨.box, 132, [.l 0 [] 0 bs.length, .v (.int .i64 x.2.i), .v (.int .i64 x.2.h)]⟩), (576, ⟨.own, 113, itT x.1⟩)]⟩
theorem run_drawNumbers {j : Nat} (hj : big ≤ j) (bs : List Int) (hb : bs.length ≤ 1048576) : ∃ L : List Itm, L.length ≤ 8 ∧ M.run (j + 4) 45 [.c (.r 5 bs.length (octT bs))] = some ([.c (.s 113 L.length (itT L))], [.c (.r 5 bs.length (octT bs))]) := by
 have e0 := run_new (j := j + 2) hb
 have k0 := new_cur hb
 generalize hashK bs (min bs.length 4000) = h0 at *
 have K := nmK_ok k0
 obtain ⟨N, hN, hg, hN'⟩ := firstN (fun k => decide ((k : Int) < (belowF (nmK ⟨bs, 0, h0⟩ k).2 8).1)) 8
 have hend : ¬ ((N : Int) < (belowF (nmK ⟨bs, 0, h0⟩ N).2 8).1) := by
  rcases hN' with ⟨e, _⟩ | ⟨_, hb, _⟩
  ·have := belowF_le (nmK ⟨bs, 0, h0⟩ N).2 (n := 8) (by omega)
   omega
  ·exact of_decide_eq_false hb
 refine ⟨(nmK ⟨bs, 0, h0⟩ N).1, by rw [(K N).1]; exact hN, ?_⟩
 rw [m_run (fn := Try.f45) (i0 := 0) rfl Try.func45 rfl rfl (by simp)]
 simp -implicitDefEqProofs [own1, St.make, maker, e0]
 rw [loop_then (fun k => H_nm bs k (nmK ⟨bs, 0, h0⟩ k)) N (by simp -implicitDefEqProofs [H_nm, hint1, nmK, itT]) (by simp [big] at hj; omega) (fun k hk => by
  have g := of_decide_eq_true (hg k hk)
  obtain ⟨a1, a2, a3⟩ := K k
  rw [nmK]
  generalize nmK ⟨bs, 0, h0⟩ k = X at *
  obtain ⟨xs, C⟩ := X
  simp only at a1 a2 a3 g ⊢
  have c1 := run_l1Below (j := j + 1) C a2 8
  have ok1 := belowF_ok a2 8
  have b1 : (belowF C 8).2.bs = bs := (belowF_bs _ _).trans a3
  unfold nmE
  generalize belowF C 8 = D at *
  obtain ⟨v1, D⟩ := D
  simp only at c1 ok1 b1 g ⊢
  have c2 := run_l1Once (j := j) D ok1 3
  have ok2 := belowF_ok ok1 3
  have b2 : (belowF D 3).2.bs = bs := (belowF_bs _ _).trans b1
  generalize belowF D 3 = E at *
  obtain ⟨v2, E⟩ := E
  simp only at c2 ok2 b2 ⊢
  have c3 := run_l1Below (j := j + 1) E ok2 9
  have b3 : (belowF E 9).2.bs = bs := (belowF_bs _ _).trans b2
  generalize belowF E 9 = F at *
  obtain ⟨v3, F⟩ := F
  simp only at c3 b3 ⊢
  simp only [curA, a3, b1, b2, b3] at c1 c2 c3
  have tk : (itT xs).take (k * 2) = itT xs := List.take_of_length_le (by simp [a1])
  generalize decide (v2 = 0) = t at *
  have ia : itT (xs ++ [⟨t, v3⟩]) = itT xs ++ [.v (.bool t), .v (.int .i64 v3)] := by simp [itT, tItem]
  simp -implicitDefEqProofs [H_nm, hint1, own1, c1, c2, c3, g, a1, tk, ia, le_most (n := k * 2 + 2) (by omega), w64 (x := (k : Int) + 1) (by omega)])]
 obtain ⟨a1, a2, a3⟩ := K N
 have c1 := run_l1Below (j := j + 1) (nmK ⟨bs, 0, h0⟩ N).2 a2 8
 have b1 : (belowF (nmK ⟨bs, 0, h0⟩ N).2 8).2.bs = bs := (belowF_bs _ _).trans a3
 generalize nmK ⟨bs, 0, h0⟩ N = X at *
 obtain ⟨xs, C⟩ := X
 simp only at a1 a2 a3 c1 b1 hend ⊢
 generalize belowF C 8 = D at *
 obtain ⟨v1, D⟩ := D
 simp only at c1 b1 hend
 simp only [curA, a3, b1] at c1
 have tk : (itT xs).take (N * 2) = itT xs := List.take_of_length_le (by simp [a1])
 simp -implicitDefEqProofs [H_nm, own1, c1, hend, a1, tk]
theorem ways_law {S : Sy} (R : Right S) {a b : Nat} (ha : a < S.progs.length) (hb : b < S.progs.length) : valsE (rowH S.hist b) 3 a ++ numsI (wayF S a b) = valsE (rowH S.hist a) 2 b := by
 have h1 := R.fit a b ha hb
 unfold fitsB at h1
 have h2 := of_decide_eq_true h1
 have hw : wayF S a b = wayR S a b := by
  have hl := idx_lt ha hb R.wa
  unfold wayF wayR
  have e : ((a : Int) * (S.progs.length : Int) + b) = ((a * S.progs.length + b : Nat) : Int) := by
   rw [Int.natCast_add, Int.natCast_mul]
  rw [if_pos ⟨by simp [inB]; omega, by simp [inB]; omega, by rw [e]; omega⟩, e, Int.toNat_natCast]
 rw [hw]
 exact h2
theorem run_FnWays {j : Nat} (hj : big ≤ j ∧ j ≤ big + 700) (bs : List Int) (hb : bs.length ≤ 9223372036854775807) : M.run (j + 15) 8 [.c (.r 5 bs.length (octT bs))] = some ([.c (.v (.bool true))], [.c (.r 5 bs.length (octT bs))]) := by
 have e0 := run_big (j := j + 13) bs.length (octT bs) hb
 rw [m_run (fn := Try.f8) (i0 := 0) rfl Try.func8 rfl rfl (by simp)]
 by_cases h1 : 1048576 < bs.length
 ·rw [decide_eq_true h1] at e0
  simp -implicitDefEqProofs [own1, e0]
 rw [decide_eq_false h1] at e0
 obtain ⟨S, a, b, T, ha, hb', e1⟩ := run_drawWayOf (j := j + 1) (by omega) bs (by omega)
 obtain ⟨L, hL, e6⟩ := run_drawNumbers (j := j + 10) (by omega) bs (by omega)
 have e2 := run_implWayOf (j := j + 11) S T.small a b
 have e3 := run_specWayOf (j := j + 11) S T.small a b
 have e4 := run_implSysOk (j := j + 4) (by omega) S T.small
 have e5 := run_specSys (j := j + 7) (by omega) S T.small
 have e7 := run_implNumbers (j := j + 13) (by omega) L (by omega)
 have e8 := run_specNumbers (j := j + 13) (by omega) L (by omega)
 have nl := numsI_le L
 have e9 := run_sameInts (j := j + 13) (by omega) (numsI L) (by omega)
 have wl : (wayF S a b).length ≤ 13 := by
  unfold wayF
  split
  ·rename_i h
   cases hg : S.ways[(a * S.progs.length + b).toNat]? with
   | none => simp
   | some x => exact T.wy x (List.mem_of_getElem? hg)
  ·simp
 obtain ⟨w1, w2, w3, w4⟩ := takeW S
 have tkw : (itT (wayF S a b)).take ((wayF S a b).length * 2) = itT (wayF S a b) := List.take_of_length_le (by simp)
 have tkl : (itT L).take (L.length * 2) = itT L := List.take_of_length_le (by simp)
 have tkn : (ints (numsI L)).take (numsI L).length = ints (numsI L) := List.take_of_length_le (by simp)
 have n4 := T.n4
 cases hq : sysB S
 ·rw [hq] at e4 e5
  generalize wayF S a b = W at *
  generalize numsI L = N at *
  simp only [syS, syR] at e1 e2 e3 e4 e5
  simp -implicitDefEqProofs (maxSteps := 10000000) [own1, e0, e1, e2, e3, e4, e5, e6, e7, e8, e9, tkw, tkl, tkn, w1, w2, w3, w4, -List.map_take]
 rw [hq] at e4 e5
 have R := right_iff.1 hq
 by_cases ha0 : a < 0
 ·generalize wayF S a b = W at *
  generalize numsI L = N at *
  simp only [syS, syR] at e1 e2 e3 e4 e5
  simp -implicitDefEqProofs (maxSteps := 10000000) [own1, e0, e1, e2, e3, e4, e5, e6, e7, e8, e9, ha0, tkw, tkl, tkn, w1, w2, w3, w4, -List.map_take]
 by_cases hb0 : b < 0
 ·generalize wayF S a b = W at *
  generalize numsI L = N at *
  simp only [syS, syR] at e1 e2 e3 e4 e5
  simp -implicitDefEqProofs (maxSteps := 10000000) [own1, e0, e1, e2, e3, e4, e5, e6, e7, e8, e9, ha0, hb0, tkw, tkl, tkn, w1, w2, w3, w4, -List.map_take]
 by_cases ha1 : (S.progs.length : Int) ≤ a
 ·generalize wayF S a b = W at *
  generalize numsI L = N at *
  simp only [syS, syR] at e1 e2 e3 e4 e5
  simp -implicitDefEqProofs (maxSteps := 10000000) [own1, e0, e1, e2, e3, e4, e5, e6, e7, e8, e9, ha0, hb0, ha1, tkw, tkl, tkn, w1, w2, w3, w4, -List.map_take]
 by_cases hb1 : (S.progs.length : Int) ≤ b
 ·generalize wayF S a b = W at *
  generalize numsI L = N at *
  simp only [syS, syR] at e1 e2 e3 e4 e5
  simp -implicitDefEqProofs (maxSteps := 10000000) [own1, e0, e1, e2, e3, e4, e5, e6, e7, e8, e9, ha0, hb0, ha1, hb1, tkw, tkl, tkn, w1, w2, w3, w4, -List.map_take]
 obtain ⟨m, rfl⟩ : ∃ m : Nat, a = m := ⟨a.toNat, by omega⟩
 obtain ⟨n, rfl⟩ : ∃ n : Nat, b = n := ⟨b.toNat, by omega⟩
 have hm : m < S.hist.length := by rw [R.hi]; omega
 have hn : n < S.hist.length := by rw [R.hi]; omega
 have hw := ways_law R (a := m) (b := n) (by omega) (by omega)
 rw [rowH_of hm, rowH_of hn] at hw
 have m1 := T.ev _ (List.getElem_mem hm)
 have n1 := T.ev _ (List.getElem_mem hn)
 have f1 := run_implValues (j := j + 12) (by omega) S.hist[n] 3 m (by omega)
 have f2 := run_implValues (j := j + 12) (by omega) S.hist[m] 2 n (by omega)
 have f3 := run_implNumbers (j := j + 13) (by omega) (wayF S m n) (by omega)
 have l1 := valsE_le S.hist[n] 3 m
 have l2 := valsE_le S.hist[m] 2 n
 have l3 := numsI_le (wayF S m n)
 have f4 := run_sameInts (j := j + 13) (by omega) (valsE S.hist[m] 2 n) (by omega)
 have hlen : (valsE S.hist[m] 2 n).length = (valsE S.hist[n] 3 m).length + (numsI (wayF S m n)).length := by rw [← hw, List.length_append]
 have hap : ints (valsE S.hist[n] 3 m) ++ ints (numsI (wayF S m n)) = ints (valsE S.hist[m] 2 n) := by
  rw [← hw]
  simp [ints]
 generalize wayF S m n = W at *
 generalize numsI L = N at *
 generalize valsE S.hist[n] 3 m = V1 at *
 generalize valsE S.hist[m] 2 n = V2 at *
 generalize numsI W = V3 at *
 have tk1 : (ints V1).take V1.length = ints V1 := List.take_of_length_le (by simp)
 have tk2 : (ints V2).take V2.length = ints V2 := List.take_of_length_le (by simp)
 have tk3 : (ints V3).take V3.length = ints V3 := List.take_of_length_le (by simp)
 rw [hlen] at f4 tk2
 simp only [syS, syR] at e1 e2 e3 e4 e5
 simp -implicitDefEqProofs (maxSteps := 10000000) [own1, e0, e1, e2, e3, e4, e5, e6, e7, e8, e9, f1, f2, f3, f4, hap, hlen, hm, hn, sEvent_at hm, sEvent_at hn, sEvent, show ¬ (m : Int) < 0 by omega, show ¬ (n : Int) < 0 by omega, show ¬ (S.progs.length : Int) ≤ m by omega, show ¬ (S.progs.length : Int) ≤ n by omega, tkw, tkl, tkn, tk1, tk2, tk3, le_most (n := V1.length + V3.length) (by omega), w1, w2, w3, w4, -List.map_take]
theorem law_FnWays (bs : List Int) (hb : (∀ n ∈ bs, 0 ≤ n ∧ n ≤ 255) ∧ bs.length ≤ maxLen) : ∃ k xs, M.run k 8 [.c (.r 5 bs.length (octT bs))] = some ([.c (.v (.bool true))], xs) :=
 ⟨_, _, run_FnWays (j := big) (by omega) bs (by have := hb.2; unfold maxLen at this; omega)⟩
end Go.Proofs.Ytkgkbkpgpbpjhaa.VM
