/- Draws of cuts: reckoned. -/
import Derived.Test.YtkgkbkpgpbpjhaaGreatK37g
import Derived.Test.YtkgkbkpgpbpjhaaGreatK14g
set_option linter.unusedSimpArgs false
set_option linter.unusedVariables false
set_option maxRecDepth 100000
set_option maxHeartbeats 40000000
namespace Go.Proofs.YtkgkbkpgpbpjhaaGreat.VM
open Go Go.Proofs
def cutE (c : Cu) (n : Nat) : Int × Cu := if (belowF c 2).1 = 0 then belowF (belowF c 2).2 ((n : Int) + 1) else ((n : Int), (belowF c 2).2)
theorem cutE_ok {c : Cu} (h : CuOk c) (n : Nat) : CuOk (cutE c n).2 ∧ (cutE c n).2.bs = c.bs := by
 unfold cutE
 split
 ·exact ⟨belowF_ok (belowF_ok h 2) _, (belowF_bs _ _).trans (belowF_bs _ _)⟩
 ·exact ⟨belowF_ok h 2, belowF_bs _ _⟩
def cutK (h : List (List Ev)) (c : Cu) : Nat → List Int × Cu
 | 0 => ([], c)
 | k + 1 => ((cutK h c k).1 ++ [(cutE (cutK h c k).2 (rowH h k).length).1], (cutE (cutK h c k).2 (rowH h k).length).2)
theorem cutK_ok (h : List (List Ev)) {c : Cu} (ok : CuOk c) : ∀ k, (cutK h c k).1.length = k ∧ CuOk (cutK h c k).2 ∧ (cutK h c k).2.bs = c.bs
 | 0 => ⟨rfl, ok, rfl⟩
 | k + 1 => by
  obtain ⟨a, b, d⟩ := cutK_ok h ok k
  have q := cutE_ok b (rowH h k).length
  exact ⟨by simp [cutK, a], q.1, q.2.trans d⟩
def sysO2 (s : Sy) : List (Nat × Obj) := [(2, ⟨.ro, 108, s.progs.map (rIns 116)⟩), (3, ⟨.ro, 39, stT s.states⟩), (4, ⟨.ro, 95, s.ways.map (rItem 142)⟩), (5, ⟨.ro, 35, s.hist.map (rEvent 65)⟩)]
def sysX2 (s : Sy) : Obj := ⟨.box, 29, [.l 2 [] 0 s.progs.length, .l 3 [] 0 s.states.length, .l 4 [] 0 s.ways.length, .l 5 [] 0 s.hist.length]⟩
def H_dc (bs : List Int) (s : Sy) (k : Nat) (x : List Int × Cu) : St := ⟨[(0, .ptr 1 [] 0), (3, .ptr 256 [] 0), (5, .c (.sl 640 [] 0 k)), (6, .c (.v (.int .i64 k)))], [(0, ⟨.ro, 5, octT bs⟩), (1, ⟨.box, 140, [.l 0 [] 0 bs.length, .v (.int .i64 x.2.i), .v (.int .i64 x.2.h)]⟩)] ++ (sysO2 s ++ [(256, sysX2 s), (640, ⟨.own, 3, ints x.1⟩)])⟩
theorem run_drawCut {j : Nat} (hj : big ≤ j) (bs : List Int) (i : Nat) (h : Int) (ok : CuOk ⟨bs, i, h⟩) (S : Sy) (T : Tiny S) : ∃ (c : List Int) (i' : Nat) (h' : Int), CuOk ⟨bs, i', h'⟩ ∧ c.length ≤ 5 ∧ M.run (j + 4) 122 [curT bs i h, .agg (syR S)] = some ([.c (.s 3 c.length (ints c))], [curT bs i' h', .agg (syR S)]) := by
 have K := cutK_ok S.hist ok
 have hi := T.hi
 have e9 := run_l1Below (j := j + 1) (cutK S.hist ⟨bs, i, h⟩ S.hist.length).2 (K _).2.1 15
 have k9 := belowF_ok (K S.hist.length).2.1 15
 have l9 := belowF_le (cutK S.hist ⟨bs, i, h⟩ S.hist.length).2 (n := 15) (by omega)
 have b9 : (belowF (cutK S.hist ⟨bs, i, h⟩ S.hist.length).2 15).2.bs = bs := (belowF_bs _ _).trans (K _).2.2
 have lp : ∀ k, k < S.hist.length → ∃ (xs : List Int) (C : Cu), cutK S.hist ⟨bs, i, h⟩ k = (xs, C) ∧ xs.length = k ∧ CuOk C ∧ C.bs = bs := fun k _ => ⟨_, _, rfl, (K k).1, (K k).2.1, (K k).2.2⟩
 obtain ⟨xs, C, hX, x1, x2, x3⟩ : ∃ (xs : List Int) (C : Cu), cutK S.hist ⟨bs, i, h⟩ S.hist.length = (xs, C) ∧ xs.length = S.hist.length ∧ CuOk C ∧ C.bs = bs := ⟨_, _, rfl, (K _).1, (K _).2.1, (K _).2.2⟩
 rw [hX] at e9 k9 l9 b9
 simp only at e9 k9 l9 b9
 generalize belowF C 15 = D at *
 obtain ⟨v, ⟨bs', i9, h9⟩⟩ := D
 simp only at k9 l9 b9 e9
 subst b9
 have tk : (ints xs).take S.hist.length = ints xs := List.take_of_length_le (by simp [x1])
 obtain ⟨c, i', h', k', lc, Q⟩ : ∃ (c : List Int) (i' : Nat) (h' : Int), CuOk ⟨bs', i', h'⟩ ∧ c.length ≤ 5 ∧ ((v = 0 ∧ c = xs ++ [0] ∧ i' = i9 ∧ h' = h9) ∨ (v = 1 ∧ 0 < xs.length ∧ ∃ w : Int, c = xs.set 0 w ∧ ∀ j, M.run (j + 3) 85 [curT bs' i9 h9, .c (.r 3 2 (ints [-1, 300]))] = some ([.c (.v (.int .i64 w))], [curT bs' i' h', .c (.r 3 2 (ints [-1, 300]))])) ∨ (((v = 1 ∧ xs.length = 0) ∨ 2 ≤ v) ∧ c = xs ∧ i' = i9 ∧ h' = h9)) := by
  have hv : v = 0 ∨ v = 1 ∨ 2 ≤ v := by omega
  rcases hv with hv | hv | hv
  ·exact ⟨_, _, _, k9, by simp [x1]; omega, .inl ⟨hv, rfl, rfl, rfl⟩⟩
  ·by_cases hz : xs.length = 0
   ·exact ⟨_, _, _, k9, by omega, .inr (.inr ⟨.inl ⟨hv, hz⟩, rfl, rfl, rfl⟩)⟩
   ·obtain ⟨w, i4, h4, k4, _, e4⟩ := pick_ex k9 [-1, 300] (by simp)
    exact ⟨xs.set 0 w, i4, h4, k4, by simp [x1]; omega, .inr (.inl ⟨hv, by omega, w, rfl, e4⟩)⟩
  ·exact ⟨_, _, _, k9, by omega, .inr (.inr ⟨.inr hv, rfl, rfl, rfl⟩)⟩
 refine ⟨c, i', h', k', lc, ?_⟩
 rw [m_run (fn := Tryz.f122) (i0 := 0) rfl Tryz.func122 rfl rfl (by simp [curT, syR])]
 simp only [curA, curT, syR, x3] at e9 Q ⊢
 simp -implicitDefEqProofs [own1]
 rw [loop_then (fun k => H_dc bs' S k (cutK S.hist ⟨bs', i, h⟩ k)) S.hist.length (by simp -implicitDefEqProofs [H_dc, sysO2, sysX2, hint1, cutK, ints]) (by simp [big] at hj; omega) (fun k hk => by
  obtain ⟨xs, C, r1, r2, r3, r4⟩ := lp k hk
  rw [cutK, r1]
  simp only
  have tk : (ints xs).take k = ints xs := List.take_of_length_le (by simp [r2])
  have ev := T.ev _ (List.getElem_mem hk)
  have c1 := run_l1Once (j := j) C r3 2
  have hb1 : (belowF C 2).2.bs = bs' := (belowF_bs _ _).trans r4
  have k1 := belowF_ok r3 2
  unfold cutE
  rw [rowH_of hk]
  generalize belowF C 2 = X at *
  obtain ⟨v1, X⟩ := X
  simp only at c1 hb1 k1 ⊢
  have c2 := run_l1Below (j := j + 1) X k1 ((S.hist[k].length : Int) + 1)
  have hb2 : (belowF X ((S.hist[k].length : Int) + 1)).2.bs = bs' := (belowF_bs _ _).trans hb1
  generalize belowF X ((S.hist[k].length : Int) + 1) = Y at *
  obtain ⟨v2, Y⟩ := Y
  simp only at c2 hb2 ⊢
  simp only [curA, r4, hb1, hb2] at c1 c2
  by_cases h0 : v1 = 0
  ·subst h0
   simp -implicitDefEqProofs at c1
   simp -implicitDefEqProofs [H_dc, sysO2, sysX2, hint1, hk, own1, rEvent_at hk, rEvent, c1, c2, r2, tk, ints_snoc, le_most (n := k + 1) (by omega), w64 (x := (k : Int) + 1) (by omega), w64 (x := (S.hist[k].length : Int) + 1) (by omega)]
  ·simp -implicitDefEqProofs [h0] at c1
   simp -implicitDefEqProofs [H_dc, sysO2, sysX2, hint1, hk, own1, rEvent_at hk, rEvent, c1, h0, r2, tk, ints_snoc, le_most (n := k + 1) (by omega), w64 (x := (k : Int) + 1) (by omega), w64 (x := (S.hist[k].length : Int) + 1) (by omega)])]
 rw [hX]
 rcases Q with ⟨rfl, rfl, rfl, rfl⟩ | ⟨rfl, hz, w, rfl, e4⟩ | ⟨hv, rfl, rfl, rfl⟩
 ·have tk0 : (xs ++ [0]).take (S.hist.length + 1) = xs ++ [0] := List.take_of_length_le (by simp [x1])
  simp -implicitDefEqProofs [H_dc, sysO2, sysX2, own1, e9, x1, tk, tk0, ints_snoc, le_most (n := S.hist.length + 1) (by omega)]
 ·have e4 := e4 j
  have hz' : 0 < S.hist.length := by omega
  simp -implicitDefEqProofs [ints] at e4
  have is : (ints xs).set 0 (.v (.int .i64 w)) = ints (xs.set 0 w) := by unfold ints; rw [List.map_set]
  have tk2 : (ints (xs.set 0 w)).take S.hist.length = ints (xs.set 0 w) := List.take_of_length_le (by simp [x1])
  simp -implicitDefEqProofs [H_dc, sysO2, sysX2, own1, e9, x1, e4, ros, hz', is, tk, tk2, show 1 ≤ S.hist.length by omega]
 ·rcases hv with ⟨rfl, hz⟩ | hv
  ·have hz' : S.hist.length = 0 := by omega
   obtain rfl := List.eq_nil_of_length_eq_zero hz
   simp -implicitDefEqProofs [H_dc, sysO2, sysX2, own1, e9, x1, hz', ints]
  ·simp -implicitDefEqProofs [H_dc, sysO2, sysX2, own1, e9, x1, tk, show ¬ v = 0 by omega, show ¬ v = 1 by omega]
theorem run_drawBoth {j : Nat} (hj : big ≤ j ∧ j ≤ big + 800) (bs : List Int) (hb : bs.length ≤ 1048576) : ∃ (S : Sy) (c : List Int), Tiny S ∧ c.length ≤ 5 ∧ M.run (j + 13) 124 [.c (.r 5 bs.length (octT bs))] = some ([.agg (syS S), .c (.s 3 c.length (ints c))], [.c (.r 5 bs.length (octT bs))]) := by
 have e0 := run_new (j := j + 11) hb
 have k0 := new_cur hb
 generalize hashK bs (min bs.length 4000) = h0 at *
 obtain ⟨S, i1, h1, k1, T, e1⟩ := drawSys_ex k0 hb
 obtain ⟨c, i2, h2, k2, lc, e2⟩ := run_drawCut (j := j + 8) (by omega) bs i1 h1 k1 S T
 have e1 := e1 j hj
 obtain ⟨w1, w2, w3, w4⟩ := takeS S
 have tk : (ints c).take c.length = ints c := List.take_of_length_le (by simp)
 refine ⟨S, c, T, lc, ?_⟩
 rw [m_run (fn := Tryz.f124) (i0 := 0) rfl Tryz.func124 rfl rfl (by simp)]
 simp only [curT, z0, syS, syR] at e1 e2 ⊢
 simp -implicitDefEqProofs (maxSteps := 10000000) [own1, St.make, maker, e0, e1, e2, tk, w1, w2, w3, w4, -List.map_take]
theorem run_drawCutOk {j : Nat} (hj : big ≤ j ∧ j ≤ big + 800) (bs : List Int) (hb : bs.length ≤ 1048576) : ∃ (S : Sy) (c : List Int), Tiny S ∧ c.length ≤ 5 ∧ M.run (j + 14) 49 [.c (.r 5 bs.length (octT bs))] = some ([.agg (syS S), .c (.s 3 c.length (ints c))], [.c (.r 5 bs.length (octT bs))]) := by
 obtain ⟨S, c, T, lc, e1⟩ := run_drawBoth hj bs hb
 obtain ⟨w1, w2, w3, w4⟩ := takeS S
 have tk : (ints c).take c.length = ints c := List.take_of_length_le (by simp)
 refine ⟨S, c, T, lc, ?_⟩
 rw [m_run (fn := Tryz.f49) (i0 := 0) rfl Tryz.func49 rfl rfl (by simp)]
 simp only [syS] at e1 ⊢
 simp -implicitDefEqProofs (maxSteps := 10000000) [own1, e1, tk, w1, w2, w3, w4, -List.map_take]
theorem run_drawClose {j : Nat} (hj : big ≤ j ∧ j ≤ big + 800) (bs : List Int) (hb : bs.length ≤ 1048576) : ∃ (S : Sy) (c : List Int), Tiny S ∧ c.length ≤ 5 ∧ M.run (j + 14) 60 [.c (.r 5 bs.length (octT bs))] = some ([.agg (syS S), .c (.s 3 c.length (ints c))], [.c (.r 5 bs.length (octT bs))]) := by
 obtain ⟨S, c, T, lc, e1⟩ := run_drawBoth hj bs hb
 obtain ⟨w1, w2, w3, w4⟩ := takeS S
 have tk : (ints c).take c.length = ints c := List.take_of_length_le (by simp)
 refine ⟨S, c, T, lc, ?_⟩
 rw [m_run (fn := Tryz.f60) (i0 := 0) rfl Tryz.func60 rfl rfl (by simp)]
 simp only [syS] at e1 ⊢
 simp -implicitDefEqProofs (maxSteps := 10000000) [own1, e1, tk, w1, w2, w3, w4, -List.map_take]
theorem run_drawWhole {j : Nat} (hj : big ≤ j ∧ j ≤ big + 800) (bs : List Int) (hb : bs.length ≤ 1048576) : ∃ (S : Sy) (c : List Int), Tiny S ∧ c.length ≤ 5 ∧ M.run (j + 13) 48 [.c (.r 5 bs.length (octT bs))] = some ([.agg (syS S), .c (.s 3 c.length (ints c))], [.c (.r 5 bs.length (octT bs))]) := by
 have e0 := run_new (j := j + 11) hb
 have k0 := new_cur hb
 generalize hashK bs (min bs.length 4000) = h0 at *
 obtain ⟨S, i1, h1, k1, T, e1⟩ := drawSys_ex k0 hb
 obtain ⟨c, i2, h2, k2, lc, e2⟩ := run_drawCut (j := j + 8) (by omega) bs i1 h1 k1 S T
 have e1 := e1 j hj
 have e3 := run_specCutOk (j := j + 4) (by omega) S T.small c (by omega)
 obtain ⟨w1, w2, w3, w4⟩ := takeS S
 have tk : (ints c).take c.length = ints c := List.take_of_length_le (by simp)
 cases hq : cutOkB S c
 ·rw [hq] at e3
  refine ⟨S, c, T, lc, ?_⟩
  rw [m_run (fn := Tryz.f48) (i0 := 0) rfl Tryz.func48 rfl rfl (by simp)]
  simp only [curT, z0, syS, syR] at e1 e2 e3 ⊢
  simp -implicitDefEqProofs (maxSteps := 10000000) [own1, St.make, maker, e0, e1, e2, e3, tk, w1, w2, w3, w4, -List.map_take]
 ·rw [hq] at e3
  obtain ⟨b, i3, h3, k3, e4⟩ := once_ex k2 2
  have e4 := e4 (j + 9)
  cases b
  ·refine ⟨S, c, T, lc, ?_⟩
   rw [m_run (fn := Tryz.f48) (i0 := 0) rfl Tryz.func48 rfl rfl (by simp)]
   simp only [curT, z0, syS, syR] at e1 e2 e3 e4 ⊢
   simp -implicitDefEqProofs (maxSteps := 10000000) [own1, St.make, maker, e0, e1, e2, e3, e4, tk, w1, w2, w3, w4, -List.map_take]
  ·have I := cutOk_I hq
   have e5 := run_l8Close (j := j + 7) (by omega) S T.small c I
   have lF := shutF_len I
   generalize shutF S.hist c = F at *
   have tk2 : (ints F).take F.length = ints F := List.take_of_length_le (by simp)
   refine ⟨S, F, T, by omega, ?_⟩
   rw [m_run (fn := Tryz.f48) (i0 := 0) rfl Tryz.func48 rfl rfl (by simp)]
   simp only [curT, z0, syS, syR] at e1 e2 e3 e4 e5 ⊢
   simp -implicitDefEqProofs (maxSteps := 10000000) [own1, St.make, maker, e0, e1, e2, e3, e4, e5, tk, tk2, w1, w2, w3, w4, -List.map_take]
end Go.Proofs.YtkgkbkpgpbpjhaaGreat.VM
