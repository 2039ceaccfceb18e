/- The law FnForth. -/
import Derived.Test.YtkgkbkpgpbpjhaaGreatK15g
import Derived.Test.YtkgkbkpgpbpjhaaGreatFxk
import Derived.Test.YtkgkbkpgpbpjhaaGreatTabk
import Derived.Test.YtkgkbkpgpbpjhaaGreatK6k
import Derived.Test.YtkgkbkpgpbpjhaaGreatK15k
import Derived.Test.YtkgkbkpgpbpjhaaGreatK39k
import Derived.Test.YtkgkbkpgpbpjhaaGreatK48k
set_option linter.unusedSimpArgs false
set_option linter.unusedVariables false
set_option maxRecDepth 100000
set_option maxHeartbeats 40000000
namespace Go.Proofs.YtkgkbkpgpbpjhaaGreat.VM
open Go Go.Proofs
theorem run_drawAt {j : Nat} (hj : big ≤ j ∧ j ≤ big + 800) (bs : List Int) (hb : bs.length ≤ 1048576) : ∃ (S : Sy) (p k : Int), Tiny S ∧ M.run (j + 13) 114 [.c (.r 5 bs.length (octT bs))] = some ([.agg (syS S), .c (.v (.int .i64 p)), .c (.v (.int .i64 k))], [.c (.r 5 bs.length (octT bs))]) := by
 have e0 := run_new (j := j + 11) hb
 have k0 := new_cur hb
 generalize hashK bs (min bs.length 4000) = h0 at *
 obtain ⟨S, i1, h1, k1, T, e1⟩ := drawSys_ex k0 hb
 obtain ⟨n, hn⟩ : ∃ n : Nat, max (S.hist.length : Int) 1 = n := ⟨(max (S.hist.length : Int) 1).toNat, by omega⟩
 have em : ∀ j, M.run (j + 1) 162 [.c (.v (.int .i64 S.hist.length)), .c (.v (.int .i64 1))] = some ([.c (.v (.int .i64 n))], [.c (.v (.int .i64 S.hist.length)), .c (.v (.int .i64 1))]) := fun j => by
  rw [run_maxN, hn]
 have h4 := T.hi
 obtain ⟨p, i2, h2, k2, _, lp, e2⟩ := below_ex k1 n
 have lp := lp (by omega)
 obtain ⟨m, rfl⟩ : ∃ m : Nat, p = m := ⟨p.toNat, by omega⟩
 have e1 := e1 j hj
 have e2 := e2 (j + 10)
 have em := em (j + 11)
 obtain ⟨w1, w2, w3, w4⟩ := takeS S
 obtain ⟨k, i3, h3, k3, Q⟩ : ∃ (k : Int) (i3 : Nat) (h3 : Int), CuOk ⟨bs, i3, h3⟩ ∧ ((∃ hm : m < S.hist.length, ∀ j, M.run (j + 2) 100 [curT bs i2 h2, .c (.v (.int .i64 ((S.hist[m].length : Int) + 1)))] = some ([.c (.v (.int .i64 k))], [curT bs i3 h3, .c (.v (.int .i64 ((S.hist[m].length : Int) + 1)))])) ∨ (¬ m < S.hist.length ∧ k = 0 ∧ i3 = i2 ∧ h3 = h2)) := by
  by_cases hm : m < S.hist.length
  ·obtain ⟨k, i3, h3, k3, _, _, e3⟩ := below_ex k2 ((S.hist[m].length : Int) + 1)
   exact ⟨k, i3, h3, k3, .inl ⟨hm, e3⟩⟩
  ·exact ⟨0, i2, h2, k2, .inr ⟨hm, rfl, rfl, rfl⟩⟩
 obtain ⟨v, i4, h4', k4, _, lv, e4⟩ := below_ex k3 15
 have lv := lv (by omega)
 have e4 := e4 (j + 10)
 have hv : v = 0 ∨ v = 1 ∨ 2 ≤ v := by omega
 rcases Q with ⟨hm, e3⟩ | ⟨hm, rfl, rfl, rfl⟩
 ·have e3 := e3 (j + 10)
  have ev := T.ev _ (List.getElem_mem hm)
  have w5 := w64 (x := (S.hist[m].length : Int) + 1) (by omega)
  rcases hv with rfl | rfl | hv
  ·obtain ⟨u, i5, h5, k5, _, e5⟩ := pick_ex k4 [-1, 4] (by simp)
   have e5 := e5 (j + 9)
   refine ⟨S, u, k, T, ?_⟩
   rw [m_run (fn := Tryz.f114) (i0 := 0) rfl Tryz.func114 rfl rfl (by simp)]
   simp only [curT, z0, syS] at e1 e2 e3 e4 e5 ⊢
   simp -implicitDefEqProofs [ints] at e5
   simp -implicitDefEqProofs (maxSteps := 10000000) [own1, St.make, maker, e0, em, e1, e2, e3, e4, e5, ros, hm, w5, sEvent_at hm, sEvent, w1, w2, w3, w4, -List.map_take]
  ·obtain ⟨u, i5, h5, k5, _, e5⟩ := pick_ex k4 [-1, 201] (by simp)
   have e5 := e5 (j + 9)
   refine ⟨S, m, u, T, ?_⟩
   rw [m_run (fn := Tryz.f114) (i0 := 0) rfl Tryz.func114 rfl rfl (by simp)]
   simp only [curT, z0, syS] at e1 e2 e3 e4 e5 ⊢
   simp -implicitDefEqProofs [ints] at e5
   simp -implicitDefEqProofs (maxSteps := 10000000) [own1, St.make, maker, e0, em, e1, e2, e3, e4, e5, ros, hm, w5, sEvent_at hm, sEvent, w1, w2, w3, w4, -List.map_take]
  ·refine ⟨S, m, k, T, ?_⟩
   rw [m_run (fn := Tryz.f114) (i0 := 0) rfl Tryz.func114 rfl rfl (by simp)]
   simp only [curT, z0, syS] at e1 e2 e3 e4 ⊢
   simp -implicitDefEqProofs (maxSteps := 10000000) [own1, St.make, maker, e0, em, e1, e2, e3, e4, hm, w5, sEvent_at hm, sEvent, show ¬ v = 0 by omega, show ¬ v = 1 by omega, w1, w2, w3, w4, -List.map_take]
 ·rcases hv with rfl | rfl | hv
  ·obtain ⟨u, i5, h5, k5, _, e5⟩ := pick_ex k4 [-1, 4] (by simp)
   have e5 := e5 (j + 9)
   refine ⟨S, u, 0, T, ?_⟩
   rw [m_run (fn := Tryz.f114) (i0 := 0) rfl Tryz.func114 rfl rfl (by simp)]
   simp only [curT, z0, syS] at e1 e2 e4 e5 ⊢
   simp -implicitDefEqProofs [ints] at e5
   simp -implicitDefEqProofs (maxSteps := 10000000) [own1, St.make, maker, e0, em, e1, e2, e4, e5, ros, hm, w1, w2, w3, w4, -List.map_take]
  ·obtain ⟨u, i5, h5, k5, _, e5⟩ := pick_ex k4 [-1, 201] (by simp)
   have e5 := e5 (j + 9)
   refine ⟨S, m, u, T, ?_⟩
   rw [m_run (fn := Tryz.f114) (i0 := 0) rfl Tryz.func114 rfl rfl (by simp)]
   simp only [curT, z0, syS] at e1 e2 e4 e5 ⊢
   simp -implicitDefEqProofs [ints] at e5
   simp -implicitDefEqProofs (maxSteps := 10000000) [own1, St.make, maker, e0, em, e1, e2, e4, e5, ros, hm, w1, w2, w3, w4, -List.map_take]
  ·refine ⟨S, m, 0, T, ?_⟩
   rw [m_run (fn := Tryz.f114) (i0 := 0) rfl Tryz.func114 rfl rfl (by simp)]
   simp only [curT, z0, syS] at e1 e2 e4 ⊢
   simp -implicitDefEqProofs (maxSteps := 10000000) [own1, St.make, maker, e0, em, e1, e2, e4, hm, show ¬ v = 0 by omega, show ¬ v = 1 by omega, w1, w2, w3, w4, -List.map_take]
theorem run_drawForth {j : Nat} (hj : big ≤ j ∧ j ≤ big + 800) (bs : List Int) (hb : bs.length ≤ 1048576) : ∃ S S' : Sy, Small S ∧ Small S' ∧ M.run (j + 14) 45 [.c (.r 5 bs.length (octT bs))] = some ([.agg (syS S), .agg (syS S')], [.c (.r 5 bs.length (octT bs))]) := by
 obtain ⟨S, p, k, T, e1⟩ := run_drawAt hj bs hb
 have e2 := run_specBack (j := j + 5) (by omega) S T.small p k
 have sm := back_small T.small p k
 generalize backS S p k = D at *
 obtain ⟨D1, D2⟩ := D
 obtain ⟨w1, w2, w3, w4⟩ := takeS S
 by_cases h3 : Int.tmod (bs.length : Int) 3 = 0
 ·refine ⟨S, D1, T.small, sm, ?_⟩
  rw [m_run (fn := Tryz.f45) (i0 := 0) rfl Tryz.func45 rfl rfl (by simp)]
  simp only [syS, syR] at e1 e2 ⊢
  simp -implicitDefEqProofs (maxSteps := 10000000) [own1, e1, e2, h3, w1, w2, w3, w4, -List.map_take]
 ·refine ⟨D1, S, sm, T.small, ?_⟩
  rw [m_run (fn := Tryz.f45) (i0 := 0) rfl Tryz.func45 rfl rfl (by simp)]
  simp only [syS, syR] at e1 e2 ⊢
  simp -implicitDefEqProofs (maxSteps := 10000000) [own1, e1, e2, h3, w1, w2, w3, w4, -List.map_take]
def H_fh (S S' : Sy) (p : Nat) : St := ⟨[(3, .ptr 256 [] 0), (4, .ptr 320 [] 0), (6, .c (.v (.int .i64 p)))], [(256, bxR 768 S), (320, bxR 772 S')] ++ (obR 768 S ++ obR 772 S')⟩
theorem forth_self {S : Sy} : forthB S S = sysB S := by
 unfold forthB
 have h1 : eqSS S.progs S.progs = true := by
  unfold eqSS
  rw [decide_eq_true rfl]
  refine allTo_to fun p hp => ?_
  unfold sameP eqN
  exact decide_eq_true rfl
 have h2 : allTo (begP S S) S.hist.length = true := allTo_to fun p hp => by
  unfold begP begB eqE
  rw [List.take_of_length_le (Nat.le_refl _)]
  simp
 rw [h1, h2]
 cases sysB S <;> rfl
theorem beg_len {xs ys : List Ev} (h : begB xs ys = true) : xs.length ≤ ys.length ∧ xs = ys.take xs.length := by
 unfold begB eqE at h
 rw [Bool.and_eq_true] at h
 exact ⟨of_decide_eq_true h.1, of_decide_eq_true h.2⟩
theorem forth_row {S S' : Sy} (h : forthB S S' = true) : S.hist.length = S'.hist.length ∧ ∀ p, p < S.hist.length → begB (rowH S.hist p) (rowH S'.hist p) = true := by
 unfold forthB at h
 simp only [Bool.and_eq_true] at h
 obtain ⟨h1, h2, h3, h4⟩ := h
 unfold eqSS at h3
 rw [Bool.and_eq_true] at h3
 have l := of_decide_eq_true h3.1
 exact ⟨by rw [(right_iff.1 h1).hi, (right_iff.1 h2).hi, l], fun p hp => allTo_of h4 p hp⟩
theorem forth_both {S S' : Sy} (h : forthB S S' = true) (h' : forthB S' S = true) : S'.hist = S.hist := by
 obtain ⟨l, r⟩ := forth_row h
 obtain ⟨_, r'⟩ := forth_row h'
 refine ext_all l.symm fun p hp => ?_
 have hp' : p < S.hist.length := by omega
 have b1 := beg_len (r p hp')
 have b2 := beg_len (r' p hp)
 rw [rowH_of hp, rowH_of hp'] at b1 b2
 rw [List.getElem?_eq_getElem hp, List.getElem?_eq_getElem hp']
 congr 1
 have e : S.hist[p].length = S'.hist[p].length := by omega
 rw [b2.2, ← e, List.take_of_length_le (Nat.le_refl _)]
theorem run_FnForth {j : Nat} (hj : big ≤ j ∧ j ≤ big + 700) (bs : List Int) (hb : bs.length ≤ 9223372036854775807) : M.run (j + 16) 7 [.c (.r 5 bs.length (octT bs))] = some ([.c (.v (.bool true))], [.c (.r 5 bs.length (octT bs))]) := by
 have e0 := run_big (j := j + 14) bs.length (octT bs) hb
 rw [m_run (fn := Tryz.f7) (i0 := 0) rfl Tryz.func7 rfl rfl (by simp)]
 by_cases h1 : 1048576 < bs.length
 ·rw [decide_eq_true h1] at e0
  simp -implicitDefEqProofs [own1, e0]
 rw [decide_eq_false h1] at e0
 obtain ⟨S, S', sm, sm', e1⟩ := run_drawForth (j := j + 1) (by omega) bs (by omega)
 have e2 := run_implForth (j := j + 4) (by omega) S S' sm sm'
 have e3 := run_specForth (j := j + 7) (by omega) S S' sm sm'
 have e4 := run_implForth (j := j + 4) (by omega) S S sm sm
 have e5 := run_specSys (j := j + 8) (by omega) S sm
 have e6 := run_implForth (j := j + 4) (by omega) S' S sm' sm
 rw [forth_self] at e4
 have hrow := fun h => forth_row (S := S) (S' := S') h
 have hboth := fun h h' => forth_both (S := S) (S' := S') h h'
 obtain ⟨w1, w2, w3, w4⟩ := takeS S
 obtain ⟨v1, v2, v3, v4⟩ := takeS S'
 cases hD : forthB S S'
 ·rw [hD] at e2 e3
  simp only [syS, syR] at e1 e2 e3 e4 e5 ⊢
  simp -implicitDefEqProofs (maxSteps := 10000000) [own1, e0, e1, e2, e3, e4, e5, w1, w2, w3, w4, v1, v2, v3, v4, -List.map_take]
 rw [hD] at e2 e3
 obtain ⟨lh, hr⟩ := hrow hD
 have b4 := sm.hist
 have e7 := fun h => run_sameHist (j := j + 13) (by omega) S S' sm (hboth hD h)
 simp only [syS, syR] at e1 e2 e3 e4 e5 e6 e7
 simp -implicitDefEqProofs (maxSteps := 10000000) [own1, e0, e1, e2, e3, e4, e5, w1, w2, w3, w4, v1, v2, v3, v4, -List.map_take]
 rw [loop_then (H_fh S S') S.hist.length (by simp -implicitDefEqProofs [H_fh, bxR, obR, hint1]) (by simp [big] at hj; omega) (fun p hp => by
  have hp' : p < S'.hist.length := by omega
  have b1 := (beg_len (hr p hp)).1
  rw [rowH_of hp, rowH_of hp'] at b1
  have b1 : ¬ S'.hist[p].length < S.hist[p].length := by omega
  have wp := w64 (x := (p : Int) + 1) (by omega)
  simp -implicitDefEqProofs (maxSteps := 10000000) [H_fh, bxR, obR, hint1, own1, hp, hp', sEvent_at hp, sEvent_at hp', sEvent, b1, wp])]
 cases hE : forthB S' S
 ·rw [hE] at e6
  simp -implicitDefEqProofs (maxSteps := 10000000) [H_fh, bxR, obR, own1, e6, w1, w2, w3, w4, v1, v2, v3, v4, -List.map_take]
 ·rw [hE] at e6
  have e7 := e7 hE
  simp -implicitDefEqProofs (maxSteps := 10000000) [H_fh, bxR, obR, own1, e6, e7, w1, w2, w3, w4, v1, v2, v3, v4, -List.map_take]
theorem law_FnForth (bs : List Int) (hb : (∀ n ∈ bs, 0 ≤ n ∧ n ≤ 255) ∧ bs.length ≤ maxLen) : ∃ k xs, M.run k 7 [.c (.r 5 bs.length (octT bs))] = some ([.c (.v (.bool true))], xs) :=
 ⟨_, _, run_FnForth (j := big) (by omega) bs (by have := hb.2; unfold maxLen at this; omega)⟩
end Go.Proofs.YtkgkbkpgpbpjhaaGreat.VM
