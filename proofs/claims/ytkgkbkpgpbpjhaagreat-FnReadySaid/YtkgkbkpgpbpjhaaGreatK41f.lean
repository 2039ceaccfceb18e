/- The law FnReady. -/
import Derived.Test.YtkgkbkpgpbpjhaaGreatK37f
import Derived.Test.YtkgkbkpgpbpjhaaGreatK23f
import Derived.Test.YtkgkbkpgpbpjhaaGreatK21f
import Derived.Test.YtkgkbkpgpbpjhaaGreatK39f
set_option linter.unusedSimpArgs false
set_option linter.unusedVariables false
set_option maxRecDepth 100000
set_option maxHeartbeats 40000000
namespace Go.Proofs.YtkgkbkpgpbpjhaaGreat.VM
open Go Go.Proofs
theorem run_drawHalted {j : Nat} (hj : big ≤ j ∧ j ≤ big + 800) (bs : List Int) (hb : bs.length ≤ 1048576) : ∃ S : Sy, Tiny S ∧ M.run (j + 13) 35 [.c (.r 5 bs.length (octT bs))] = some ([.agg (syS S)], [.c (.r 5 bs.length (octT bs))]) := by
 have e0 := run_new (j := j + 11) hb
 have k0 := new_cur hb
 generalize hashK bs (min bs.length 4000) = h0 at *
 obtain ⟨S, i1, h1, k1, T, e1⟩ := drawSys_ex k0 hb
 obtain ⟨b, i2, h2, k2, e2⟩ := once_ex k1 2
 have e1 := e1 j hj
 have e2 := e2 (j + 9)
 obtain ⟨w1, w2, w3, w4⟩ := takeS S
 cases b
 ·refine ⟨S, T, ?_⟩
  rw [m_run (fn := Tryz.f35) (i0 := 0) rfl Tryz.func35 rfl rfl (by simp)]
  simp only [curT, z0, syS] at e1 e2 ⊢
  simp -implicitDefEqProofs (maxSteps := 10000000) [own1, St.make, maker, e0, e1, e2, w1, w2, w3, w4, -List.map_take]
 ·have e3 := run_specSys (j := j + 5) (by omega) S T.small
  cases hq : sysB S
  ·rw [hq] at e3
   refine ⟨S, T, ?_⟩
   rw [m_run (fn := Tryz.f35) (i0 := 0) rfl Tryz.func35 rfl rfl (by simp)]
   simp only [curT, z0, syS, syR] at e1 e2 e3 ⊢
   simp -implicitDefEqProofs (maxSteps := 10000000) [own1, St.make, maker, e0, e1, e2, e3, w1, w2, w3, w4, -List.map_take]
  ·rw [hq] at e3
   have e4 := run_specFair (j := j + 4) (by omega) S T.small 30
   have T' : Tiny (fairF S 30).1 := by
    unfold fairF
    rw [if_pos hq]
    exact (fairN_ok (right_iff.1 hq) _).r.tiny
   refine ⟨(fairF S 30).1, T', ?_⟩
   rw [m_run (fn := Tryz.f35) (i0 := 0) rfl Tryz.func35 rfl rfl (by simp)]
   generalize fairF S 30 = D at *
   obtain ⟨S', c⟩ := D
   simp only [curT, z0, syS, syR] at e1 e2 e3 e4 ⊢
   simp -implicitDefEqProofs (maxSteps := 10000000) [own1, St.make, maker, e0, e1, e2, e3, e4, w1, w2, w3, w4, -List.map_take]
end Go.Proofs.YtkgkbkpgpbpjhaaGreat.VM
namespace Go.Proofs.YtkgkbkpgpbpjhaaGreat.VM
open Go Go.Proofs
theorem mem_rdy {s : Sy} {m : Nat} {x : Int} : ∀ {k : Nat}, x ∈ rdy s m k ↔ ∃ i : Nat, i < k ∧ x = i ∧ (comeF s m i).2 = 0
 | 0 => by simp [rdy]
 | k + 1 => by
  have ih := mem_rdy (s := s) (m := m) (x := x) (k := k)
  unfold rdy
  by_cases h : (comeF s m k).2 = 0
  ·rw [if_pos h, List.mem_append, ih]
   constructor
   ·rintro (⟨i, h1, h2, h3⟩ | h1)
    ·exact ⟨i, by omega, h2, h3⟩
    ·exact ⟨k, by omega, by simpa using h1, h⟩
   ·rintro ⟨i, h1, h2, h3⟩
    rcases Nat.lt_or_ge i k with h' | h'
    ·exact .inl ⟨i, h', h2, h3⟩
    ·have : i = k := by omega
     subst this
     exact .inr (by simp [h2])
  ·rw [if_neg h, ih]
   constructor
   ·rintro ⟨i, h1, h2, h3⟩
    exact ⟨i, by omega, h2, h3⟩
   ·rintro ⟨i, h1, h2, h3⟩
    rcases Nat.lt_or_ge i k with h' | h'
    ·exact ⟨i, h', h2, h3⟩
    ·have : i = k := by omega
     subst this
     exact absurd h3 h
theorem come_same {s : Sy} {m : Nat} (h : ¬ ((insAtN s m).op = 7 ∧ (insAtN s m).n = 9)) (q r : Int) : comeF s m q = comeF s m r := by
 unfold comeF
 split
 ·rfl
 rw [Int.toNat_natCast]
 unfold comeN
 have hw : (wantE s m).kind = 3 → (wantE s m).peer ≠ 9 := by
  intro h3
  have e : wantE s m = nextE (insAtN s m) (stOf s m).regs := rfl
  rcases want_kind (insAtN s m) (stOf s m).regs with ⟨a, b⟩ | ⟨a, b⟩ | ⟨a, b⟩
  ·rw [e, b] at h3
   simp at h3
  ·rw [e, b]
   exact fun hn => h ⟨a, hn⟩
  ·rw [e] at h3
   exact absurd h3 b
 by_cases h3 : (wantE s m).kind = 3
 ·have := hw h3
  simp only [if_neg this]
 ·simp only [if_neg h3]
theorem come_out {s : Sy} {m : Nat} {q : Nat} (h : (insAtN s m).op = 7 ∧ (insAtN s m).n = 9) (hq : s.progs.length ≤ q) : (comeF s m q).2 ≠ 0 := by
 unfold comeF
 split
 ·simp
 rw [Int.toNat_natCast]
 unfold comeN
 have e : wantE s m = ⟨3, 9, 0⟩ := by
  show nextE (insAtN s m) (stOf s m).regs = _
  unfold nextE
  rw [if_neg (by rw [h.1]; decide), if_pos h.1, h.2]
 rw [e]
 split
 ·simp
 split
 ·simp
 simp only [if_neg (show ¬ (3 : Int) = 2 by decide), if_true]
 unfold takeN
 rw [if_pos (by simp [inB]; omega)]
 simp
theorem ready_iff {s : Sy} (R : Right s) (p : Int) : (∀ q : Nat, (q : Int) ∈ readyF s p → (stepF s p q).2 = 0) ∧ ((∃ q : Nat, q < 4 ∧ (stepF s p q).2 = 0) ↔ 0 < (readyF s p).length) := by
 have n4 := R.n4
 have n1 := R.n1
 unfold readyF
 cases hp : inB p 0 ((s.progs.length : Int) - 1)
 ·rw [if_pos rfl]
  refine ⟨fun q hq => by simp at hq, ⟨?_, fun h => by simp at h⟩⟩
  rintro ⟨q, _, h⟩
  rw [stepF_code] at h
  unfold comeF at h
  rw [if_pos hp] at h
  simp at h
 ·obtain ⟨m, rfl, hm⟩ := inB_nat hp
  rw [if_neg (by simp), Int.toNat_natCast]
  refine ⟨fun q hq => ?_, ⟨?_, fun h => ?_⟩⟩
  ·obtain ⟨i, _, h2, h3⟩ := mem_rdy.1 hq
   rw [stepF_code, h2]
   exact h3
  ·rintro ⟨q, hq, h⟩
   rw [stepF_code] at h
   by_cases hA : (insAtN s m).op = 7 ∧ (insAtN s m).n = 9
   ·have hql : q < s.progs.length := by
     rcases Nat.lt_or_ge q s.progs.length with h' | h'
     ·exact h'
     ·exact absurd h (come_out hA h')
    have hu : upN s m = s.progs.length - 1 := if_pos hA
    exact List.length_pos_of_mem (mem_rdy.2 ⟨q, by omega, rfl, h⟩)
   ·have hu : upN s m = 0 := if_neg hA
    rw [come_same hA _ ((0 : Nat) : Int)] at h
    exact List.length_pos_of_mem (mem_rdy.2 ⟨0, by omega, rfl, h⟩)
  ·obtain ⟨x, hx⟩ := List.exists_mem_of_length_pos h
   obtain ⟨i, h1, h2, h3⟩ := mem_rdy.1 hx
   refine ⟨i, ?_, ?_⟩
   ·have : upN s m ≤ 3 := by
     unfold upN
     split <;> omega
    omega
   ·rw [stepF_code]
    exact h3
theorem halt_ready {s : Sy} (h : haltF s = true) (p : Int) : (readyF s p).length = 0 := by
 unfold haltF at h
 rw [Bool.and_eq_true] at h
 cases hp : inB p 0 ((s.progs.length : Int) - 1)
 ·unfold readyF
  rw [if_pos hp]
  rfl
 ·obtain ⟨m, rfl, hm⟩ := inB_nat hp
  exact of_decide_eq_true (allTo_of h.2 m hm)
end Go.Proofs.YtkgkbkpgpbpjhaaGreat.VM
namespace Go.Proofs.YtkgkbkpgpbpjhaaGreat.VM
open Go Go.Proofs
noncomputable def hasI (xs : List Int) (x : Int) : Bool := !allTo (fun i => !((xs[i]?).getD 0 == x)) xs.length
theorem hasI_iff {xs : List Int} {x : Int} : hasI xs x = true ↔ x ∈ xs := by
 unfold hasI
 constructor
 ·intro h
  rcases allTo_or' (fun i => !((xs[i]?).getD 0 == x)) xs.length with h' | ⟨m, hm, hb, _⟩
  ·rw [allTo_to h'] at h
   simp at h
  ·rw [List.getElem?_eq_getElem hm] at hb
   simp at hb
   rw [← hb]
   exact List.getElem_mem hm
 ·intro h
  obtain ⟨i, hi, rfl⟩ := List.getElem_of_mem h
  cases hq : allTo (fun k => !((xs[k]?).getD 0 == xs[i])) xs.length
  ·rfl
  ·have := allTo_of hq i hi
   rw [List.getElem?_eq_getElem hi] at this
   simp at this
def H_wi (xs : List Int) (x : Int) (i : Nat) : St := ⟨[(0, .c (.sl 0 [] 0 xs.length)), (1, .c (.v (.int .i64 x))), (5, .c (.v (.int .i64 i)))], [(0, ⟨.ro, 3, ints xs⟩)]⟩
theorem run_within {j : Nat} (hj : big ≤ j) (xs : List Int) (x : Int) (hl : xs.length ≤ 1048576) : M.run (j + 1) 37 [.c (.r 3 xs.length (ints xs)), .c (.v (.int .i64 x))] = some ([.c (.v (.bool (hasI xs x)))], [.c (.r 3 xs.length (ints xs)), .c (.v (.int .i64 x))]) := by
 rw [m_run (fn := Tryz.f37) (i0 := 0) rfl Tryz.func37 rfl rfl (by simp)]
 simp -implicitDefEqProofs
 unfold hasI
 obtain ⟨N, hN, hg, hN'⟩ := firstN (fun i => !((xs[i]?).getD 0 == x)) xs.length
 rw [loop_then (H_wi xs x) N (by simp -implicitDefEqProofs [H_wi, hint1]) (by simp [big] at hj; omega) (fun i hi => by
  have h1 : i < xs.length := by omega
  have g := hg i hi
  rw [List.getElem?_eq_getElem h1] at g
  simp at g
  simp -implicitDefEqProofs [H_wi, hint1, h1, g, ints, w64 (x := (i : Int) + 1) (by omega)])]
 rcases hN' with ⟨hN', hall⟩ | ⟨hlt, hbad, hall⟩
 ·rw [hall, hN']
  simp -implicitDefEqProofs [H_wi]
 ·rw [hall]
  rw [List.getElem?_eq_getElem hlt] at hbad
  simp at hbad
  simp -implicitDefEqProofs [H_wi, hlt, hbad, ints]
theorem ready_law {S : Sy} (p : Int) : (∀ q : Nat, (q : Int) ∈ readyI S p → (stepR S p q).2 = 0) ∧ ((∃ q : Nat, q < 4 ∧ (stepR S p q).2 = 0) ↔ 0 < (readyI S p).length) := by
 unfold readyI stepR
 by_cases h : sysB S = true
 ·rw [if_pos h]
  simp only [if_pos h]
  exact ready_iff (right_iff.1 h) p
 ·rw [if_neg h]
  simp only [if_neg h]
  exact ⟨fun q hq => by simp at hq, ⟨fun ⟨q, _, h⟩ => by simp at h, fun h => by simp at h⟩⟩
noncomputable def smB (S : Sy) (p : Int) : Nat → Bool
 | 0 => false
 | k + 1 => smB S p k || decide ((stepR S p k).2 = 0)
theorem smB_iff {S : Sy} {p : Int} : ∀ {k : Nat}, smB S p k = true ↔ ∃ q : Nat, q < k ∧ (stepR S p q).2 = 0
 | 0 => by simp [smB]
 | k + 1 => by
  unfold smB
  rw [Bool.or_eq_true, smB_iff, decide_eq_true_eq]
  constructor
  ·rintro (⟨q, h1, h2⟩ | h)
   ·exact ⟨q, by omega, h2⟩
   ·exact ⟨k, by omega, h⟩
  ·rintro ⟨q, h1, h2⟩
   rcases Nat.lt_or_ge q k with h' | h'
   ·exact .inl ⟨q, h', h2⟩
   ·have : q = k := by omega
    subst this
    exact .inr h2
def H_ry (S : Sy) (L : List Int) (p : Int) (b : Bool) (k : Nat) : St := ⟨[(3, .ptr 256 [] 0), (4, .c (.v (.int .i64 p))), (5, .c (.sl 1408 [] 0 L.length)), (8, .c (.v (.bool b))), (9, .c (.v (.int .i64 k)))], (256, bxR 1088 S) :: (obR 1088 S ++ [(1408, ⟨.own, 3, ints L⟩)])⟩
theorem run_FnReady {j : Nat} (hj : big ≤ j ∧ j ≤ big + 700) (bs : List Int) (hb : bs.length ≤ 9223372036854775807) : M.run (j + 15) 5 [.c (.r 5 bs.length (octT bs))] = some ([.c (.v (.bool true))], [.c (.r 5 bs.length (octT bs))]) := by
 have e0 := run_big (j := j + 13) bs.length (octT bs) hb
 rw [m_run (fn := Tryz.f5) (i0 := 0) rfl Tryz.func5 rfl rfl (by simp)]
 by_cases h1 : 1048576 < bs.length
 ·rw [decide_eq_true h1] at e0
  simp -implicitDefEqProofs [own1, e0]
 rw [decide_eq_false h1] at e0
 obtain ⟨S, p, T, e1⟩ := run_drawReady (j := j + 1) (by omega) bs (by omega)
 obtain ⟨S', T', e6⟩ := run_drawHalted (j := j + 1) (by omega) bs (by omega)
 have e2 := run_implReady (j := j + 3) (by omega) S T.small p
 have e3 := run_specReady (j := j + 6) (by omega) S T.small p
 have e5 := run_implHalted (j := j + 3) (by omega) S T.small
 have e7 := run_implHalted (j := j + 3) (by omega) S' T'.small
 have e8 := run_specHalted (j := j + 6) (by omega) S' T'.small
 have e9 := fun k : Nat => run_implStep (j := j + 3) (by omega) S T.small p k
 have hl := readyI_len (S := S) p
 obtain ⟨L1, L2⟩ := ready_law (S := S) p
 rw [← smB_iff] at L2
 have hh : haltF S = true → (readyI S p).length = 0 := fun h => by
  have h2 := halt_ready h p
  unfold readyI
  split
  ·exact h2
  ·rfl
 have e4 := run_sameInts (j := j + 13) (by omega) (readyI S p) (by omega)
 have e10 := fun k : Int => run_within (j := j + 13) (by omega) (readyI S p) k (by omega)
 generalize readyI S p = L at *
 generalize haltF S' = hb' at *
 obtain ⟨w1, w2, w3, w4⟩ := takeS S
 obtain ⟨u1, u2, u3, u4⟩ := takeS S'
 have tk : (ints L).take L.length = ints L := List.take_of_length_le (by simp)
 simp only [syS, syR] at e1 e2 e3 e5 e6 e7 e8 e9
 have hgo : (haltF S && decide (0 < (L.length : Int))) = false := by
  cases hq : haltF S
  ·rfl
  ·have := hh hq
   rw [this]
   rfl
 have fin : smB S p 4 = decide (0 < (L.length : Int)) := by
  rw [Bool.eq_iff_iff, L2, decide_eq_true_eq]
  omega
 cases hq : haltF S
 ·rw [hq] at e5
  simp -implicitDefEqProofs (maxSteps := 10000000) [own1, e0, e1, e2, e3, e4, e5, e6, e7, e8, tk, w1, w2, w3, w4, u1, u2, u3, u4, -List.map_take]
  rw [loop_then (fun k => H_ry S L p (smB S p k) k) 4 (by simp -implicitDefEqProofs [H_ry, bxR, obR, hint1, smB]) (by simp [big] at hj; omega) (fun k hk => by
   have e9 := e9 k
   have e10 := e10 k
   have L1 := L1 k
   rw [smB]
   generalize stepR S p k = D at *
   obtain ⟨S2, c⟩ := D
   simp only at e9 L1 ⊢
   obtain ⟨v1, v2, v3, v4⟩ := takeS S2
   rw [show hasI L k = decide ((k : Int) ∈ L) by rw [Bool.eq_iff_iff, hasI_iff, decide_eq_true_eq]] at e10
   by_cases hm : (k : Int) ∈ L
   ·have hc := L1 hm
    subst hc
    cases smB S p k <;>
    simp -implicitDefEqProofs (maxSteps := 10000000) [H_ry, bxR, obR, hint1, hk, own1, e9, e10, hm, tk, w1, w2, w3, w4, v1, v2, v3, v4, show (k : Int) < 4 by omega, w64 (x := (k : Int) + 1) (by omega), -List.map_take]
   ·by_cases hc : c = 0
    ·subst hc
     cases smB S p k <;>
     simp -implicitDefEqProofs (maxSteps := 10000000) [H_ry, bxR, obR, hint1, hk, own1, e9, e10, hm, tk, w1, w2, w3, w4, v1, v2, v3, v4, show (k : Int) < 4 by omega, w64 (x := (k : Int) + 1) (by omega), -List.map_take]
    ·cases smB S p k <;>
     simp -implicitDefEqProofs (maxSteps := 10000000) [H_ry, bxR, obR, hint1, hk, own1, e9, e10, hm, hc, tk, w1, w2, w3, w4, v1, v2, v3, v4, show (k : Int) < 4 by omega, w64 (x := (k : Int) + 1) (by omega), -List.map_take])]
  rw [fin]
  simp -implicitDefEqProofs (maxSteps := 10000000) [H_ry, bxR, obR, own1]
 ·have hz := hh hq
  have hz' : L = [] := List.eq_nil_of_length_eq_zero hz
  subst hz'
  rw [hq] at e5
  simp -implicitDefEqProofs [ints] at e2 e3 e4 e10
  simp -implicitDefEqProofs (maxSteps := 10000000) [own1, e0, e1, e2, e3, e4, e5, e6, e7, e8, tk, w1, w2, w3, w4, u1, u2, u3, u4, -List.map_take]
  rw [loop_then (fun k => H_ry S [] p (smB S p k) k) 4 (by simp -implicitDefEqProofs [H_ry, bxR, obR, hint1, smB, ints]) (by simp [big] at hj; omega) (fun k hk => by
   have e9 := e9 k
   have e10 := e10 k
   rw [smB]
   generalize stepR S p k = D at *
   obtain ⟨S2, c⟩ := D
   simp only at e9 ⊢
   obtain ⟨v1, v2, v3, v4⟩ := takeS S2
   rw [show hasI [] k = false by rfl] at e10
   by_cases hc : c = 0
   ·subst hc
    cases smB S p k <;>
    simp -implicitDefEqProofs (maxSteps := 10000000) [H_ry, bxR, obR, hint1, hk, own1, e9, e10, ints, w1, w2, w3, w4, v1, v2, v3, v4, show (k : Int) < 4 by omega, w64 (x := (k : Int) + 1) (by omega), -List.map_take]
   ·cases smB S p k <;>
    simp -implicitDefEqProofs (maxSteps := 10000000) [H_ry, bxR, obR, hint1, hk, own1, e9, e10, hc, ints, w1, w2, w3, w4, v1, v2, v3, v4, show (k : Int) < 4 by omega, w64 (x := (k : Int) + 1) (by omega), -List.map_take])]
  rw [fin]
  simp -implicitDefEqProofs (maxSteps := 10000000) [H_ry, bxR, obR, own1]
theorem law_FnReady (bs : List Int) (hb : (∀ n ∈ bs, 0 ≤ n ∧ n ≤ 255) ∧ bs.length ≤ maxLen) : ∃ k xs, M.run k 5 [.c (.r 5 bs.length (octT bs))] = some ([.c (.v (.bool true))], xs) :=
 ⟨_, _, run_FnReady (j := big) (by omega) bs (by have := hb.2; unfold maxLen at this; omega)⟩
end Go.Proofs.YtkgkbkpgpbpjhaaGreat.VM
