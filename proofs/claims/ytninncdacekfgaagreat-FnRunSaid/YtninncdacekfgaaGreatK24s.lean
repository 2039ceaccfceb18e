/- Picks; runs: reckoned; the law FnExactRun. -/
import Derived.Test.YtninncdacekfgaaGreatK16s
import Derived.Test.YtninncdacekfgaaGreatK22s
import Derived.Test.YtninncdacekfgaaGreatK20s
set_option linter.unusedSimpArgs false
set_option linter.unusedVariables false
set_option maxRecDepth 100000
set_option maxHeartbeats 40000000
namespace Go.Proofs.YtninncdacekfgaaGreat.VM
open Go Go.Proofs
structure Pk where
 p : Int
 peer : Int
def tPk (x : Pk) : List T := [.v (.int .i64 x.p), .v (.int .i64 x.peer)]
def pkT (l : List Pk) : List T := l.flatMap tPk
theorem tPk_len (x : Pk) : (tPk x).length = 2 := rfl
@[simp] theorem pkT_len (l : List Pk) : (pkT l).length = l.length * 2 := fm_len tPk_len l
@[simp] theorem pkT_take (l : List Pk) (n : Nat) : (pkT l).take (n * 2) = pkT (l.take n) := fm_take tPk_len l n
@[simp] theorem pkT_drop (l : List Pk) (n : Nat) : (pkT l).drop (n * 2) = pkT (l.drop n) := fm_drop tPk_len l n
@[simp] theorem pkT_at {l : List Pk} {i : Nat} (hi : i < l.length) : (pkT (l.drop i)).take 2 = tPk l[i] := by rw [← pkT_drop]; exact fm_at tPk_len hi
@[simp] theorem pkT_v (l : List Pk) : allV (pkT l) = true := fm_v (fun _ => rfl) l
@[simp] theorem pkT_ros (l : List Pk) : ros (pkT l) = pkT l := fm_ros (fun _ => rfl) l
theorem pkT_0 {l : List Pk} {i : Nat} (hi : i < l.length) : (pkT l)[i * 2]? = some (.v (.int .i64 l[i].p)) := by
 have := fm_get (o := 0) tPk_len hi (by omega)
 exact this
theorem pkT_1 {l : List Pk} {i : Nat} (hi : i < l.length) : (pkT l)[i * 2 + 1]? = some (.v (.int .i64 l[i].peer)) := fm_get tPk_len hi (by omega)
def pkUp (k : Int) (n : Nat) : List Pk := (List.range n).map fun j : Nat => ⟨k + 2 * (j : Int), k + 2 * (j : Int) + 1⟩
@[simp] theorem pkUp_len (k : Int) (n : Nat) : (pkUp k n).length = n := by simp [pkUp]
@[simp] theorem pkUp_zero (k : Int) : pkUp k 0 = [] := rfl
end Go.Proofs.YtninncdacekfgaaGreat.VM
namespace Go.Proofs.YtninncdacekfgaaGreat.VM
open Go Go.Proofs
def pkAt (l : List Pk) (i : Nat) : Pk := (l[i]?).getD ⟨0, 0⟩
def runN (s : Sy) (l : List Pk) : Nat → Sy × List Int
 | 0 => (s, [])
 | k + 1 => ((stepF (runN s l k).1 (pkAt l k).p (pkAt l k).peer).1, (runN s l k).2 ++ [(stepF (runN s l k).1 (pkAt l k).p (pkAt l k).peer).2])
theorem runN_len (s : Sy) (l : List Pk) : ∀ k, (runN s l k).2.length = k
 | 0 => rfl
 | k + 1 => by simp [runN, runN_len s l k]
theorem runN_right {s : Sy} (R : Right s) (l : List Pk) : ∀ k, Right (runN s l k).1
 | 0 => R
 | k + 1 => step_right (runN_right R l k) _ _
noncomputable def runF (s : Sy) (l : List Pk) : Sy × List Int := if sysB s = true ∧ l.length ≤ 200 then runN s l l.length else (s, [])
def bx4 (s : Sy) : Obj := ⟨.box, 29, [.l 896 [] 0 s.progs.length, .l 897 [] 0 s.states.length, .l 898 [] 0 s.ways.length, .l 899 [] 0 s.hist.length]⟩
def ob4 (s : Sy) : List (Nat × Obj) := [(896, ⟨.own, 100, s.progs.map (sIns 105)⟩), (897, ⟨.own, 71, ssT s.states⟩), (898, ⟨.own, 97, s.ways.map (sItem 99)⟩), (899, ⟨.own, 68, s.hist.map (sEvent 96)⟩)]
def H_ri (s S : Sy) (c : List Int) (l : List Pk) (i : Nat) : St := ⟨[(4, .ptr 320 [] 0), (6, .ptr 448 [] 0), (7, .c (.sl 1536 [] 0 i)), (24, .c (.sl 4 [] 0 l.length)), (25, .c (.v (.int .i64 l.length))), (26, .c (.v (.int .i64 i)))], sysO s ++ ([(4, ⟨.ro, 62, pkT l⟩), (320, zBox), (448, bx4 S)] ++ (ob4 S ++ [(1536, ⟨.own, 3, ints c⟩)]))⟩
def H_rs (s S : Sy) (c : List Int) (l : List Pk) (i : Nat) : St := ⟨[(1, .c (.sl 4 [] 0 l.length)), (4, .ptr 320 [] 0), (6, .c (.sl 768 [] 0 i)), (7, .ptr 512 [] 0), (8, .c (.v (.int .i64 i)))], sysO s ++ ([(4, ⟨.ro, 62, pkT l⟩), (192, sysX s), (320, zBox), (512, bx4 S), (768, ⟨.own, 3, ints c⟩)] ++ ob4 S)⟩
theorem run_implRun {j : Nat} (hj : big ≤ j) (s : Sy) (h : Small s) (l : List Pk) : M.run (j + 11) 7 [.agg (syR s), .c (.r 62 l.length (pkT l))] = some ([.agg (syS (runF s l).1), .c (.s 3 (runF s l).2.length (ints (runF s l).2))], [.agg (syR s), .c (.r 62 l.length (pkT l))]) := by
 have e1 := run_implSysOk hj s h
 have e2 := run_cloneSysG (j := j + 7) (by omega) s h
 have w1 : ∀ l : List (List Ins), (l.map (sIns 105)).take l.length = l.map (sIns 105) := fun l => List.take_of_length_le (by simp)
 have w2 : ∀ l : List Sta, (ssT l).take (l.length * 4) = ssT l := fun l => List.take_of_length_le (by rw [ssT_len]; exact Nat.le_refl _)
 have w3 : ∀ l : List (List Itm), (l.map (sItem 99)).take l.length = l.map (sItem 99) := fun l => List.take_of_length_le (by simp)
 have w4 : ∀ l : List (List Ev), (l.map (sEvent 96)).take l.length = l.map (sEvent 96) := fun l => List.take_of_length_le (by simp)
 rw [m_run (fn := Tryz.f7) (i0 := 0) rfl Tryz.func7 rfl rfl (by simp [syR])]
 unfold runF
 simp only [syR, syS] at e1 e2 ⊢
 cases hb : sysB s
 ·rw [hb] at e1
  rw [if_neg (by simp)]
  simp -implicitDefEqProofs [own1, e1, e2, w1, w2, w3, w4, -List.map_take]
 rw [hb] at e1
 by_cases hl : l.length ≤ 200
 rotate_left
 ·rw [if_neg (by simp [hl])]
  simp -implicitDefEqProofs [own1, e1, e2, w1, w2, w3, w4, show 200 < l.length by omega, show (200 : Int) < l.length by omega, -List.map_take]
 rw [if_pos ⟨rfl, hl⟩]
 have R := right_iff.1 hb
 simp -implicitDefEqProofs [own1, e1, e2, show ¬ 200 < l.length by omega, show ¬ (200 : Int) < l.length by omega]
 rw [loop_then (fun i => H_ri s (runN s l i).1 (runN s l i).2 l i) l.length (by simp -implicitDefEqProofs [H_ri, ob4, bx4, sysO, sysX, zBox, hint1, runN]) (by simp [big] at hj; omega) (fun i hi => by
  have e3 := run_step (j := j + 3) (by omega) (runN s l i).1 (runN_right R l i) l[i].p l[i].peer
  have r0 : runN s l (i + 1) = ((stepF (runN s l i).1 l[i].p l[i].peer).1, (runN s l i).2 ++ [(stepF (runN s l i).1 l[i].p l[i].peer).2]) := by
   rw [runN]
   have : pkAt l i = l[i] := by unfold pkAt; rw [List.getElem?_eq_getElem hi]; rfl
   rw [this]
  have hc := runN_len s l i
  rw [r0]
  generalize (runN s l i).2 = C at *
  generalize (runN s l i).1 = S at *
  generalize stepF S l[i].p l[i].peer = D at *
  obtain ⟨S', c⟩ := D
  have tk : (ints C).take i = ints C := List.take_of_length_le (by simp [hc])
  simp only [syR, syS] at e3
  simp -implicitDefEqProofs [H_ri, ob4, bx4, sysO, sysX, zBox, hint1, hi, own1, e3, tPk, show i * 2 + 2 ≤ l.length * 2 by omega, tk, hc, le_most (n := i + 1) (by omega), ints_append, show ints [c] = [.v (.int .i64 c)] from rfl, w1, w2, w3, w4, w64 (x := (i : Int) + 1) (by omega), -List.map_take])]
 have hc := runN_len s l l.length
 generalize runN s l l.length = D at *
 obtain ⟨S, C⟩ := D
 simp only at hc ⊢
 have tk : (ints C).take l.length = ints C := List.take_of_length_le (by simp [hc])
 simp -implicitDefEqProofs [H_ri, ob4, bx4, sysO, sysX, zBox, hc, tk, w1, w2, w3, w4, -List.map_take]
theorem run_specRun {j : Nat} (hj : big ≤ j) (s : Sy) (h : Small s) (l : List Pk) : M.run (j + 9) 8 [.agg (syR s), .c (.r 62 l.length (pkT l))] = some ([.agg (syS (runF s l).1), .c (.s 3 (runF s l).2.length (ints (runF s l).2))], [.agg (syR s), .c (.r 62 l.length (pkT l))]) := by
 have e1 := run_specSys (j := j + 1) (by omega) s h
 have e2 := run_l4Copy (j := j + 6) (by omega) s h
 have w1 : ∀ l : List (List Ins), (l.map (sIns 105)).take l.length = l.map (sIns 105) := fun l => List.take_of_length_le (by simp)
 have w2 : ∀ l : List Sta, (ssT l).take (l.length * 4) = ssT l := fun l => List.take_of_length_le (by rw [ssT_len]; exact Nat.le_refl _)
 have w3 : ∀ l : List (List Itm), (l.map (sItem 99)).take l.length = l.map (sItem 99) := fun l => List.take_of_length_le (by simp)
 have w4 : ∀ l : List (List Ev), (l.map (sEvent 96)).take l.length = l.map (sEvent 96) := fun l => List.take_of_length_le (by simp)
 rw [m_run (fn := Tryz.f8) (i0 := 0) rfl Tryz.func8 rfl rfl (by simp [syR])]
 unfold runF
 simp only [syR, syS] at e1 e2 ⊢
 cases hb : sysB s
 ·rw [hb] at e1
  rw [if_neg (by simp)]
  simp -implicitDefEqProofs [own1, e1, e2, w1, w2, w3, w4, -List.map_take]
 rw [hb] at e1
 by_cases hl : l.length ≤ 200
 rotate_left
 ·rw [if_neg (by simp [hl])]
  simp -implicitDefEqProofs [own1, e1, e2, w1, w2, w3, w4, show 200 < l.length by omega, show (200 : Int) < l.length by omega, -List.map_take]
 rw [if_pos ⟨rfl, hl⟩]
 have R := right_iff.1 hb
 simp -implicitDefEqProofs [own1, e1, e2, show ¬ 200 < l.length by omega, show ¬ (200 : Int) < l.length by omega]
 rw [loop_then (fun i => H_rs s (runN s l i).1 (runN s l i).2 l i) l.length (by simp -implicitDefEqProofs [H_rs, ob4, bx4, sysO, sysX, zBox, hint1, runN]) (by simp [big] at hj; omega) (fun i hi => by
  have Ri := runN_right R l i
  have e3 := run_specStep (j := j) hj (runN s l i).1 Ri.small l[i].p l[i].peer
  have hR : stepR (runN s l i).1 l[i].p l[i].peer = stepF (runN s l i).1 l[i].p l[i].peer := if_pos (right_iff.2 Ri)
  rw [hR] at e3
  have hs : (stepF (runN s l i).1 l[i].p l[i].peer).2 ≠ 0 → (stepF (runN s l i).1 l[i].p l[i].peer).1 = (runN s l i).1 := by
   intro hn
   unfold stepF at hn ⊢
   split
   ·rename_i hc
    rw [if_pos hc] at hn
    exact absurd rfl hn
   ·rfl
  have r0 : runN s l (i + 1) = ((stepF (runN s l i).1 l[i].p l[i].peer).1, (runN s l i).2 ++ [(stepF (runN s l i).1 l[i].p l[i].peer).2]) := by
   rw [runN]
   have : pkAt l i = l[i] := by unfold pkAt; rw [List.getElem?_eq_getElem hi]; rfl
   rw [this]
  have hc := runN_len s l i
  have p0 := pkT_0 hi
  have p1 := pkT_1 hi
  rw [r0]
  generalize (runN s l i).2 = C at *
  generalize (runN s l i).1 = S at *
  generalize stepF S l[i].p l[i].peer = D at *
  obtain ⟨S', c⟩ := D
  have tk : (ints C).take i = ints C := List.take_of_length_le (by simp [hc])
  simp only at hs
  by_cases hz : c = 0
  ·subst hz
   simp only [syR, syS] at e3
   simp -implicitDefEqProofs [H_rs, ob4, bx4, sysO, sysX, zBox, hint1, hi, own1, e3, p0, p1, gq p0, gq p1, show i * 2 + 1 ≤ l.length * 2 by omega, show i * 2 + 1 + 1 ≤ l.length * 2 by omega, show i * 2 + 2 ≤ l.length * 2 by omega, tk, hc, le_most (n := i + 1) (by omega), ints_append, show ints [(0 : Int)] = [.v (.int .i64 0)] from rfl, w1, w2, w3, w4, w64 (x := (i : Int) + 1) (by omega), -List.map_take]
  ·have hS := hs hz
   subst hS
   simp only [syR, syS] at e3
   simp -implicitDefEqProofs [H_rs, ob4, bx4, sysO, sysX, zBox, hint1, hi, own1, e3, hz, p0, p1, gq p0, gq p1, show i * 2 + 1 ≤ l.length * 2 by omega, show i * 2 + 1 + 1 ≤ l.length * 2 by omega, show i * 2 + 2 ≤ l.length * 2 by omega, tk, hc, le_most (n := i + 1) (by omega), ints_append, show ints [c] = [.v (.int .i64 c)] from rfl, w1, w2, w3, w4, w64 (x := (i : Int) + 1) (by omega), -List.map_take])]
 have hc := runN_len s l l.length
 generalize runN s l l.length = D at *
 obtain ⟨S, C⟩ := D
 simp only at hc ⊢
 have tk : (ints C).take l.length = ints C := List.take_of_length_le (by simp [hc])
 simp -implicitDefEqProofs [H_rs, ob4, bx4, sysO, sysX, zBox, hc, tk, w1, w2, w3, w4, -List.map_take]
end Go.Proofs.YtninncdacekfgaaGreat.VM
namespace Go.Proofs.YtninncdacekfgaaGreat.VM
open Go Go.Proofs
theorem runF_small (s : Sy) (h : Small s) (l : List Pk) : Small (runF s l).1 := by
 unfold runF
 split
 ·rename_i hq
  exact (runN_right (right_iff.1 hq.1) l _).small
 ·exact h
theorem runF_len (s : Sy) (l : List Pk) : (runF s l).2.length ≤ 200 := by
 unfold runF
 split
 ·rename_i hq
  rw [runN_len]
  exact hq.2
 ·simp
end Go.Proofs.YtninncdacekfgaaGreat.VM
