/- Fair rounds: reckoned; the law FnExactFair. -/
import Derived.Test.YtninncdacekfgaaK22
import Derived.Test.YtninncdacekfgaaK21
/- Fair rounds: reckoned. -/
namespace Go.Proofs.Ytninncdacekfgaa.VM
open Go Go.Proofs
set_option linter.unusedSimpArgs false
set_option linter.unusedVariables false
set_option maxRecDepth 100000
set_option maxHeartbeats 40000000
def fairP (x : Sy × Int) (p : Nat) : Sy × Int := if (readyF x.1 p).length = 0 then x else ((stepF x.1 p ((readyF x.1 p).headD 0)).1, x.2 + 1)
def fairI (x : Sy × Int) : Nat → Sy × Int
 | 0 => x
 | k + 1 => fairP (fairI x k) k
def fairN (s : Sy) : Nat → Sy × Int
 | 0 => (s, 0)
 | k + 1 => fairI (fairN s k) s.progs.length
theorem stepF_progs (s : Sy) (p q : Int) : (stepF s p q).1.progs = s.progs := by
 unfold stepF
 split <;> rfl
structure FairOk (s : Sy) (n : Int) (x : Sy × Int) : Prop where
 r : Right x.1
 p : x.1.progs = s.progs
 lo : 0 ≤ x.2
 hi : x.2 ≤ n
theorem FairOk.step {s : Sy} {n : Int} {x : Sy × Int} (h : FairOk s n x) (p : Nat) : FairOk s (n + 1) (fairP x p) := by
 unfold fairP
 split
 ·exact ⟨h.r, h.p, h.lo, by have := h.hi; omega⟩
 ·exact ⟨step_right h.r _ _, (stepF_progs _ _ _).trans h.p, by have := h.lo; show 0 ≤ x.2 + 1; omega, by have := h.hi; show x.2 + 1 ≤ n + 1; omega⟩
theorem fairI_ok {s : Sy} {n : Int} {x : Sy × Int} (h : FairOk s n x) : ∀ k : Nat, FairOk s (n + k) (fairI x k)
 | 0 => by have := h; simpa [fairI] using this
 | k + 1 => by
  have := (fairI_ok h k).step k
  rw [fairI, show n + ((k + 1 : Nat) : Int) = n + k + 1 by omega]
  exact this
theorem fairN_ok {s : Sy} (R : Right s) : ∀ k : Nat, FairOk s ((k * 4 : Nat) : Int) (fairN s k)
 | 0 => ⟨R, rfl, Int.le_refl _, by simp [fairN]⟩
 | k + 1 => by
  have h := fairI_ok (fairN_ok R k) s.progs.length
  have n4 := R.n4
  exact ⟨h.r, h.p, h.lo, by have := h.hi; rw [fairN]; omega⟩
def fairK (r : Int) : Nat := (min r 60).toNat
noncomputable def fairF (s : Sy) (r : Int) : Sy × Int := if sysB s = true then fairN s (fairK r) else (zSy, 0)
def bxB (b : Nat) (s : Sy) : Obj := ⟨.box, 45, [.l b [] 0 s.progs.length, .l (b + 1) [] 0 s.states.length, .l (b + 2) [] 0 s.ways.length, .l (b + 3) [] 0 s.hist.length]⟩
def obB (b : Nat) (s : Sy) : List (Nat × Obj) := [(b, ⟨.own, 24, s.progs.map (sIns 40)⟩), (b + 1, ⟨.own, 27, ssT s.states⟩), (b + 2, ⟨.own, 92, s.ways.map (sItem 100)⟩), (b + 3, ⟨.own, 54, s.hist.map (sEvent 29)⟩)]
def H_fo (s : Sy) (x : Sy × Int) (N i : Nat) : St := ⟨[(4, .ptr 320 [] 0), (6, .ptr 448 [] 0), (7, .c (.v (.int .i64 x.2))), (18, .c (.v (.int .i64 N))), (19, .c (.v (.int .i64 i)))], sysO s ++ ([(320, zBox), (448, bxB 1024 x.1)] ++ obB 1024 x.1)⟩
def H_fi (s : Sy) (x : Sy × Int) (N i p : Nat) : St := ⟨[(4, .ptr 320 [] 0), (6, .ptr 448 [] 0), (7, .c (.v (.int .i64 x.2))), (18, .c (.v (.int .i64 N))), (19, .c (.v (.int .i64 i))), (23, .c (.v (.int .i64 s.progs.length))), (24, .c (.v (.int .i64 p)))], sysO s ++ ([(320, zBox), (448, bxB 1024 x.1)] ++ obB 1024 x.1)⟩
def H_so (s : Sy) (x : Sy × Int) (r : Int) (i : Nat) : St := ⟨[(1, .c (.v (.int .i64 r))), (2, .ptr 192 [] 0), (4, .ptr 320 [] 0), (6, .ptr 448 [] 0), (7, .c (.v (.int .i64 x.2))), (8, .c (.v (.int .i64 i)))], sysO s ++ ([(192, sysX s), (320, zBox), (448, bxB 1088 x.1)] ++ obB 1088 x.1)⟩
def H_si (s : Sy) (x : Sy × Int) (r : Int) (i p : Nat) : St := ⟨[(1, .c (.v (.int .i64 r))), (2, .ptr 192 [] 0), (4, .ptr 320 [] 0), (6, .ptr 448 [] 0), (7, .c (.v (.int .i64 x.2))), (8, .c (.v (.int .i64 i))), (9, .c (.v (.int .i64 p)))], sysO s ++ ([(192, sysX s), (320, zBox), (448, bxB 1088 x.1)] ++ obB 1088 x.1)⟩
theorem run_implFair {j : Nat} (hj : big ≤ j) (s : Sy) (h : Small s) (r : Int) : M.run (j + 11) 16 [.agg (syR s), .c (.v (.int .i64 r))] = some ([.agg (syS (fairF s r).1), .c (.v (.int .i64 (fairF s r).2))], [.agg (syR s), .c (.v (.int .i64 r))]) := by
 have e1 := run_implSysOk hj s h
 have e2 := run_cloneSysG (j := j + 7) (by omega) s h
 have w1 : ∀ l : List (List Ins), (l.map (sIns 40)).take l.length = l.map (sIns 40) := fun l => List.take_of_length_le (by simp)
 have w2 : ∀ l : List Sta, (ssT l).take (l.length * 4) = ssT l := fun l => List.take_of_length_le (by rw [ssT_len]; exact Nat.le_refl _)
 have w3 : ∀ l : List (List Itm), (l.map (sItem 100)).take l.length = l.map (sItem 100) := fun l => List.take_of_length_le (by simp)
 have w4 : ∀ l : List (List Ev), (l.map (sEvent 29)).take l.length = l.map (sEvent 29) := fun l => List.take_of_length_le (by simp)
 rw [m_run (fn := Try.f16) (i0 := 0) rfl Try.func16 rfl rfl (by simp [syR])]
 unfold fairF
 cases hb : sysB s
 ·rw [hb] at e1
  simp only [syR, syS] at e1 ⊢
  simp -implicitDefEqProofs [own1, e1, zSy]
 rw [hb] at e1
 rw [if_pos rfl]
 have R := right_iff.1 hb
 have n4 := R.n4
 have n1 := R.n1
 simp only [syR, syS] at e1 e2 ⊢
 have hK : fairK r ≤ 60 := by unfold fairK; omega
 have hm : (if (if 60 < r then (60 : Int) else r) < 0 then 0 else (if 60 < r then 60 else r)) = (fairK r : Int) := by unfold fairK; split <;> split <;> omega
 have hm' : (if (0 : Int) < (if 60 < r then (60 : Int) else r) then (if 60 < r then 60 else r) else 0) = (fairK r : Int) := by unfold fairK; split <;> split <;> omega
 generalize fairK r = K at *
 simp -implicitDefEqProofs [own1, e1, e2, hm, hm']
 rw [loop_then (fun i => H_fo s (fairN s i) K i) K (by simp -implicitDefEqProofs [H_fo, bxB, obB, sysO, sysX, zBox, hint1, fairN]) (by simp [big] at hj; omega) (fun i hi => by
  have F := fairN_ok R i
  rw [fairN]
  have hp : (fairN s i).1.progs.length = s.progs.length := by rw [F.p]
  simp -implicitDefEqProofs [H_fo, bxB, obB, sysO, sysX, zBox, hint1, hi, hp]
  rw [loop_then (fun p => H_fi s (fairI (fairN s i) p) K i p) s.progs.length (by simp -implicitDefEqProofs [H_fi, bxB, obB, sysO, sysX, zBox, hint1, fairI, hp]) (by simp [big] at hj; omega) (fun p hp' => by
   have G := fairI_ok F p
   rw [fairI]
   unfold fairP
   generalize fairI (fairN s i) p = X at *
   obtain ⟨S, c⟩ := X
   have g1 := G.lo
   have g2 := G.hi
   have e3 := run_ready (j := j + 3) (by omega) S G.r p
   have e4 := fun q : Int => run_step (j := j + 3) (by omega) S G.r p q
   have e5 := readyF_len G.r (p : Int)
   simp only at g1 g2 e3 e4 e5 ⊢
   generalize readyF S p = D at *
   rcases D with _ | ⟨a, D⟩
   ·simp only [syR, syS] at e3
    simp -implicitDefEqProofs at e3
    simp -implicitDefEqProofs [H_fi, bxB, obB, sysO, sysX, zBox, hint1, hp', own1, e3, w1, w2, w3, w4, w64 (x := (p : Int) + 1) (by omega), -List.map_take]
   ·have e4 := e4 a
    rw [show (a :: D).headD 0 = a from rfl]
    generalize stepF S p a = Y at *
    obtain ⟨S', y⟩ := Y
    simp only [syR, syS] at e3 e4
    simp -implicitDefEqProofs at e3
    have ic : ints (a :: D) = .v (.int .i64 a) :: ints D := rfl
    have hl : D.length ≤ 4 := by simp at e5; omega
    simp -implicitDefEqProofs [H_fi, bxB, obB, sysO, sysX, zBox, hint1, hp', own1, e3, e4, ic, show (0 : Int) < (D.length : Int) + 1 by omega, w1, w2, w3, w4, w64 (x := (p : Int) + 1) (by omega), w64 (x := c + 1) (by omega), -List.map_take])]
  generalize fairI (fairN s i) s.progs.length = X at *
  simp -implicitDefEqProofs [H_fi, H_fo, bxB, obB, sysO, sysX, zBox, hint1, w64 (x := (i : Int) + 1) (by omega)])]
 generalize fairN s K = X at *
 obtain ⟨S, c⟩ := X
 simp -implicitDefEqProofs [H_fo, bxB, obB, sysO, sysX, zBox, w1, w2, w3, w4, -List.map_take]
end Go.Proofs.Ytninncdacekfgaa.VM

/- The law FnExactFair, reckoned. -/
namespace Go.Proofs.Ytninncdacekfgaa.VM
open Go Go.Proofs
set_option linter.unusedSimpArgs false
set_option linter.unusedVariables false
set_option maxRecDepth 100000
set_option maxHeartbeats 40000000
theorem fairF_small (s : Sy) (h : Small s) (r : Int) : Small (fairF s r).1 := by
 unfold fairF
 split
 ·rename_i hq
  exact (fairN_ok (right_iff.1 hq) _).r.small
 ·exact zSy_small
end Go.Proofs.Ytninncdacekfgaa.VM
