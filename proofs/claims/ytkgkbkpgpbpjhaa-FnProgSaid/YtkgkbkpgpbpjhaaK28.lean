/- Programs drawn; the law FnProg. -/
import Derived.Test.YtkgkbkpgpbpjhaaK25
import Derived.Test.YtkgkbkpgpbpjhaaK26
/- The law FnProg, reckoned. -/
namespace Go.Proofs.Ytkgkbkpgpbpjhaa.VM
open Go Go.Proofs
set_option linter.unusedSimpArgs false
set_option linter.unusedVariables false
set_option maxRecDepth 100000
set_option maxHeartbeats 20000000
theorem run_drawProgOk {j : Nat} (hj : big ≤ j) (bs : List Int) (hb : bs.length ≤ 1048576) : ∃ (l : List Ins) (n : Int), progSm l ∧ (0 ≤ n ∧ n ≤ 5) ∧ M.run (j + 7) 11 [.c (.r 5 bs.length (octT bs))] = some ([.c (.s 29 l.length (insT l)), .c (.v (.int .i64 n))], [.c (.r 5 bs.length (octT bs))]) := by
 have e0 := run_new (j := j + 5) hb
 have k0 := new_cur hb
 generalize hashK bs (min bs.length 4000) = h0 at *
 obtain ⟨l, i1, h1, k1, p, e1⟩ := drawAny_ex k0
 have e1 := e1 j hj
 obtain ⟨n, i2, h2, k2, hn, e2⟩ := pick_ex k1 [3, 3, 3, 2, 4, 0, 5] (by simp)
 have e2 := e2 (j + 3)
 simp only [List.mem_cons, List.not_mem_nil, or_false] at hn
 have tk : (insT l).take (l.length * 5) = insT l := List.take_of_length_le (by simp)
 refine ⟨l, n, p, by omega, ?_⟩
 rw [m_run (fn := Try.f11) (i0 := 0) rfl Try.func11 rfl rfl (by simp)]
 simp only [curT, z0] at e1 e2 ⊢
 simp -implicitDefEqProofs [ints] at e2
 simp -implicitDefEqProofs [own1, St.make, maker, e0, e1, e2, ros, tk]
theorem run_drawInsOk {j : Nat} (hj : big ≤ j) (bs : List Int) (hb : bs.length ≤ 1048576) : ∃ (x : Ins) (p : Int), M.run (j + 5) 14 [.c (.r 5 bs.length (octT bs))] = some ([.agg (tIns x), .c (.v (.int .i64 8)), .c (.v (.int .i64 p))], [.c (.r 5 bs.length (octT bs))]) := by
 have e0 := run_new (j := j + 3) hb
 have k0 := new_cur hb
 generalize hashK bs (min bs.length 4000) = h0 at *
 obtain ⟨x, i1, h1, k1, sx, e1⟩ := drawIns_ex k0 8 3 (by omega) (by omega)
 have e1 := e1 j
 obtain ⟨b, i2, h2, k2, e2⟩ := once_ex k1 2
 have e2 := e2 (j + 1)
 cases b
 ·obtain ⟨p, i3, h3, k3, _, e3⟩ := pick_ex k2 [3, 3, 0, 4, 5] (by simp)
  have e3 := e3 (j + 1)
  refine ⟨x, p, ?_⟩
  rw [m_run (fn := Try.f14) (i0 := 0) rfl Try.func14 rfl rfl (by simp)]
  simp only [curT, z0, tIns] at e1 e2 e3 ⊢
  simp -implicitDefEqProofs [ints] at e3
  simp -implicitDefEqProofs [own1, St.make, maker, e0, e1, e2, e3, ros]
 ·obtain ⟨y, i3, h3, k3, _, e3⟩ := spoil_ex k2 x sx
  have e3 := e3 j
  obtain ⟨p, i4, h4, k4, _, e4⟩ := pick_ex k3 [3, 3, 0, 4, 5] (by simp)
  have e4 := e4 (j + 1)
  refine ⟨y, p, ?_⟩
  rw [m_run (fn := Try.f14) (i0 := 0) rfl Try.func14 rfl rfl (by simp)]
  simp only [curT, z0, tIns] at e1 e2 e3 e4 ⊢
  simp -implicitDefEqProofs [ints] at e4
  simp -implicitDefEqProofs [own1, St.make, maker, e0, e1, e2, e3, e4, ros]
theorem ins_all {l : List Ins} {n : Int} (h : progB l n = true) {i : Nat} (hi : i < l.length) : insB l[i] l.length n = true := by
 unfold progB at h
 rw [Bool.and_eq_true] at h
 exact List.all_eq_true.1 h.2 _ (List.getElem_mem hi)
theorem ins_more {x : Ins} {m n : Int} (h : insB x m n = true) (hn : n ≠ 4) : insB x m (n + 1) = true := by
 simp only [insB, Bool.and_eq_true] at h ⊢
 obtain ⟨⟨⟨⟨⟨a, b⟩, c⟩, d⟩, e⟩, f⟩ := h
 have hb : 1 ≤ n ∧ n ≤ 4 := of_decide_eq_true b
 refine ⟨⟨⟨⟨⟨a, decide_eq_true (by omega)⟩, c⟩, d⟩, e⟩, ?_⟩
 revert f
 unfold lastB
 simp only [inB, Bool.or_eq_true, decide_eq_true_eq]
 (repeat' split) <;> simp <;> omega
theorem prog_more {l : List Ins} {n : Int} (h : progB l n = true) (hn : n ≠ 4) : progB l (n + 1) = true := by
 unfold progB at h ⊢
 rw [Bool.and_eq_true] at h ⊢
 exact ⟨h.1, List.all_eq_true.2 fun x hx => ins_more (List.all_eq_true.1 h.2 x hx) hn⟩
def H_fp (bs : List Int) (l : List Ins) (n : Int) (i : Nat) : St := ⟨[(3, .c (.sl 960 [] 0 l.length)), (4, .c (.v (.int .i64 n))), (9, .c (.v (.int .i64 i)))], [(0, ⟨.ro, 5, octT bs⟩), (960, ⟨.own, 29, insT l⟩)]⟩
theorem run_FnProg {j : Nat} (hj : big ≤ j) (bs : List Int) (hb : bs.length ≤ 9223372036854775807) : M.run (j + 9) 3 [.c (.r 5 bs.length (octT bs))] = some ([.c (.v (.bool true))], [.c (.r 5 bs.length (octT bs))]) := by
 have e0 := run_big (j := j + 7) bs.length (octT bs) hb
 rw [m_run (fn := Try.f3) (i0 := 0) rfl Try.func3 rfl rfl (by simp)]
 by_cases h1 : 1048576 < bs.length
 ·rw [decide_eq_true h1] at e0
  simp -implicitDefEqProofs [own1, e0]
 rw [decide_eq_false h1] at e0
 obtain ⟨l, n, ⟨l1, l2, _⟩, hn, e1⟩ := run_drawProgOk (j := j + 1) (by omega) bs (by omega)
 obtain ⟨x, p, e2⟩ := run_drawInsOk (j := j + 3) (by omega) bs (by omega)
 have e3 := run50 (j := j + 1) (by omega) l n (by omega)
 have e4 := run49 (j := j + 4) (by omega) l n (by omega)
 have e5 := run29 (j := j + 5) x 8 p
 have e6 := run27 (j := j + 5) x 8 p
 rw [spec_ins] at e6
 have tk : (insT l).take (l.length * 5) = insT l := List.take_of_length_le (by simp)
 simp only [tIns] at e2 e5 e6
 cases hq : progB l n
 ·rw [hq] at e3 e4
  generalize insB x 8 p = t at *
  simp -implicitDefEqProofs (maxSteps := 10000000) [own1, e0, e1, e2, e3, e4, e5, e6, tk]
 ·rw [hq] at e3 e4
  generalize insB x 8 p = t at *
  simp -implicitDefEqProofs (maxSteps := 10000000) [own1, e0, e1, e2, e3, e4, e5, e6, tk]
  rw [loop_then (H_fp bs l n) l.length (by simp -implicitDefEqProofs [H_fp, hint1]) (by simp [big] at hj; omega) (fun i hi => by
   have e7 := run29 (j := j + 5) l[i] l.length n
   rw [ins_all hq hi] at e7
   simp only [tIns] at e7
   simp -implicitDefEqProofs [H_fp, hint1, hi, own1, e7, tIns, show i * 5 + 5 ≤ l.length * 5 by omega, w64 (x := (i : Int) + 1) (by omega)])]
  by_cases h4 : n = 4
  ·subst h4
   simp -implicitDefEqProofs [H_fp]
  ·have e8 := run50 (j := j + 1) (by omega) l (n + 1) (by omega)
   rw [prog_more hq h4] at e8
   simp -implicitDefEqProofs [H_fp, own1, e8, h4, tk, w64 (x := n + 1) (by omega)]
theorem law_FnProg (bs : List Int) (hb : (∀ n ∈ bs, 0 ≤ n ∧ n ≤ 255) ∧ bs.length ≤ maxLen) : ∃ k xs, M.run k 3 [.c (.r 5 bs.length (octT bs))] = some ([.c (.v (.bool true))], xs) :=
 ⟨_, _, run_FnProg (Nat.le_refl _) bs (by have := hb.2; unfold maxLen at this; omega)⟩
end Go.Proofs.Ytkgkbkpgpbpjhaa.VM
