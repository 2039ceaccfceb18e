/- Draws of programs for a new system; the law FnNew. -/
import Derived.Test.YtkgkbkpgpbpjhaaK25
import Derived.Test.YtkgkbkpgpbpjhaaK26
import Derived.Test.YtkgkbkpgpbpjhaaK16
/- Draws of programs for a new system: reckoned. -/
namespace Go.Proofs.Ytkgkbkpgpbpjhaa.VM
open Go Go.Proofs
set_option linter.unusedSimpArgs false
set_option linter.unusedVariables false
set_option maxRecDepth 100000
set_option maxHeartbeats 20000000
theorem run_minN {j : Nat} (a b : Int) : M.run (j + 1) 88 [.c (.v (.int .i64 a)), .c (.v (.int .i64 b))] = some ([.c (.v (.int .i64 (min a b)))], [.c (.v (.int .i64 a)), .c (.v (.int .i64 b))]) := by
 rw [m_run (fn := Try.f88) (i0 := 0) rfl Try.func88 rfl rfl (by simp)]
 by_cases h : a < b
 ·rw [Int.min_eq_left (by omega)]
  simp -implicitDefEqProofs [h]
 ·rw [Int.min_eq_right (by omega)]
  simp -implicitDefEqProofs [h]
theorem run_maxN {j : Nat} (a b : Int) : M.run (j + 1) 87 [.c (.v (.int .i64 a)), .c (.v (.int .i64 b))] = some ([.c (.v (.int .i64 (max a b)))], [.c (.v (.int .i64 a)), .c (.v (.int .i64 b))]) := by
 rw [m_run (fn := Try.f87) (i0 := 0) rfl Try.func87 rfl rfl (by simp)]
 by_cases h : b < a
 ·rw [Int.max_eq_left (by omega)]
  simp -implicitDefEqProofs [h]
 ·rw [Int.max_eq_right (by omega)]
  simp -implicitDefEqProofs [h]
/-- A program that is drawn for a new system, and how the cursor stands then. -/
def PrD (bs : List Int) (i : Nat) (h procs : Int) (x : List Ins × Nat × Int) : Prop := CuOk ⟨bs, x.2.1, x.2.2⟩ ∧ x.1.length ≤ 100 ∧ ∃ (l : List Ins) (i1 i2 : Nat) (h1 h2 : Int) (b : Bool),
 (∀ j, big ≤ j → M.run (j + 5) 86 [curT bs i h, .c (.v (.int .i64 procs)), .c (.v (.int .i64 0))] = some ([.c (.s 29 l.length (insT l))], [curT bs i1 h1, .c (.v (.int .i64 procs)), .c (.v (.int .i64 0))])) ∧
 (∀ j, M.run (j + 3) 63 [curT bs i1 h1, .c (.v (.int .i64 9))] = some ([.c (.v (.bool b))], [curT bs i2 h2, .c (.v (.int .i64 9))])) ∧
 ((b = false ∧ x = (l, i2, h2)) ∨ (b = true ∧ ∀ j, big ≤ j → M.run (j + 6) 56 [curT bs i2 h2] = some ([.c (.s 29 x.1.length (insT x.1))], [curT bs x.2.1 x.2.2])))
theorem prD_ex {bs : List Int} {i : Nat} {h : Int} (ok : CuOk ⟨bs, i, h⟩) (procs : Int) (hp : 0 < procs ∧ procs ≤ 1000) : ∃ x, PrD bs i h procs x := by
 obtain ⟨l, i1, h1, k1, ⟨⟨_, p2, _⟩, _⟩, e1⟩ := drawProg_ex ok procs 0 hp (by omega)
 obtain ⟨b, i2, h2, k2, e2⟩ := once_ex k1 9
 cases b
 ·exact ⟨(l, i2, h2), k2, p2, l, i1, i2, h1, h2, false, e1, e2, .inl ⟨rfl, rfl⟩⟩
 ·obtain ⟨l3, i3, h3, k3, ⟨_, q2, _⟩, e3⟩ := drawAny_ex k2
  exact ⟨(l3, i3, h3), k3, q2, l, i1, i2, h1, h2, true, e1, e2, .inr ⟨rfl, e3⟩⟩
open Classical in
noncomputable def prD (bs : List Int) (i : Nat) (h procs : Int) : List Ins × Nat × Int := if q : ∃ x, PrD bs i h procs x then Classical.choose q else ([], i, h)
theorem prD_ok {bs : List Int} {i : Nat} {h : Int} (ok : CuOk ⟨bs, i, h⟩) (procs : Int) (hp : 0 < procs ∧ procs ≤ 1000) : PrD bs i h procs (prD bs i h procs) := by
 have q := prD_ex ok procs hp
 unfold prD
 rw [dif_pos q]
 exact Classical.choose_spec q
noncomputable def prL (bs : List Int) (i : Nat) (h procs : Int) : Nat → List (List Ins) × Nat × Int
 | 0 => ([], i, h)
 | k + 1 => ((prL bs i h procs k).1 ++ [(prD bs (prL bs i h procs k).2.1 (prL bs i h procs k).2.2 procs).1], (prD bs (prL bs i h procs k).2.1 (prL bs i h procs k).2.2 procs).2)
theorem prL_ok {bs : List Int} {i : Nat} {h : Int} (ok : CuOk ⟨bs, i, h⟩) (procs : Int) (hp : 0 < procs ∧ procs ≤ 1000) : ∀ k, CuOk ⟨bs, (prL bs i h procs k).2.1, (prL bs i h procs k).2.2⟩ ∧ (prL bs i h procs k).1.length = k ∧ ∀ x ∈ (prL bs i h procs k).1, x.length ≤ 100
 | 0 => ⟨ok, rfl, fun x hx => by simp [prL] at hx⟩
 | k + 1 => by
  obtain ⟨a, b, c⟩ := prL_ok ok procs hp k
  have q := prD_ok a procs hp
  refine ⟨q.1, by simp [prL, b], fun x hx => ?_⟩
  rw [prL] at hx
  rcases List.mem_append.1 hx with hx | hx
  ·exact c x hx
  ·simp only [List.mem_singleton] at hx
   subst hx
   exact q.2.1
def H_dn (bs : List Int) (n k : Nat) (x : List (List Ins) × Nat × Int) : St := ⟨[(3, .ptr 640 [] 0), (4, .c (.sl 704 [] 0 k)), (5, .c (.v (.int .i64 n))), (6, .c (.v (.int .i64 k)))], [(0, ⟨.ro, 5, octT bs⟩), (640, ⟨.box, 132, [.l 0 [] 0 bs.length, .v (.int .i64 x.2.1), .v (.int .i64 x.2.2)]⟩), (704, ⟨.own, 24, x.1.map (sIns 29)⟩)]⟩
theorem run_drawSysNew {j : Nat} (hj : big ≤ j) (bs : List Int) (hb : bs.length ≤ 1048576) : ∃ ls : List (List Ins), ls.length ≤ 5 ∧ (∀ x ∈ ls, x.length ≤ 100) ∧ M.run (j + 7) 36 [.c (.r 5 bs.length (octT bs))] = some ([.c (.s 24 ls.length (ls.map (sIns 29)))], [.c (.r 5 bs.length (octT bs))]) := by
 have e0 := run_new (j := j + 5) hb
 have k0 := new_cur hb
 generalize hashK bs (min bs.length 4000) = h0 at *
 obtain ⟨v, i1, h1, k1, _, lv, e1⟩ := below_ex k0 4
 have lv := lv (by omega)
 have e1 := e1 (j + 4)
 obtain ⟨b, i2, h2, k2, e2⟩ := once_ex k1 12
 have e2 := e2 (j + 3)
 -- how many, and how the cursor stands
 have key : ∃ (n : Nat) (i3 : Nat) (h3 : Int), CuOk ⟨bs, i3, h3⟩ ∧ n ≤ 5 ∧ ((b = false ∧ 1 + v = n ∧ i3 = i2 ∧ h3 = h2) ∨ (b = true ∧ M.run (j + 6) 57 [curT bs i2 h2, .c (.r 3 2 [.v (.int .i64 0), .v (.int .i64 5)])] = some ([.c (.v (.int .i64 n))], [curT bs i3 h3, .c (.r 3 2 [.v (.int .i64 0), .v (.int .i64 5)])]))) := by
  cases b
  ·exact ⟨(1 + v).toNat, i2, h2, k2, by omega, .inl ⟨rfl, by omega, rfl, rfl⟩⟩
  ·obtain ⟨t, i3, h3, k3, ht, e3⟩ := pick_ex k2 [0, 5] (by simp)
   simp only [List.mem_cons, List.not_mem_nil, or_false] at ht
   have e3 := e3 (j + 3)
   refine ⟨t.toNat, i3, h3, k3, by omega, .inr ⟨rfl, ?_⟩⟩
   rw [show ((t.toNat : Nat) : Int) = t by omega]
   exact e3
 obtain ⟨n, i3, h3, k3, hn, hk⟩ := key
 have hq : 0 < max (min (n : Int) 4) 1 ∧ max (min (n : Int) 4) 1 ≤ 1000 := by omega
 have e5 := run_minN (j := j + 5) (n : Int) 4
 have e6 := run_maxN (j := j + 5) (min (n : Int) 4) 1
 generalize max (min (n : Int) 4) 1 = procs at *
 generalize min (n : Int) 4 = mn at *
 have K := prL_ok k3 procs hq
 refine ⟨(prL bs i3 h3 procs n).1, by rw [(K n).2.1]; exact hn, (K n).2.2, ?_⟩
 rw [m_run (fn := Try.f36) (i0 := 0) rfl Try.func36 rfl rfl (by simp)]
 have ln := (K n).2.1
 have lpb : ∀ (k : Nat) (hk : k < n), ∃ (L : List (List Ins)) (i : Nat) (h : Int) (l : List Ins) (i' : Nat) (h' : Int), prL bs i3 h3 procs k = (L, i, h) ∧ L.length = k ∧ prL bs i3 h3 procs (k + 1) = (L ++ [l], i', h') ∧ PrD bs i h procs (l, i', h') := fun k hk => by
  obtain ⟨a, b', c⟩ := K k
  exact ⟨_, _, _, _, _, _, rfl, b', rfl, prD_ok a procs hq⟩
 rcases hk with ⟨rfl, hv, rfl, rfl⟩ | ⟨rfl, e3⟩
 ·simp only [curT, z0] at e1 e2 ⊢
  simp -implicitDefEqProofs [own1, St.make, maker, e0, e1, e2, hv, w64 (x := (n : Int)) (by omega)]
  rw [loop_then (fun k => H_dn bs n k (prL bs i3 h3 procs k)) n (by simp -implicitDefEqProofs [H_dn, hint1, prL]) (by simp [big] at hj; omega) (fun k hk => by
   obtain ⟨L, i, h, l, i', h', r1, r2, r3, _, _, l0, ia, ib, ha, hb', b, q1, q2, q3⟩ := lpb k hk
   rw [r1, r3]
   have q1 := q1 (j + 1) (by omega)
   have q2 := q2 (j + 3)
   have tk : (L.map (sIns 29)).take k = L.map (sIns 29) := List.take_of_length_le (by simp [r2])
   have t2 : ∀ l : List Ins, (insT l).take (l.length * 5) = insT l := fun l => List.take_of_length_le (by simp)
   rcases q3 with ⟨rfl, q3⟩ | ⟨rfl, q3⟩
   ·simp only [Prod.mk.injEq] at q3
    obtain ⟨rfl, rfl, rfl⟩ := q3
    simp only [curT] at q1 q2
    simp -implicitDefEqProofs [H_dn, hint1, hk, own1, e5, e6, q1, q2, sIns, r2, tk, t2, le_most (n := k + 1) (by omega), w64 (x := (k : Int) + 1) (by omega), -List.map_take]
   ·have q3 := q3 j hj
    simp only [curT] at q1 q2 q3
    simp -implicitDefEqProofs [H_dn, hint1, hk, own1, e5, e6, q1, q2, q3, sIns, r2, tk, t2, le_most (n := k + 1) (by omega), w64 (x := (k : Int) + 1) (by omega), -List.map_take])]
  generalize prL bs i3 h3 procs n = X at *
  obtain ⟨L, i, h⟩ := X
  simp only at ln ⊢
  have tk : (L.map (sIns 29)).take n = L.map (sIns 29) := List.take_of_length_le (by simp [ln])
  simp -implicitDefEqProofs [H_dn, ln, tk, -List.map_take]
 ·simp only [curT, z0] at e1 e2 e3 ⊢
  simp -implicitDefEqProofs [own1, St.make, maker, e0, e1, e2, e3, ros, w64 (x := 1 + v) (by omega)]
  rw [loop_then (fun k => H_dn bs n k (prL bs i3 h3 procs k)) n (by simp -implicitDefEqProofs [H_dn, hint1, prL]) (by simp [big] at hj; omega) (fun k hk => by
   obtain ⟨L, i, h, l, i', h', r1, r2, r3, _, _, l0, ia, ib, ha, hb', b, q1, q2, q3⟩ := lpb k hk
   rw [r1, r3]
   have q1 := q1 (j + 1) (by omega)
   have q2 := q2 (j + 3)
   have tk : (L.map (sIns 29)).take k = L.map (sIns 29) := List.take_of_length_le (by simp [r2])
   have t2 : ∀ l : List Ins, (insT l).take (l.length * 5) = insT l := fun l => List.take_of_length_le (by simp)
   rcases q3 with ⟨rfl, q3⟩ | ⟨rfl, q3⟩
   ·simp only [Prod.mk.injEq] at q3
    obtain ⟨rfl, rfl, rfl⟩ := q3
    simp only [curT] at q1 q2
    simp -implicitDefEqProofs [H_dn, hint1, hk, own1, e5, e6, q1, q2, sIns, r2, tk, t2, le_most (n := k + 1) (by omega), w64 (x := (k : Int) + 1) (by omega), -List.map_take]
   ·have q3 := q3 j hj
    simp only [curT] at q1 q2 q3
    simp -implicitDefEqProofs [H_dn, hint1, hk, own1, e5, e6, q1, q2, q3, sIns, r2, tk, t2, le_most (n := k + 1) (by omega), w64 (x := (k : Int) + 1) (by omega), -List.map_take])]
  generalize prL bs i3 h3 procs n = X at *
  obtain ⟨L, i, h⟩ := X
  simp only at ln ⊢
  have tk : (L.map (sIns 29)).take n = L.map (sIns 29) := List.take_of_length_le (by simp [ln])
  simp -implicitDefEqProofs [H_dn, ln, tk, -List.map_take]
end Go.Proofs.Ytkgkbkpgpbpjhaa.VM

/- The law FnNew, reckoned. -/
namespace Go.Proofs.Ytkgkbkpgpbpjhaa.VM
open Go Go.Proofs
set_option linter.unusedSimpArgs false
set_option linter.unusedVariables false
set_option maxRecDepth 100000
set_option maxHeartbeats 40000000
theorem totN {α : Type} {c : Nat} : ∀ {l : List (List α)}, (∀ x ∈ l, x.length ≤ c) → tot l ≤ c * l.length
 | [], _ => by simp [tot]
 | x :: l, h => by
  have h1 := totN (l := l) fun y hy => h y (List.mem_cons_of_mem _ hy)
  have h2 := h x (List.mem_cons_self ..)
  have : tot (x :: l) = x.length + tot l := by simp [tot]
  rw [this, List.length_cons, Nat.mul_add]
  omega
theorem run_sameSt {j : Nat} (hj : big ≤ j) (s : Sta) (h1 : s.regs.length ≤ 1048576) (h2 : s.out.length ≤ 1048576) : M.run (j + 2) 29 [.agg (tSta s), .agg (tSta s)] = some ([.c (.v (.bool true))], [.agg (tSta s), .agg (tSta s)]) := by
 have e1 := run_sameInts hj s.regs h1
 have e2 := run_sameInts hj s.out h2
 rw [m_run (fn := Try.f29) (i0 := 0) rfl Try.func29 rfl rfl (by simp [tSta, stR])]
 simp -implicitDefEqProofs [tSta, stR, own1, e1, e2]
def nwO (ls : List (List Ins)) (S : Sy) : List (Nat × Obj) := [(320, ⟨.box, 62, [.l 1088 [] 0 S.progs.length, .l 1089 [] 0 S.states.length, .l 1090 [] 0 S.ways.length, .l 1091 [] 0 S.hist.length]⟩), (896, ⟨.own, 24, ls.map (sIns 29)⟩), (1088, ⟨.own, 24, S.progs.map (sIns 29)⟩), (1089, ⟨.own, 44, ssT S.states⟩), (1090, ⟨.own, 66, S.ways.map (sItem 113)⟩), (1091, ⟨.own, 33, S.hist.map (sEvent 42)⟩)]
def H_n1 (bs : List Int) (ls : List (List Ins)) (S : Sy) (p : Nat) : St := ⟨[(3, .c (.sl 896 [] 0 ls.length)), (4, .ptr 320 [] 0), (8, .c (.v (.int .i64 p)))], (0, ⟨.ro, 5, octT bs⟩) :: nwO ls S⟩
def H_n2 (bs : List Int) (ls : List (List Ins)) (S : Sy) (p q : Nat) : St := ⟨[(3, .c (.sl 896 [] 0 ls.length)), (4, .ptr 320 [] 0), (8, .c (.v (.int .i64 p))), (9, .c (.v (.int .i64 q)))], (0, ⟨.ro, 5, octT bs⟩) :: nwO ls S⟩
theorem ssN_1 {l : List Sta} {i : Nat} (hi : i < l.length) : (ssT l)[i * 4 + 1]? = some (.s 3 l[i].regs.length (ints l[i].regs)) := fm_get sSta_len hi (by omega)
theorem ssN_2 {l : List Sta} {i : Nat} (hi : i < l.length) : (ssT l)[i * 4 + 2]? = some (.s 3 l[i].out.length (ints l[i].out)) := fm_get sSta_len hi (by omega)
theorem wayF_new (l : List (List Ins)) (a b : Int) : wayF (newSy l) a b = [] := by
 unfold wayF newSy
 split
 ·simp only [List.getElem?_replicate]
  split <;> rfl
 ·rfl
theorem sEvN_at {l : List (List Ev)} {e : TypeId} {m : Nat} (hm : m < l.length) : (l.map (sEvent e))[m]? = some (.s e l[m].length (evT l[m])) := by
 rw [List.getElem?_map, List.getElem?_eq_getElem hm]
 rfl
theorem run_FnNew {j : Nat} (hj : big ≤ j) (bs : List Int) (hb : bs.length ≤ 9223372036854775807) : M.run (j + 12) 7 [.c (.r 5 bs.length (octT bs))] = some ([.c (.v (.bool true))], [.c (.r 5 bs.length (octT bs))]) := by
 have e0 := run_big (j := j + 10) bs.length (octT bs) hb
 rw [m_run (fn := Try.f7) (i0 := 0) rfl Try.func7 rfl rfl (by simp)]
 by_cases h1 : 1048576 < bs.length
 ·rw [decide_eq_true h1] at e0
  simp -implicitDefEqProofs [own1, e0]
 rw [decide_eq_false h1] at e0
 obtain ⟨ls, hl, hx, e1⟩ := run_drawSysNew (j := j + 4) (by omega) bs (by omega)
 have ht : tot ls ≤ 1048576 := by
  have := totN hx
  omega
 have e2 := run_implNew hj ls (by omega) ht
 have e3 := run_specNew (j := j + 3) (by omega) ls (by omega) ht
 have tl : (ls.map (sIns 29)).take ls.length = ls.map (sIns 29) := List.take_of_length_le (by simp)
 have w1 : ∀ l : List (List Ins), (l.map (sIns 29)).take l.length = l.map (sIns 29) := fun l => List.take_of_length_le (by simp)
 have w2 : ∀ l : List Sta, (ssT l).take (l.length * 4) = ssT l := fun l => List.take_of_length_le (by rw [ssT_len]; exact Nat.le_refl _)
 have w3 : ∀ l : List (List Itm), (l.map (sItem 113)).take l.length = l.map (sItem 113) := fun l => List.take_of_length_le (by simp)
 have w4 : ∀ l : List (List Ev), (l.map (sEvent 42)).take l.length = l.map (sEvent 42) := fun l => List.take_of_length_le (by simp)
 unfold newS at e2 e3
 cases hq : newB ls
 ·rw [hq] at e2 e3
  rw [if_neg (by simp)] at e2 e3
  simp only [syS, zSy] at e2 e3
  simp -implicitDefEqProofs (maxSteps := 10000000) [own1, e0, e1, e2, e3, tl]
 ·rw [hq] at e2 e3
  rw [if_pos rfl] at e2 e3
  have hB : sysB (newSy ls) = true := by
   unfold newB at hq
   simp only [Bool.and_eq_true] at hq
   exact hq.2
  have sm : Small (newSy ls) := new_small (by unfold newB at hq; simp only [Bool.and_eq_true, decide_eq_true_eq] at hq; exact hq.1.2) ht
  have e4 := run_implSysOk (j := j + 1) (by omega) (newSy ls) sm
  rw [hB] at e4
  have e5 := fun a b : Int => run_implWayOf (j := j + 8) (newSy ls) sm a b
  have e6 := run_sameSt (j := j + 9) (by omega) s0 (by simp [s0]) (by simp [s0])
  have e7 := run16 (j := j + 10)
  have f1 : (newSy ls).progs.length = ls.length := rfl
  have f2 : (newSy ls).states.length = ls.length := by simp [newSy]
  have f4 : (newSy ls).hist.length = ls.length := by simp [newSy]
  have g2 : ∀ p (h : p < (newSy ls).states.length), (newSy ls).states[p] = s0 := fun p h => by simp [newSy]
  have g4 : ∀ p (h : p < (newSy ls).hist.length), (newSy ls).hist[p] = [] := fun p h => by simp [newSy]
  have g3 := wayF_new ls
  generalize newSy ls = S at *
  simp only [g3] at e5
  simp only [syS, syR, f1, f2, f4] at e2 e3 e4 e5
  have t1 : (S.progs.map (sIns 29)).take ls.length = S.progs.map (sIns 29) := List.take_of_length_le (by simp [f1])
  have t2 : (ssT S.states).take (ls.length * 4) = ssT S.states := List.take_of_length_le (by simp [f2])
  have t4 : (S.hist.map (sEvent 42)).take ls.length = S.hist.map (sEvent 42) := List.take_of_length_le (by simp [f4])
  simp only [tSta, stR, s0] at e6
  simp only [stS] at e7
  simp -implicitDefEqProofs [ints] at e6 e7
  simp -implicitDefEqProofs (maxSteps := 10000000) [own1, e0, e1, e2, e3, f1, f2, f4, t1, t2, t4, tl, w1, w2, w3, w4, -List.map_take]
  rw [loop_then (H_n1 bs ls S) ls.length (by simp -implicitDefEqProofs [H_n1, nwO, hint1, f1, f2, f4]) (by simp [big] at hj; omega) (fun p hp => by
   have h4 : p < S.hist.length := by omega
   have h2 : p < S.states.length := by omega
   have q2 := g2 p h2
   have a1 := ssN_1 h2
   have a2 := ssN_2 h2
   rw [q2] at a1 a2
   have a5 : ((ssT S.states).drop (p * 4)).take 4 = sSta S.states[p] := fm_at sSta_len h2
   rw [q2] at a5
   have a4 := sEvN_at (e := 42) h4
   rw [g4 p h4] at a4
   simp only [s0] at q2 a1 a2
   simp only [s0, sSta, stS] at a5
   simp -implicitDefEqProofs [H_n1, nwO, hint1, own1, f1, f2, f4, hp, h4, h2, a1, a2, a4, gqL a1, gqL a2, gqL a4, a5, q2, e6, e7, ros, ints, evT, sSta, stS, show p * 4 + 4 ≤ ls.length * 4 by omega, show p * 4 + 4 ≤ S.states.length * 4 by omega]
   rw [loop_then (H_n2 bs ls S p) ls.length (by simp -implicitDefEqProofs [H_n2, nwO, hint1, f1, f2, f4]) (by simp [big] at hj; omega) (fun q hq => by
    have e5 := e5 p q
    simp -implicitDefEqProofs [itT] at e5
    simp -implicitDefEqProofs [H_n2, nwO, hint1, own1, f1, f2, f4, hq, e5, t1, t2, t4, w1, w2, w3, w4, w64 (x := (q : Int) + 1) (by omega), -List.map_take])]
   simp -implicitDefEqProofs [H_n2, H_n1, nwO, hint1, f1, f2, f4, w64 (x := (p : Int) + 1) (by omega)])]
  simp -implicitDefEqProofs (maxSteps := 10000000) [H_n1, nwO, own1, f1, f2, f4, e4, t1, t2, t4, w1, w2, w3, w4, -List.map_take]
theorem law_FnNew (bs : List Int) (hb : (∀ n ∈ bs, 0 ≤ n ∧ n ≤ 255) ∧ bs.length ≤ maxLen) : ∃ k xs, M.run k 7 [.c (.r 5 bs.length (octT bs))] = some ([.c (.v (.bool true))], xs) :=
 ⟨_, _, run_FnNew (Nat.le_refl _) bs (by have := hb.2; unfold maxLen at this; omega)⟩
end Go.Proofs.Ytkgkbkpgpbpjhaa.VM
