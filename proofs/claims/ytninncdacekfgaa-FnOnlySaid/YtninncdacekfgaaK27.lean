/- Draws of programs for a new system; the law FnNew. -/
import Derived.Test.YtninncdacekfgaaK25
import Derived.Test.YtninncdacekfgaaK26
import Derived.Test.YtninncdacekfgaaK16
/- Draws of programs for a new system: reckoned. -/
namespace Go.Proofs.Ytninncdacekfgaa.VM
open Go Go.Proofs
set_option linter.unusedSimpArgs false
set_option linter.unusedVariables false
set_option maxRecDepth 100000
set_option maxHeartbeats 20000000
/-- A program that is drawn for a new system, and how the cursor stands then. -/
def PrD (bs : List Int) (i : Nat) (h procs : Int) (x : List Ins × Nat × Int) : Prop := CuOk ⟨bs, x.2.1, x.2.2⟩ ∧ x.1.length ≤ 100 ∧ ∃ (l : List Ins) (i1 i2 : Nat) (h1 h2 : Int) (b : Bool),
 (∀ j, big ≤ j → M.run (j + 5) 109 [curT bs i h, .c (.v (.int .i64 procs)), .c (.v (.int .i64 0))] = some ([.c (.s 40 l.length (insT l))], [curT bs i1 h1, .c (.v (.int .i64 procs)), .c (.v (.int .i64 0))])) ∧
 (∀ j, M.run (j + 3) 110 [curT bs i1 h1, .c (.v (.int .i64 9))] = some ([.c (.v (.bool b))], [curT bs i2 h2, .c (.v (.int .i64 9))])) ∧
 ((b = false ∧ x = (l, i2, h2)) ∨ (b = true ∧ ∀ j, big ≤ j → M.run (j + 6) 85 [curT bs i2 h2] = some ([.c (.s 40 x.1.length (insT x.1))], [curT bs x.2.1 x.2.2])))
theorem prD_ex {bs : List Int} {i : Nat} {h : Int} (ok : CuOk ⟨bs, i, h⟩) (procs : Int) (hp : 0 < procs ∧ procs ≤ 1000) : ∃ x, PrD bs i h procs x := by
 obtain ⟨l, i1, h1, k1, ⟨⟨_, p2, _⟩, _⟩, e1⟩ := drawProg_ex ok procs 0 hp (by omega)
 obtain ⟨b, i2, h2, k2, e2⟩ := once_ex k1 9
 cases b
 ·exact ⟨(l, i2, h2), k2, p2, l, i1, i2, h1, h2, false, e1, e2, .inl ⟨rfl, rfl⟩⟩
 ·obtain ⟨l3, i3, h3, k3, ⟨_, q2, _⟩, e3⟩ := drawAny_ex k2
  exact ⟨(l3, i3, h3), k3, q2, l, i1, i2, h1, h2, true, e1, e2, .inr ⟨rfl, e3⟩⟩
open Classical in
noncomputable def prD (bs : List Int) (i : Nat) (h procs : Int) : List Ins × Nat × Int := if q : ∃ x, PrD bs i h procs x then Classical.choose q else ([], i, h)
theorem prD_ok {bs : List Int} {i : Nat} {h : Int} (ok : CuOk ⟨bs, i, h⟩) (procs : Int) (hp : 0 < procs ∧ procs ≤ 1000) : PrD bs i h procs (prD bs i h procs) := by
 have q := prD_ex ok procs hp
 unfold prD
 rw [dif_pos q]
 exact Classical.choose_spec q
noncomputable def prL (bs : List Int) (i : Nat) (h procs : Int) : Nat → List (List Ins) × Nat × Int
 | 0 => ([], i, h)
 | k + 1 => ((prL bs i h procs k).1 ++ [(prD bs (prL bs i h procs k).2.1 (prL bs i h procs k).2.2 procs).1], (prD bs (prL bs i h procs k).2.1 (prL bs i h procs k).2.2 procs).2)
theorem prL_ok {bs : List Int} {i : Nat} {h : Int} (ok : CuOk ⟨bs, i, h⟩) (procs : Int) (hp : 0 < procs ∧ procs ≤ 1000) : ∀ k, CuOk ⟨bs, (prL bs i h procs k).2.1, (prL bs i h procs k).2.2⟩ ∧ (prL bs i h procs k).1.length = k ∧ ∀ x ∈ (prL bs i h procs k).1, x.length ≤ 100
 | 0 => ⟨ok, rfl, fun x hx => by simp [prL] at hx⟩
 | k + 1 => by
  obtain ⟨a, b, c⟩ := prL_ok ok procs hp k
  have q := prD_ok a procs hp
  refine ⟨q.1, by simp [prL, b], fun x hx => ?_⟩
  rw [prL] at hx
  rcases List.mem_append.1 hx with hx | hx
  ·exact c x hx
  ·simp only [List.mem_singleton] at hx
   subst hx
   exact q.2.1
def H_dn (bs : List Int) (n k : Nat) (x : List (List Ins) × Nat × Int) : St := ⟨[(3, .ptr 640 [] 0), (4, .c (.sl 704 [] 0 k)), (5, .c (.v (.int .i64 n))), (6, .c (.v (.int .i64 k)))], [(0, ⟨.ro, 5, octT bs⟩), (640, ⟨.box, 82, [.l 0 [] 0 bs.length, .v (.int .i64 x.2.1), .v (.int .i64 x.2.2)]⟩), (704, ⟨.own, 24, x.1.map (sIns 40)⟩)]⟩
end Go.Proofs.Ytninncdacekfgaa.VM

/- The law FnNew, reckoned. -/
namespace Go.Proofs.Ytninncdacekfgaa.VM
open Go Go.Proofs
set_option linter.unusedSimpArgs false
set_option linter.unusedVariables false
set_option maxRecDepth 100000
set_option maxHeartbeats 40000000
theorem totN {α : Type} {c : Nat} : ∀ {l : List (List α)}, (∀ x ∈ l, x.length ≤ c) → tot l ≤ c * l.length
 | [], _ => by simp [tot]
 | x :: l, h => by
  have h1 := totN (l := l) fun y hy => h y (List.mem_cons_of_mem _ hy)
  have h2 := h x (List.mem_cons_self ..)
  have : tot (x :: l) = x.length + tot l := by simp [tot]
  rw [this, List.length_cons, Nat.mul_add]
  omega
theorem run_sameSt {j : Nat} (hj : big ≤ j) (s : Sta) (h1 : s.regs.length ≤ 1048576) (h2 : s.out.length ≤ 1048576) : M.run (j + 2) 11 [.agg (tSta s), .agg (tSta s)] = some ([.c (.v (.bool true))], [.agg (tSta s), .agg (tSta s)]) := by
 have e1 := run_sameInts hj s.regs h1
 have e2 := run_sameInts hj s.out h2
 rw [m_run (fn := Try.f11) (i0 := 0) rfl Try.func11 rfl rfl (by simp [tSta, stR])]
 simp -implicitDefEqProofs [tSta, stR, own1, e1, e2]
def nwO (ls : List (List Ins)) (S : Sy) : List (Nat × Obj) := [(320, ⟨.box, 45, [.l 1088 [] 0 S.progs.length, .l 1089 [] 0 S.states.length, .l 1090 [] 0 S.ways.length, .l 1091 [] 0 S.hist.length]⟩), (896, ⟨.own, 24, ls.map (sIns 40)⟩), (1088, ⟨.own, 24, S.progs.map (sIns 40)⟩), (1089, ⟨.own, 27, ssT S.states⟩), (1090, ⟨.own, 92, S.ways.map (sItem 100)⟩), (1091, ⟨.own, 54, S.hist.map (sEvent 29)⟩)]
def H_n1 (bs : List Int) (ls : List (List Ins)) (S : Sy) (p : Nat) : St := ⟨[(3, .c (.sl 896 [] 0 ls.length)), (4, .ptr 320 [] 0), (8, .c (.v (.int .i64 p)))], (0, ⟨.ro, 5, octT bs⟩) :: nwO ls S⟩
def H_n2 (bs : List Int) (ls : List (List Ins)) (S : Sy) (p q : Nat) : St := ⟨[(3, .c (.sl 896 [] 0 ls.length)), (4, .ptr 320 [] 0), (8, .c (.v (.int .i64 p))), (9, .c (.v (.int .i64 q)))], (0, ⟨.ro, 5, octT bs⟩) :: nwO ls S⟩
theorem ssN_1 {l : List Sta} {i : Nat} (hi : i < l.length) : (ssT l)[i * 4 + 1]? = some (.s 3 l[i].regs.length (ints l[i].regs)) := fm_get sSta_len hi (by omega)
theorem ssN_2 {l : List Sta} {i : Nat} (hi : i < l.length) : (ssT l)[i * 4 + 2]? = some (.s 3 l[i].out.length (ints l[i].out)) := fm_get sSta_len hi (by omega)
theorem wayF_new (l : List (List Ins)) (a b : Int) : wayF (newSy l) a b = [] := by
 unfold wayF newSy
 split
 ·simp only [List.getElem?_replicate]
  split <;> rfl
 ·rfl
theorem sEvN_at {l : List (List Ev)} {e : TypeId} {m : Nat} (hm : m < l.length) : (l.map (sEvent e))[m]? = some (.s e l[m].length (evT l[m])) := by
 rw [List.getElem?_map, List.getElem?_eq_getElem hm]
 rfl
end Go.Proofs.Ytninncdacekfgaa.VM
