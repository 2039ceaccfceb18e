/- ProgOk, Next, Do of the specification: reckoned. -/
import Derived.Test.YtninncdacekfgaaK3
import Derived.Test.YtninncdacekfgaaK2
/- ProgOk reckoned, and the laws FnExactInsOk and FnExactProgOk. -/
namespace Go.Proofs.Ytninncdacekfgaa.VM
open Go Go.Proofs
set_option linter.unusedSimpArgs false
set_option linter.unusedVariables false
set_option maxRecDepth 100000
set_option maxHeartbeats 4000000
attribute [simp] cLink
theorem run75 {j : Nat} (x : Ins) (n : Nat) (l : List T) (procs : Int) : M.run (j + 4) 64 [.agg (tIns x), .box 24 [.r 40 n l], .box 3 [.v (.int .i64 procs)]] = some ([.c (.v (.bool (!insB x n procs)))], [.agg (tIns x), .box 24 [.r 40 n l], .box 3 [.v (.int .i64 procs)]]) := by
 rw [m_run (fn := Try.f64) (i0 := 0) rfl Try.func64 rfl rfl (by simp [tIns])]
 have e3 := run29 (j := j) x n procs
 simp only [tIns] at e3
 simp -implicitDefEqProofs [tIns, own1, e3]
def H90 (xs : List Ins) (procs : Int) (i : Nat) : St := ⟨[(0, .c (.sl 0 [] 0 xs.length)), (1, .fn 64 [.ptr 2 [] 0, .ptr 3 [] 0]), (7, .c (.v (.int .i64 xs.length))), (8, .c (.v (.int .i64 i)))], [(0, ⟨.ro, 40, insT xs⟩), (1, ⟨.ro, 40, insT xs⟩), (2, ⟨.box, 24, [.l 1 [] 0 xs.length]⟩), (3, ⟨.box, 3, [.v (.int .i64 procs)]⟩)]⟩
def fn75 (xs : List Ins) (procs : Int) : A := .fn 64 [.box 24 [.r 40 xs.length (insT xs)], .box 3 [.v (.int .i64 procs)]]
theorem run90 {j : Nat} (hj : big ≤ j) (xs : List Ins) (procs : Int) (hl : xs.length ≤ 1048576) : ∃ n : Int, M.run (j + 5) 88 [.c (.r 40 xs.length (insT xs)), fn75 xs procs] = some ([.c (.v (.int .i64 n))], [.c (.r 40 xs.length (insT xs)), fn75 xs procs]) ∧ decide (0 ≤ n) = !xs.all fun x => insB x xs.length procs := by
 unfold fn75
 rcases first_bad (fun x => insB x xs.length procs) xs with hc | ⟨n, hn, hc, hg⟩
 ·refine ⟨-1, ?_, by rw [all_of (p := fun x => insB x xs.length procs) hc]; rfl⟩
  rw [m_run (fn := Try.f88) (i0 := 0) rfl Try.func88 rfl rfl (by simp)]
  simp -implicitDefEqProofs
  rw [loop_to (H90 xs procs) xs.length (by simp -implicitDefEqProofs [H90, hint1]) (by simp [big] at hj; omega) (fun i hi => by
   have e := run75 (j := j) xs[i] xs.length (insT xs) procs
   rw [hc i hi] at e
   simp only [tIns] at e
   simp -implicitDefEqProofs [H90, hint1, hi, w64 (x := (i : Int) + 1) (by omega), show i * 5 + 5 ≤ xs.length * 5 by omega, tIns, e, own1]) (by simp -implicitDefEqProofs [H90, stops, hint1])]
  simp -implicitDefEqProofs [H90]
 ·refine ⟨n, ?_, by rw [not_all (p := fun x => insB x xs.length procs) hn hc]; simp⟩
  rw [m_run (fn := Try.f88) (i0 := 0) rfl Try.func88 rfl rfl (by simp)]
  simp -implicitDefEqProofs
  have e := run75 (j := j) xs[n] xs.length (insT xs) procs
  rw [hc] at e
  simp only [tIns] at e
  rw [loop_to (H90 xs procs) n (by simp -implicitDefEqProofs [H90, hint1]) (by simp [big] at hj; omega) (fun i hi => by
   have e := run75 (j := j) (xs[i]'(by omega)) xs.length (insT xs) procs
   rw [hg i hi] at e
   simp only [tIns] at e
   simp -implicitDefEqProofs [H90, hint1, show i < xs.length by omega, w64 (x := (i : Int) + 1) (by omega), show i * 5 + 5 ≤ xs.length * 5 by omega, tIns, e, own1]) (by simp -implicitDefEqProofs [H90, stops, hn, e, show n * 5 + 5 ≤ xs.length * 5 by omega, tIns, own1])]
  simp -implicitDefEqProofs [H90, hn, e, own1, show n * 5 + 5 ≤ xs.length * 5 by omega, tIns]
theorem run74 {j : Nat} (hj : big ≤ j) (xs : List Ins) (procs : Int) (hl : xs.length ≤ 1048576) : M.run (j + 6) 63 [.c (.r 40 xs.length (insT xs)), fn75 xs procs] = some ([.c (.v (.bool (!xs.all fun x => insB x xs.length procs)))], [.c (.r 40 xs.length (insT xs)), fn75 xs procs]) := by
 obtain ⟨n, h1, h2⟩ := run90 hj xs procs hl
 unfold fn75 at *
 rw [m_run (fn := Try.f63) (i0 := 0) rfl Try.func63 rfl rfl (by simp)]
 simp -implicitDefEqProofs [h1, own1, ← h2]
def progB (xs : List Ins) (procs : Int) : Bool := inB xs.length 1 30 && xs.all fun x => insB x xs.length procs
theorem run50 {j : Nat} (hj : big ≤ j) (xs : List Ins) (procs : Int) (hl : xs.length ≤ 1048576) : M.run (j + 7) 34 [.c (.r 40 xs.length (insT xs)), .c (.v (.int .i64 procs))] = some ([.c (.v (.bool (progB xs procs)))], [.c (.r 40 xs.length (insT xs)), .c (.v (.int .i64 procs))]) := by
 rw [m_run (fn := Try.f34) (i0 := 0) rfl Try.func34 rfl rfl (by simp)]
 have e := run74 hj xs procs hl
 unfold fn75 at e
 unfold progB
 cases h : inB xs.length 1 30
 ·simp -implicitDefEqProofs [run64, own1, h]
 ·simp -implicitDefEqProofs [run64, own1, h, e, -List.all_eq_true, -List.all_eq_false]
def H49 (xs : List Ins) (procs : Int) (i : Nat) : St := ⟨[(0, .c (.sl 0 [] 0 xs.length)), (1, .c (.v (.int .i64 procs))), (5, .c (.v (.int .i64 i)))], [(0, ⟨.ro, 40, insT xs⟩)]⟩
theorem run49 {j : Nat} (hj : big ≤ j) (xs : List Ins) (procs : Int) (hl : xs.length ≤ 1048576) : M.run (j + 4) 59 [.c (.r 40 xs.length (insT xs)), .c (.v (.int .i64 procs))] = some ([.c (.v (.bool (progB xs procs)))], [.c (.r 40 xs.length (insT xs)), .c (.v (.int .i64 procs))]) := by
 rcases first_bad (fun x => insB x xs.length procs) xs with hc | ⟨n, hn, hc, hg⟩
 ·have ha := all_of (p := fun x => insB x xs.length procs) hc
  have hpr : inB xs.length 1 30 = true → inB procs 1 4 = true := fun h => by
   have h0 : 0 < xs.length := by have := inB_le h; omega
   have := hc 0 h0
   simp [insB] at this
   exact this.1.1.1.1.2
  rw [m_run (fn := Try.f59) (i0 := 0) rfl Try.func59 rfl rfl (by simp)]
  simp -implicitDefEqProofs
  rw [loop_to (H49 xs procs) xs.length (by simp -implicitDefEqProofs [H49, hint1]) (by simp [big] at hj; omega) (fun i hi => by
   have e := run27 (j := j) xs[i] xs.length procs
   rw [spec_ins, hc i hi] at e
   simp only [tIns] at e
   simp -implicitDefEqProofs [H49, hint1, hi, w64 (x := (i : Int) + 1) (by omega), show i * 5 + 5 ≤ xs.length * 5 by omega, tIns, e, own1]) (by simp -implicitDefEqProofs [H49, stops, hint1])]
  unfold progB
  rw [ha]
  cases h : inB xs.length 1 30
  ·simp -implicitDefEqProofs [H49, run61, own1, h]
  ·simp -implicitDefEqProofs [H49, run61, own1, h, hpr h]
 ·have ha := not_all (p := fun x => insB x xs.length procs) hn hc
  rw [m_run (fn := Try.f59) (i0 := 0) rfl Try.func59 rfl rfl (by simp)]
  simp -implicitDefEqProofs
  have e := run27 (j := j) xs[n] xs.length procs
  rw [spec_ins, hc] at e
  simp only [tIns] at e
  rw [loop_to (H49 xs procs) n (by simp -implicitDefEqProofs [H49, hint1]) (by simp [big] at hj; omega) (fun i hi => by
   have e := run27 (j := j) (xs[i]'(by omega)) xs.length procs
   rw [spec_ins, hg i hi] at e
   simp only [tIns] at e
   simp -implicitDefEqProofs [H49, hint1, show i < xs.length by omega, w64 (x := (i : Int) + 1) (by omega), show i * 5 + 5 ≤ xs.length * 5 by omega, tIns, e, own1]) (by simp -implicitDefEqProofs [H49, stops, hn, e, show n * 5 + 5 ≤ xs.length * 5 by omega, tIns, own1])]
  unfold progB
  rw [ha]
  simp -implicitDefEqProofs [H49, hn, e, own1, show n * 5 + 5 ≤ xs.length * 5 by omega, tIns]
end Go.Proofs.Ytninncdacekfgaa.VM

/- Next reckoned, and the law FnExactNext. -/
namespace Go.Proofs.Ytninncdacekfgaa.VM
open Go Go.Proofs
set_option linter.unusedSimpArgs false
set_option linter.unusedVariables false
set_option maxRecDepth 100000
set_option maxHeartbeats 4000000
structure Ev where
 kind : Int
 peer : Int
 v : Int
def tEv (e : Ev) : List T := [.v (.int .i64 e.kind), .v (.int .i64 e.peer), .v (.int .i64 e.v)]
/-- What comes next, of what is right and runs. -/
def nextE (x : Ins) (regs : List Int) : Ev := if x.op = 6 then ⟨2, x.n, (regs[x.a.toNat]?).getD 0⟩ else if x.op = 7 then ⟨3, x.n, 0⟩ else if x.op = 8 then ⟨4, 0, (regs[x.a.toNat]?).getD 0⟩ else ⟨1, 0, 0⟩
theorem run83 {j : Nat} (l : List Ins) (i : Nat) (hi : i < l.length) (c : Int) (xs ys : List Int) (hx : xs.length = 4) (ha : l[i].op = 6 ∨ l[i].op = 8 → 0 ≤ l[i].a ∧ l[i].a < 4) :
  M.run (j + 1) 36 [.c (.r 40 l.length (insT l)), .agg (stR i xs ys c)] = some ([.agg (tEv (nextE l[i] xs))], [.c (.r 40 l.length (insT l)), .agg (stR i xs ys c)]) := by
 rw [m_run (fn := Try.f36) (i0 := 0) rfl Try.func36 rfl rfl (by simp [stR])]
 unfold nextE
 by_cases h6 : l[i].op = 6
 ·obtain ⟨k, hk⟩ : ∃ k : Nat, l[i].a = k := ⟨l[i].a.toNat, by have := ha (.inl h6); omega⟩
  have hk4 : k < xs.length := by have := ha (.inl h6); omega
  simp -implicitDefEqProofs [stR, own1, hi, show i * 5 + 5 ≤ l.length * 5 by omega, tIns, tEv, h6, hk, hk4]
 by_cases h7 : l[i].op = 7
 ·simp -implicitDefEqProofs [stR, own1, hi, show i * 5 + 5 ≤ l.length * 5 by omega, tIns, tEv, h7]
 by_cases h8 : l[i].op = 8
 ·obtain ⟨k, hk⟩ : ∃ k : Nat, l[i].a = k := ⟨l[i].a.toNat, by have := ha (.inr h8); omega⟩
  have hk4 : k < xs.length := by have := ha (.inr h8); omega
  simp -implicitDefEqProofs [stR, own1, hi, show i * 5 + 5 ≤ l.length * 5 by omega, tIns, tEv, h8, hk, hk4]
 simp -implicitDefEqProofs [stR, own1, hi, show i * 5 + 5 ≤ l.length * 5 by omega, tIns, tEv, h6, h7, h8]
theorem run84 {j : Nat} (l : List Ins) (i : Nat) (hi : i < l.length) (c : Int) (xs ys : List Int) (hx : xs.length = 4) (ha : l[i].op = 6 ∨ l[i].op = 8 → 0 ≤ l[i].a ∧ l[i].a < 4) :
  M.run (j + 1) 35 [.c (.r 40 l.length (insT l)), .agg (stR i xs ys c)] = some ([.agg (tEv (nextE l[i] xs))], [.c (.r 40 l.length (insT l)), .agg (stR i xs ys c)]) := by
 rw [m_run (fn := Try.f35) (i0 := 0) rfl Try.func35 rfl rfl (by simp [stR])]
 unfold nextE
 by_cases h6 : l[i].op = 6
 ·obtain ⟨k, hk⟩ : ∃ k : Nat, l[i].a = k := ⟨l[i].a.toNat, by have := ha (.inl h6); omega⟩
  have hk4 : k < xs.length := by have := ha (.inl h6); omega
  simp -implicitDefEqProofs [stR, own1, hi, show i * 5 + 5 ≤ l.length * 5 by omega, tIns, tEv, h6, hk, hk4]
 by_cases h7 : l[i].op = 7
 ·simp -implicitDefEqProofs [stR, own1, hi, show i * 5 + 5 ≤ l.length * 5 by omega, tIns, tEv, h7]
 by_cases h8 : l[i].op = 8
 ·obtain ⟨k, hk⟩ : ∃ k : Nat, l[i].a = k := ⟨l[i].a.toNat, by have := ha (.inr h8); omega⟩
  have hk4 : k < xs.length := by have := ha (.inr h8); omega
  simp -implicitDefEqProofs [stR, own1, hi, show i * 5 + 5 ≤ l.length * 5 by omega, tIns, tEv, h8, hk, hk4]
 simp -implicitDefEqProofs [stR, own1, hi, show i * 5 + 5 ≤ l.length * 5 by omega, tIns, tEv, h6, h7, h8]
/-- A program and its state are right, and it runs. -/
def okN (l : List Ins) (a c : Int) (xs ys : List Int) : Bool := progB l 4 && (stOkB l.length a xs ys c && (c == 0))
def nextF (l : List Ins) (a c : Int) (xs ys : List Int) : Ev := if okN l a c xs ys = true then nextE ((l[a.toNat]?).getD ⟨0, 0, 0, 0, 0⟩) xs else ⟨0, 0, 0⟩
theorem insB_a {x : Ins} {n m : Int} (h : insB x n m = true) (h6 : x.op = 6 ∨ x.op = 8) : 0 ≤ x.a ∧ x.a < 4 := by
 simp only [insB, Bool.and_eq_true] at h
 have := h.1.1.2
 rcases h6 with h6 | h6 <;> (simp [regB, inB, hasB, formL, h6] at this; omega)
theorem okN_at {l : List Ins} {a c : Int} {xs ys : List Int} (h : okN l a c xs ys = true) : ∃ i : Nat, ∃ hi : i < l.length, a = i ∧ c = 0 ∧ xs.length = 4 ∧ ((l[a.toNat]?).getD ⟨0, 0, 0, 0, 0⟩) = l[i] ∧ (l[i].op = 6 ∨ l[i].op = 8 → 0 ≤ l[i].a ∧ l[i].a < 4) := by
 simp only [okN, progB, stOkB, Bool.and_eq_true, decide_eq_true_eq, beq_iff_eq] at h
 have ha : 0 ≤ a ∧ a ≤ (l.length : Int) - 1 := inB_le (by simp_all)
 obtain ⟨i, rfl⟩ : ∃ i : Nat, a = i := ⟨a.toNat, by omega⟩
 refine ⟨i, by omega, rfl, h.2.2, by simp_all, by simp [show i < l.length by omega], fun h6 => ?_⟩
 have := List.all_eq_true.1 h.1.2 l[i] (List.getElem_mem _)
 exact insB_a this h6
theorem run82 {j : Nat} (hj : big ≤ j) (l : List Ins) (a c : Int) (xs ys : List Int) (hl : l.length ≤ 1048576) (hx : xs.length ≤ 1048576) (hy : ys.length ≤ 1048576) :
  M.run (j + 5) 31 [.c (.r 40 l.length (insT l)), .agg (stR a xs ys c)] = some ([.c (.v (.bool (okN l a c xs ys)))], [.c (.r 40 l.length (insT l)), .agg (stR a xs ys c)]) := by
 rw [m_run (fn := Try.f31) (i0 := 0) rfl Try.func31 rfl rfl (by simp [stR])]
 have e1 := run49 hj l 4 hl
 have e2 := run44 (j := j + 1) (by omega) l a c xs ys hl hx hy
 unfold okN
 simp only [stR] at e2 ⊢
 cases h1 : progB l 4 <;> rw [h1] at e1
 ·simp -implicitDefEqProofs [own1, e1]
 cases h2 : stOkB l.length a xs ys c <;> rw [h2] at e2
 ·simp -implicitDefEqProofs [own1, e1, e2]
 ·simp -implicitDefEqProofs [own1, e1, e2]
theorem run54 {j : Nat} (hj : big ≤ j) (l : List Ins) (a c : Int) (xs ys : List Int) (hl : l.length ≤ 1048576) (hx : xs.length ≤ 1048576) (hy : ys.length ≤ 1048576) :
  M.run (j + 6) 10 [.c (.r 40 l.length (insT l)), .agg (stR a xs ys c)] = some ([.agg (tEv (nextF l a c xs ys))], [.c (.r 40 l.length (insT l)), .agg (stR a xs ys c)]) := by
 rw [m_run (fn := Try.f10) (i0 := 0) rfl Try.func10 rfl rfl (by simp [stR])]
 have e1 := run82 hj l a c xs ys hl hx hy
 unfold nextF
 cases h1 : okN l a c xs ys
 ·rw [h1] at e1
  simp only [stR] at e1 ⊢
  simp -implicitDefEqProofs [own1, e1, tEv]
 ·obtain ⟨i, hi, rfl, rfl, hx4, hg, h6⟩ := okN_at h1
  have e2 := run83 (j := j + 4) l i hi 0 xs ys hx4 h6
  rw [h1] at e1
  rw [hg]
  simp only [stR, tEv] at e1 e2 ⊢
  simp -implicitDefEqProofs [own1, e1, e2]
theorem run55 {j : Nat} (hj : big ≤ j) (l : List Ins) (a c : Int) (xs ys : List Int) (hl : l.length ≤ 1048576) (hx : xs.length ≤ 1048576) (hy : ys.length ≤ 1048576) :
  M.run (j + 8) 9 [.c (.r 40 l.length (insT l)), .agg (stR a xs ys c)] = some ([.agg (tEv (nextF l a c xs ys))], [.c (.r 40 l.length (insT l)), .agg (stR a xs ys c)]) := by
 rw [m_run (fn := Try.f9) (i0 := 0) rfl Try.func9 rfl rfl (by simp [stR])]
 have e1 := run50 hj l 4 hl
 have e2 := run47 (j := j) (by omega) l a c xs ys hl hx hy
 unfold nextF
 cases h1 : okN l a c xs ys
 ·unfold okN at h1
  simp only [stR] at e2 ⊢
  cases g1 : progB l 4 <;> rw [g1] at e1 h1
  ·simp -implicitDefEqProofs [own1, e1, tEv]
  cases g2 : stOkB l.length a xs ys c <;> rw [g2] at e2 h1
  ·simp -implicitDefEqProofs [own1, e1, e2, tEv]
  ·have hc : ¬ c = 0 := by simpa using h1
   simp -implicitDefEqProofs [own1, e1, e2, tEv, hc]
 ·obtain ⟨i, hi, rfl, rfl, hx4, hg, h6⟩ := okN_at h1
  have e3 := run84 (j := j + 6) l i hi 0 xs ys hx4 h6
  unfold okN at h1
  simp only [Bool.and_eq_true] at h1
  rw [h1.1] at e1
  rw [h1.2.1] at e2
  rw [hg]
  simp only [stR, tEv] at e2 e3 ⊢
  simp -implicitDefEqProofs [own1, e1, e2, e3]
end Go.Proofs.Ytninncdacekfgaa.VM

/- Arguments of the laws: systems. -/
namespace Go.Proofs.Ytninncdacekfgaa.VM
open Go Go.Proofs
set_option linter.unusedSimpArgs false
set_option linter.unusedVariables false
set_option maxRecDepth 100000
structure Itm where
 mark : Bool
 v : Int
def tItem (x : Itm) : List T := [.v (.bool x.mark), .v (.int .i64 x.v)]
structure Sy where
 progs : List (List Ins)
 states : List Sta
 ways : List (List Itm)
 hist : List (List Ev)
/-- Rows of rows, read only. -/
def rr {α : Type} (e : TypeId) (tr : α → List T) (xs : List α) : T := .r e xs.length (xs.flatMap tr)
def rs {α : Type} (e : TypeId) (tr : α → List T) (xs : List α) : T := .s e xs.length (xs.flatMap tr)
theorem fm_one {α : Type} (f : α → T) : ∀ xs : List α, (xs.flatMap fun x => [f x]) = xs.map f
 | [] => rfl
 | x :: xs => by rw [List.flatMap_cons, fm_one f xs]; rfl
theorem opT_rows {α : Type} {P : Program} {t e u : TypeId} (ht : P.underlying t = some (.slice e)) {tr : α → List T} {ok' : List α → Prop} (hpos : 0 < P.cellsOf e) (h : OpT P e (fun xs : List α => [rr u tr xs]) ok') : OpT P t (fun xss : List (List α) => [.r e xss.length (xss.map (rr u tr))]) (fun xss => (∀ y ∈ xss, ok' y) ∧ xss.length ≤ maxLen) := by
 have := opT_slice ht hpos h
 simp only [fm_one] at this
 exact this
def evOk (x : Ev) : Prop := i64 x.kind ∧ i64 x.peer ∧ i64 x.v
def itemOk (x : Itm) : Prop := True ∧ i64 x.v
theorem op4 : OpT Try.prog 4 (fun b : Bool => [.v (.bool b)]) (fun _ => True) := opT_bool Try.underlying4
/-- A system, as the laws have it. -/
def syOk (s : Sy) : Prop := ((∀ y ∈ s.progs, (∀ x ∈ y, insOk x) ∧ y.length ≤ maxLen) ∧ s.progs.length ≤ maxLen) ∧ ((∀ x ∈ s.states, staOk x) ∧ s.states.length ≤ maxLen) ∧ ((∀ y ∈ s.ways, (∀ x ∈ y, itemOk x) ∧ y.length ≤ maxLen) ∧ s.ways.length ≤ maxLen) ∧ ((∀ y ∈ s.hist, (∀ x ∈ y, evOk x) ∧ y.length ≤ maxLen) ∧ s.hist.length ≤ maxLen)
end Go.Proofs.Ytninncdacekfgaa.VM

/- Do of the specification reckoned. -/
namespace Go.Proofs.Ytninncdacekfgaa.VM
open Go Go.Proofs
set_option linter.unusedSimpArgs false
set_option linter.unusedVariables false
set_option maxRecDepth 100000
set_option maxHeartbeats 40000000
def sSta (s : Sta) : List T := stS s.at_ s.regs s.out s.code
/-- A state that was given away. -/
def hSta (s : Sta) : List T := [.v (.int .i64 s.at_), .h, .h, .v (.int .i64 s.code)]
/-- On to a place; a fault where there is none. -/
def goF (n : Nat) (s : Sta) (a' : Int) : Sta := if inB a' 0 ((n : Int) - 1) = true then ⟨a', s.regs, s.out, s.code⟩ else ⟨s.at_, s.regs, s.out, 2⟩
/-- A register. -/
def rg (xs : List Int) (k : Int) : Int := (xs[k.toNat]?).getD 0
/-- What is put into a register. -/
def valF (x : Ins) (xs : List Int) : Int := if x.op = 1 then x.n else if x.op = 2 then rg xs x.a + rg xs x.b else if x.op = 3 then rg xs x.a - rg xs x.b else if x.op = 4 then rg xs x.a * rg xs x.b else if rg xs x.a < rg xs x.b then 1 else 0
/-- What is behind an event that comes. -/
def didF (x : Ins) (n : Nat) (s : Sta) (v : Int) : Sta :=
 if x.op = 7 then goF n ⟨s.at_, s.regs.set x.r.toNat v, s.out, s.code⟩ (s.at_ + 1)
 else if x.op = 8 then (if 60 ≤ s.out.length then ⟨s.at_, s.regs, s.out, 2⟩ else goF n ⟨s.at_, s.regs, s.out ++ [v], s.code⟩ (s.at_ + 1))
 else if x.op = 9 then goF n s x.n
 else if x.op = 10 then (if rg s.regs x.a = 0 then goF n s x.n else goF n s (s.at_ + 1))
 else if x.op = 11 then ⟨s.at_, s.regs, s.out, 1⟩
 else if x.op = 6 then goF n s (s.at_ + 1)
 else if numB (valF x s.regs) = true then goF n ⟨s.at_, s.regs.set x.r.toNat (valF x s.regs), s.out, s.code⟩ (s.at_ + 1) else ⟨s.at_, s.regs, s.out, 2⟩
/-- May it come. -/
def comesB (e w : Ev) : Bool := if w.kind = 3 ∧ e.kind = 3 then numB e.v && ((e.peer == w.peer && w.peer != 9) || (w.peer == 9 && inB e.peer 0 3)) else e.kind == w.kind && (e.peer == w.peer && e.v == w.v)
/-- An instruction, and registers, in which all is right. -/
structure Rt (x : Ins) (n : Nat) (s : Sta) : Prop where
 at0 : 0 ≤ s.at_ ∧ s.at_ < n
 le : n ≤ 1048576
 regs : s.regs.length = 4
 nums : ∀ v ∈ s.regs, numB v = true
 out : s.out.length ≤ 60
 r : 0 ≤ x.r ∧ x.r < 4
 a : 0 ≤ x.a ∧ x.a < 4
 b : 0 ≤ x.b ∧ x.b < 4
 op : 1 ≤ x.op ∧ x.op ≤ 11
 place : x.op = 9 ∨ x.op = 10 → 0 ≤ x.n ∧ x.n < n
 peer : x.op = 7 → x.n = 9 ∨ (0 ≤ x.n ∧ x.n < 4)
theorem run97 {j : Nat} (s : Sta) (h1 : s.regs.length ≤ 1048576) (h2 : s.out.length ≤ 1048576) : M.run (j + 1) 32 [.agg (tSta s)] = some ([.agg (sSta s)], [.agg (tSta s)]) := by
 rw [m_run (fn := Try.f32) (i0 := 0) rfl Try.func32 rfl rfl (by simp [tSta, stR])]
 simp -implicitDefEqProofs [tSta, stR, sSta, stS, own1, le_most h1, le_most h2]
theorem run100 {j : Nat} (s : Sta) : M.run (j + 1) 61 [.agg (sSta s)] = some ([.agg (sSta ⟨s.at_, s.regs, s.out, 2⟩)], [.agg (hSta s)]) := by
 rw [m_run (fn := Try.f61) (i0 := 0) rfl Try.func61 rfl rfl (by simp [sSta, stS])]
 simp -implicitDefEqProofs [hSta, stR, sSta, stS, own1]
theorem run99 {j : Nat} (s : Sta) (n : Nat) (l : List T) (ha : 0 ≤ s.at_ ∧ s.at_ < n) (hn : n ≤ 1048576) : M.run (j + 2) 60 [.c (.r 40 n l), .agg (sSta s)] = some ([.agg (sSta (goF n s (s.at_ + 1)))], [.c (.r 40 n l), .agg (hSta s)]) := by
 rw [m_run (fn := Try.f60) (i0 := 0) rfl Try.func60 rfl rfl (by simp [sSta, stS])]
 have e := run100 (j := j) s
 unfold goF inB
 by_cases h : (n : Int) ≤ s.at_ + 1
 ·rw [if_neg (by simp; omega)]
  simp only [sSta, stS, hSta] at e ⊢
  simp -implicitDefEqProofs [own1, e, h, w64 (x := s.at_ + 1) (by omega)]
 ·rw [if_pos (by simp; omega)]
  simp only [sSta, stS, hSta] at e ⊢
  simp -implicitDefEqProofs [own1, e, h, w64 (x := s.at_ + 1) (by omega)]
theorem mul_num {p q : Int} (hp : numB p = true) (hq : numB q = true) : -1000000000000000000 ≤ p * q ∧ p * q ≤ 1000000000000000000 := by
 have hp := inB_le hp
 have hq := inB_le hq
 have h : (p * q).natAbs ≤ 1000000000 * 1000000000 := by
  rw [Int.natAbs_mul]
  exact Nat.mul_le_mul (by omega) (by omega)
 generalize p * q = m at *
 omega
theorem run101 {j : Nat} (l : List Ins) (i : Nat) (hi : i < l.length) (xs ys : List Int) (c : Int) (R : Rt l[i] l.length ⟨i, xs, ys, c⟩) (h6 : ¬ l[i].op = 6) (h7 : ¬ l[i].op = 7) (h8 : ¬ l[i].op = 8) (v : Int) :
  M.run (j + 3) 62 [.c (.r 40 l.length (insT l)), .agg (stS i xs ys c)] = some ([.agg (sSta (didF l[i] l.length ⟨i, xs, ys, c⟩ v))], [.c (.r 40 l.length (insT l)), .agg (hSta ⟨i, xs, ys, c⟩)]) := by
 have hx : xs.length = 4 := R.regs
 have hle := R.le
 obtain ⟨ka, hka⟩ : ∃ k : Nat, l[i].a = k := ⟨l[i].a.toNat, by have := R.a; omega⟩
 obtain ⟨kb, hkb⟩ : ∃ k : Nat, l[i].b = k := ⟨l[i].b.toNat, by have := R.b; omega⟩
 obtain ⟨kr, hkr⟩ : ∃ k : Nat, l[i].r = k := ⟨l[i].r.toNat, by have := R.r; omega⟩
 have la : ka < xs.length := by have := R.a; omega
 have lb : kb < xs.length := by have := R.b; omega
 have lr : kr < xs.length := by have := R.r; omega
 have lr' : kr + 1 ≤ xs.length := by omega
 have ra : rg xs l[i].a = xs[ka] := by simp [rg, hka, la]
 have rb : rg xs l[i].b = xs[kb] := by simp [rg, hkb, lb]
 have na : numB xs[ka] = true := R.nums _ (List.getElem_mem _)
 have nb : numB xs[kb] = true := R.nums _ (List.getElem_mem _)
 have na' := inB_le na
 have nb' := inB_le nb
 have hi5 : i * 5 + 5 ≤ l.length * 5 := by omega
 have hop := R.op
 have eg := run99 (j := j) ⟨i, xs, ys, c⟩ l.length (insT l) ⟨by simp, by simpa using hi⟩ hle
 have ef := run100 (j := j + 1) ⟨i, xs, ys, c⟩
 have es : ∀ m : Int, M.run (j + 2) 60 [.c (.r 40 l.length (insT l)), .agg (sSta ⟨i, xs.set kr m, ys, c⟩)] = some ([.agg (sSta (goF l.length ⟨i, xs.set kr m, ys, c⟩ (i + 1)))], [.c (.r 40 l.length (insT l)), .agg (hSta ⟨i, xs.set kr m, ys, c⟩)]) := fun m => run99 (j := j) ⟨i, xs.set kr m, ys, c⟩ l.length (insT l) ⟨by simp, by simpa using hi⟩ hle
 simp -implicitDefEqProofs [sSta, stS, hSta] at eg ef es
 rw [m_run (fn := Try.f62) (i0 := 0) rfl Try.func62 rfl rfl (by simp [stS])]
 simp -implicitDefEqProofs [stS, own1, hi, hi5, tIns, hka, hkb, la, lb]
 by_cases o11 : l[i].op = 11
 ·rw [show didF l[i] l.length ⟨i, xs, ys, c⟩ v = ⟨i, xs, ys, 1⟩ by simp [didF, o11]]
  simp -implicitDefEqProofs [sSta, stS, hSta, o11]
 by_cases o9 : l[i].op = 9
 ·have hp := R.place (.inl o9)
  rw [show didF l[i] l.length ⟨i, xs, ys, c⟩ v = ⟨l[i].n, xs, ys, c⟩ by simp [didF, o9, goF, inB]; omega]
  simp -implicitDefEqProofs [sSta, stS, hSta, o9]
 by_cases o10 : l[i].op = 10
 ·have hp := R.place (.inr o10)
  by_cases z : xs[ka] = 0
  ·rw [show didF l[i] l.length ⟨i, xs, ys, c⟩ v = ⟨l[i].n, xs, ys, c⟩ by simp [didF, o10, ra, z, goF, inB]; omega]
   simp -implicitDefEqProofs [sSta, stS, hSta, o10, z]
  ·rw [show didF l[i] l.length ⟨i, xs, ys, c⟩ v = goF l.length ⟨i, xs, ys, c⟩ (i + 1) by simp [didF, o10, ra, z]]
   simp -implicitDefEqProofs [sSta, stS, hSta, o10, z, own1, eg]
 have rest : ∀ m : Int, valF l[i] xs = m → didF l[i] l.length ⟨i, xs, ys, c⟩ v = if numB m = true then goF l.length ⟨i, xs.set kr m, ys, c⟩ (i + 1) else ⟨i, xs, ys, 2⟩ := fun m hm => by
  simp [didF, h6, h7, h8, o9, o10, o11, hm, hkr]
 by_cases o1 : l[i].op = 1
 ·rw [rest l[i].n (by simp [valF, o1])]
  cases q : numB l[i].n
  ·simp -implicitDefEqProofs [sSta, stS, hSta, own1, o1, run62, q, ef]
  ·simp -implicitDefEqProofs [sSta, stS, hSta, own1, o1, run62, q, es, hkr, lr, lr']
 by_cases o2 : l[i].op = 2
 ·rw [rest (xs[ka] + xs[kb]) (by simp [valF, o2, ra, rb])]
  cases q : numB (xs[ka] + xs[kb])
  ·simp -implicitDefEqProofs [sSta, stS, hSta, own1, o2, w64 (x := xs[ka] + xs[kb]) (by omega), run62, q, ef]
  ·simp -implicitDefEqProofs [sSta, stS, hSta, own1, o2, w64 (x := xs[ka] + xs[kb]) (by omega), run62, q, es, hkr, lr, lr']
 by_cases o3 : l[i].op = 3
 ·rw [rest (xs[ka] - xs[kb]) (by simp [valF, o3, ra, rb])]
  cases q : numB (xs[ka] - xs[kb])
  ·simp -implicitDefEqProofs [sSta, stS, hSta, own1, o3, w64 (x := xs[ka] - xs[kb]) (by omega), run62, q, ef]
  ·simp -implicitDefEqProofs [sSta, stS, hSta, own1, o3, w64 (x := xs[ka] - xs[kb]) (by omega), run62, q, es, hkr, lr, lr']
 by_cases o4 : l[i].op = 4
 ·have hm := mul_num na nb
  rw [rest (xs[ka] * xs[kb]) (by simp [valF, o4, ra, rb])]
  cases q : numB (xs[ka] * xs[kb])
  ·simp -implicitDefEqProofs [sSta, stS, hSta, own1, o4, w64 (x := xs[ka] * xs[kb]) (by omega), run62, q, ef]
  ·simp -implicitDefEqProofs [sSta, stS, hSta, own1, o4, w64 (x := xs[ka] * xs[kb]) (by omega), run62, q, es, hkr, lr, lr']
 have o5 : l[i].op = 5 := by omega
 by_cases z : xs[ka] < xs[kb]
 ·rw [rest 1 (by simp [valF, o5, ra, rb, z])]
  simp -implicitDefEqProofs [sSta, stS, hSta, own1, o5, z, run62, show numB 1 = true from rfl, es, hkr, lr, lr']
 ·rw [rest 0 (by simp [valF, o5, ra, rb, z])]
  simp -implicitDefEqProofs [sSta, stS, hSta, own1, o5, z, run62, show numB 0 = true from rfl, es, hkr, lr, lr']
end Go.Proofs.Ytninncdacekfgaa.VM

/- Do of the specification reckoned: one event. -/
namespace Go.Proofs.Ytninncdacekfgaa.VM
open Go Go.Proofs
set_option linter.unusedSimpArgs false
set_option linter.unusedVariables false
set_option maxRecDepth 100000
set_option maxHeartbeats 40000000
theorem ints_snoc (ys : List Int) (v : Int) : ints ys ++ [T.v (.int .i64 v)] = ints (ys ++ [v]) := by simp [ints]
def evB (a b c a' b' c' : Int) : Bool := a == a' && (b == b' && (c == c' && true))
theorem flat75 : flatS Try.prog 29 = some (fieldsOf Try.prog 29) := by kernel_rfl
theorem eq75 (a b c a' b' c' : Int) : eqCs Try.prog (fieldsOf Try.prog 29) [.v (.int .i64 a), .v (.int .i64 b), .v (.int .i64 c)] [.v (.int .i64 a'), .v (.int .i64 b'), .v (.int .i64 c')] = some (evB a b c a' b' c') := by
 unfold fieldsOf; rw [Try.underlying29]; simp [eqCs, eqI, evB]
theorem comes_not {e w : Ev} (h : ¬ (w.kind = 3 ∧ e.kind = 3)) : comesB e w = evB e.kind e.peer e.v w.kind w.peer w.v := by
 unfold comesB evB
 rw [if_neg h]
 simp
theorem comes_take {e w : Ev} (h : w.kind = 3) (h' : e.kind = 3) : comesB e w = (numB e.v && ((e.peer == w.peer && w.peer != 9) || (w.peer == 9 && inB e.peer 0 3))) := by
 unfold comesB
 rw [if_pos ⟨h, h'⟩]
/-- The state behind an event, and whether it could come. -/
def oneF (x : Ins) (n : Nat) (s : Sta) (e : Ev) : Sta := if comesB e (nextE x s.regs) = true then didF x n s e.v else s
theorem run98 {j : Nat} (l : List Ins) (i : Nat) (hi : i < l.length) (xs ys : List Int) (c : Int) (R : Rt l[i] l.length ⟨i, xs, ys, c⟩) (e : Ev) :
  M.run (j + 4) 33 [.c (.r 40 l.length (insT l)), .agg (stR i xs ys c), .agg (tEv e)] = some ([.agg (sSta (oneF l[i] l.length ⟨i, xs, ys, c⟩ e)), .c (.v (.bool (comesB e (nextE l[i] xs))))], [.c (.r 40 l.length (insT l)), .agg (stR i xs ys c), .agg (tEv e)]) := by
 have hx : xs.length = 4 := R.regs
 have hle := R.le
 obtain ⟨ka, hka⟩ : ∃ k : Nat, l[i].a = k := ⟨l[i].a.toNat, by have := R.a; omega⟩
 obtain ⟨kr, hkr⟩ : ∃ k : Nat, l[i].r = k := ⟨l[i].r.toNat, by have := R.r; omega⟩
 have la : ka < xs.length := by have := R.a; omega
 have lr : kr < xs.length := by have := R.r; omega
 have lr' : kr + 1 ≤ xs.length := by omega
 have hi5 : i * 5 + 5 ≤ l.length * 5 := by omega
 have hop := R.op
 have hr1 : (insT l)[i * 5 + 1]? = some (.v (.int .i64 kr)) := by
  rw [show insT l = l.flatMap tIns from rfl, fm_get (k := 5) tIns_len hi (by omega), ← hkr]
  rfl
 have e83 := run83 (j := j + 2) l i hi c xs ys hx (fun _ => R.a)
 have e97 := run97 (j := j + 2) ⟨i, xs, ys, c⟩ (by simp; omega) (by have := R.out; simp at this ⊢; omega)
 have eg := run99 (j := j + 1) ⟨i, xs, ys, c⟩ l.length (insT l) ⟨by simp, by simpa using hi⟩ hle
 have ef := run100 (j := j + 2) ⟨i, xs, ys, c⟩
 have es := run99 (j := j + 1) ⟨i, xs.set kr e.v, ys, c⟩ l.length (insT l) ⟨by simp, by simpa using hi⟩ hle
 have ep := run99 (j := j + 1) ⟨i, xs, ys ++ [e.v], c⟩ l.length (insT l) ⟨by simp, by simpa using hi⟩ hle
 have hout : ys.length ≤ 60 := R.out
 simp -implicitDefEqProofs [tSta, stR, sSta, stS, hSta, tEv] at e83 e97 eg ef es ep
 rw [m_run (fn := Try.f33) (i0 := 0) rfl Try.func33 rfl rfl (by simp [stR, tEv])]
 unfold oneF
 by_cases o7 : l[i].op = 7
 ·have hn : nextE l[i] xs = ⟨3, l[i].n, 0⟩ := by simp [nextE, o7]
  have hd : didF l[i] l.length ⟨i, xs, ys, c⟩ e.v = goF l.length ⟨i, xs.set kr e.v, ys, c⟩ (i + 1) := by simp [didF, o7, hkr]
  have hpeer := R.peer o7
  rw [hn] at e83
  simp only
  rw [hn, hd]
  try simp -implicitDefEqProofs at e83
  simp -implicitDefEqProofs [stR, tEv, own1, e83, e97]
  by_cases k3 : e.kind = 3
  ·rw [comes_take rfl k3]
   cases q1 : numB e.v
   ·simp -implicitDefEqProofs [stR, tEv, sSta, stS, own1, k3, run62, q1]
   ·by_cases q2 : l[i].n = 9
    ·cases q3 : inB e.peer 0 3
     ·simp -implicitDefEqProofs [stR, tEv, sSta, stS, own1, k3, run62, run61, q1, q2, q3]
     ·simp -implicitDefEqProofs [stR, tEv, sSta, stS, own1, k3, run62, run61, q1, q2, q3, hi, hi5, tIns, hr1, hkr, lr, lr', es]
    ·by_cases q4 : e.peer = l[i].n
     ·have q3 : inB l[i].n 0 3 = true := by simp [inB]; omega
      simp -implicitDefEqProofs [stR, tEv, sSta, stS, own1, k3, run62, run61, q1, q2, q3, q4, hi, hi5, tIns, hr1, hkr, lr, lr', es]
     ·simp -implicitDefEqProofs [stR, tEv, sSta, stS, own1, k3, run62, run61, q1, q2, q4]
  ·have hf : comesB e ⟨3, l[i].n, 0⟩ = false := by
    rw [comes_not (by simp [k3])]
    simp [evB, k3]
   rw [hf]
   simp -implicitDefEqProofs [stR, tEv, sSta, stS, own1, k3]
 have hk3 : ¬ ((nextE l[i] xs).kind = 3 ∧ e.kind = 3) := by
  unfold nextE
  (repeat' split) <;> simp_all
 rw [comes_not hk3]
 by_cases o8 : l[i].op = 8
 ·have hn : nextE l[i] xs = ⟨4, 0, xs[ka]⟩ := by simp [nextE, o8, hka, la]
  rw [hn] at e83
  try simp only
  try rw [comes_not hk3]
  try rw [hn]
  try simp -implicitDefEqProofs at e83
  simp -implicitDefEqProofs [stR, tEv, own1, e83, e97, flat75, eq75]
  cases q : evB e.kind e.peer e.v 4 0 xs[ka]
  ·simp -implicitDefEqProofs [stR, tEv, sSta, stS, own1]
  ·by_cases q2 : ys.length = 60
   ·rw [show didF l[i] l.length ⟨i, xs, ys, c⟩ e.v = ⟨i, xs, ys, 2⟩ by simp [didF, o8, q2]]
    simp -implicitDefEqProofs [stR, tEv, sSta, stS, hSta, own1, show (ys.length : Int) = 60 by omega, ef]
   ·rw [show didF l[i] l.length ⟨i, xs, ys, c⟩ e.v = goF l.length ⟨i, xs, ys ++ [e.v], c⟩ (i + 1) by simp [didF, o8]; omega]
    simp -implicitDefEqProofs [stR, tEv, sSta, stS, hSta, own1, show ¬ (ys.length : Int) = 60 by omega, ep, le_most (n := ys.length + 1) (by omega), ints_snoc]
 by_cases o6 : l[i].op = 6
 ·have hn : nextE l[i] xs = ⟨2, l[i].n, xs[ka]⟩ := by simp [nextE, o6, hka, la]
  rw [hn] at e83
  try simp only
  try rw [comes_not hk3]
  try rw [hn]
  try simp -implicitDefEqProofs at e83
  simp -implicitDefEqProofs [stR, tEv, own1, e83, e97, flat75, eq75]
  cases q : evB e.kind e.peer e.v 2 l[i].n xs[ka]
  ·simp -implicitDefEqProofs [stR, tEv, sSta, stS, own1]
  ·rw [show didF l[i] l.length ⟨i, xs, ys, c⟩ e.v = goF l.length ⟨i, xs, ys, c⟩ (i + 1) by simp [didF, o6]]
   simp -implicitDefEqProofs [stR, tEv, sSta, stS, hSta, own1, eg]
 have hn : nextE l[i] xs = ⟨1, 0, 0⟩ := by simp [nextE, o6, o7, o8]
 have el := run101 (j := j) l i hi xs ys c R o6 o7 o8 e.v
 simp -implicitDefEqProofs [stS, hSta] at el
 rw [hn] at e83
 try simp only
 try rw [comes_not hk3]
 try rw [hn]
 try simp -implicitDefEqProofs at e83
 simp -implicitDefEqProofs [stR, tEv, own1, e83, e97, flat75, eq75]
 cases q : evB e.kind e.peer e.v 1 0 0
 ·simp -implicitDefEqProofs [stR, tEv, sSta, stS, own1]
 ·simp -implicitDefEqProofs [stR, tEv, sSta, stS, hSta, own1, el]
theorem ins_rt {x : Ins} {n : Nat} (h : insB x n 4 = true) : (0 ≤ x.r ∧ x.r < 4) ∧ (0 ≤ x.a ∧ x.a < 4) ∧ (0 ≤ x.b ∧ x.b < 4) ∧ (1 ≤ x.op ∧ x.op ≤ 11) ∧ (x.op = 9 ∨ x.op = 10 → 0 ≤ x.n ∧ x.n < n) ∧ (x.op = 7 → x.n = 9 ∨ (0 ≤ x.n ∧ x.n < 4)) := by
 simp only [insB, Bool.and_eq_true] at h
 obtain ⟨⟨⟨⟨⟨h1, _⟩, h2⟩, h3⟩, h4⟩, h5⟩ := h
 have g : ∀ {k : Int} {b : Bool}, regB k b = true → 0 ≤ k ∧ k < 4 := fun {k b} h => by
  simp [regB, inB] at h
  omega
 refine ⟨g h2, g h3, g h4, by simpa [formB] using h1, fun ho => ?_, fun ho => ?_⟩
 ·rcases ho with ho | ho <;> (simp [lastB, hasB, formL, ho] at h5; omega)
 ·simp [lastB, hasB, formL, ho, inB] at h5
  omega
/-- Where all is right. -/
theorem okN_rt {l : List Ins} {a c : Int} {xs ys : List Int} (h : okN l a c xs ys = true) : ∃ i : Nat, ∃ hi : i < l.length, a = i ∧ c = 0 ∧ ((l[a.toNat]?).getD ⟨0, 0, 0, 0, 0⟩) = l[i] ∧ Rt l[i] l.length ⟨i, xs, ys, 0⟩ := by
 obtain ⟨i, hi, rfl, rfl, hx, hg, _⟩ := okN_at h
 simp only [okN, progB, stOkB, Bool.and_eq_true, decide_eq_true_eq] at h
 have hl := inB_le h.1.1
 have hins := ins_rt (List.all_eq_true.1 h.1.2 l[i] (List.getElem_mem _))
 exact ⟨i, hi, rfl, rfl, hg, ⟨⟨by simp, by simpa using hi⟩, by omega, hx, fun v hv => List.all_eq_true.1 h.2.1.1.2 v hv, h.2.1.1.1.2, hins.1, hins.2.1, hins.2.2.1, hins.2.2.2.1, hins.2.2.2.2.1, hins.2.2.2.2.2⟩⟩
/-- Do: the state, and whether it was done. -/
def doB (l : List Ins) (s : Sta) (e : Ev) : Bool := okN l s.at_ s.code s.regs s.out && comesB e (nextE ((l[s.at_.toNat]?).getD ⟨0, 0, 0, 0, 0⟩) s.regs)
def doS (l : List Ins) (s : Sta) (e : Ev) : Sta := if okN l s.at_ s.code s.regs s.out = true then oneF ((l[s.at_.toNat]?).getD ⟨0, 0, 0, 0, 0⟩) l.length s e else s
theorem run96 {j : Nat} (hj : big ≤ j) (l : List Ins) (s : Sta) (e : Ev) (hl : l.length ≤ 1048576) (hx : s.regs.length ≤ 1048576) (hy : s.out.length ≤ 1048576) :
  M.run (j + 6) 8 [.c (.r 40 l.length (insT l)), .agg (tSta s), .agg (tEv e)] = some ([.agg (sSta (doS l s e)), .c (.v (.bool (doB l s e)))], [.c (.r 40 l.length (insT l)), .agg (tSta s), .agg (tEv e)]) := by
 obtain ⟨a, xs, ys, c⟩ := s
 rw [m_run (fn := Try.f8) (i0 := 0) rfl Try.func8 rfl rfl (by simp [tSta, stR, tEv])]
 have e1 := run82 hj l a c xs ys hl hx hy
 unfold doS doB
 simp only
 cases h1 : okN l a c xs ys
 ·have e97 := run97 (j := j + 4) ⟨a, xs, ys, c⟩ hx hy
  rw [h1] at e1
  simp -implicitDefEqProofs [tSta, stR, sSta, stS] at e1 e97
  simp -implicitDefEqProofs [tSta, stR, sSta, stS, tEv, own1, e1, e97]
 ·obtain ⟨i, hi, rfl, rfl, hg, R⟩ := okN_rt h1
  have e98 := run98 (j := j + 1) l i hi xs ys 0 R e
  rw [h1] at e1
  rw [hg]
  simp -implicitDefEqProofs [stR, tEv, sSta, stS] at e1 e98
  simp -implicitDefEqProofs [tSta, stR, sSta, stS, tEv, own1, e1, e98]
end Go.Proofs.Ytninncdacekfgaa.VM
