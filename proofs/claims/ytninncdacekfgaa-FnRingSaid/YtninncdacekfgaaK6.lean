/- Rows of events and items. -/
import Derived.Test.YtninncdacekfgaaK5
import Derived.Test.YtninncdacekfgaaK2
import Derived.Test.YtninncdacekfgaaK4
/- The law FnExactDo, reckoned. -/
namespace Go.Proofs.Ytninncdacekfgaa.VM
open Go Go.Proofs
set_option linter.unusedSimpArgs false
set_option linter.unusedVariables false
set_option maxRecDepth 100000
set_option maxHeartbeats 40000000
theorem goF_len (n : Nat) (s : Sta) (k : Int) : (goF n s k).regs.length = s.regs.length ∧ (goF n s k).out.length = s.out.length := by
 unfold goF
 split <;> exact ⟨rfl, rfl⟩
theorem didF_len (x : Ins) (n : Nat) (s : Sta) (v : Int) : (didF x n s v).regs.length = s.regs.length ∧ (didF x n s v).out.length ≤ s.out.length + 1 := by
 unfold didF
 (repeat' split) <;> simp [goF_len]
theorem doS_len (l : List Ins) (s : Sta) (e : Ev) : (doS l s e).regs.length = s.regs.length ∧ (doS l s e).out.length ≤ s.out.length + 1 := by
 unfold doS oneF
 (repeat' split) <;> simp [didF_len]
end Go.Proofs.Ytninncdacekfgaa.VM

/- Rows of events; what is behind a row of events. -/
namespace Go.Proofs.Ytninncdacekfgaa.VM
open Go Go.Proofs
set_option linter.unusedSimpArgs false
set_option linter.unusedVariables false
set_option maxRecDepth 100000
set_option maxHeartbeats 4000000
/-! ### what is behind events -/
def s0 : Sta := ⟨0, [0, 0, 0, 0], [], 0⟩
def insAt (l : List Ins) (k : Int) : Ins := (l[k.toNat]?).getD ⟨0, 0, 0, 0, 0⟩
def stepS (l : List Ins) (s : Sta) (e : Ev) : Sta := didF (insAt l s.at_) l.length s e.v
def canB (l : List Ins) (s : Sta) (e : Ev) : Bool := s.code == 0 && comesB e (nextE (insAt l s.at_) s.regs)
def evAt (es : List Ev) (i : Nat) : Ev := (es[i]?).getD ⟨0, 0, 0⟩
def stAt (l : List Ins) (es : List Ev) : Nat → Sta
 | 0 => s0
 | i + 1 => stepS l (stAt l es i) (evAt es i)
def allTo (p : Nat → Bool) : Nat → Bool
 | 0 => true
 | n + 1 => allTo p n && p n
theorem allTo_or (p : Nat → Bool) : ∀ n, (allTo p n = true ∧ ∀ i, i < n → p i = true) ∨ (allTo p n = false ∧ ∃ m, m < n ∧ p m = false ∧ ∀ i, i < m → p i = true)
 | 0 => .inl ⟨rfl, fun i hi => by omega⟩
 | n + 1 => by
  rcases allTo_or p n with ⟨h1, h2⟩ | ⟨h1, m, h2, h3, h4⟩
  ·cases h : p n with
   | true => exact .inl ⟨by simp [allTo, h1, h], fun i hi => by
     rcases Nat.lt_or_ge i n with h' | h'
     ·exact h2 i h'
     ·have : i = n := by omega
      subst this; exact h⟩
   | false => exact .inr ⟨by simp [allTo, h], n, by omega, h, h2⟩
  ·exact .inr ⟨by simp [allTo, h1], m, by omega, h3, h4⟩
def repB (l : List Ins) (es : List Ev) : Bool := allTo (fun i => canB l (stAt l es i) (evAt es i)) es.length
def repS (l : List Ins) (es : List Ev) : Sta := if repB l es = true then stAt l es es.length else ⟨0, [], [], 0⟩
/-- A state of a program, in which all but its code is right. -/
structure Rok (l : List Ins) (s : Sta) : Prop where
 at0 : 0 ≤ s.at_ ∧ s.at_ < l.length
 regs : s.regs.length = 4
 nums : ∀ v ∈ s.regs, numB v = true
 out : s.out.length ≤ 60
theorem rok0 {l : List Ins} (h : progB l 4 = true) : Rok l s0 := by
 simp only [progB, Bool.and_eq_true] at h
 have := inB_le h.1
 refine ⟨by simp [s0]; omega, rfl, fun v hv => ?_, by simp [s0]⟩
 simp [s0] at hv
 subst hv
 rfl
theorem insAt_of {l : List Ins} {s : Sta} (h : Rok l s) : ∃ i : Nat, ∃ hi : i < l.length, s.at_ = i ∧ insAt l s.at_ = l[i] := by
 have := h.at0
 refine ⟨s.at_.toNat, by omega, by omega, ?_⟩
 unfold insAt
 rw [List.getElem?_eq_getElem (by omega)]
 rfl
theorem rok_rt {l : List Ins} {s : Sta} (hp : progB l 4 = true) (h : Rok l s) : Rt (insAt l s.at_) l.length s := by
 simp only [progB, Bool.and_eq_true] at hp
 obtain ⟨i, hi, h1, h2⟩ := insAt_of h
 have hins := ins_rt (List.all_eq_true.1 hp.2 l[i] (List.getElem_mem _))
 have hl := inB_le hp.1
 rw [h2]
 exact ⟨h.at0, by omega, h.regs, h.nums, h.out, hins.1, hins.2.1, hins.2.2.1, hins.2.2.2.1, hins.2.2.2.2.1, hins.2.2.2.2.2⟩
theorem goF_rok {l : List Ins} {s : Sta} (h : Rok l s) (k : Int) : Rok l (goF l.length s k) := by
 unfold goF
 split
 ·rename_i hk
  have := inB_le hk
  exact ⟨⟨this.1, show k < (l.length : Int) by omega⟩, h.regs, h.nums, h.out⟩
 ·exact ⟨h.at0, h.regs, h.nums, h.out⟩
theorem set_nums {xs : List Int} (h : ∀ v ∈ xs, numB v = true) {n : Nat} {v : Int} (hv : numB v = true) : ∀ u ∈ xs.set n v, numB u = true := fun u hu => by
 rcases List.mem_or_eq_of_mem_set hu with hu | rfl
 ·exact h u hu
 ·exact hv
theorem step_rok {l : List Ins} {s : Sta} {e : Ev} (h : Rok l s) (hc : comesB e (nextE (insAt l s.at_) s.regs) = true) : Rok l (stepS l s e) := by
 unfold stepS didF
 split
 ·rename_i o7
  have hn : numB e.v = true := by
   have hk : (nextE (insAt l s.at_) s.regs).kind = 3 := by simp [nextE, o7]
   by_cases he : e.kind = 3
   ·rw [comes_take hk he, Bool.and_eq_true] at hc
    exact hc.1
   ·rw [comes_not (by simp [he])] at hc
    simp [evB, hk] at hc
    exact absurd hc.1 he
  have h' : Rok l ⟨s.at_, s.regs.set (insAt l s.at_).r.toNat e.v, s.out, s.code⟩ := ⟨h.at0, (List.length_set ..).trans h.regs, set_nums h.nums hn, h.out⟩
  exact goF_rok h' _
 split
 ·split
  ·exact ⟨h.at0, h.regs, h.nums, h.out⟩
  ·rename_i hl
   have h' : Rok l ⟨s.at_, s.regs, s.out ++ [e.v], s.code⟩ := ⟨h.at0, h.regs, h.nums, by
    show (s.out ++ [e.v]).length ≤ 60
    rw [List.length_append, List.length_singleton]
    omega⟩
   exact goF_rok h' _
 split
 ·exact goF_rok h _
 split
 ·split <;> exact goF_rok h _
 split
 ·exact ⟨h.at0, h.regs, h.nums, h.out⟩
 split
 ·exact goF_rok h _
 split
 ·rename_i hv
  have h' : Rok l ⟨s.at_, s.regs.set (insAt l s.at_).r.toNat (valF (insAt l s.at_) s.regs), s.out, s.code⟩ := ⟨h.at0, (List.length_set ..).trans h.regs, set_nums h.nums hv, h.out⟩
  exact goF_rok h' _
 ·exact ⟨h.at0, h.regs, h.nums, h.out⟩
theorem st_rok {l : List Ins} {es : List Ev} (hp : progB l 4 = true) : ∀ {n : Nat}, (∀ i, i < n → canB l (stAt l es i) (evAt es i) = true) → Rok l (stAt l es n)
 | 0, _ => rok0 hp
 | n + 1, h => by
  have hn := h n (by omega)
  simp only [canB, Bool.and_eq_true] at hn
  exact step_rok (st_rok hp fun i hi => h i (by omega)) hn.2
theorem evAt_of {es : List Ev} {i : Nat} (h : i < es.length) : evAt es i = es[i] := by simp [evAt, h]
end Go.Proofs.Ytninncdacekfgaa.VM

/- Rows of events: measured, copied, compared, marked. -/
namespace Go.Proofs.Ytninncdacekfgaa.VM
open Go Go.Proofs
set_option linter.unusedSimpArgs false
set_option linter.unusedVariables false
set_option maxRecDepth 100000
set_option maxHeartbeats 4000000
def H_eqEventS (xs : List Ev) (i : Nat) : St := ⟨[(0, .c (.sl 0 [] 0 xs.length)), (1, .c (.sl 1 [] 0 xs.length)), (5, .c (.v (.int .i64 i)))], [(0, ⟨.ro, 29, evT xs⟩), (1, ⟨.ro, 29, evT xs⟩)]⟩
def evUp (k : Int) (n : Nat) : List Ev := (List.range n).map fun j : Nat => ⟨k + 3 * (j : Int), k + 3 * (j : Int) + 1, k + 3 * (j : Int) + 1 + 1⟩
@[simp] theorem evUp_len (k : Int) (n : Nat) : (evUp k n).length = n := by simp [evUp]
@[simp] theorem evUp_zero (k : Int) : evUp k 0 = [] := rfl
theorem evUp_succ (k : Int) (n : Nat) : evUp k (n + 1) = evUp k n ++ [⟨k + 3 * (n : Int), k + 3 * (n : Int) + 1, k + 3 * (n : Int) + 1 + 1⟩] := by simp [evUp, List.range_succ]
def H_markEventS (k : Int) (l : List Ev) (i : Nat) : St := ⟨[(0, .c (.sl 0 [] 0 l.length)), (1, .c (.v (.int .i64 (k + 3 * i)))), (5, .c (.v (.int .i64 i)))], [(0, ⟨.own, 29, evT (evUp k i ++ l.drop i)⟩)]⟩
end Go.Proofs.Ytninncdacekfgaa.VM

/- Rows of items: measured, copied, compared, marked, held. -/
namespace Go.Proofs.Ytninncdacekfgaa.VM
open Go Go.Proofs
set_option linter.unusedSimpArgs false
set_option linter.unusedVariables false
set_option maxRecDepth 100000
set_option maxHeartbeats 4000000
def H_eqItemS (xs : List Itm) (i : Nat) : St := ⟨[(0, .c (.sl 0 [] 0 xs.length)), (1, .c (.sl 1 [] 0 xs.length)), (5, .c (.v (.int .i64 i)))], [(0, ⟨.ro, 100, itT xs⟩), (1, ⟨.ro, 100, itT xs⟩)]⟩
def itUp (k : Int) (n : Nat) : List Itm := (List.range n).map fun j : Nat => ⟨Int.tmod (k + 2 * (j : Int)) 3 == 0, k + 2 * (j : Int) + 1⟩
@[simp] theorem itUp_len (k : Int) (n : Nat) : (itUp k n).length = n := by simp [itUp]
@[simp] theorem itUp_zero (k : Int) : itUp k 0 = [] := rfl
theorem itUp_succ (k : Int) (n : Nat) : itUp k (n + 1) = itUp k n ++ [⟨Int.tmod (k + 2 * (n : Int)) 3 == 0, k + 2 * (n : Int) + 1⟩] := by simp [itUp, List.range_succ]
theorem itUp_at {k : Int} {n i : Nat} (h : i < (itUp k n).length) : (itUp k n)[i] = ⟨Int.tmod (k + 2 * (i : Int)) 3 == 0, k + 2 * (i : Int) + 1⟩ := by simp [itUp]
def H_markItemS (k : Int) (l : List Itm) (i : Nat) : St := ⟨[(0, .c (.sl 0 [] 0 l.length)), (1, .c (.v (.int .i64 (k + 2 * i)))), (5, .c (.v (.int .i64 i)))], [(0, ⟨.own, 100, itT (itUp k i ++ l.drop i)⟩)]⟩
def H_heldItemS (k : Int) (n : Nat) (i : Nat) : St := ⟨[(0, .c (.sl 0 [] 0 n)), (1, .c (.v (.int .i64 (k + 2 * i)))), (5, .c (.v (.int .i64 i)))], [(0, ⟨.ro, 100, itT (itUp k n)⟩)]⟩
end Go.Proofs.Ytninncdacekfgaa.VM
