/- Marked systems; new systems: reckoned. -/
import Derived.Test.YtninncdacekfgaaGreatK7s
import Derived.Test.YtninncdacekfgaaGreatK8s
import Derived.Test.YtninncdacekfgaaGreatK53s
import Derived.Test.YtninncdacekfgaaGreatK11s
import Derived.Test.YtninncdacekfgaaGreatK12s
set_option linter.unusedSimpArgs false
set_option linter.unusedVariables false
set_option maxRecDepth 100000
set_option maxHeartbeats 40000000
namespace Go.Proofs.YtninncdacekfgaaGreat.VM
open Go Go.Proofs
end Go.Proofs.YtninncdacekfgaaGreat.VM
namespace Go.Proofs.YtninncdacekfgaaGreat.VM
open Go Go.Proofs
end Go.Proofs.YtninncdacekfgaaGreat.VM
namespace Go.Proofs.YtninncdacekfgaaGreat.VM
open Go Go.Proofs
def H_l4I (l : List (List Ins)) (i : Nat) : St := ⟨[(0, .c (.sl 0 [] 0 l.length)), (3, .c (.sl 384 [] 0 i)), (4, .c (.v (.int .i64 i)))], [(0, ⟨.ro, 100, l.map (rIns 105)⟩), (384, ⟨.own, 100, (l.take i).map (sIns 105)⟩)]⟩
theorem sIns_snoc {l : List (List Ins)} {e : TypeId} {i : Nat} (hi : i < l.length) : (l.take (i + 1)).map (sIns e) = (l.take i).map (sIns e) ++ [sIns e l[i]] := by
 rw [List.take_add_one, List.getElem?_eq_getElem hi, List.map_append]
 rfl
theorem sEvent_snoc {l : List (List Ev)} {e : TypeId} {i : Nat} (hi : i < l.length) : (l.take (i + 1)).map (sEvent e) = (l.take i).map (sEvent e) ++ [sEvent e l[i]] := by
 rw [List.take_add_one, List.getElem?_eq_getElem hi, List.map_append]
 rfl
theorem sItem_snoc {l : List (List Itm)} {e : TypeId} {i : Nat} (hi : i < l.length) : (l.take (i + 1)).map (sItem e) = (l.take i).map (sItem e) ++ [sItem e l[i]] := by
 rw [List.take_add_one, List.getElem?_eq_getElem hi, List.map_append]
 rfl
theorem take_map {α β : Type} (f : α → β) (l : List α) (i : Nat) : ((l.take i).map f).take i = (l.take i).map f := List.take_of_length_le (by rw [List.length_map, List.length_take]; omega)
theorem run_l4Ins {j : Nat} (hj : big ≤ j) (l : List (List Ins)) (hl : l.length ≤ 1048576) (hx : ∀ x ∈ l, x.length ≤ 1048576) : M.run (j + 1) 82 [.c (.r 100 l.length (l.map (rIns 105)))] = some ([.c (.s 100 l.length (l.map (sIns 105)))], [.c (.r 100 l.length (l.map (rIns 105)))]) := by
 rw [m_run (fn := Tryz.f82) (i0 := 0) rfl Tryz.func82 rfl rfl (by simp)]
 simp -implicitDefEqProofs
 rw [loop_then (H_l4I l) l.length (by simp -implicitDefEqProofs [H_l4I, hint1]) (by simp [big] at hj; omega) (fun i hi => by
  have hs := sIns_snoc (e := 105) hi
  have hm : min i l.length = i := by omega
  have hb := hx _ (List.getElem_mem hi)
  have tk := take_map (sIns 105) l i
  simp -implicitDefEqProofs [H_l4I, hint1, hi, hs, hm, tk, rIns_at hi, rIns, sIns, w64 (x := (i : Int) + 1) (by omega), le_most (n := i + 1) (by omega), show l[i].length * 5 ≤ most by unfold most; omega, -List.map_take])]
 have tk : (l.map (sIns 105)).take l.length = l.map (sIns 105) := List.take_of_length_le (by simp)
 simp -implicitDefEqProofs [H_l4I, tk]
def H_l4E (l : List (List Ev)) (i : Nat) : St := ⟨[(0, .c (.sl 0 [] 0 l.length)), (3, .c (.sl 384 [] 0 i)), (4, .c (.v (.int .i64 i)))], [(0, ⟨.ro, 68, l.map (rEvent 96)⟩), (384, ⟨.own, 68, (l.take i).map (sEvent 96)⟩)]⟩
theorem run_l4Events {j : Nat} (hj : big ≤ j) (l : List (List Ev)) (hl : l.length ≤ 1048576) (hx : ∀ x ∈ l, x.length ≤ 1048576) : M.run (j + 1) 83 [.c (.r 68 l.length (l.map (rEvent 96)))] = some ([.c (.s 68 l.length (l.map (sEvent 96)))], [.c (.r 68 l.length (l.map (rEvent 96)))]) := by
 rw [m_run (fn := Tryz.f83) (i0 := 0) rfl Tryz.func83 rfl rfl (by simp)]
 simp -implicitDefEqProofs
 rw [loop_then (H_l4E l) l.length (by simp -implicitDefEqProofs [H_l4E, hint1]) (by simp [big] at hj; omega) (fun i hi => by
  have hs := sEvent_snoc (e := 96) hi
  have hm : min i l.length = i := by omega
  have hb := hx _ (List.getElem_mem hi)
  have tk := take_map (sEvent 96) l i
  simp -implicitDefEqProofs [H_l4E, hint1, hi, hs, hm, tk, rEvent_at hi, rEvent, sEvent, w64 (x := (i : Int) + 1) (by omega), le_most (n := i + 1) (by omega), show l[i].length * 3 ≤ most by unfold most; omega, -List.map_take])]
 have tk : (l.map (sEvent 96)).take l.length = l.map (sEvent 96) := List.take_of_length_le (by simp)
 simp -implicitDefEqProofs [H_l4E, tk]
theorem run_cloneIns {j : Nat} (xs : List Ins) (hx : xs.length ≤ 1048576) : M.run (j + 1) 67 [.c (.r 105 xs.length (insT xs))] = some ([.c (.s 105 xs.length (insT xs))], [.c (.r 105 xs.length (insT xs))]) :=
 show cloneG 105 _ = _ from cloneG_eq (by simp) (by simp; unfold most; omega)
theorem run_cloneEvent {j : Nat} (xs : List Ev) (hx : xs.length ≤ 1048576) : M.run (j + 1) 70 [.c (.r 96 xs.length (evT xs))] = some ([.c (.s 96 xs.length (evT xs))], [.c (.r 96 xs.length (evT xs))]) :=
 show cloneG 96 _ = _ from cloneG_eq (by simp) (by simp; unfold most; omega)
def lkZ (id n : Nat) : T := if n = 0 then .z else .l id [] 0 n
def obZ (id n : Nat) (ob : Obj) : List (Nat × Obj) := if n = 0 then [] else [(id, ob)]
@[simp] theorem lkZ_0 (id : Nat) : lkZ id 0 = .z := rfl
@[simp] theorem lkZ_s (id n : Nat) : lkZ id (n + 1) = .l id [] 0 (n + 1) := rfl
@[simp] theorem obZ_0 (id : Nat) (ob : Obj) : obZ id 0 ob = [] := rfl
theorem lkZ_of {id n : Nat} (h : n ≠ 0) : lkZ id n = .l id [] 0 n := if_neg h
theorem obZ_of {id n : Nat} {ob : Obj} (h : n ≠ 0) : obZ id n ob = [(id, ob)] := if_neg h
theorem lkZ_z {id n : Nat} (h : n = 0) : lkZ id n = .z := if_pos h
theorem obZ_z {id n : Nat} {ob : Obj} (h : n = 0) : obZ id n ob = [] := if_pos h
@[simp] theorem obZ_s (id n : Nat) (ob : Obj) : obZ id (n + 1) ob = [(id, ob)] := rfl
theorem ssT_snoc {l : List Sta} {i : Nat} (hi : i < l.length) : ssT (l.take (i + 1)) = ssT (l.take i) ++ sSta l[i] := by
 unfold ssT
 rw [List.take_add_one, List.getElem?_eq_getElem hi, List.flatMap_append]
 simp
theorem ssT_tk (l : List Sta) (i : Nat) : (ssT (l.take i)).take (i * 4) = ssT (l.take i) := List.take_of_length_le (by rw [ssT_len, List.length_take]; omega)
def zBox : Obj := ⟨.box, 29, [.z, .z, .z, .z]⟩
end Go.Proofs.YtninncdacekfgaaGreat.VM
namespace Go.Proofs.YtninncdacekfgaaGreat.VM
open Go Go.Proofs
def newSy (l : List (List Ins)) : Sy := ⟨l, List.replicate l.length s0, List.replicate (l.length * l.length) [], List.replicate l.length []⟩
noncomputable def newB (l : List (List Ins)) : Bool := decide (1 ≤ l.length ∧ l.length ≤ 4) && sysB (newSy l)
def zSy : Sy := ⟨[], [], [], []⟩
noncomputable def newS (l : List (List Ins)) : Sy := if newB l = true then newSy l else zSy
theorem tot_rep0 {α : Type} : ∀ n, tot (List.replicate n ([] : List α)) = 0
 | 0 => rfl
 | n + 1 => by
  have := tot_rep0 (α := α) n
  simp only [tot, List.replicate_succ, List.map_cons, List.sum_cons, List.length_nil] at this ⊢
  omega
theorem tot_rep4 : ∀ n, tot ((List.replicate n s0).map nums) = 4 * n
 | 0 => rfl
 | n + 1 => by
  have := tot_rep4 n
  simp only [tot, List.replicate_succ, List.map_cons, List.sum_cons] at this ⊢
  rw [this]
  simp [nums, s0]
  omega
theorem new_small {l : List (List Ins)} (h4 : l.length ≤ 4) (ht : tot l ≤ 1048576) : Small (newSy l) := by
 have hq : l.length * l.length ≤ 16 := Nat.mul_le_mul h4 h4
 refine ⟨?_, ht, ?_, ?_, ?_, ?_, ?_, ?_⟩
 ·show l.length ≤ 1048576
  omega
 ·simp [newSy]; omega
 ·show tot ((List.replicate l.length s0).map nums) ≤ _
  rw [tot_rep4]; omega
 ·simp [newSy]; omega
 ·show tot (List.replicate (l.length * l.length) []) ≤ _
  rw [tot_rep0]; omega
 ·simp [newSy]; omega
 ·show tot (List.replicate l.length []) ≤ _
  rw [tot_rep0]; omega
theorem sysB_new0 : sysB (newSy []) = false := by
 have : (newSy []) = ⟨[], [], [], []⟩ := rfl
 rw [this]
 simp [sysB, shapeB, inB]
theorem ssT_rep (i : Nat) : ssT (List.replicate (i + 1) s0) = ssT (List.replicate i s0) ++ sSta s0 := by
 unfold ssT
 rw [List.replicate_succ', List.flatMap_append]
 simp
theorem ssT_rtk (i : Nat) : (ssT (List.replicate i s0)).take (i * 4) = ssT (List.replicate i s0) := List.take_of_length_le (by rw [ssT_len, List.length_replicate]; exact Nat.le_refl _)
@[simp] theorem ros_repS (e : TypeId) : ∀ n, ros (List.replicate n (.s e 0 [])) = List.replicate n (.r e 0 [])
 | 0 => rfl
 | n + 1 => by rw [List.replicate_succ, List.replicate_succ, ← ros_repS e n]; simp [ros]
theorem mapS_item (e : TypeId) (n : Nat) : (List.replicate n ([] : List Itm)).map (sItem e) = List.replicate n (.s e 0 []) := by rw [List.map_replicate]; rfl
theorem mapR_item (e : TypeId) (n : Nat) : (List.replicate n ([] : List Itm)).map (rItem e) = List.replicate n (.r e 0 []) := by rw [List.map_replicate]; rfl
theorem mapS_event (e : TypeId) (n : Nat) : (List.replicate n ([] : List Ev)).map (sEvent e) = List.replicate n (.s e 0 []) := by rw [List.map_replicate]; rfl
theorem mapR_event (e : TypeId) (n : Nat) : (List.replicate n ([] : List Ev)).map (rEvent e) = List.replicate n (.r e 0 []) := by rw [List.map_replicate]; rfl
@[simp] theorem ssT_nil : ssT [] = [] := rfl
@[simp] theorem stT_nil : stT [] = [] := rfl
@[simp] theorem sItem_nil (e : TypeId) : sItem e [] = .s e 0 [] := rfl
@[simp] theorem sEvent_nil (e : TypeId) : sEvent e [] = .s e 0 [] := rfl
def H_sn (l : List (List Ins)) (i : Nat) : St := ⟨[(2, .ptr 192 [] 0), (4, .c (.v (.int .i64 l.length))), (5, .ptr 384 [] 0), (6, .c (.v (.int .i64 i)))], [(0, ⟨.ro, 100, l.map (rIns 105)⟩), (192, zBox), (384, ⟨.box, 29, [.l 896 [] 0 l.length, lkZ 1984 i, .l 1152 [] 0 (l.length * l.length), .l 1280 [] 0 l.length]⟩), (896, ⟨.own, 100, l.map (sIns 105)⟩), (1152, ⟨.own, 97, List.replicate (l.length * l.length) (.s 99 0 [])⟩), (1280, ⟨.own, 68, List.replicate l.length (.s 96 0 [])⟩)] ++ obZ 1984 i ⟨.own, 71, ssT (List.replicate i s0)⟩⟩
theorem run_specNew {j : Nat} (hj : big ≤ j) (l : List (List Ins)) (hl : l.length ≤ 1048576) (ht : tot l ≤ 1048576) : M.run (j + 8) 122 [.c (.r 100 l.length (l.map (rIns 105)))] = some ([.agg (syS (newS l)), .c (.v (.bool (newB l)))], [.c (.r 100 l.length (l.map (rIns 105)))]) := by
 have e1 := run_l4Ins (j := j + 6) (by omega) l hl (fun x hx => by have := tot_len l x hx; omega)
 rw [m_run (fn := Tryz.f122) (i0 := 0) rfl Tryz.func122 rfl rfl (by simp)]
 by_cases h4 : l.length ≤ 4
 rotate_left
 ·have : newB l = false := by unfold newB; rw [decide_eq_false (by omega)]; rfl
  unfold newS
  rw [this]
  simp -implicitDefEqProofs [syS, zSy, show (4 : Int) < l.length by omega]
 have hS := new_small h4 ht
 have e2 := run_specSys (j := j) hj (newSy l) hS
 have hq : l.length * l.length ≤ 16 := Nat.mul_le_mul h4 h4
 have hnn : ((l.length : Int) * (l.length : Int)) = ((l.length * l.length : Nat) : Int) := (Int.natCast_mul _ _).symm
 have w := w64 (x := (l.length : Int) * (l.length : Int)) (by rw [hnn]; omega)
 have hpn : 0 ≤ (l.length : Int) * (l.length : Int) := by rw [hnn]; omega
 have htn : ((l.length : Int) * (l.length : Int)).toNat = l.length * l.length := by rw [hnn]; rfl
 have hle : (l.length : Int) * (l.length : Int) ≤ most := by rw [hnn]; unfold most; omega
 have hB : sysB (newSy l) = newB l := by
  unfold newB
  by_cases h0 : l.length = 0
  ·have : l = [] := List.eq_nil_of_length_eq_zero h0
   rw [this, sysB_new0]
   rfl
  ·rw [decide_eq_true (by omega)]
   rfl
 rw [hB] at e2
 simp only [syR, newSy, mapR_item, mapR_event, List.length_replicate] at e2
 simp -implicitDefEqProofs [own1, e1, show ¬ (4 : Int) < l.length by omega, w, hpn, htn, hle, le_most (n := l.length) (by omega)]
 rw [loop_then (H_sn l) l.length (by simp -implicitDefEqProofs [H_sn, zBox, hint1]) (by simp [big] at hj; omega) (fun i hi => by
  have e3 := run15 (j := j + 6)
  have tk := ssT_rtk i
  have lm' : i * 4 + 4 ≤ most := by unfold most; omega
  have lm := le_most (n := i + 1) (by omega)
  have l4 : 4 ≤ most := by unfold most; omega
  have l1 : 1 ≤ most := by unfold most; omega
  have hm : min i l.length = i := by omega
  have hs := ssT_rep i
  simp only [sSta, stS, s0] at hs tk e3
  by_cases hz : i = 0
  ·have hs0 : ssT (List.replicate i s0) = [] := by rw [hz]; rfl
   simp only [s0] at hs0
   rw [hs0] at hs
   simp -implicitDefEqProofs [H_sn, zBox, hint1, hi, own1, lm, lm', l4, l1, hm, e3, hs, hs0, s0, lkZ_z hz, obZ_z hz, w64 (x := (i : Int) + 1) (by omega)] <;> omega
  ·simp -implicitDefEqProofs [H_sn, zBox, hint1, hi, own1, lm, lm', l4, l1, hm, e3, hs, tk, s0, lkZ_of hz, obZ_of hz, w64 (x := (i : Int) + 1) (by omega)])]
 have fin := ssT_rtk l.length
 have finr : (stT (List.replicate l.length s0)).take (l.length * 4) = stT (List.replicate l.length s0) := List.take_of_length_le (by rw [stT_len, List.length_replicate]; exact Nat.le_refl _)
 have finp : (l.map (sIns 105)).take l.length = l.map (sIns 105) := List.take_of_length_le (by simp)
 have finq : (l.map (rIns 105)).take l.length = l.map (rIns 105) := List.take_of_length_le (by simp)
 have z0 : l.length = 0 → l = [] := List.eq_nil_of_length_eq_zero
 unfold newS
 generalize hb : newB l = b at *
 have hz : b = true → l.length ≠ 0 := by
  intro h
  subst h
  unfold newB at hb
  simp at hb
  omega
 generalize hln : l.length = n at *
 cases n with
 | zero =>
  cases b with
  | true => exact absurd rfl (hz rfl)
  | false =>
   have hl0 : l = [] := z0 rfl
   subst hl0
   simp at e2
   simp -implicitDefEqProofs [H_sn, zBox, syS, zSy, newSy, mapS_item, mapS_event, own1, hln, e2, finp, finq, fin, finr]
 | succ n =>
  cases b with
  | true => simp -implicitDefEqProofs [H_sn, zBox, syS, zSy, newSy, mapS_item, mapS_event, own1, hln, e2, finp, finq, fin, finr, -List.map_take]
  | false => simp -implicitDefEqProofs [H_sn, zBox, syS, zSy, newSy, mapS_item, mapS_event, own1, hln, e2, finp, finq, fin, finr, -List.map_take]
end Go.Proofs.YtninncdacekfgaaGreat.VM
namespace Go.Proofs.YtninncdacekfgaaGreat.VM
open Go Go.Proofs
end Go.Proofs.YtninncdacekfgaaGreat.VM
