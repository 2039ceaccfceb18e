/- Systems: measured, copied, compared, marked. -/
import Derived.Test.YtninncdacekfgaaGreatK6s
import Derived.Test.YtninncdacekfgaaGreatK4s
import Derived.Test.YtninncdacekfgaaGreatK7s
import Derived.Test.YtninncdacekfgaaGreatV3d
import Derived.Test.YtninncdacekfgaaGreatFxd
import Derived.Test.YtninncdacekfgaaGreatMkd
import Derived.Test.YtninncdacekfgaaGreatTabd
import Derived.Test.YtninncdacekfgaaGreatK0d
import Derived.Test.YtninncdacekfgaaGreatK2d
import Derived.Test.YtninncdacekfgaaGreatK4d
import Derived.Test.YtninncdacekfgaaGreatK5d
import Derived.Test.YtninncdacekfgaaGreatK6d
set_option linter.unusedSimpArgs false
set_option linter.unusedVariables false
set_option maxRecDepth 100000
set_option maxHeartbeats 10000000
namespace Go.Proofs.YtninncdacekfgaaGreat.VM
open Go Go.Proofs
def H_szInsSS (left : Int) (xss : List (List Ins)) (i : Nat) : St := ⟨[(0, .c (.sl 0 [] 0 xss.length)), (1, .c (.v (.int .i64 (left - xss.length - (tot (xss.take i) : Nat))))), (5, .c (.v (.int .i64 i)))], [(0, ⟨.ro, 129, xss.map (rIns 169)⟩)]⟩
theorem run_szInsSS {j : Nat} (hj : big ≤ j) (xss : List (List Ins)) (left : Int) (hk : 0 ≤ left ∧ left ≤ 1048576) (hn : xss.length ≤ 9223372036854775807) (hx : ∀ x ∈ xss, x.length ≤ 9223372036854775807) :
  ∃ r : Int, M.run (j + 2) 37 [.c (.r 129 xss.length (xss.map (rIns 169))), .c (.v (.int .i64 left))] = some ([.c (.v (.int .i64 r))], [.c (.r 129 xss.length (xss.map (rIns 169))), .c (.v (.int .i64 left))]) ∧ (r = -1 ∨ (r = left - xss.length - (tot xss : Nat) ∧ 0 ≤ r)) := by
 by_cases h : left - xss.length < 0
 ·refine ⟨-1, ?_, .inl rfl⟩
  rw [m_run (fn := Tryz.f37) (i0 := 0) rfl Tryz.func37 rfl rfl (by simp)]
  simp -implicitDefEqProofs [h, w64 (x := left - xss.length) (by omega)]
 ·have stp : ∀ i, ∀ hi : i < xss.length, 0 ≤ left - xss.length - (tot (xss.take i) : Nat) → M.run (j + 1) 93 [.c (.r 169 xss[i].length (insT xss[i])), .c (.v (.int .i64 (left - xss.length - (tot (xss.take i) : Nat))))] = some ([.c (.v (.int .i64 (if left - xss.length - (tot (xss.take (i + 1)) : Nat) < 0 then -1 else left - xss.length - (tot (xss.take (i + 1)) : Nat))))], [.c (.r 169 xss[i].length (insT xss[i])), .c (.v (.int .i64 (left - xss.length - (tot (xss.take i) : Nat))))]) := fun i hi h0 => by
   have e := run42 (j := j) xss[i].length (insT xss[i]) (left - xss.length - (tot (xss.take i) : Nat)) (hx _ (List.getElem_mem _)) ⟨h0, by omega⟩
   rw [show left - xss.length - (tot (xss.take i) : Nat) - (xss[i].length : Nat) = left - xss.length - (tot (xss.take (i + 1)) : Nat) by rw [tot_take_succ hi]; omega] at e
   exact e
  rcases allTo_or (fun i => decide (0 ≤ left - xss.length - (tot (xss.take (i + 1)) : Nat))) xss.length with ⟨_, hall⟩ | ⟨_, m, hm, hbad, hall⟩
  ·have h0 : ∀ i, i ≤ xss.length → 0 ≤ left - xss.length - (tot (xss.take i) : Nat) := fun i hi => by
    cases i with
    | zero => simp [tot]; omega
    | succ i => simpa using hall i (by omega)
   refine ⟨left - xss.length - (tot xss : Nat), ?_, .inr ⟨rfl, by have := h0 xss.length (Nat.le_refl _); rwa [List.take_length] at this⟩⟩
   rw [m_run (fn := Tryz.f37) (i0 := 0) rfl Tryz.func37 rfl rfl (by simp)]
   simp -implicitDefEqProofs [h, w64 (x := left - xss.length) (by omega)]
   rw [loop_to (H_szInsSS left xss) xss.length (by simp -implicitDefEqProofs [H_szInsSS, hint1, tot]) (by simp [big] at hj; omega) (fun i hi => by
    have e := stp i hi (h0 i (by omega))
    have h1 := h0 (i + 1) (by omega)
    rw [if_neg (by omega)] at e
    simp -implicitDefEqProofs [H_szInsSS, hint1, hi, w64 (x := (i : Int) + 1) (by omega), own1, rIns, e, show ¬ (left - xss.length - (tot (xss.take (i + 1)) : Nat) < 0) by omega]) (by simp -implicitDefEqProofs [H_szInsSS, stops])]
   simp -implicitDefEqProofs [H_szInsSS]
  ·have hbad : ¬ 0 ≤ left - xss.length - (tot (xss.take (m + 1)) : Nat) := by simpa using hbad
   have h0 : ∀ i, i ≤ m → 0 ≤ left - xss.length - (tot (xss.take i) : Nat) := fun i hi => by
    cases i with
    | zero => simp [tot]; omega
    | succ i => simpa using hall i (by omega)
   have em := stp m hm (h0 m (Nat.le_refl _))
   rw [if_pos (by omega)] at em
   refine ⟨-1, ?_, .inl rfl⟩
   rw [m_run (fn := Tryz.f37) (i0 := 0) rfl Tryz.func37 rfl rfl (by simp)]
   simp -implicitDefEqProofs [h, w64 (x := left - xss.length) (by omega)]
   rw [loop_to (H_szInsSS left xss) m (by simp -implicitDefEqProofs [H_szInsSS, hint1, tot]) (by simp [big] at hj; omega) (fun i hi => by
    have hi' : i < xss.length := by omega
    have e := stp i hi' (h0 i (by omega))
    have h1 := h0 (i + 1) (by omega)
    rw [if_neg (by omega)] at e
    simp -implicitDefEqProofs [H_szInsSS, hint1, hi', w64 (x := (i : Int) + 1) (by omega), own1, rIns, e, show ¬ (left - xss.length - (tot (xss.take (i + 1)) : Nat) < 0) by omega]) (by simp -implicitDefEqProofs [H_szInsSS, stops, hm, own1, rIns, em])]
   simp -implicitDefEqProofs [H_szInsSS, hm, own1, rIns, em]
def H_toInsSS (xss : List (List Ins)) (i : Nat) : St := ⟨[(0, .c (.sl 0 [] 0 xss.length)), (3, .c (.sl 512 [] 0 xss.length)), (4, .c (.v (.int .i64 i)))], [(0, ⟨.ro, 129, xss.map (rIns 169)⟩), (512, ⟨.own, 100, tp (xss.map (sIns 105)) (.s 105 0 []) i⟩)]⟩
theorem run_toInsSS {j : Nat} (hj : big ≤ j) (xss : List (List Ins)) (hn : xss.length ≤ 1048576) (hx : ∀ x ∈ xss, x.length ≤ 1048576) :
  M.run (j + 3) 43 [.c (.r 129 xss.length (xss.map (rIns 169)))] = some ([.c (.s 100 xss.length (xss.map (sIns 105)))], [.c (.r 129 xss.length (xss.map (rIns 169)))]) := by
 have tf : tp (xss.map (sIns 105)) (.s 105 0 []) xss.length = xss.map (sIns 105) := by
  have := tp_full (xss.map (sIns 105)) (T.s 105 0 [])
  rwa [List.length_map] at this
 rw [m_run (fn := Tryz.f43) (i0 := 0) rfl Tryz.func43 rfl rfl (by simp)]
 simp -implicitDefEqProofs [le_most hn]
 rw [loop_to (H_toInsSS xss) xss.length (by simp -implicitDefEqProofs [H_toInsSS, hint1]) (by simp [big] at hj; omega) (fun i hi => by
  have e := run45 (j := j) (by omega) xss[i] (hx _ (List.getElem_mem _))
  have e2 : (tp (xss.map (sIns 105)) (.s 105 0 []) i).set i (.s 105 xss[i].length (insT xss[i])) = tp (xss.map (sIns 105)) (.s 105 0 []) (i + 1) := by
   have h2 := tp_set (xss.map (sIns 105)) (T.s 105 0 []) (i := i) (by simpa using hi)
   rw [List.getElem_map] at h2
   exact h2
  simp -implicitDefEqProofs [H_toInsSS, hint1, hi, w64 (x := (i : Int) + 1) (by omega), show i + 1 ≤ xss.length by omega, own1, rIns, e, e2]) (by simp -implicitDefEqProofs [H_toInsSS, stops])]
 simp -implicitDefEqProofs [H_toInsSS, tf]
def H_eqInsSS (xss : List (List Ins)) (i : Nat) : St := ⟨[(0, .c (.sl 0 [] 0 xss.length)), (1, .c (.sl 1 [] 0 xss.length)), (5, .c (.v (.int .i64 i)))], [(0, ⟨.ro, 100, xss.map (rIns 105)⟩), (1, ⟨.ro, 100, xss.map (rIns 105)⟩)]⟩
theorem run_eqInsSS {j : Nat} (hj : big ≤ j) (xss : List (List Ins)) (hn : xss.length ≤ 1048576) (hx : ∀ x ∈ xss, x.length ≤ 1048576) :
  M.run (j + 3) 49 [.c (.r 100 xss.length (xss.map (rIns 105))), .c (.r 100 xss.length (xss.map (rIns 105)))] = some ([.c (.v (.bool true))], [.c (.r 100 xss.length (xss.map (rIns 105))), .c (.r 100 xss.length (xss.map (rIns 105)))]) := by
 rw [m_run (fn := Tryz.f49) (i0 := 0) rfl Tryz.func49 rfl rfl (by simp)]
 simp -implicitDefEqProofs
 rw [loop_to (H_eqInsSS xss) xss.length (by simp -implicitDefEqProofs [H_eqInsSS, hint1]) (by simp [big] at hj; omega) (fun i hi => by
  have e := run48 (j := j) (by omega) xss[i] (by have := hx _ (List.getElem_mem hi); omega)
  simp -implicitDefEqProofs [H_eqInsSS, hint1, hi, w64 (x := (i : Int) + 1) (by omega), own1, rIns, e]) (by simp -implicitDefEqProofs [H_eqInsSS, stops])]
 simp -implicitDefEqProofs [H_eqInsSS]
def mkIns (k : Int) (xss : List (List Ins)) : Nat → Int × List T
 | 0 => (k, xss.map (sIns 105))
 | i + 1 => ((mkIns k xss i).1 + 5 * (((xss[i]?).map List.length).getD 0 : Nat), (mkIns k xss i).2.set i (.s 105 (((xss[i]?).map List.length).getD 0) (insT (insUp (mkIns k xss i).1 (((xss[i]?).map List.length).getD 0)))))
theorem mkIns_len (k : Int) (xss : List (List Ins)) : ∀ i, (mkIns k xss i).2.length = xss.length
 | 0 => by simp [mkIns]
 | i + 1 => by simp [mkIns, mkIns_len k xss i]
theorem mkIns_at (k : Int) (xss : List (List Ins)) {m : Nat} : ∀ i, i ≤ m → (mkIns k xss i).2[m]? = (xss.map (sIns 105))[m]?
 | 0, _ => rfl
 | i + 1, h => by
  rw [mkIns, List.getElem?_set_ne (by omega)]
  exact mkIns_at k xss i (by omega)
theorem mkIns_le (k : Int) (xss : List (List Ins)) : ∀ i, i ≤ xss.length → k ≤ (mkIns k xss i).1 ∧ (mkIns k xss i).1 = k + 5 * (tot (xss.take i) : Nat)
 | 0, _ => by simp [mkIns, tot]
 | i + 1, h => by
  have h1 := mkIns_le k xss i (by omega)
  have h2 := tot_take_succ (xss := xss) (i := i) (by omega)
  rw [mkIns]
  simp only [List.getElem?_eq_getElem (show i < xss.length by omega), Option.map_some, Option.getD_some]
  rw [h2]
  omega
def H_markInsSS (k : Int) (xss : List (List Ins)) (i : Nat) : St := ⟨[(0, .c (.sl 0 [] 0 xss.length)), (1, .c (.v (.int .i64 (mkIns k xss i).1))), (5, .c (.v (.int .i64 i)))], [(0, ⟨.own, 100, (mkIns k xss i).2⟩)]⟩
theorem run_markInsSS {j : Nat} (hj : big ≤ j) (xss : List (List Ins)) (k : Int) (hk : 0 ≤ k ∧ k + 5 * (tot xss : Nat) ≤ 1152921504606846976) (hn : xss.length ≤ 1048576) :
  M.run (j + 2) 53 [.c (.s 100 xss.length (xss.map (sIns 105))), .c (.v (.int .i64 k))] = some ([.c (.v (.int .i64 (k + 5 * (tot xss : Nat))))], [.c (.s 100 xss.length (mkIns k xss xss.length).2), .c (.v (.int .i64 k))]) := by
 rw [m_run (fn := Tryz.f53) (i0 := 0) rfl Tryz.func53 rfl rfl (by simp)]
 have hend : (mkIns k xss xss.length).1 = k + 5 * (tot xss : Nat) := by
  have := (mkIns_le k xss xss.length (Nat.le_refl _)).2
  rwa [List.take_length] at this
 simp -implicitDefEqProofs
 rw [loop_to (H_markInsSS k xss) xss.length (by simp -implicitDefEqProofs [H_markInsSS, hint1, mkIns]) (by simp [big] at hj; omega) (fun i hi => by
  have h1 := mkIns_le k xss i (by omega)
  have h2 := tot_take_le xss i
  have h3 := tot_take_le xss (i + 1)
  have h4 := tot_take_succ hi
  have e := run_markInsS (j := j) (by omega) xss[i] (mkIns k xss i).1 (by omega)
  have ha : (mkIns k xss i).2[i]? = some (.s 105 xss[i].length (insT xss[i])) := by
   rw [mkIns_at k xss i (Nat.le_refl _), List.getElem?_map, List.getElem?_eq_getElem hi]
   rfl
  have hl := mkIns_len k xss i
  have hg : ∀ h : i < (mkIns k xss i).2.length, (mkIns k xss i).2[i] = .s 105 xss[i].length (insT xss[i]) := fun h => by
   rw [List.getElem?_eq_getElem h] at ha
   exact Option.some.inj ha
  simp -implicitDefEqProofs [H_markInsSS, hint1, hi, w64 (x := (i : Int) + 1) (by omega), own1, hg, ha, hl, e, mkIns]) (by simp -implicitDefEqProofs [H_markInsSS, stops])]
 simp -implicitDefEqProofs [H_markInsSS, hend]
def H_szItemSS (left : Int) (xss : List (List Itm)) (i : Nat) : St := ⟨[(0, .c (.sl 0 [] 0 xss.length)), (1, .c (.v (.int .i64 (left - xss.length - (tot (xss.take i) : Nat))))), (5, .c (.v (.int .i64 i)))], [(0, ⟨.ro, 133, xss.map (rItem 171)⟩)]⟩
theorem run_szItemSS {j : Nat} (hj : big ≤ j) (xss : List (List Itm)) (left : Int) (hk : 0 ≤ left ∧ left ≤ 1048576) (hn : xss.length ≤ 9223372036854775807) (hx : ∀ x ∈ xss, x.length ≤ 9223372036854775807) :
  ∃ r : Int, M.run (j + 2) 39 [.c (.r 133 xss.length (xss.map (rItem 171))), .c (.v (.int .i64 left))] = some ([.c (.v (.int .i64 r))], [.c (.r 133 xss.length (xss.map (rItem 171))), .c (.v (.int .i64 left))]) ∧ (r = -1 ∨ (r = left - xss.length - (tot xss : Nat) ∧ 0 ≤ r)) := by
 by_cases h : left - xss.length < 0
 ·refine ⟨-1, ?_, .inl rfl⟩
  rw [m_run (fn := Tryz.f39) (i0 := 0) rfl Tryz.func39 rfl rfl (by simp)]
  simp -implicitDefEqProofs [h, w64 (x := left - xss.length) (by omega)]
 ·have stp : ∀ i, ∀ hi : i < xss.length, 0 ≤ left - xss.length - (tot (xss.take i) : Nat) → M.run (j + 1) 95 [.c (.r 171 xss[i].length (itT xss[i])), .c (.v (.int .i64 (left - xss.length - (tot (xss.take i) : Nat))))] = some ([.c (.v (.int .i64 (if left - xss.length - (tot (xss.take (i + 1)) : Nat) < 0 then -1 else left - xss.length - (tot (xss.take (i + 1)) : Nat))))], [.c (.r 171 xss[i].length (itT xss[i])), .c (.v (.int .i64 (left - xss.length - (tot (xss.take i) : Nat))))]) := fun i hi h0 => by
   have e := run_szItemS (j := j) xss[i].length (itT xss[i]) (left - xss.length - (tot (xss.take i) : Nat)) (hx _ (List.getElem_mem _)) ⟨h0, by omega⟩
   rw [show left - xss.length - (tot (xss.take i) : Nat) - (xss[i].length : Nat) = left - xss.length - (tot (xss.take (i + 1)) : Nat) by rw [tot_take_succ hi]; omega] at e
   exact e
  rcases allTo_or (fun i => decide (0 ≤ left - xss.length - (tot (xss.take (i + 1)) : Nat))) xss.length with ⟨_, hall⟩ | ⟨_, m, hm, hbad, hall⟩
  ·have h0 : ∀ i, i ≤ xss.length → 0 ≤ left - xss.length - (tot (xss.take i) : Nat) := fun i hi => by
    cases i with
    | zero => simp [tot]; omega
    | succ i => simpa using hall i (by omega)
   refine ⟨left - xss.length - (tot xss : Nat), ?_, .inr ⟨rfl, by have := h0 xss.length (Nat.le_refl _); rwa [List.take_length] at this⟩⟩
   rw [m_run (fn := Tryz.f39) (i0 := 0) rfl Tryz.func39 rfl rfl (by simp)]
   simp -implicitDefEqProofs [h, w64 (x := left - xss.length) (by omega)]
   rw [loop_to (H_szItemSS left xss) xss.length (by simp -implicitDefEqProofs [H_szItemSS, hint1, tot]) (by simp [big] at hj; omega) (fun i hi => by
    have e := stp i hi (h0 i (by omega))
    have h1 := h0 (i + 1) (by omega)
    rw [if_neg (by omega)] at e
    simp -implicitDefEqProofs [H_szItemSS, hint1, hi, w64 (x := (i : Int) + 1) (by omega), own1, rItem, e, show ¬ (left - xss.length - (tot (xss.take (i + 1)) : Nat) < 0) by omega]) (by simp -implicitDefEqProofs [H_szItemSS, stops])]
   simp -implicitDefEqProofs [H_szItemSS]
  ·have hbad : ¬ 0 ≤ left - xss.length - (tot (xss.take (m + 1)) : Nat) := by simpa using hbad
   have h0 : ∀ i, i ≤ m → 0 ≤ left - xss.length - (tot (xss.take i) : Nat) := fun i hi => by
    cases i with
    | zero => simp [tot]; omega
    | succ i => simpa using hall i (by omega)
   have em := stp m hm (h0 m (Nat.le_refl _))
   rw [if_pos (by omega)] at em
   refine ⟨-1, ?_, .inl rfl⟩
   rw [m_run (fn := Tryz.f39) (i0 := 0) rfl Tryz.func39 rfl rfl (by simp)]
   simp -implicitDefEqProofs [h, w64 (x := left - xss.length) (by omega)]
   rw [loop_to (H_szItemSS left xss) m (by simp -implicitDefEqProofs [H_szItemSS, hint1, tot]) (by simp [big] at hj; omega) (fun i hi => by
    have hi' : i < xss.length := by omega
    have e := stp i hi' (h0 i (by omega))
    have h1 := h0 (i + 1) (by omega)
    rw [if_neg (by omega)] at e
    simp -implicitDefEqProofs [H_szItemSS, hint1, hi', w64 (x := (i : Int) + 1) (by omega), own1, rItem, e, show ¬ (left - xss.length - (tot (xss.take (i + 1)) : Nat) < 0) by omega]) (by simp -implicitDefEqProofs [H_szItemSS, stops, hm, own1, rItem, em])]
   simp -implicitDefEqProofs [H_szItemSS, hm, own1, rItem, em]
def H_toItemSS (xss : List (List Itm)) (i : Nat) : St := ⟨[(0, .c (.sl 0 [] 0 xss.length)), (3, .c (.sl 512 [] 0 xss.length)), (4, .c (.v (.int .i64 i)))], [(0, ⟨.ro, 133, xss.map (rItem 171)⟩), (512, ⟨.own, 97, tp (xss.map (sItem 99)) (.s 99 0 []) i⟩)]⟩
theorem run_toItemSS {j : Nat} (hj : big ≤ j) (xss : List (List Itm)) (hn : xss.length ≤ 1048576) (hx : ∀ x ∈ xss, x.length ≤ 1048576) :
  M.run (j + 3) 45 [.c (.r 133 xss.length (xss.map (rItem 171)))] = some ([.c (.s 97 xss.length (xss.map (sItem 99)))], [.c (.r 133 xss.length (xss.map (rItem 171)))]) := by
 have tf : tp (xss.map (sItem 99)) (.s 99 0 []) xss.length = xss.map (sItem 99) := by
  have := tp_full (xss.map (sItem 99)) (T.s 99 0 [])
  rwa [List.length_map] at this
 rw [m_run (fn := Tryz.f45) (i0 := 0) rfl Tryz.func45 rfl rfl (by simp)]
 simp -implicitDefEqProofs [le_most hn]
 rw [loop_to (H_toItemSS xss) xss.length (by simp -implicitDefEqProofs [H_toItemSS, hint1]) (by simp [big] at hj; omega) (fun i hi => by
  have e := run_toItemS (j := j) (by omega) xss[i] (hx _ (List.getElem_mem _))
  have e2 : (tp (xss.map (sItem 99)) (.s 99 0 []) i).set i (.s 99 xss[i].length (itT xss[i])) = tp (xss.map (sItem 99)) (.s 99 0 []) (i + 1) := by
   have h2 := tp_set (xss.map (sItem 99)) (T.s 99 0 []) (i := i) (by simpa using hi)
   rw [List.getElem_map] at h2
   exact h2
  simp -implicitDefEqProofs [H_toItemSS, hint1, hi, w64 (x := (i : Int) + 1) (by omega), show i + 1 ≤ xss.length by omega, own1, rItem, e, e2]) (by simp -implicitDefEqProofs [H_toItemSS, stops])]
 simp -implicitDefEqProofs [H_toItemSS, tf]
def H_eqItemSS (xss : List (List Itm)) (i : Nat) : St := ⟨[(0, .c (.sl 0 [] 0 xss.length)), (1, .c (.sl 1 [] 0 xss.length)), (5, .c (.v (.int .i64 i)))], [(0, ⟨.ro, 97, xss.map (rItem 99)⟩), (1, ⟨.ro, 97, xss.map (rItem 99)⟩)]⟩
theorem run_eqItemSS {j : Nat} (hj : big ≤ j) (xss : List (List Itm)) (hn : xss.length ≤ 1048576) (hx : ∀ x ∈ xss, x.length ≤ 1048576) :
  M.run (j + 3) 51 [.c (.r 97 xss.length (xss.map (rItem 99))), .c (.r 97 xss.length (xss.map (rItem 99)))] = some ([.c (.v (.bool true))], [.c (.r 97 xss.length (xss.map (rItem 99))), .c (.r 97 xss.length (xss.map (rItem 99)))]) := by
 rw [m_run (fn := Tryz.f51) (i0 := 0) rfl Tryz.func51 rfl rfl (by simp)]
 simp -implicitDefEqProofs
 rw [loop_to (H_eqItemSS xss) xss.length (by simp -implicitDefEqProofs [H_eqItemSS, hint1]) (by simp [big] at hj; omega) (fun i hi => by
  have e := run_eqItemS (j := j) (by omega) xss[i] (by have := hx _ (List.getElem_mem hi); omega)
  simp -implicitDefEqProofs [H_eqItemSS, hint1, hi, w64 (x := (i : Int) + 1) (by omega), own1, rItem, e]) (by simp -implicitDefEqProofs [H_eqItemSS, stops])]
 simp -implicitDefEqProofs [H_eqItemSS]
def mkItem (k : Int) (xss : List (List Itm)) : Nat → Int × List T
 | 0 => (k, xss.map (sItem 99))
 | i + 1 => ((mkItem k xss i).1 + 2 * (((xss[i]?).map List.length).getD 0 : Nat), (mkItem k xss i).2.set i (.s 99 (((xss[i]?).map List.length).getD 0) (itT (itUp (mkItem k xss i).1 (((xss[i]?).map List.length).getD 0)))))
theorem mkItem_len (k : Int) (xss : List (List Itm)) : ∀ i, (mkItem k xss i).2.length = xss.length
 | 0 => by simp [mkItem]
 | i + 1 => by simp [mkItem, mkItem_len k xss i]
theorem mkItem_at (k : Int) (xss : List (List Itm)) {m : Nat} : ∀ i, i ≤ m → (mkItem k xss i).2[m]? = (xss.map (sItem 99))[m]?
 | 0, _ => rfl
 | i + 1, h => by
  rw [mkItem, List.getElem?_set_ne (by omega)]
  exact mkItem_at k xss i (by omega)
theorem mkItem_le (k : Int) (xss : List (List Itm)) : ∀ i, i ≤ xss.length → k ≤ (mkItem k xss i).1 ∧ (mkItem k xss i).1 = k + 2 * (tot (xss.take i) : Nat)
 | 0, _ => by simp [mkItem, tot]
 | i + 1, h => by
  have h1 := mkItem_le k xss i (by omega)
  have h2 := tot_take_succ (xss := xss) (i := i) (by omega)
  rw [mkItem]
  simp only [List.getElem?_eq_getElem (show i < xss.length by omega), Option.map_some, Option.getD_some]
  rw [h2]
  omega
def H_markItemSS (k : Int) (xss : List (List Itm)) (i : Nat) : St := ⟨[(0, .c (.sl 0 [] 0 xss.length)), (1, .c (.v (.int .i64 (mkItem k xss i).1))), (5, .c (.v (.int .i64 i)))], [(0, ⟨.own, 97, (mkItem k xss i).2⟩)]⟩
theorem run_markItemSS {j : Nat} (hj : big ≤ j) (xss : List (List Itm)) (k : Int) (hk : 0 ≤ k ∧ k + 2 * (tot xss : Nat) ≤ 1152921504606846976) (hn : xss.length ≤ 1048576) :
  M.run (j + 2) 55 [.c (.s 97 xss.length (xss.map (sItem 99))), .c (.v (.int .i64 k))] = some ([.c (.v (.int .i64 (k + 2 * (tot xss : Nat))))], [.c (.s 97 xss.length (mkItem k xss xss.length).2), .c (.v (.int .i64 k))]) := by
 rw [m_run (fn := Tryz.f55) (i0 := 0) rfl Tryz.func55 rfl rfl (by simp)]
 have hend : (mkItem k xss xss.length).1 = k + 2 * (tot xss : Nat) := by
  have := (mkItem_le k xss xss.length (Nat.le_refl _)).2
  rwa [List.take_length] at this
 simp -implicitDefEqProofs
 rw [loop_to (H_markItemSS k xss) xss.length (by simp -implicitDefEqProofs [H_markItemSS, hint1, mkItem]) (by simp [big] at hj; omega) (fun i hi => by
  have h1 := mkItem_le k xss i (by omega)
  have h2 := tot_take_le xss i
  have h3 := tot_take_le xss (i + 1)
  have h4 := tot_take_succ hi
  have e := run_markItemS (j := j) (by omega) xss[i] (mkItem k xss i).1 (by omega)
  have ha : (mkItem k xss i).2[i]? = some (.s 99 xss[i].length (itT xss[i])) := by
   rw [mkItem_at k xss i (Nat.le_refl _), List.getElem?_map, List.getElem?_eq_getElem hi]
   rfl
  have hl := mkItem_len k xss i
  have hg : ∀ h : i < (mkItem k xss i).2.length, (mkItem k xss i).2[i] = .s 99 xss[i].length (itT xss[i]) := fun h => by
   rw [List.getElem?_eq_getElem h] at ha
   exact Option.some.inj ha
  simp -implicitDefEqProofs [H_markItemSS, hint1, hi, w64 (x := (i : Int) + 1) (by omega), own1, hg, ha, hl, e, mkItem]) (by simp -implicitDefEqProofs [H_markItemSS, stops])]
 simp -implicitDefEqProofs [H_markItemSS, hend]
def H_szEventSS (left : Int) (xss : List (List Ev)) (i : Nat) : St := ⟨[(0, .c (.sl 0 [] 0 xss.length)), (1, .c (.v (.int .i64 (left - xss.length - (tot (xss.take i) : Nat))))), (5, .c (.v (.int .i64 i)))], [(0, ⟨.ro, 135, xss.map (rEvent 173)⟩)]⟩
theorem run_szEventSS {j : Nat} (hj : big ≤ j) (xss : List (List Ev)) (left : Int) (hk : 0 ≤ left ∧ left ≤ 1048576) (hn : xss.length ≤ 9223372036854775807) (hx : ∀ x ∈ xss, x.length ≤ 9223372036854775807) :
  ∃ r : Int, M.run (j + 2) 40 [.c (.r 135 xss.length (xss.map (rEvent 173))), .c (.v (.int .i64 left))] = some ([.c (.v (.int .i64 r))], [.c (.r 135 xss.length (xss.map (rEvent 173))), .c (.v (.int .i64 left))]) ∧ (r = -1 ∨ (r = left - xss.length - (tot xss : Nat) ∧ 0 ≤ r)) := by
 by_cases h : left - xss.length < 0
 ·refine ⟨-1, ?_, .inl rfl⟩
  rw [m_run (fn := Tryz.f40) (i0 := 0) rfl Tryz.func40 rfl rfl (by simp)]
  simp -implicitDefEqProofs [h, w64 (x := left - xss.length) (by omega)]
 ·have stp : ∀ i, ∀ hi : i < xss.length, 0 ≤ left - xss.length - (tot (xss.take i) : Nat) → M.run (j + 1) 96 [.c (.r 173 xss[i].length (evT xss[i])), .c (.v (.int .i64 (left - xss.length - (tot (xss.take i) : Nat))))] = some ([.c (.v (.int .i64 (if left - xss.length - (tot (xss.take (i + 1)) : Nat) < 0 then -1 else left - xss.length - (tot (xss.take (i + 1)) : Nat))))], [.c (.r 173 xss[i].length (evT xss[i])), .c (.v (.int .i64 (left - xss.length - (tot (xss.take i) : Nat))))]) := fun i hi h0 => by
   have e := run_szEventS (j := j) xss[i].length (evT xss[i]) (left - xss.length - (tot (xss.take i) : Nat)) (hx _ (List.getElem_mem _)) ⟨h0, by omega⟩
   rw [show left - xss.length - (tot (xss.take i) : Nat) - (xss[i].length : Nat) = left - xss.length - (tot (xss.take (i + 1)) : Nat) by rw [tot_take_succ hi]; omega] at e
   exact e
  rcases allTo_or (fun i => decide (0 ≤ left - xss.length - (tot (xss.take (i + 1)) : Nat))) xss.length with ⟨_, hall⟩ | ⟨_, m, hm, hbad, hall⟩
  ·have h0 : ∀ i, i ≤ xss.length → 0 ≤ left - xss.length - (tot (xss.take i) : Nat) := fun i hi => by
    cases i with
    | zero => simp [tot]; omega
    | succ i => simpa using hall i (by omega)
   refine ⟨left - xss.length - (tot xss : Nat), ?_, .inr ⟨rfl, by have := h0 xss.length (Nat.le_refl _); rwa [List.take_length] at this⟩⟩
   rw [m_run (fn := Tryz.f40) (i0 := 0) rfl Tryz.func40 rfl rfl (by simp)]
   simp -implicitDefEqProofs [h, w64 (x := left - xss.length) (by omega)]
   rw [loop_to (H_szEventSS left xss) xss.length (by simp -implicitDefEqProofs [H_szEventSS, hint1, tot]) (by simp [big] at hj; omega) (fun i hi => by
    have e := stp i hi (h0 i (by omega))
    have h1 := h0 (i + 1) (by omega)
    rw [if_neg (by omega)] at e
    simp -implicitDefEqProofs [H_szEventSS, hint1, hi, w64 (x := (i : Int) + 1) (by omega), own1, rEvent, e, show ¬ (left - xss.length - (tot (xss.take (i + 1)) : Nat) < 0) by omega]) (by simp -implicitDefEqProofs [H_szEventSS, stops])]
   simp -implicitDefEqProofs [H_szEventSS]
  ·have hbad : ¬ 0 ≤ left - xss.length - (tot (xss.take (m + 1)) : Nat) := by simpa using hbad
   have h0 : ∀ i, i ≤ m → 0 ≤ left - xss.length - (tot (xss.take i) : Nat) := fun i hi => by
    cases i with
    | zero => simp [tot]; omega
    | succ i => simpa using hall i (by omega)
   have em := stp m hm (h0 m (Nat.le_refl _))
   rw [if_pos (by omega)] at em
   refine ⟨-1, ?_, .inl rfl⟩
   rw [m_run (fn := Tryz.f40) (i0 := 0) rfl Tryz.func40 rfl rfl (by simp)]
   simp -implicitDefEqProofs [h, w64 (x := left - xss.length) (by omega)]
   rw [loop_to (H_szEventSS left xss) m (by simp -implicitDefEqProofs [H_szEventSS, hint1, tot]) (by simp [big] at hj; omega) (fun i hi => by
    have hi' : i < xss.length := by omega
    have e := stp i hi' (h0 i (by omega))
    have h1 := h0 (i + 1) (by omega)
    rw [if_neg (by omega)] at e
    simp -implicitDefEqProofs [H_szEventSS, hint1, hi', w64 (x := (i : Int) + 1) (by omega), own1, rEvent, e, show ¬ (left - xss.length - (tot (xss.take (i + 1)) : Nat) < 0) by omega]) (by simp -implicitDefEqProofs [H_szEventSS, stops, hm, own1, rEvent, em])]
   simp -implicitDefEqProofs [H_szEventSS, hm, own1, rEvent, em]
def H_toEventSS (xss : List (List Ev)) (i : Nat) : St := ⟨[(0, .c (.sl 0 [] 0 xss.length)), (3, .c (.sl 512 [] 0 xss.length)), (4, .c (.v (.int .i64 i)))], [(0, ⟨.ro, 135, xss.map (rEvent 173)⟩), (512, ⟨.own, 68, tp (xss.map (sEvent 96)) (.s 96 0 []) i⟩)]⟩
theorem run_toEventSS {j : Nat} (hj : big ≤ j) (xss : List (List Ev)) (hn : xss.length ≤ 1048576) (hx : ∀ x ∈ xss, x.length ≤ 1048576) :
  M.run (j + 3) 46 [.c (.r 135 xss.length (xss.map (rEvent 173)))] = some ([.c (.s 68 xss.length (xss.map (sEvent 96)))], [.c (.r 135 xss.length (xss.map (rEvent 173)))]) := by
 have tf : tp (xss.map (sEvent 96)) (.s 96 0 []) xss.length = xss.map (sEvent 96) := by
  have := tp_full (xss.map (sEvent 96)) (T.s 96 0 [])
  rwa [List.length_map] at this
 rw [m_run (fn := Tryz.f46) (i0 := 0) rfl Tryz.func46 rfl rfl (by simp)]
 simp -implicitDefEqProofs [le_most hn]
 rw [loop_to (H_toEventSS xss) xss.length (by simp -implicitDefEqProofs [H_toEventSS, hint1]) (by simp [big] at hj; omega) (fun i hi => by
  have e := run_toEventS (j := j) (by omega) xss[i] (hx _ (List.getElem_mem _))
  have e2 : (tp (xss.map (sEvent 96)) (.s 96 0 []) i).set i (.s 96 xss[i].length (evT xss[i])) = tp (xss.map (sEvent 96)) (.s 96 0 []) (i + 1) := by
   have h2 := tp_set (xss.map (sEvent 96)) (T.s 96 0 []) (i := i) (by simpa using hi)
   rw [List.getElem_map] at h2
   exact h2
  simp -implicitDefEqProofs [H_toEventSS, hint1, hi, w64 (x := (i : Int) + 1) (by omega), show i + 1 ≤ xss.length by omega, own1, rEvent, e, e2]) (by simp -implicitDefEqProofs [H_toEventSS, stops])]
 simp -implicitDefEqProofs [H_toEventSS, tf]
def H_eqEventSS (xss : List (List Ev)) (i : Nat) : St := ⟨[(0, .c (.sl 0 [] 0 xss.length)), (1, .c (.sl 1 [] 0 xss.length)), (5, .c (.v (.int .i64 i)))], [(0, ⟨.ro, 68, xss.map (rEvent 96)⟩), (1, ⟨.ro, 68, xss.map (rEvent 96)⟩)]⟩
theorem run_eqEventSS {j : Nat} (hj : big ≤ j) (xss : List (List Ev)) (hn : xss.length ≤ 1048576) (hx : ∀ x ∈ xss, x.length ≤ 1048576) :
  M.run (j + 3) 52 [.c (.r 68 xss.length (xss.map (rEvent 96))), .c (.r 68 xss.length (xss.map (rEvent 96)))] = some ([.c (.v (.bool true))], [.c (.r 68 xss.length (xss.map (rEvent 96))), .c (.r 68 xss.length (xss.map (rEvent 96)))]) := by
 rw [m_run (fn := Tryz.f52) (i0 := 0) rfl Tryz.func52 rfl rfl (by simp)]
 simp -implicitDefEqProofs
 rw [loop_to (H_eqEventSS xss) xss.length (by simp -implicitDefEqProofs [H_eqEventSS, hint1]) (by simp [big] at hj; omega) (fun i hi => by
  have e := run_eqEventS (j := j) (by omega) xss[i] (by have := hx _ (List.getElem_mem hi); omega)
  simp -implicitDefEqProofs [H_eqEventSS, hint1, hi, w64 (x := (i : Int) + 1) (by omega), own1, rEvent, e]) (by simp -implicitDefEqProofs [H_eqEventSS, stops])]
 simp -implicitDefEqProofs [H_eqEventSS]
def mkEvent (k : Int) (xss : List (List Ev)) : Nat → Int × List T
 | 0 => (k, xss.map (sEvent 96))
 | i + 1 => ((mkEvent k xss i).1 + 3 * (((xss[i]?).map List.length).getD 0 : Nat), (mkEvent k xss i).2.set i (.s 96 (((xss[i]?).map List.length).getD 0) (evT (evUp (mkEvent k xss i).1 (((xss[i]?).map List.length).getD 0)))))
theorem mkEvent_len (k : Int) (xss : List (List Ev)) : ∀ i, (mkEvent k xss i).2.length = xss.length
 | 0 => by simp [mkEvent]
 | i + 1 => by simp [mkEvent, mkEvent_len k xss i]
theorem mkEvent_at (k : Int) (xss : List (List Ev)) {m : Nat} : ∀ i, i ≤ m → (mkEvent k xss i).2[m]? = (xss.map (sEvent 96))[m]?
 | 0, _ => rfl
 | i + 1, h => by
  rw [mkEvent, List.getElem?_set_ne (by omega)]
  exact mkEvent_at k xss i (by omega)
theorem mkEvent_le (k : Int) (xss : List (List Ev)) : ∀ i, i ≤ xss.length → k ≤ (mkEvent k xss i).1 ∧ (mkEvent k xss i).1 = k + 3 * (tot (xss.take i) : Nat)
 | 0, _ => by simp [mkEvent, tot]
 | i + 1, h => by
  have h1 := mkEvent_le k xss i (by omega)
  have h2 := tot_take_succ (xss := xss) (i := i) (by omega)
  rw [mkEvent]
  simp only [List.getElem?_eq_getElem (show i < xss.length by omega), Option.map_some, Option.getD_some]
  rw [h2]
  omega
def H_markEventSS (k : Int) (xss : List (List Ev)) (i : Nat) : St := ⟨[(0, .c (.sl 0 [] 0 xss.length)), (1, .c (.v (.int .i64 (mkEvent k xss i).1))), (5, .c (.v (.int .i64 i)))], [(0, ⟨.own, 68, (mkEvent k xss i).2⟩)]⟩
theorem run_markEventSS {j : Nat} (hj : big ≤ j) (xss : List (List Ev)) (k : Int) (hk : 0 ≤ k ∧ k + 3 * (tot xss : Nat) ≤ 1152921504606846976) (hn : xss.length ≤ 1048576) :
  M.run (j + 2) 56 [.c (.s 68 xss.length (xss.map (sEvent 96))), .c (.v (.int .i64 k))] = some ([.c (.v (.int .i64 (k + 3 * (tot xss : Nat))))], [.c (.s 68 xss.length (mkEvent k xss xss.length).2), .c (.v (.int .i64 k))]) := by
 rw [m_run (fn := Tryz.f56) (i0 := 0) rfl Tryz.func56 rfl rfl (by simp)]
 have hend : (mkEvent k xss xss.length).1 = k + 3 * (tot xss : Nat) := by
  have := (mkEvent_le k xss xss.length (Nat.le_refl _)).2
  rwa [List.take_length] at this
 simp -implicitDefEqProofs
 rw [loop_to (H_markEventSS k xss) xss.length (by simp -implicitDefEqProofs [H_markEventSS, hint1, mkEvent]) (by simp [big] at hj; omega) (fun i hi => by
  have h1 := mkEvent_le k xss i (by omega)
  have h2 := tot_take_le xss i
  have h3 := tot_take_le xss (i + 1)
  have h4 := tot_take_succ hi
  have e := run_markEventS (j := j) (by omega) xss[i] (mkEvent k xss i).1 (by omega)
  have ha : (mkEvent k xss i).2[i]? = some (.s 96 xss[i].length (evT xss[i])) := by
   rw [mkEvent_at k xss i (Nat.le_refl _), List.getElem?_map, List.getElem?_eq_getElem hi]
   rfl
  have hl := mkEvent_len k xss i
  have hg : ∀ h : i < (mkEvent k xss i).2.length, (mkEvent k xss i).2[i] = .s 96 xss[i].length (evT xss[i]) := fun h => by
   rw [List.getElem?_eq_getElem h] at ha
   exact Option.some.inj ha
  simp -implicitDefEqProofs [H_markEventSS, hint1, hi, w64 (x := (i : Int) + 1) (by omega), own1, hg, ha, hl, e, mkEvent]) (by simp -implicitDefEqProofs [H_markEventSS, stops])]
 simp -implicitDefEqProofs [H_markEventSS, hend]
end Go.Proofs.YtninncdacekfgaaGreat.VM
namespace Go.Proofs.YtninncdacekfgaaGreat.VM
open Go Go.Proofs
def H_szStateS (left : Int) (l : List Sta) (i : Nat) : St := ⟨[(0, .c (.sl 0 [] 0 l.length)), (1, .c (.v (.int .i64 (left - l.length - (tot ((l.map nums).take i) : Nat))))), (5, .c (.v (.int .i64 i)))], [(0, ⟨.ro, 131, stT l⟩)]⟩
theorem run_szStateS {j : Nat} (hj : big ≤ j) (l : List Sta) (left : Int) (hk : 0 ≤ left ∧ left ≤ 1048576) (hn : l.length ≤ 9223372036854775807) (hx : ∀ x ∈ l, x.regs.length ≤ 9223372036854775807 ∧ x.out.length ≤ 9223372036854775807) :
  ∃ r : Int, M.run (j + 3) 38 [.c (.r 131 l.length (stT l)), .c (.v (.int .i64 left))] = some ([.c (.v (.int .i64 r))], [.c (.r 131 l.length (stT l)), .c (.v (.int .i64 left))]) ∧ (r = -1 ∨ (r = left - l.length - (tot (l.map nums) : Nat) ∧ 0 ≤ r)) := by
 by_cases h : left - l.length < 0
 ·refine ⟨-1, ?_, .inl rfl⟩
  rw [m_run (fn := Tryz.f38) (i0 := 0) rfl Tryz.func38 rfl rfl (by simp)]
  simp -implicitDefEqProofs [h, w64 (x := left - l.length) (by omega)]
 ·have stp : ∀ i, ∀ hi : i < l.length, 0 ≤ left - l.length - (tot ((l.map nums).take i) : Nat) → M.run (j + 2) 94 [.agg (tSta l[i]), .c (.v (.int .i64 (left - l.length - (tot ((l.map nums).take i) : Nat))))] = some ([.c (.v (.int .i64 (if left - l.length - (tot ((l.map nums).take (i + 1)) : Nat) < 0 then -1 else left - l.length - (tot ((l.map nums).take (i + 1)) : Nat))))], [.agg (tSta l[i]), .c (.v (.int .i64 (left - l.length - (tot ((l.map nums).take i) : Nat))))]) := fun i hi h0 => by
   have hb := hx _ (List.getElem_mem hi)
   have e := run43 (j := j) l[i].at_ l[i].code l[i].regs l[i].out (left - l.length - (tot ((l.map nums).take i) : Nat)) hb.1 hb.2 ⟨h0, by omega⟩
   have hs := totS_succ hi
   rw [show (if left - l.length - (tot ((l.map nums).take i) : Nat) - (l[i].regs.length : Nat) < 0 then (-1 : Int) else if left - l.length - (tot ((l.map nums).take i) : Nat) - (l[i].regs.length : Nat) - (l[i].out.length : Nat) < 0 then -1 else left - l.length - (tot ((l.map nums).take i) : Nat) - (l[i].regs.length : Nat) - (l[i].out.length : Nat)) = (if left - l.length - (tot ((l.map nums).take (i + 1)) : Nat) < 0 then -1 else left - l.length - (tot ((l.map nums).take (i + 1)) : Nat)) by
    (repeat' split) <;> omega] at e
   exact e
  rcases allTo_or (fun i => decide (0 ≤ left - l.length - (tot ((l.map nums).take (i + 1)) : Nat))) l.length with ⟨_, hall⟩ | ⟨_, m, hm, hbad, hall⟩
  ·have h0 : ∀ i, i ≤ l.length → 0 ≤ left - l.length - (tot ((l.map nums).take i) : Nat) := fun i hi => by
    cases i with
    | zero => simp [tot]; omega
    | succ i => simpa using hall i (by omega)
   refine ⟨left - l.length - (tot (l.map nums) : Nat), ?_, .inr ⟨rfl, by have := h0 l.length (Nat.le_refl _); rwa [List.take_of_length_le (by simp)] at this⟩⟩
   have hf : (l.map nums).take l.length = l.map nums := List.take_of_length_le (by simp)
   rw [m_run (fn := Tryz.f38) (i0 := 0) rfl Tryz.func38 rfl rfl (by simp)]
   simp -implicitDefEqProofs [h, w64 (x := left - l.length) (by omega)]
   rw [loop_to (H_szStateS left l) l.length (by simp -implicitDefEqProofs [H_szStateS, hint1, tot]) (by simp [big] at hj; omega) (fun i hi => by
    have e := stp i hi (h0 i (by omega))
    have h1 := h0 (i + 1) (by omega)
    rw [if_neg (by omega)] at e
    simp only [tSta, stR] at e
    simp -implicitDefEqProofs [H_szStateS, hint1, hi, w64 (x := (i : Int) + 1) (by omega), own1, tSta, stR, stT_1 hi, stT_2 hi, show i * 4 + 4 ≤ l.length * 4 by omega, e, show ¬ (left - l.length - (tot ((l.map nums).take (i + 1)) : Nat) < 0) by omega, -List.map_take]) (by simp -implicitDefEqProofs [H_szStateS, stops])]
   simp -implicitDefEqProofs [H_szStateS, hf, -List.map_take]
  ·have hbad : ¬ 0 ≤ left - l.length - (tot ((l.map nums).take (m + 1)) : Nat) := by simpa using hbad
   have h0 : ∀ i, i ≤ m → 0 ≤ left - l.length - (tot ((l.map nums).take i) : Nat) := fun i hi => by
    cases i with
    | zero => simp [tot]; omega
    | succ i => simpa using hall i (by omega)
   have em := stp m hm (h0 m (Nat.le_refl _))
   rw [if_pos (by omega)] at em
   simp only [tSta, stR] at em
   refine ⟨-1, ?_, .inl rfl⟩
   rw [m_run (fn := Tryz.f38) (i0 := 0) rfl Tryz.func38 rfl rfl (by simp)]
   simp -implicitDefEqProofs [h, w64 (x := left - l.length) (by omega)]
   rw [loop_to (H_szStateS left l) m (by simp -implicitDefEqProofs [H_szStateS, hint1, tot]) (by simp [big] at hj; omega) (fun i hi => by
    have hi' : i < l.length := by omega
    have e := stp i hi' (h0 i (by omega))
    have h1 := h0 (i + 1) (by omega)
    rw [if_neg (by omega)] at e
    simp only [tSta, stR] at e
    simp -implicitDefEqProofs [H_szStateS, hint1, hi', w64 (x := (i : Int) + 1) (by omega), own1, tSta, stR, stT_1 hi', stT_2 hi', show i * 4 + 4 ≤ l.length * 4 by omega, e, show ¬ (left - l.length - (tot ((l.map nums).take (i + 1)) : Nat) < 0) by omega, -List.map_take]) (by simp -implicitDefEqProofs [H_szStateS, stops, hm, own1, tSta, stR, stT_1 hm, stT_2 hm, show m * 4 + 4 ≤ l.length * 4 by omega, em, -List.map_take])]
   simp -implicitDefEqProofs [H_szStateS, hm, own1, tSta, stR, stT_1 hm, stT_2 hm, show m * 4 + 4 ≤ l.length * 4 by omega, em, -List.map_take]
theorem tq_len {α : Type} {f : α → List T} {z : List T} {k : Nat} (hf : ∀ x, (f x).length = k) (hz : z.length = k) (l : List α) {i : Nat} (hi : i ≤ l.length) : (tq f z l i).length = l.length * k := by
 have h2 : (List.replicate (l.length - i) z).flatten.length = (l.length - i) * k := by simp [hz]
 unfold tq
 rw [List.length_append, fm_len hf, List.length_take, Nat.min_eq_left hi, h2, ← Nat.add_mul]
 congr 1
 omega
theorem tq_set {α : Type} {f : α → List T} {z : List T} {k : Nat} (hf : ∀ x, (f x).length = k) (hz : z.length = k) {l : List α} {i : Nat} (hi : i < l.length) : setCells (tq f z l i) (i * k) (f l[i]) = tq f z l (i + 1) := by
 have hle : i * k + k ≤ l.length * k := by
  have := Nat.mul_le_mul_right k (show i + 1 ≤ l.length by omega)
  rwa [Nat.add_mul, Nat.one_mul] at this
 rw [setCells_eq _ _ _ (by rw [tq_len hf hz l (by omega), hf]; exact hle), hf]
 unfold tq
 have h1 : ((l.take i).flatMap f).length = i * k := by rw [fm_len hf, List.length_take, Nat.min_eq_left (by omega)]
 rw [show l.length - i = (l.length - (i + 1)) + 1 by omega, List.replicate_succ, List.flatten_cons]
 rw [← h1, List.take_left, List.drop_append, h1]
 rw [show (List.flatMap f (List.take i l)).drop (i * k + k) = [] from List.drop_eq_nil_of_le (by rw [h1]; omega), List.nil_append, show i * k + k - i * k = k by omega]
 rw [show (z ++ (List.replicate (l.length - (i + 1)) z).flatten).drop k = (List.replicate (l.length - (i + 1)) z).flatten by rw [← hz, List.drop_left]]
 rw [List.take_succ_eq_append_getElem hi, List.flatMap_append, List.flatMap_cons, List.flatMap_nil, List.append_nil]
noncomputable def zS : List T := [.v (.int .i64 0), .s (elemOf Tryz.prog 71) 0 [], .s (elemOf Tryz.prog 71) 0 [], .v (.int .i64 0)]
noncomputable def H_toStateS (l : List Sta) (i : Nat) : St := ⟨[(0, .c (.sl 0 [] 0 l.length)), (3, .c (.sl 512 [] 0 l.length)), (4, .c (.v (.int .i64 i)))], [(0, ⟨.ro, 131, stT l⟩), (512, ⟨.own, 71, tq sSta zS l i⟩)]⟩
theorem run_toStateS {j : Nat} (hj : big ≤ j) (l : List Sta) (hn : l.length ≤ 1048576) (hx : ∀ x ∈ l, x.regs.length ≤ 1048576 ∧ x.out.length ≤ 1048576) :
  M.run (j + 3) 44 [.c (.r 131 l.length (stT l))] = some ([.c (.s 71 l.length (ssT l))], [.c (.r 131 l.length (stT l))]) := by
 rw [m_run (fn := Tryz.f44) (i0 := 0) rfl Tryz.func44 rfl rfl (by simp)]
 simp -implicitDefEqProofs [le_most hn]
 rw [loop_to (H_toStateS l) l.length (by simp -implicitDefEqProofs [H_toStateS, hint1, tq, zS]) (by simp [big] at hj; omega) (fun i hi => by
  have hb := hx _ (List.getElem_mem hi)
  have e := run46 (j := j) (by omega) l[i].at_ l[i].code l[i].regs l[i].out hb.1 hb.2
  have e2 := tq_set (f := sSta) (z := zS) sSta_len rfl hi
  have e3 := tq_len (f := sSta) (z := zS) sSta_len rfl l (i := i) (by omega)
  simp only [stR, stS] at e
  simp only [sSta, stS, setCells] at e2
  simp -implicitDefEqProofs [H_toStateS, hint1, hi, w64 (x := (i : Int) + 1) (by omega), show i * 4 + 4 ≤ l.length * 4 by omega, show i * 4 + 1 ≤ l.length * 4 by omega, own1, tSta, stR, stT_1 hi, stT_2 hi, e, e2, e3]) (by simp -implicitDefEqProofs [H_toStateS, stops])]
 have e4 : tq sSta zS l l.length = ssT l := by simp [tq, ssT]
 simp -implicitDefEqProofs [H_toStateS, e4]
def H_eqStateS (l : List Sta) (i : Nat) : St := ⟨[(0, .c (.sl 0 [] 0 l.length)), (1, .c (.sl 1 [] 0 l.length)), (5, .c (.v (.int .i64 i)))], [(0, ⟨.ro, 71, stT l⟩), (1, ⟨.ro, 71, stT l⟩)]⟩
theorem run_eqStateS {j : Nat} (hj : big ≤ j) (l : List Sta) (hn : l.length ≤ 1048576) (hx : ∀ x ∈ l, x.regs.length ≤ 1048576 ∧ x.out.length ≤ 1048576) :
  M.run (j + 3) 50 [.c (.r 71 l.length (stT l)), .c (.r 71 l.length (stT l))] = some ([.c (.v (.bool true))], [.c (.r 71 l.length (stT l)), .c (.r 71 l.length (stT l))]) := by
 rw [m_run (fn := Tryz.f50) (i0 := 0) rfl Tryz.func50 rfl rfl (by simp)]
 simp -implicitDefEqProofs
 rw [loop_to (H_eqStateS l) l.length (by simp -implicitDefEqProofs [H_eqStateS, hint1]) (by simp [big] at hj; omega) (fun i hi => by
  have hb := hx _ (List.getElem_mem hi)
  have e := run17 (j := j) (by omega) l[i].at_ l[i].code l[i].regs l[i].out (by omega) (by omega)
  simp only [stR] at e
  simp -implicitDefEqProofs [H_eqStateS, hint1, hi, w64 (x := (i : Int) + 1) (by omega), show i * 4 + 4 ≤ l.length * 4 by omega, own1, tSta, stR, stT_1 hi, stT_2 hi, e]) (by simp -implicitDefEqProofs [H_eqStateS, stops])]
 simp -implicitDefEqProofs [H_eqStateS]
def mkSt (k : Int) (l : List Sta) : Nat → Int × List T
 | 0 => (k, ssT l)
 | i + 1 => match l[i]? with
  | none => mkSt k l i
  | some s => ((mkSt k l i).1 + 1 + s.regs.length + s.out.length + 1, ((((mkSt k l i).2.set (i * 4) (.v (.int .i64 (mkSt k l i).1))).set (i * 4 + 1) (.s 3 s.regs.length (ints (upto ((mkSt k l i).1 + 1) s.regs.length)))).set (i * 4 + 2) (.s 3 s.out.length (ints (upto ((mkSt k l i).1 + 1 + s.regs.length) s.out.length)))).set (i * 4 + 3) (.v (.int .i64 ((mkSt k l i).1 + 1 + s.regs.length + s.out.length))))
theorem mkSt_len (k : Int) (l : List Sta) : ∀ i, (mkSt k l i).2.length = l.length * 4
 | 0 => by simp [mkSt]
 | i + 1 => by
  rw [mkSt]
  split <;> simp [mkSt_len k l i]
theorem mkSt_at (k : Int) (l : List Sta) {m : Nat} : ∀ i, i * 4 ≤ m → (mkSt k l i).2[m]? = (ssT l)[m]?
 | 0, _ => rfl
 | i + 1, h => by
  rw [mkSt]
  split
  ·exact mkSt_at k l i (by omega)
  ·rw [List.getElem?_set_ne (by omega), List.getElem?_set_ne (by omega), List.getElem?_set_ne (by omega), List.getElem?_set_ne (by omega)]
   exact mkSt_at k l i (by omega)
theorem mkSt_le (k : Int) (l : List Sta) : ∀ i, i ≤ l.length → (mkSt k l i).1 = k + 2 * i + (tot ((l.map nums).take i) : Nat)
 | 0, _ => by simp [mkSt, tot]
 | i + 1, h => by
  have h1 := mkSt_le k l i (by omega)
  have h2 := totS_succ (l := l) (i := i) (by omega)
  rw [mkSt, List.getElem?_eq_getElem (show i < l.length by omega)]
  simp only
  rw [h2, h1]
  omega
def H_markStateS (k : Int) (l : List Sta) (i : Nat) : St := ⟨[(0, .c (.sl 0 [] 0 l.length)), (1, .c (.v (.int .i64 (mkSt k l i).1))), (5, .c (.v (.int .i64 i)))], [(0, ⟨.own, 71, (mkSt k l i).2⟩)]⟩
theorem run_markStateS {j : Nat} (hj : big ≤ j) (l : List Sta) (k : Int) (hn : l.length ≤ 1048576) (hk : 0 ≤ k ∧ k + (tot (l.map nums) : Nat) ≤ 1152921504606846976) :
  M.run (j + 2) 54 [.c (.s 71 l.length (ssT l)), .c (.v (.int .i64 k))] = some ([.c (.v (.int .i64 (k + 2 * l.length + (tot (l.map nums) : Nat))))], [.c (.s 71 l.length (mkSt k l l.length).2), .c (.v (.int .i64 k))]) := by
 have hend : (mkSt k l l.length).1 = k + 2 * l.length + (tot (l.map nums) : Nat) := by
  have := mkSt_le k l l.length (Nat.le_refl _)
  rwa [List.take_of_length_le (by simp)] at this
 rw [m_run (fn := Tryz.f54) (i0 := 0) rfl Tryz.func54 rfl rfl (by simp)]
 simp -implicitDefEqProofs
 rw [loop_to (H_markStateS k l) l.length (by simp -implicitDefEqProofs [H_markStateS, hint1, mkSt]) (by simp [big] at hj; omega) (fun i hi => by
  have h1 := mkSt_le k l i (by omega)
  have h2 := tot_take_le (l.map nums) i
  have h3 := totS_len hi
  have h4 := tot_take_le (l.map nums) (i + 1)
  have h5 := totS_succ hi
  have hl := mkSt_len k l i
  have a1 : (mkSt k l i).2[i * 4 + 1]? = some (.s 3 l[i].regs.length (ints l[i].regs)) := by
   rw [mkSt_at k l i (by omega)]
   exact fm_get sSta_len hi (by omega)
  have a2 : (mkSt k l i).2[i * 4 + 2]? = some (.s 3 l[i].out.length (ints l[i].out)) := by
   rw [mkSt_at k l i (by omega)]
   exact fm_get sSta_len hi (by omega)
  have e1 := run37 (j := j) (by omega) l[i].regs ((mkSt k l i).1 + 1) (by omega)
  have e2 := run37 (j := j) (by omega) l[i].out ((mkSt k l i).1 + 1 + l[i].regs.length) (by omega)
  have em : mkSt k l (i + 1) = ((mkSt k l i).1 + 1 + l[i].regs.length + l[i].out.length + 1, ((((mkSt k l i).2.set (i * 4) (.v (.int .i64 (mkSt k l i).1))).set (i * 4 + 1) (.s 3 l[i].regs.length (ints (upto ((mkSt k l i).1 + 1) l[i].regs.length)))).set (i * 4 + 2) (.s 3 l[i].out.length (ints (upto ((mkSt k l i).1 + 1 + l[i].regs.length) l[i].out.length)))).set (i * 4 + 3) (.v (.int .i64 ((mkSt k l i).1 + 1 + l[i].regs.length + l[i].out.length)))) := by
   rw [mkSt, List.getElem?_eq_getElem hi]
  simp -implicitDefEqProofs [H_markStateS, em, hint1, hi, w64 (x := (i : Int) + 1) (by omega), w64 (x := (mkSt k l i).1 + 1) (by omega), w64 (x := (mkSt k l i).1 + 1 + l[i].regs.length + l[i].out.length + 1) (by omega), own1, a1, a2, hl, e1, e2, show i * 4 + 1 ≤ l.length * 4 by omega, show i * 4 + 3 + 1 ≤ l.length * 4 by omega, List.getElem?_set]) (by simp -implicitDefEqProofs [H_markStateS, stops])]
 simp -implicitDefEqProofs [H_markStateS, hend]
end Go.Proofs.YtninncdacekfgaaGreat.VM
namespace Go.Proofs.YtninncdacekfgaaGreat.VM
open Go Go.Proofs
def syL (s : Sy) : List T := [.r 129 s.progs.length (s.progs.map (rIns 169)), .r 131 s.states.length (stT s.states), .r 133 s.ways.length (s.ways.map (rItem 171)), .r 135 s.hist.length (s.hist.map (rEvent 173))]
theorem run_szSys {j : Nat} (hj : big ≤ j) (s : Sy) (hs : syOk s) : ∃ r : Int, M.run (j + 4) 13 [.agg (syL s), .c (.v (.int .i64 1048576))] = some ([.c (.v (.int .i64 r))], [.agg (syL s), .c (.v (.int .i64 1048576))]) ∧ (r < 0 ∨ (¬ r < 0 ∧ Small s)) := by
 obtain ⟨hp, hst, hw, hh⟩ := hs
 obtain ⟨r1, e1, k1⟩ := run_szInsSS (j := j + 1) (by omega) s.progs 1048576 (by omega) hp.2 (fun x hx => (hp.1 x hx).2)
 by_cases h1 : r1 < 0
 ·refine ⟨-1, ?_, .inl (by omega)⟩
  rw [m_run (fn := Tryz.f13) (i0 := 0) rfl Tryz.func13 rfl rfl (by simp [syL])]
  simp -implicitDefEqProofs [syL, own1, e1, h1]
 have k1 := k1.resolve_left (by omega)
 obtain ⟨r2, e2, k2⟩ := run_szStateS (j := j) hj s.states r1 (by omega) hst.2 (fun x hx => ⟨(hst.1 x hx).2.1.2, (hst.1 x hx).2.2.1.2⟩)
 by_cases h2 : r2 < 0
 ·refine ⟨-1, ?_, .inl (by omega)⟩
  rw [m_run (fn := Tryz.f13) (i0 := 0) rfl Tryz.func13 rfl rfl (by simp [syL])]
  simp -implicitDefEqProofs [syL, own1, e1, h1, e2, h2]
 have k2 := k2.resolve_left (by omega)
 obtain ⟨r3, e3, k3⟩ := run_szItemSS (j := j + 1) (by omega) s.ways r2 (by omega) hw.2 (fun x hx => (hw.1 x hx).2)
 by_cases h3 : r3 < 0
 ·refine ⟨-1, ?_, .inl (by omega)⟩
  rw [m_run (fn := Tryz.f13) (i0 := 0) rfl Tryz.func13 rfl rfl (by simp [syL])]
  simp -implicitDefEqProofs [syL, own1, e1, h1, e2, h2, e3, h3]
 have k3 := k3.resolve_left (by omega)
 obtain ⟨r4, e4, k4⟩ := run_szEventSS (j := j + 1) (by omega) s.hist r3 (by omega) hh.2 (fun x hx => (hh.1 x hx).2)
 by_cases h4 : r4 < 0
 ·refine ⟨-1, ?_, .inl (by omega)⟩
  rw [m_run (fn := Tryz.f13) (i0 := 0) rfl Tryz.func13 rfl rfl (by simp [syL])]
  simp -implicitDefEqProofs [syL, own1, e1, h1, e2, h2, e3, h3, e4, h4]
 have k4 := k4.resolve_left (by omega)
 refine ⟨r4, ?_, .inr ⟨h4, ⟨by omega, by omega, by omega, by omega, by omega, by omega, by omega, by omega⟩⟩⟩
 rw [m_run (fn := Tryz.f13) (i0 := 0) rfl Tryz.func13 rfl rfl (by simp [syL])]
 simp -implicitDefEqProofs [syL, own1, e1, h1, e2, h2, e3, h3, e4, h4]
theorem run_toSys {j : Nat} (hj : big ≤ j) (s : Sy) (h : Small s) : M.run (j + 4) 15 [.agg (syL s)] = some ([.agg (syS s)], [.agg (syL s)]) := by
 have b1 := h.progs
 have b2 := h.progsT
 have b3 := h.ways
 have b4 := h.waysT
 have b5 := h.hist
 have b6 := h.histT
 have e1 := run_toInsSS (j := j) hj s.progs b1 (fun x hx => by have := tot_len s.progs x hx; omega)
 have e2 := run_toStateS (j := j) hj s.states h.states h.sta
 have e3 := run_toItemSS (j := j) hj s.ways b3 (fun x hx => by have := tot_len s.ways x hx; omega)
 have e4 := run_toEventSS (j := j) hj s.hist b5 (fun x hx => by have := tot_len s.hist x hx; omega)
 rw [m_run (fn := Tryz.f15) (i0 := 0) rfl Tryz.func15 rfl rfl (by simp [syL])]
 simp -implicitDefEqProofs [syL, syS, own1, e1, e2, e3, e4]
theorem run_eqSys {j : Nat} (hj : big ≤ j) (s : Sy) (h : Small s) : M.run (j + 4) 18 [.agg (syR s), .agg (syR s)] = some ([.c (.v (.bool true))], [.agg (syR s), .agg (syR s)]) := by
 have b1 := h.progs
 have b2 := h.progsT
 have b3 := h.ways
 have b4 := h.waysT
 have b5 := h.hist
 have b6 := h.histT
 have e1 := run_eqInsSS (j := j) hj s.progs b1 (fun x hx => by have := tot_len s.progs x hx; omega)
 have e2 := run_eqStateS (j := j) hj s.states h.states h.sta
 have e3 := run_eqItemSS (j := j) hj s.ways b3 (fun x hx => by have := tot_len s.ways x hx; omega)
 have e4 := run_eqEventSS (j := j) hj s.hist b5 (fun x hx => by have := tot_len s.hist x hx; omega)
 rw [m_run (fn := Tryz.f18) (i0 := 0) rfl Tryz.func18 rfl rfl (by simp [syR])]
 simp -implicitDefEqProofs [syR, own1, e1, e2, e3, e4]
end Go.Proofs.YtninncdacekfgaaGreat.VM
