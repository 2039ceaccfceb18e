/- Marked systems; new systems: reckoned. -/
import Derived.Test.YtninncdacekfgaaGreatK7s
import Derived.Test.YtninncdacekfgaaGreatK8s
import Derived.Test.YtninncdacekfgaaGreatK53s
import Derived.Test.YtninncdacekfgaaGreatK11s
import Derived.Test.YtninncdacekfgaaGreatK12s
import Derived.Test.YtninncdacekfgaaGreatK16s
import Derived.Test.YtninncdacekfgaaGreatV3d
import Derived.Test.YtninncdacekfgaaGreatFxd
import Derived.Test.YtninncdacekfgaaGreatMkd
import Derived.Test.YtninncdacekfgaaGreatTabd
import Derived.Test.YtninncdacekfgaaGreatK0d
import Derived.Test.YtninncdacekfgaaGreatK2d
import Derived.Test.YtninncdacekfgaaGreatK4d
import Derived.Test.YtninncdacekfgaaGreatK5d
import Derived.Test.YtninncdacekfgaaGreatK6d
import Derived.Test.YtninncdacekfgaaGreatK7d
import Derived.Test.YtninncdacekfgaaGreatK13d
set_option linter.unusedSimpArgs false
set_option linter.unusedVariables false
set_option maxRecDepth 100000
set_option maxHeartbeats 40000000
namespace Go.Proofs.YtninncdacekfgaaGreat.VM
open Go Go.Proofs
def rlen {α : Type} (xss : List (List α)) (m : Nat) : Nat := ((xss[m]?).map List.length).getD 0
theorem rlen_of {α : Type} {xss : List (List α)} {m : Nat} (h : m < xss.length) : rlen xss m = xss[m].length := by unfold rlen; rw [List.getElem?_eq_getElem h]; rfl
theorem ext_map {α : Type} {f : Nat → α} {l : List α} {n : Nat} (hl : l.length = n) (h : ∀ m, m < n → l[m]? = some (f m)) : l = (List.range n).map f := by
 apply List.ext_getElem?
 intro m
 rw [List.getElem?_map]
 rcases Nat.lt_or_ge m n with h' | h'
 ·rw [List.getElem?_range h', h m h']; rfl
 ·rw [List.getElem?_eq_none (by omega), List.getElem?_eq_none (by simpa using h')]; rfl
theorem insUp_at {k : Int} {n i : Nat} (h : i < (insUp k n).length) : (insUp k n)[i] = ⟨k + 5 * (i : Int), k + 5 * (i : Int) + 1, k + 5 * (i : Int) + 1 + 1, k + 5 * (i : Int) + 1 + 1 + 1, k + 5 * (i : Int) + 1 + 1 + 1 + 1⟩ := by simp [insUp]
theorem evUp_at {k : Int} {n i : Nat} (h : i < (evUp k n).length) : (evUp k n)[i] = ⟨k + 3 * (i : Int), k + 3 * (i : Int) + 1, k + 3 * (i : Int) + 1 + 1⟩ := by simp [evUp]
theorem insT_get {l : List Ins} {i o : Nat} (hi : i < l.length) (ho : o < 5) : (insT l)[i * 5 + o]? = (tIns l[i])[o]? := fm_get tIns_len hi ho
def H_heldInsS (k : Int) (n : Nat) (i : Nat) : St := ⟨[(0, .c (.sl 0 [] 0 n)), (1, .c (.v (.int .i64 (k + 5 * i)))), (5, .c (.v (.int .i64 i)))], [(0, ⟨.ro, 105, insT (insUp k n)⟩)]⟩
theorem run_heldInsS {j : Nat} (hj : big ≤ j) (n : Nat) (k : Int) (hk : 0 ≤ k ∧ k + 5 * n ≤ 4611686018427387904) :
  M.run (j + 1) 117 [.c (.r 105 n (insT (insUp k n))), .c (.v (.int .i64 k))] = some ([.c (.v (.int .i64 (k + 5 * n)))], [.c (.r 105 n (insT (insUp k n))), .c (.v (.int .i64 k))]) := by
 rw [m_run (fn := Tryz.f117) (i0 := 0) rfl Tryz.func117 rfl rfl (by simp)]
 simp -implicitDefEqProofs
 rw [loop_then (H_heldInsS k n) n (by simp -implicitDefEqProofs [H_heldInsS, hint1]) (by simp [big] at hj; omega) (fun i hi => by
  have hi' : i < (insUp k n).length := by simpa using hi
  have g : ∀ o, o < 5 → (insT (insUp k n))[i * 5 + o]? = (tIns ⟨k + 5 * (i : Int), k + 5 * (i : Int) + 1, k + 5 * (i : Int) + 1 + 1, k + 5 * (i : Int) + 1 + 1 + 1, k + 5 * (i : Int) + 1 + 1 + 1 + 1⟩)[o]? := fun o ho => by rw [insT_get hi' ho, insUp_at]
  have g0 := g 0 (by omega)
  have g1 := g 1 (by omega)
  have g2 := g 2 (by omega)
  have g3 := g 3 (by omega)
  have g4 := g 4 (by omega)
  simp only [tIns, List.getElem?_cons_zero, List.getElem?_cons_succ, Nat.add_zero] at g0 g1 g2 g3 g4
  have hl : (insT (insUp k n)).length = n * 5 := by simp
  have hx : k + 5 * ((i + 1 : Nat) : Int) = k + 5 * (i : Int) + 1 + 1 + 1 + 1 + 1 := by omega
  unfold H_heldInsS
  rw [hx]
  generalize insT (insUp k n) = L at *
  have b0 : 0 ≤ k + 5 * (i : Int) ∧ k + 5 * (i : Int) + 5 ≤ 4611686018427387904 := by omega
  generalize k + 5 * (i : Int) = K at *
  simp -implicitDefEqProofs [hint1, hi, g0, g1, g2, g3, g4, w64 (x := (i : Int) + 1) (by omega), w64 (x := K + 1) (by omega), w64 (x := K + 1 + 1) (by omega), w64 (x := K + 1 + 1 + 1) (by omega), w64 (x := K + 1 + 1 + 1 + 1) (by omega), w64 (x := K + 1 + 1 + 1 + 1 + 1) (by omega)])]
 simp -implicitDefEqProofs [H_heldInsS]
theorem evT_get {l : List Ev} {i o : Nat} (hi : i < l.length) (ho : o < 3) : (evT l)[i * 3 + o]? = (tEv l[i])[o]? := fm_get tEv_len hi ho
def H_heldEventS (k : Int) (n : Nat) (i : Nat) : St := ⟨[(0, .c (.sl 0 [] 0 n)), (1, .c (.v (.int .i64 (k + 3 * i)))), (5, .c (.v (.int .i64 i)))], [(0, ⟨.ro, 96, evT (evUp k n)⟩)]⟩
theorem run_heldEventS {j : Nat} (hj : big ≤ j) (n : Nat) (k : Int) (hk : 0 ≤ k ∧ k + 3 * n ≤ 4611686018427387904) :
  M.run (j + 1) 120 [.c (.r 96 n (evT (evUp k n))), .c (.v (.int .i64 k))] = some ([.c (.v (.int .i64 (k + 3 * n)))], [.c (.r 96 n (evT (evUp k n))), .c (.v (.int .i64 k))]) := by
 rw [m_run (fn := Tryz.f120) (i0 := 0) rfl Tryz.func120 rfl rfl (by simp)]
 simp -implicitDefEqProofs
 rw [loop_then (H_heldEventS k n) n (by simp -implicitDefEqProofs [H_heldEventS, hint1]) (by simp [big] at hj; omega) (fun i hi => by
  have hi' : i < (evUp k n).length := by simpa using hi
  have g : ∀ o, o < 3 → (evT (evUp k n))[i * 3 + o]? = (tEv ⟨k + 3 * (i : Int), k + 3 * (i : Int) + 1, k + 3 * (i : Int) + 1 + 1⟩)[o]? := fun o ho => by rw [evT_get hi' ho, evUp_at]
  have g0 := g 0 (by omega)
  have g1 := g 1 (by omega)
  have g2 := g 2 (by omega)
  simp only [tEv, List.getElem?_cons_zero, List.getElem?_cons_succ, Nat.add_zero] at g0 g1 g2
  have hl : (evT (evUp k n)).length = n * 3 := by simp
  have hx : k + 3 * ((i + 1 : Nat) : Int) = k + 3 * (i : Int) + 1 + 1 + 1 := by omega
  unfold H_heldEventS
  rw [hx]
  generalize evT (evUp k n) = L at *
  have b0 : 0 ≤ k + 3 * (i : Int) ∧ k + 3 * (i : Int) + 3 ≤ 4611686018427387904 := by omega
  generalize k + 3 * (i : Int) = K at *
  simp -implicitDefEqProofs [hint1, hi, g0, g1, g2, w64 (x := (i : Int) + 1) (by omega), w64 (x := K + 1) (by omega), w64 (x := K + 1 + 1) (by omega), w64 (x := K + 1 + 1 + 1) (by omega)])]
 simp -implicitDefEqProofs [H_heldEventS]
def mkInsR (k : Int) (xss : List (List Ins)) : List (List Ins) := (List.range xss.length).map fun m => insUp (k + 5 * (tot (xss.take m) : Nat)) (rlen xss m)
theorem mkInsR_len (k : Int) (xss : List (List Ins)) : (mkInsR k xss).length = xss.length := by simp [mkInsR]
theorem mkInsR_at {k : Int} {xss : List (List Ins)} {m : Nat} (h : m < xss.length) : (mkInsR k xss)[m]? = some (insUp (k + 5 * (tot (xss.take m) : Nat)) xss[m].length) := by
 unfold mkInsR
 rw [List.getElem?_map, List.getElem?_range h, ← rlen_of h]
 rfl
theorem mkIns_done (k : Int) (xss : List (List Ins)) {m : Nat} : ∀ i, m < i → i ≤ xss.length → (mkIns k xss i).2[m]? = some (sIns 105 (insUp (k + 5 * (tot (xss.take m) : Nat)) (rlen xss m)))
 | 0, h, _ => by omega
 | i + 1, h, hi => by
  rw [mkIns, List.getElem?_set]
  by_cases e : i = m
  ·subst e
   rw [if_pos rfl, if_pos (by rw [mkIns_len]; omega), (mkIns_le k xss i (by omega)).2]
   unfold sIns
   rw [insUp_len]
   rfl
  ·rw [if_neg e]
   exact mkIns_done k xss i (by omega) (by omega)
theorem mkIns_all (k : Int) (xss : List (List Ins)) : (mkIns k xss xss.length).2 = (mkInsR k xss).map (sIns 105) := by
 unfold mkInsR
 rw [List.map_map]
 exact ext_map (mkIns_len k xss xss.length) fun m hm => mkIns_done k xss xss.length hm (Nat.le_refl _)
theorem mkInsR_r {k : Int} {xss : List (List Ins)} {m : Nat} (h : m < xss.length) : ((mkInsR k xss).map (rIns 105))[m]? = some (.r 105 xss[m].length (insT (insUp (k + 5 * (tot (xss.take m) : Nat)) xss[m].length))) := by
 rw [List.getElem?_map, mkInsR_at h]
 show some (rIns _ _) = _
 unfold rIns
 rw [insUp_len]
def H_heldIns (k : Int) (xss : List (List Ins)) (i : Nat) : St := ⟨[(0, .c (.sl 0 [] 0 xss.length)), (1, .c (.v (.int .i64 (k + 5 * (tot (xss.take i) : Nat))))), (5, .c (.v (.int .i64 i)))], [(0, ⟨.ro, 100, (mkInsR k xss).map (rIns 105)⟩)]⟩
theorem run_heldInsSS {j : Nat} (hj : big ≤ j) (xss : List (List Ins)) (k : Int) (hk : 0 ≤ k ∧ k + 5 * (tot xss : Nat) ≤ 1152921504606846976) (hn : xss.length ≤ 1048576) :
  M.run (j + 2) 57 [.c (.r 100 xss.length ((mkInsR k xss).map (rIns 105))), .c (.v (.int .i64 k))] = some ([.c (.v (.int .i64 (k + 5 * (tot xss : Nat))))], [.c (.r 100 xss.length ((mkInsR k xss).map (rIns 105))), .c (.v (.int .i64 k))]) := by
 rw [m_run (fn := Tryz.f57) (i0 := 0) rfl Tryz.func57 rfl rfl (by simp)]
 simp -implicitDefEqProofs
 rw [loop_then (H_heldIns k xss) xss.length (by simp -implicitDefEqProofs [H_heldIns, hint1, tot]) (by simp [big] at hj; omega) (fun i hi => by
  have h2 := tot_take_le xss (i + 1)
  have h4 := tot_take_succ hi
  have e := run_heldInsS (j := j) hj xss[i].length (k + 5 * (tot (xss.take i) : Nat)) (by omega)
  have g := mkInsR_r (k := k) hi
  have hnn : ¬ (k + 5 * (tot (xss.take i) : Nat) + 5 * (xss[i].length : Int) < 0) := by omega
  have hx : k + 5 * ((tot (xss.take (i + 1)) : Nat) : Int) = k + 5 * (tot (xss.take i) : Nat) + 5 * (xss[i].length : Int) := by rw [h4]; omega
  unfold H_heldIns
  rw [hx]
  generalize (mkInsR k xss).map (rIns 105) = G at *
  generalize k + 5 * ((tot (xss.take i) : Nat) : Int) = K at *
  have tk : (insUp K xss[i].length).take xss[i].length = insUp K xss[i].length := List.take_of_length_le (by simp)
  simp -implicitDefEqProofs [hint1, hi, own1, g, e, tk, hnn, w64 (x := (i : Int) + 1) (by omega)])]
 have ht : xss.take xss.length = xss := List.take_length
 simp -implicitDefEqProofs [H_heldIns, ht]
def mkItemR (k : Int) (xss : List (List Itm)) : List (List Itm) := (List.range xss.length).map fun m => itUp (k + 2 * (tot (xss.take m) : Nat)) (rlen xss m)
theorem mkItemR_len (k : Int) (xss : List (List Itm)) : (mkItemR k xss).length = xss.length := by simp [mkItemR]
theorem mkItemR_at {k : Int} {xss : List (List Itm)} {m : Nat} (h : m < xss.length) : (mkItemR k xss)[m]? = some (itUp (k + 2 * (tot (xss.take m) : Nat)) xss[m].length) := by
 unfold mkItemR
 rw [List.getElem?_map, List.getElem?_range h, ← rlen_of h]
 rfl
theorem mkItem_done (k : Int) (xss : List (List Itm)) {m : Nat} : ∀ i, m < i → i ≤ xss.length → (mkItem k xss i).2[m]? = some (sItem 99 (itUp (k + 2 * (tot (xss.take m) : Nat)) (rlen xss m)))
 | 0, h, _ => by omega
 | i + 1, h, hi => by
  rw [mkItem, List.getElem?_set]
  by_cases e : i = m
  ·subst e
   rw [if_pos rfl, if_pos (by rw [mkItem_len]; omega), (mkItem_le k xss i (by omega)).2]
   unfold sItem
   rw [itUp_len]
   rfl
  ·rw [if_neg e]
   exact mkItem_done k xss i (by omega) (by omega)
theorem mkItem_all (k : Int) (xss : List (List Itm)) : (mkItem k xss xss.length).2 = (mkItemR k xss).map (sItem 99) := by
 unfold mkItemR
 rw [List.map_map]
 exact ext_map (mkItem_len k xss xss.length) fun m hm => mkItem_done k xss xss.length hm (Nat.le_refl _)
theorem mkItemR_r {k : Int} {xss : List (List Itm)} {m : Nat} (h : m < xss.length) : ((mkItemR k xss).map (rItem 99))[m]? = some (.r 99 xss[m].length (itT (itUp (k + 2 * (tot (xss.take m) : Nat)) xss[m].length))) := by
 rw [List.getElem?_map, mkItemR_at h]
 show some (rItem _ _) = _
 unfold rItem
 rw [itUp_len]
def H_heldItem (k : Int) (xss : List (List Itm)) (i : Nat) : St := ⟨[(0, .c (.sl 0 [] 0 xss.length)), (1, .c (.v (.int .i64 (k + 2 * (tot (xss.take i) : Nat))))), (5, .c (.v (.int .i64 i)))], [(0, ⟨.ro, 97, (mkItemR k xss).map (rItem 99)⟩)]⟩
theorem run_heldItemSS {j : Nat} (hj : big ≤ j) (xss : List (List Itm)) (k : Int) (hk : 0 ≤ k ∧ k + 2 * (tot xss : Nat) ≤ 1152921504606846976) (hn : xss.length ≤ 1048576) :
  M.run (j + 2) 59 [.c (.r 97 xss.length ((mkItemR k xss).map (rItem 99))), .c (.v (.int .i64 k))] = some ([.c (.v (.int .i64 (k + 2 * (tot xss : Nat))))], [.c (.r 97 xss.length ((mkItemR k xss).map (rItem 99))), .c (.v (.int .i64 k))]) := by
 rw [m_run (fn := Tryz.f59) (i0 := 0) rfl Tryz.func59 rfl rfl (by simp)]
 simp -implicitDefEqProofs
 rw [loop_then (H_heldItem k xss) xss.length (by simp -implicitDefEqProofs [H_heldItem, hint1, tot]) (by simp [big] at hj; omega) (fun i hi => by
  have h2 := tot_take_le xss (i + 1)
  have h4 := tot_take_succ hi
  have e := run_heldItemS (j := j) hj xss[i].length (k + 2 * (tot (xss.take i) : Nat)) (by omega)
  have g := mkItemR_r (k := k) hi
  have hnn : ¬ (k + 2 * (tot (xss.take i) : Nat) + 2 * (xss[i].length : Int) < 0) := by omega
  have hx : k + 2 * ((tot (xss.take (i + 1)) : Nat) : Int) = k + 2 * (tot (xss.take i) : Nat) + 2 * (xss[i].length : Int) := by rw [h4]; omega
  unfold H_heldItem
  rw [hx]
  generalize (mkItemR k xss).map (rItem 99) = G at *
  generalize k + 2 * ((tot (xss.take i) : Nat) : Int) = K at *
  simp -implicitDefEqProofs [hint1, hi, own1, g, e, hnn, w64 (x := (i : Int) + 1) (by omega)])]
 have ht : xss.take xss.length = xss := List.take_length
 simp -implicitDefEqProofs [H_heldItem, ht]
def mkEventR (k : Int) (xss : List (List Ev)) : List (List Ev) := (List.range xss.length).map fun m => evUp (k + 3 * (tot (xss.take m) : Nat)) (rlen xss m)
theorem mkEventR_len (k : Int) (xss : List (List Ev)) : (mkEventR k xss).length = xss.length := by simp [mkEventR]
theorem mkEventR_at {k : Int} {xss : List (List Ev)} {m : Nat} (h : m < xss.length) : (mkEventR k xss)[m]? = some (evUp (k + 3 * (tot (xss.take m) : Nat)) xss[m].length) := by
 unfold mkEventR
 rw [List.getElem?_map, List.getElem?_range h, ← rlen_of h]
 rfl
theorem mkEvent_done (k : Int) (xss : List (List Ev)) {m : Nat} : ∀ i, m < i → i ≤ xss.length → (mkEvent k xss i).2[m]? = some (sEvent 96 (evUp (k + 3 * (tot (xss.take m) : Nat)) (rlen xss m)))
 | 0, h, _ => by omega
 | i + 1, h, hi => by
  rw [mkEvent, List.getElem?_set]
  by_cases e : i = m
  ·subst e
   rw [if_pos rfl, if_pos (by rw [mkEvent_len]; omega), (mkEvent_le k xss i (by omega)).2]
   unfold sEvent
   rw [evUp_len]
   rfl
  ·rw [if_neg e]
   exact mkEvent_done k xss i (by omega) (by omega)
theorem mkEvent_all (k : Int) (xss : List (List Ev)) : (mkEvent k xss xss.length).2 = (mkEventR k xss).map (sEvent 96) := by
 unfold mkEventR
 rw [List.map_map]
 exact ext_map (mkEvent_len k xss xss.length) fun m hm => mkEvent_done k xss xss.length hm (Nat.le_refl _)
theorem mkEventR_r {k : Int} {xss : List (List Ev)} {m : Nat} (h : m < xss.length) : ((mkEventR k xss).map (rEvent 96))[m]? = some (.r 96 xss[m].length (evT (evUp (k + 3 * (tot (xss.take m) : Nat)) xss[m].length))) := by
 rw [List.getElem?_map, mkEventR_at h]
 show some (rEvent _ _) = _
 unfold rEvent
 rw [evUp_len]
def H_heldEvent (k : Int) (xss : List (List Ev)) (i : Nat) : St := ⟨[(0, .c (.sl 0 [] 0 xss.length)), (1, .c (.v (.int .i64 (k + 3 * (tot (xss.take i) : Nat))))), (5, .c (.v (.int .i64 i)))], [(0, ⟨.ro, 68, (mkEventR k xss).map (rEvent 96)⟩)]⟩
theorem run_heldEventSS {j : Nat} (hj : big ≤ j) (xss : List (List Ev)) (k : Int) (hk : 0 ≤ k ∧ k + 3 * (tot xss : Nat) ≤ 1152921504606846976) (hn : xss.length ≤ 1048576) :
  M.run (j + 2) 60 [.c (.r 68 xss.length ((mkEventR k xss).map (rEvent 96))), .c (.v (.int .i64 k))] = some ([.c (.v (.int .i64 (k + 3 * (tot xss : Nat))))], [.c (.r 68 xss.length ((mkEventR k xss).map (rEvent 96))), .c (.v (.int .i64 k))]) := by
 rw [m_run (fn := Tryz.f60) (i0 := 0) rfl Tryz.func60 rfl rfl (by simp)]
 simp -implicitDefEqProofs
 rw [loop_then (H_heldEvent k xss) xss.length (by simp -implicitDefEqProofs [H_heldEvent, hint1, tot]) (by simp [big] at hj; omega) (fun i hi => by
  have h2 := tot_take_le xss (i + 1)
  have h4 := tot_take_succ hi
  have e := run_heldEventS (j := j) hj xss[i].length (k + 3 * (tot (xss.take i) : Nat)) (by omega)
  have g := mkEventR_r (k := k) hi
  have hnn : ¬ (k + 3 * (tot (xss.take i) : Nat) + 3 * (xss[i].length : Int) < 0) := by omega
  have hx : k + 3 * ((tot (xss.take (i + 1)) : Nat) : Int) = k + 3 * (tot (xss.take i) : Nat) + 3 * (xss[i].length : Int) := by rw [h4]; omega
  unfold H_heldEvent
  rw [hx]
  generalize (mkEventR k xss).map (rEvent 96) = G at *
  generalize k + 3 * ((tot (xss.take i) : Nat) : Int) = K at *
  have tk : (evUp K xss[i].length).take xss[i].length = evUp K xss[i].length := List.take_of_length_le (by simp)
  simp -implicitDefEqProofs [hint1, hi, own1, g, e, tk, hnn, w64 (x := (i : Int) + 1) (by omega)])]
 have ht : xss.take xss.length = xss := List.take_length
 simp -implicitDefEqProofs [H_heldEvent, ht]
end Go.Proofs.YtninncdacekfgaaGreat.VM
namespace Go.Proofs.YtninncdacekfgaaGreat.VM
open Go Go.Proofs
def kSt (k : Int) (l : List Sta) (m : Nat) : Int := k + 2 * m + (tot ((l.map nums).take m) : Nat)
def stM (k : Int) (s : Sta) : Sta := ⟨k, upto (k + 1) s.regs.length, upto (k + 1 + s.regs.length) s.out.length, k + 1 + s.regs.length + s.out.length⟩
def mkStR (k : Int) (l : List Sta) : List Sta := (List.range l.length).map fun m => stM (kSt k l m) (l.getD m ⟨0, [], [], 0⟩)
theorem mkStR_len (k : Int) (l : List Sta) : (mkStR k l).length = l.length := by simp [mkStR]
theorem mkStR_at {k : Int} {l : List Sta} {m : Nat} (h : m < l.length) (h' : m < (mkStR k l).length) : (mkStR k l)[m] = stM (kSt k l m) l[m] := by
 simp [mkStR, h]
theorem kSt_succ {k : Int} {l : List Sta} {i : Nat} (hi : i < l.length) : kSt k l (i + 1) = kSt k l i + 1 + l[i].regs.length + l[i].out.length + 1 := by
 unfold kSt
 rw [totS_succ hi]
 omega
theorem mkSt_done (k : Int) (l : List Sta) {m : Nat} : ∀ i, m < i → (hi : i ≤ l.length) → ∀ o, o < 4 → (mkSt k l i).2[m * 4 + o]? = (sSta (stM (kSt k l m) (l.getD m ⟨0, [], [], 0⟩)))[o]?
 | 0, h, _, o, ho => by omega
 | i + 1, h, hi, o, ho => by
  have hl := mkSt_len k l i
  have hk := mkSt_le k l i (by omega)
  rw [mkSt, List.getElem?_eq_getElem (show i < l.length by omega)]
  simp only
  by_cases e : i = m
  ·subst e
   have hk' : (mkSt k l i).1 = kSt k l i := by rw [hk]; rfl
   rw [hk']
   have hg : l.getD i ⟨0, [], [], 0⟩ = l[i] := by simp [show i < l.length by omega]
   rw [hg]
   generalize (mkSt k l i).2 = L at *
   have : o = 0 ∨ o = 1 ∨ o = 2 ∨ o = 3 := by omega
   rcases this with rfl | rfl | rfl | rfl <;> simp [List.getElem?_set, hl, sSta, stS, stM, show i * 4 < l.length * 4 by omega, show i * 4 + 1 < l.length * 4 by omega, show i * 4 + 2 < l.length * 4 by omega, show i * 4 + 3 < l.length * 4 by omega]
  ·rw [List.getElem?_set_ne (by omega), List.getElem?_set_ne (by omega), List.getElem?_set_ne (by omega), List.getElem?_set_ne (by omega)]
   exact mkSt_done k l i (by omega) (by omega) o ho
theorem mkSt_all (k : Int) (l : List Sta) : (mkSt k l l.length).2 = ssT (mkStR k l) := by
 apply List.ext_getElem?
 intro q
 rcases Nat.lt_or_ge q (l.length * 4) with h | h
 ·have h1 : q / 4 < l.length := by omega
  have h2 : q % 4 < 4 := by omega
  have h3 : q = q / 4 * 4 + q % 4 := by omega
  rw [h3, mkSt_done k l l.length h1 (Nat.le_refl _) _ h2]
  have h4 : q / 4 < (mkStR k l).length := by rw [mkStR_len]; exact h1
  have := fm_get (o := q % 4) sSta_len h4 h2
  rw [mkStR_at h1 h4] at this
  rw [show l.getD (q / 4) ⟨0, [], [], 0⟩ = l[q / 4] by simp [h1]]
  exact this.symm
 ·rw [List.getElem?_eq_none (by rw [mkSt_len]; exact h), List.getElem?_eq_none (by rw [ssT_len, mkStR_len]; exact h)]
theorem stR_get {l : List Sta} {i o : Nat} (hi : i < l.length) (ho : o < 4) : (stT l)[i * 4 + o]? = (tSta l[i])[o]? := fm_get tSta_len hi ho
def H_heldSt (k : Int) (l : List Sta) (i : Nat) : St := ⟨[(0, .c (.sl 0 [] 0 l.length)), (1, .c (.v (.int .i64 (kSt k l i)))), (5, .c (.v (.int .i64 i)))], [(0, ⟨.ro, 71, stT (mkStR k l)⟩)]⟩
theorem run_heldStateS {j : Nat} (hj : big ≤ j) (l : List Sta) (k : Int) (hn : l.length ≤ 1048576) (hk : 0 ≤ k ∧ k + 2 * l.length + (tot (l.map nums) : Nat) ≤ 1152921504606846976) :
  M.run (j + 2) 58 [.c (.r 71 l.length (stT (mkStR k l))), .c (.v (.int .i64 k))] = some ([.c (.v (.int .i64 (kSt k l l.length)))], [.c (.r 71 l.length (stT (mkStR k l))), .c (.v (.int .i64 k))]) := by
 have hlen : (stT (mkStR k l)).length = l.length * 4 := by rw [stT_len, mkStR_len]
 rw [m_run (fn := Tryz.f58) (i0 := 0) rfl Tryz.func58 rfl rfl (by simp)]
 simp -implicitDefEqProofs
 rw [loop_then (H_heldSt k l) l.length (by simp -implicitDefEqProofs [H_heldSt, hint1, kSt, tot]) (by simp [big] at hj; omega) (fun i hi => by
  have h2 := totS_len hi
  have h3 := tot_take_le (l.map nums) (i + 1)
  have h4 := totS_succ hi
  have h5 := kSt_succ (k := k) hi
  have hm : i < (mkStR k l).length := by rw [mkStR_len]; exact hi
  have g : ∀ o, o < 4 → (stT (mkStR k l))[i * 4 + o]? = (tSta (stM (kSt k l i) l[i]))[o]? := fun o ho => by rw [stR_get hm ho, mkStR_at hi hm]
  have g0 := g 0 (by omega)
  have g1 := g 1 (by omega)
  have g2 := g 2 (by omega)
  have g3 := g 3 (by omega)
  simp only [tSta, stR, stM, List.getElem?_cons_zero, List.getElem?_cons_succ, Nat.add_zero, upto_len] at g0 g1 g2 g3
  have bK : 0 ≤ kSt k l i ∧ kSt k l i + 2 + l[i].regs.length + l[i].out.length ≤ 1152921504606846976 := by
   unfold kSt
   omega
  unfold H_heldSt
  rw [h5]
  clear h5
  generalize stT (mkStR k l) = L at *
  generalize kSt k l i = K at *
  have q0 := fun (h : i * 4 < L.length) => Option.some.inj ((List.getElem?_eq_getElem h).symm.trans g0)
  have q1 := fun (h : i * 4 + 1 < L.length) => Option.some.inj ((List.getElem?_eq_getElem h).symm.trans g1)
  have q2 := fun (h : i * 4 + 2 < L.length) => Option.some.inj ((List.getElem?_eq_getElem h).symm.trans g2)
  have q3 := fun (h : i * 4 + 3 < L.length) => Option.some.inj ((List.getElem?_eq_getElem h).symm.trans g3)
  have e1 := run38 (j := j) hj l[i].regs.length (K + 1) (by omega)
  have e2 := run38 (j := j) hj l[i].out.length (K + 1 + l[i].regs.length) (by omega)
  have n1 : ¬ (K + 1 + (l[i].regs.length : Int) < 0) := by omega
  have n2 : ¬ (K + 1 + (l[i].regs.length : Int) + (l[i].out.length : Int) < 0) := by omega
  simp -implicitDefEqProofs [hint1, hi, own1, g0, g1, g2, g3, hlen, e1, e2, n1, n2, q0, q1, q2, q3, show i * 4 + 4 ≤ l.length * 4 by omega, w64 (x := (i : Int) + 1) (by omega), w64 (x := K + 1) (by omega), w64 (x := K + 1 + (l[i].regs.length : Int) + (l[i].out.length : Int) + 1) (by omega)])]
 simp -implicitDefEqProofs [H_heldSt]
def mkSy (s : Sy) : Sy := ⟨mkInsR 1 s.progs, mkStR (1 + 5 * (tot s.progs : Nat)) s.states, mkItemR (1 + 5 * (tot s.progs : Nat) + 2 * s.states.length + (tot (s.states.map nums) : Nat)) s.ways, mkEventR (1 + 5 * (tot s.progs : Nat) + 2 * s.states.length + (tot (s.states.map nums) : Nat) + 2 * (tot s.ways : Nat)) s.hist⟩
def markR (s : Sy) : Int := 1 + 5 * (tot s.progs : Nat) + 2 * s.states.length + (tot (s.states.map nums) : Nat) + 2 * (tot s.ways : Nat) + 3 * (tot s.hist : Nat)
theorem markR_pos (s : Sy) (h : Small s) : 0 ≤ markR s ∧ markR s ≤ 100000000 := by
 have := h.progsT
 have := h.states
 have := h.statesT
 have := h.waysT
 have := h.histT
 unfold markR
 omega
theorem run_markSys3 {j : Nat} (hj : big ≤ j) (s : Sy) (h : Small s) : M.run (j + 3) 20 [.agg (syS s), .c (.v (.int .i64 1))] = some ([.c (.v (.int .i64 (markR s)))], [.agg (syS (mkSy s)), .c (.v (.int .i64 1))]) := by
 have b1 := h.progs
 have b2 := h.progsT
 have b3 := h.ways
 have b4 := h.waysT
 have b5 := h.hist
 have b6 := h.histT
 have b7 := h.states
 have b8 := h.statesT
 have e1 := run_markInsSS (j := j) hj s.progs 1 (by omega) b1
 have e2 := run_markStateS (j := j) hj s.states (1 + 5 * (tot s.progs : Nat)) b7 (by omega)
 have e3 := run_markItemSS (j := j) hj s.ways (1 + 5 * (tot s.progs : Nat) + 2 * s.states.length + (tot (s.states.map nums) : Nat)) (by omega) b3
 have e4 := run_markEventSS (j := j) hj s.hist (1 + 5 * (tot s.progs : Nat) + 2 * s.states.length + (tot (s.states.map nums) : Nat) + 2 * (tot s.ways : Nat)) (by omega) b5
 unfold mkSy markR
 simp only [syS, mkInsR_len, mkItemR_len, mkEventR_len, mkStR_len] at *
 rw [mkIns_all] at e1
 rw [mkSt_all] at e2
 rw [mkItem_all] at e3
 rw [mkEvent_all] at e4
 rw [m_run (fn := Tryz.f20) (i0 := 0) rfl Tryz.func20 rfl rfl (by simp [syS])]
 simp -implicitDefEqProofs [syS, own1, e1, e2, e3, e4, mkInsR_len, mkItemR_len, mkEventR_len, mkStR_len]
theorem run_heldSys {j : Nat} (hj : big ≤ j) (s : Sy) (h : Small s) : M.run (j + 3) 22 [.agg (syR (mkSy s)), .c (.v (.int .i64 1))] = some ([.c (.v (.int .i64 (markR s)))], [.agg (syR (mkSy s)), .c (.v (.int .i64 1))]) := by
 have b1 := h.progs
 have b2 := h.progsT
 have b3 := h.ways
 have b4 := h.waysT
 have b5 := h.hist
 have b6 := h.histT
 have b7 := h.states
 have b8 := h.statesT
 have e1 := run_heldInsSS (j := j) hj s.progs 1 (by omega) b1
 have e2 := run_heldStateS (j := j) hj s.states (1 + 5 * (tot s.progs : Nat)) b7 (by omega)
 have hk : kSt (1 + 5 * (tot s.progs : Nat)) s.states s.states.length = 1 + 5 * (tot s.progs : Nat) + 2 * s.states.length + (tot (s.states.map nums) : Nat) := by
  unfold kSt
  rw [List.take_of_length_le (by simp)]
 rw [hk] at e2
 have e3 := run_heldItemSS (j := j) hj s.ways (1 + 5 * (tot s.progs : Nat) + 2 * s.states.length + (tot (s.states.map nums) : Nat)) (by omega) b3
 have e4 := run_heldEventSS (j := j) hj s.hist (1 + 5 * (tot s.progs : Nat) + 2 * s.states.length + (tot (s.states.map nums) : Nat) + 2 * (tot s.ways : Nat)) (by omega) b5
 rw [m_run (fn := Tryz.f22) (i0 := 0) rfl Tryz.func22 rfl rfl (by simp [syR])]
 unfold mkSy markR
 simp only [syR, mkInsR_len, mkItemR_len, mkEventR_len, mkStR_len]
 have n1 : ¬ (1 + 5 * ((tot s.progs : Nat) : Int) < 0) := by omega
 have n2 : ¬ (1 + 5 * ((tot s.progs : Nat) : Int) + 2 * (s.states.length : Int) + ((tot (s.states.map nums) : Nat) : Int) < 0) := by omega
 have n3 : ¬ (1 + 5 * ((tot s.progs : Nat) : Int) + 2 * (s.states.length : Int) + ((tot (s.states.map nums) : Nat) : Int) + 2 * ((tot s.ways : Nat) : Int) < 0) := by omega
 have n4 : ¬ (1 + 5 * ((tot s.progs : Nat) : Int) + 2 * (s.states.length : Int) + ((tot (s.states.map nums) : Nat) : Int) + 2 * ((tot s.ways : Nat) : Int) + 3 * ((tot s.hist : Nat) : Int) < 0) := by omega
 have t1 : ∀ k, ((mkInsR k s.progs).map (rIns 105)).take s.progs.length = (mkInsR k s.progs).map (rIns 105) := fun k => List.take_of_length_le (by simp [mkInsR_len])
 have t2 : ∀ k, (mkStR k s.states).take s.states.length = mkStR k s.states := fun k => List.take_of_length_le (by simp [mkStR_len])
 have t3 : ∀ k, ((mkItemR k s.ways).map (rItem 99)).take s.ways.length = (mkItemR k s.ways).map (rItem 99) := fun k => List.take_of_length_le (by simp [mkItemR_len])
 have t4 : ∀ k, ((mkEventR k s.hist).map (rEvent 96)).take s.hist.length = (mkEventR k s.hist).map (rEvent 96) := fun k => List.take_of_length_le (by simp [mkEventR_len])
 simp -implicitDefEqProofs [own1, e1, e2, e3, e4, n1, n2, n3, n4, t1, t2, t3, t4, mkInsR_len, mkStR_len, mkItemR_len, mkEventR_len, -List.map_take]
end Go.Proofs.YtninncdacekfgaaGreat.VM
namespace Go.Proofs.YtninncdacekfgaaGreat.VM
open Go Go.Proofs
end Go.Proofs.YtninncdacekfgaaGreat.VM
namespace Go.Proofs.YtninncdacekfgaaGreat.VM
open Go Go.Proofs
end Go.Proofs.YtninncdacekfgaaGreat.VM
namespace Go.Proofs.YtninncdacekfgaaGreat.VM
open Go Go.Proofs
end Go.Proofs.YtninncdacekfgaaGreat.VM
