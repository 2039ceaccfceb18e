/- Marked systems; new systems: reckoned. -/
import Derived.Test.YtninncdacekfgaaK7
import Derived.Test.YtninncdacekfgaaK8
import Derived.Test.YtninncdacekfgaaK53
import Derived.Test.YtninncdacekfgaaK11
import Derived.Test.YtninncdacekfgaaK12
/- Systems that are marked hold their marks: reckoned. -/
namespace Go.Proofs.Ytninncdacekfgaa.VM
open Go Go.Proofs
set_option linter.unusedSimpArgs false
set_option linter.unusedVariables false
set_option maxRecDepth 100000
set_option maxHeartbeats 40000000
def rlen {α : Type} (xss : List (List α)) (m : Nat) : Nat := ((xss[m]?).map List.length).getD 0
theorem rlen_of {α : Type} {xss : List (List α)} {m : Nat} (h : m < xss.length) : rlen xss m = xss[m].length := by unfold rlen; rw [List.getElem?_eq_getElem h]; rfl
theorem ext_map {α : Type} {f : Nat → α} {l : List α} {n : Nat} (hl : l.length = n) (h : ∀ m, m < n → l[m]? = some (f m)) : l = (List.range n).map f := by
 apply List.ext_getElem?
 intro m
 rw [List.getElem?_map]
 rcases Nat.lt_or_ge m n with h' | h'
 ·rw [List.getElem?_range h', h m h']; rfl
 ·rw [List.getElem?_eq_none (by omega), List.getElem?_eq_none (by simpa using h')]; rfl
/-! ### one row -/
theorem insUp_at {k : Int} {n i : Nat} (h : i < (insUp k n).length) : (insUp k n)[i] = ⟨k + 5 * (i : Int), k + 5 * (i : Int) + 1, k + 5 * (i : Int) + 1 + 1, k + 5 * (i : Int) + 1 + 1 + 1, k + 5 * (i : Int) + 1 + 1 + 1 + 1⟩ := by simp [insUp]
theorem evUp_at {k : Int} {n i : Nat} (h : i < (evUp k n).length) : (evUp k n)[i] = ⟨k + 3 * (i : Int), k + 3 * (i : Int) + 1, k + 3 * (i : Int) + 1 + 1⟩ := by simp [evUp]
theorem insT_get {l : List Ins} {i o : Nat} (hi : i < l.length) (ho : o < 5) : (insT l)[i * 5 + o]? = (tIns l[i])[o]? := fm_get tIns_len hi ho
def H_heldInsS (k : Int) (n : Nat) (i : Nat) : St := ⟨[(0, .c (.sl 0 [] 0 n)), (1, .c (.v (.int .i64 (k + 5 * i)))), (5, .c (.v (.int .i64 i)))], [(0, ⟨.ro, 40, insT (insUp k n)⟩)]⟩
theorem evT_get {l : List Ev} {i o : Nat} (hi : i < l.length) (ho : o < 3) : (evT l)[i * 3 + o]? = (tEv l[i])[o]? := fm_get tEv_len hi ho
def H_heldEventS (k : Int) (n : Nat) (i : Nat) : St := ⟨[(0, .c (.sl 0 [] 0 n)), (1, .c (.v (.int .i64 (k + 3 * i)))), (5, .c (.v (.int .i64 i)))], [(0, ⟨.ro, 29, evT (evUp k n)⟩)]⟩
/-! ### Ins -/
def mkInsR (k : Int) (xss : List (List Ins)) : List (List Ins) := (List.range xss.length).map fun m => insUp (k + 5 * (tot (xss.take m) : Nat)) (rlen xss m)
theorem mkInsR_len (k : Int) (xss : List (List Ins)) : (mkInsR k xss).length = xss.length := by simp [mkInsR]
theorem mkInsR_at {k : Int} {xss : List (List Ins)} {m : Nat} (h : m < xss.length) : (mkInsR k xss)[m]? = some (insUp (k + 5 * (tot (xss.take m) : Nat)) xss[m].length) := by
 unfold mkInsR
 rw [List.getElem?_map, List.getElem?_range h, ← rlen_of h]
 rfl
theorem mkIns_done (k : Int) (xss : List (List Ins)) {m : Nat} : ∀ i, m < i → i ≤ xss.length → (mkIns k xss i).2[m]? = some (sIns 40 (insUp (k + 5 * (tot (xss.take m) : Nat)) (rlen xss m)))
 | 0, h, _ => by omega
 | i + 1, h, hi => by
  rw [mkIns, List.getElem?_set]
  by_cases e : i = m
  ·subst e
   rw [if_pos rfl, if_pos (by rw [mkIns_len]; omega), (mkIns_le k xss i (by omega)).2]
   unfold sIns
   rw [insUp_len]
   rfl
  ·rw [if_neg e]
   exact mkIns_done k xss i (by omega) (by omega)
theorem mkIns_all (k : Int) (xss : List (List Ins)) : (mkIns k xss xss.length).2 = (mkInsR k xss).map (sIns 40) := by
 unfold mkInsR
 rw [List.map_map]
 exact ext_map (mkIns_len k xss xss.length) fun m hm => mkIns_done k xss xss.length hm (Nat.le_refl _)
theorem mkInsR_r {k : Int} {xss : List (List Ins)} {m : Nat} (h : m < xss.length) : ((mkInsR k xss).map (rIns 40))[m]? = some (.r 40 xss[m].length (insT (insUp (k + 5 * (tot (xss.take m) : Nat)) xss[m].length))) := by
 rw [List.getElem?_map, mkInsR_at h]
 show some (rIns _ _) = _
 unfold rIns
 rw [insUp_len]
def H_heldIns (k : Int) (xss : List (List Ins)) (i : Nat) : St := ⟨[(0, .c (.sl 0 [] 0 xss.length)), (1, .c (.v (.int .i64 (k + 5 * (tot (xss.take i) : Nat))))), (5, .c (.v (.int .i64 i)))], [(0, ⟨.ro, 24, (mkInsR k xss).map (rIns 40)⟩)]⟩
/-! ### Item -/
def mkItemR (k : Int) (xss : List (List Itm)) : List (List Itm) := (List.range xss.length).map fun m => itUp (k + 2 * (tot (xss.take m) : Nat)) (rlen xss m)
theorem mkItemR_len (k : Int) (xss : List (List Itm)) : (mkItemR k xss).length = xss.length := by simp [mkItemR]
theorem mkItemR_at {k : Int} {xss : List (List Itm)} {m : Nat} (h : m < xss.length) : (mkItemR k xss)[m]? = some (itUp (k + 2 * (tot (xss.take m) : Nat)) xss[m].length) := by
 unfold mkItemR
 rw [List.getElem?_map, List.getElem?_range h, ← rlen_of h]
 rfl
theorem mkItem_done (k : Int) (xss : List (List Itm)) {m : Nat} : ∀ i, m < i → i ≤ xss.length → (mkItem k xss i).2[m]? = some (sItem 100 (itUp (k + 2 * (tot (xss.take m) : Nat)) (rlen xss m)))
 | 0, h, _ => by omega
 | i + 1, h, hi => by
  rw [mkItem, List.getElem?_set]
  by_cases e : i = m
  ·subst e
   rw [if_pos rfl, if_pos (by rw [mkItem_len]; omega), (mkItem_le k xss i (by omega)).2]
   unfold sItem
   rw [itUp_len]
   rfl
  ·rw [if_neg e]
   exact mkItem_done k xss i (by omega) (by omega)
theorem mkItem_all (k : Int) (xss : List (List Itm)) : (mkItem k xss xss.length).2 = (mkItemR k xss).map (sItem 100) := by
 unfold mkItemR
 rw [List.map_map]
 exact ext_map (mkItem_len k xss xss.length) fun m hm => mkItem_done k xss xss.length hm (Nat.le_refl _)
theorem mkItemR_r {k : Int} {xss : List (List Itm)} {m : Nat} (h : m < xss.length) : ((mkItemR k xss).map (rItem 100))[m]? = some (.r 100 xss[m].length (itT (itUp (k + 2 * (tot (xss.take m) : Nat)) xss[m].length))) := by
 rw [List.getElem?_map, mkItemR_at h]
 show some (rItem _ _) = _
 unfold rItem
 rw [itUp_len]
def H_heldItem (k : Int) (xss : List (List Itm)) (i : Nat) : St := ⟨[(0, .c (.sl 0 [] 0 xss.length)), (1, .c (.v (.int .i64 (k + 2 * (tot (xss.take i) : Nat))))), (5, .c (.v (.int .i64 i)))], [(0, ⟨.ro, 92, (mkItemR k xss).map (rItem 100)⟩)]⟩
/-! ### Event -/
def mkEventR (k : Int) (xss : List (List Ev)) : List (List Ev) := (List.range xss.length).map fun m => evUp (k + 3 * (tot (xss.take m) : Nat)) (rlen xss m)
theorem mkEventR_len (k : Int) (xss : List (List Ev)) : (mkEventR k xss).length = xss.length := by simp [mkEventR]
theorem mkEventR_at {k : Int} {xss : List (List Ev)} {m : Nat} (h : m < xss.length) : (mkEventR k xss)[m]? = some (evUp (k + 3 * (tot (xss.take m) : Nat)) xss[m].length) := by
 unfold mkEventR
 rw [List.getElem?_map, List.getElem?_range h, ← rlen_of h]
 rfl
theorem mkEvent_done (k : Int) (xss : List (List Ev)) {m : Nat} : ∀ i, m < i → i ≤ xss.length → (mkEvent k xss i).2[m]? = some (sEvent 29 (evUp (k + 3 * (tot (xss.take m) : Nat)) (rlen xss m)))
 | 0, h, _ => by omega
 | i + 1, h, hi => by
  rw [mkEvent, List.getElem?_set]
  by_cases e : i = m
  ·subst e
   rw [if_pos rfl, if_pos (by rw [mkEvent_len]; omega), (mkEvent_le k xss i (by omega)).2]
   unfold sEvent
   rw [evUp_len]
   rfl
  ·rw [if_neg e]
   exact mkEvent_done k xss i (by omega) (by omega)
theorem mkEvent_all (k : Int) (xss : List (List Ev)) : (mkEvent k xss xss.length).2 = (mkEventR k xss).map (sEvent 29) := by
 unfold mkEventR
 rw [List.map_map]
 exact ext_map (mkEvent_len k xss xss.length) fun m hm => mkEvent_done k xss xss.length hm (Nat.le_refl _)
theorem mkEventR_r {k : Int} {xss : List (List Ev)} {m : Nat} (h : m < xss.length) : ((mkEventR k xss).map (rEvent 29))[m]? = some (.r 29 xss[m].length (evT (evUp (k + 3 * (tot (xss.take m) : Nat)) xss[m].length))) := by
 rw [List.getElem?_map, mkEventR_at h]
 show some (rEvent _ _) = _
 unfold rEvent
 rw [evUp_len]
def H_heldEvent (k : Int) (xss : List (List Ev)) (i : Nat) : St := ⟨[(0, .c (.sl 0 [] 0 xss.length)), (1, .c (.v (.int .i64 (k + 3 * (tot (xss.take i) : Nat))))), (5, .c (.v (.int .i64 i)))], [(0, ⟨.ro, 54, (mkEventR k xss).map (rEvent 29)⟩)]⟩
end Go.Proofs.Ytninncdacekfgaa.VM

/- Systems that are marked hold their marks: states; the whole. -/
namespace Go.Proofs.Ytninncdacekfgaa.VM
open Go Go.Proofs
set_option linter.unusedSimpArgs false
set_option linter.unusedVariables false
set_option maxRecDepth 100000
set_option maxHeartbeats 40000000
def kSt (k : Int) (l : List Sta) (m : Nat) : Int := k + 2 * m + (tot ((l.map nums).take m) : Nat)
def stM (k : Int) (s : Sta) : Sta := ⟨k, upto (k + 1) s.regs.length, upto (k + 1 + s.regs.length) s.out.length, k + 1 + s.regs.length + s.out.length⟩
def mkStR (k : Int) (l : List Sta) : List Sta := (List.range l.length).map fun m => stM (kSt k l m) (l.getD m ⟨0, [], [], 0⟩)
theorem mkStR_len (k : Int) (l : List Sta) : (mkStR k l).length = l.length := by simp [mkStR]
theorem mkStR_at {k : Int} {l : List Sta} {m : Nat} (h : m < l.length) (h' : m < (mkStR k l).length) : (mkStR k l)[m] = stM (kSt k l m) l[m] := by
 simp [mkStR, h]
theorem kSt_succ {k : Int} {l : List Sta} {i : Nat} (hi : i < l.length) : kSt k l (i + 1) = kSt k l i + 1 + l[i].regs.length + l[i].out.length + 1 := by
 unfold kSt
 rw [totS_succ hi]
 omega
theorem mkSt_done (k : Int) (l : List Sta) {m : Nat} : ∀ i, m < i → (hi : i ≤ l.length) → ∀ o, o < 4 → (mkSt k l i).2[m * 4 + o]? = (sSta (stM (kSt k l m) (l.getD m ⟨0, [], [], 0⟩)))[o]?
 | 0, h, _, o, ho => by omega
 | i + 1, h, hi, o, ho => by
  have hl := mkSt_len k l i
  have hk := mkSt_le k l i (by omega)
  rw [mkSt, List.getElem?_eq_getElem (show i < l.length by omega)]
  simp only
  by_cases e : i = m
  ·subst e
   have hk' : (mkSt k l i).1 = kSt k l i := by rw [hk]; rfl
   rw [hk']
   have hg : l.getD i ⟨0, [], [], 0⟩ = l[i] := by simp [show i < l.length by omega]
   rw [hg]
   generalize (mkSt k l i).2 = L at *
   have : o = 0 ∨ o = 1 ∨ o = 2 ∨ o = 3 := by omega
   rcases this with rfl | rfl | rfl | rfl <;> simp [List.getElem?_set, hl, sSta, stS, stM, show i * 4 < l.length * 4 by omega, show i * 4 + 1 < l.length * 4 by omega, show i * 4 + 2 < l.length * 4 by omega, show i * 4 + 3 < l.length * 4 by omega]
  ·rw [List.getElem?_set_ne (by omega), List.getElem?_set_ne (by omega), List.getElem?_set_ne (by omega), List.getElem?_set_ne (by omega)]
   exact mkSt_done k l i (by omega) (by omega) o ho
theorem mkSt_all (k : Int) (l : List Sta) : (mkSt k l l.length).2 = ssT (mkStR k l) := by
 apply List.ext_getElem?
 intro q
 rcases Nat.lt_or_ge q (l.length * 4) with h | h
 ·have h1 : q / 4 < l.length := by omega
  have h2 : q % 4 < 4 := by omega
  have h3 : q = q / 4 * 4 + q % 4 := by omega
  rw [h3, mkSt_done k l l.length h1 (Nat.le_refl _) _ h2]
  have h4 : q / 4 < (mkStR k l).length := by rw [mkStR_len]; exact h1
  have := fm_get (o := q % 4) sSta_len h4 h2
  rw [mkStR_at h1 h4] at this
  rw [show l.getD (q / 4) ⟨0, [], [], 0⟩ = l[q / 4] by simp [h1]]
  exact this.symm
 ·rw [List.getElem?_eq_none (by rw [mkSt_len]; exact h), List.getElem?_eq_none (by rw [ssT_len, mkStR_len]; exact h)]
theorem stR_get {l : List Sta} {i o : Nat} (hi : i < l.length) (ho : o < 4) : (stT l)[i * 4 + o]? = (tSta l[i])[o]? := fm_get tSta_len hi ho
def H_heldSt (k : Int) (l : List Sta) (i : Nat) : St := ⟨[(0, .c (.sl 0 [] 0 l.length)), (1, .c (.v (.int .i64 (kSt k l i)))), (5, .c (.v (.int .i64 i)))], [(0, ⟨.ro, 27, stT (mkStR k l)⟩)]⟩
/-! ### the whole -/
def mkSy (s : Sy) : Sy := ⟨mkInsR 1 s.progs, mkStR (1 + 5 * (tot s.progs : Nat)) s.states, mkItemR (1 + 5 * (tot s.progs : Nat) + 2 * s.states.length + (tot (s.states.map nums) : Nat)) s.ways, mkEventR (1 + 5 * (tot s.progs : Nat) + 2 * s.states.length + (tot (s.states.map nums) : Nat) + 2 * (tot s.ways : Nat)) s.hist⟩
def markR (s : Sy) : Int := 1 + 5 * (tot s.progs : Nat) + 2 * s.states.length + (tot (s.states.map nums) : Nat) + 2 * (tot s.ways : Nat) + 3 * (tot s.hist : Nat)
theorem markR_pos (s : Sy) (h : Small s) : 0 ≤ markR s ∧ markR s ≤ 100000000 := by
 have := h.progsT
 have := h.states
 have := h.statesT
 have := h.waysT
 have := h.histT
 unfold markR
 omega
end Go.Proofs.Ytninncdacekfgaa.VM

/- Systems copied: reckoned. -/
namespace Go.Proofs.Ytninncdacekfgaa.VM
open Go Go.Proofs
set_option linter.unusedSimpArgs false
set_option linter.unusedVariables false
set_option maxRecDepth 100000
set_option maxHeartbeats 40000000
/-! ### rows of rows copied -/
def H_l4I (l : List (List Ins)) (i : Nat) : St := ⟨[(0, .c (.sl 0 [] 0 l.length)), (3, .c (.sl 384 [] 0 i)), (4, .c (.v (.int .i64 i)))], [(0, ⟨.ro, 24, l.map (rIns 40)⟩), (384, ⟨.own, 24, (l.take i).map (sIns 40)⟩)]⟩
theorem sIns_snoc {l : List (List Ins)} {e : TypeId} {i : Nat} (hi : i < l.length) : (l.take (i + 1)).map (sIns e) = (l.take i).map (sIns e) ++ [sIns e l[i]] := by
 rw [List.take_add_one, List.getElem?_eq_getElem hi, List.map_append]
 rfl
theorem sEvent_snoc {l : List (List Ev)} {e : TypeId} {i : Nat} (hi : i < l.length) : (l.take (i + 1)).map (sEvent e) = (l.take i).map (sEvent e) ++ [sEvent e l[i]] := by
 rw [List.take_add_one, List.getElem?_eq_getElem hi, List.map_append]
 rfl
theorem sItem_snoc {l : List (List Itm)} {e : TypeId} {i : Nat} (hi : i < l.length) : (l.take (i + 1)).map (sItem e) = (l.take i).map (sItem e) ++ [sItem e l[i]] := by
 rw [List.take_add_one, List.getElem?_eq_getElem hi, List.map_append]
 rfl
theorem take_map {α β : Type} (f : α → β) (l : List α) (i : Nat) : ((l.take i).map f).take i = (l.take i).map f := List.take_of_length_le (by rw [List.length_map, List.length_take]; omega)
def H_l4E (l : List (List Ev)) (i : Nat) : St := ⟨[(0, .c (.sl 0 [] 0 l.length)), (3, .c (.sl 384 [] 0 i)), (4, .c (.v (.int .i64 i)))], [(0, ⟨.ro, 54, l.map (rEvent 29)⟩), (384, ⟨.own, 54, (l.take i).map (sEvent 29)⟩)]⟩
theorem run_cloneIns {j : Nat} (xs : List Ins) (hx : xs.length ≤ 1048576) : M.run (j + 1) 41 [.c (.r 40 xs.length (insT xs))] = some ([.c (.s 40 xs.length (insT xs))], [.c (.r 40 xs.length (insT xs))]) :=
 show cloneG 40 _ = _ from cloneG_eq (by simp) (by simp; unfold most; omega)
theorem run_cloneEvent {j : Nat} (xs : List Ev) (hx : xs.length ≤ 1048576) : M.run (j + 1) 76 [.c (.r 29 xs.length (evT xs))] = some ([.c (.s 29 xs.length (evT xs))], [.c (.r 29 xs.length (evT xs))]) :=
 show cloneG 29 _ = _ from cloneG_eq (by simp) (by simp; unfold most; omega)
/-! ### the specification's copy -/
def lkZ (id n : Nat) : T := if n = 0 then .z else .l id [] 0 n
def obZ (id n : Nat) (ob : Obj) : List (Nat × Obj) := if n = 0 then [] else [(id, ob)]
@[simp] theorem lkZ_0 (id : Nat) : lkZ id 0 = .z := rfl
@[simp] theorem lkZ_s (id n : Nat) : lkZ id (n + 1) = .l id [] 0 (n + 1) := rfl
@[simp] theorem obZ_0 (id : Nat) (ob : Obj) : obZ id 0 ob = [] := rfl
theorem lkZ_of {id n : Nat} (h : n ≠ 0) : lkZ id n = .l id [] 0 n := if_neg h
theorem obZ_of {id n : Nat} {ob : Obj} (h : n ≠ 0) : obZ id n ob = [(id, ob)] := if_neg h
theorem lkZ_z {id n : Nat} (h : n = 0) : lkZ id n = .z := if_pos h
theorem obZ_z {id n : Nat} {ob : Obj} (h : n = 0) : obZ id n ob = [] := if_pos h
@[simp] theorem obZ_s (id n : Nat) (ob : Obj) : obZ id (n + 1) ob = [(id, ob)] := rfl
theorem ssT_snoc {l : List Sta} {i : Nat} (hi : i < l.length) : ssT (l.take (i + 1)) = ssT (l.take i) ++ sSta l[i] := by
 unfold ssT
 rw [List.take_add_one, List.getElem?_eq_getElem hi, List.flatMap_append]
 simp
theorem ssT_tk (l : List Sta) (i : Nat) : (ssT (l.take i)).take (i * 4) = ssT (l.take i) := List.take_of_length_le (by rw [ssT_len, List.length_take]; omega)
def zBox : Obj := ⟨.box, 45, [.z, .z, .z, .z]⟩
end Go.Proofs.Ytninncdacekfgaa.VM

/- New systems: reckoned. -/
namespace Go.Proofs.Ytninncdacekfgaa.VM
open Go Go.Proofs
set_option linter.unusedSimpArgs false
set_option linter.unusedVariables false
set_option maxRecDepth 100000
set_option maxHeartbeats 40000000
def newSy (l : List (List Ins)) : Sy := ⟨l, List.replicate l.length s0, List.replicate (l.length * l.length) [], List.replicate l.length []⟩
noncomputable def newB (l : List (List Ins)) : Bool := decide (1 ≤ l.length ∧ l.length ≤ 4) && sysB (newSy l)
def zSy : Sy := ⟨[], [], [], []⟩
noncomputable def newS (l : List (List Ins)) : Sy := if newB l = true then newSy l else zSy
theorem tot_rep0 {α : Type} : ∀ n, tot (List.replicate n ([] : List α)) = 0
 | 0 => rfl
 | n + 1 => by
  have := tot_rep0 (α := α) n
  simp only [tot, List.replicate_succ, List.map_cons, List.sum_cons, List.length_nil] at this ⊢
  omega
theorem tot_rep4 : ∀ n, tot ((List.replicate n s0).map nums) = 4 * n
 | 0 => rfl
 | n + 1 => by
  have := tot_rep4 n
  simp only [tot, List.replicate_succ, List.map_cons, List.sum_cons] at this ⊢
  rw [this]
  simp [nums, s0]
  omega
theorem new_small {l : List (List Ins)} (h4 : l.length ≤ 4) (ht : tot l ≤ 1048576) : Small (newSy l) := by
 have hq : l.length * l.length ≤ 16 := Nat.mul_le_mul h4 h4
 refine ⟨?_, ht, ?_, ?_, ?_, ?_, ?_, ?_⟩
 ·show l.length ≤ 1048576
  omega
 ·simp [newSy]; omega
 ·show tot ((List.replicate l.length s0).map nums) ≤ _
  rw [tot_rep4]; omega
 ·simp [newSy]; omega
 ·show tot (List.replicate (l.length * l.length) []) ≤ _
  rw [tot_rep0]; omega
 ·simp [newSy]; omega
 ·show tot (List.replicate l.length []) ≤ _
  rw [tot_rep0]; omega
theorem sysB_new0 : sysB (newSy []) = false := by
 have : (newSy []) = ⟨[], [], [], []⟩ := rfl
 rw [this]
 simp [sysB, shapeB, inB]
theorem ssT_rep (i : Nat) : ssT (List.replicate (i + 1) s0) = ssT (List.replicate i s0) ++ sSta s0 := by
 unfold ssT
 rw [List.replicate_succ', List.flatMap_append]
 simp
theorem ssT_rtk (i : Nat) : (ssT (List.replicate i s0)).take (i * 4) = ssT (List.replicate i s0) := List.take_of_length_le (by rw [ssT_len, List.length_replicate]; exact Nat.le_refl _)
@[simp] theorem ros_repS (e : TypeId) : ∀ n, ros (List.replicate n (.s e 0 [])) = List.replicate n (.r e 0 [])
 | 0 => rfl
 | n + 1 => by rw [List.replicate_succ, List.replicate_succ, ← ros_repS e n]; simp [ros]
theorem mapS_item (e : TypeId) (n : Nat) : (List.replicate n ([] : List Itm)).map (sItem e) = List.replicate n (.s e 0 []) := by rw [List.map_replicate]; rfl
theorem mapR_item (e : TypeId) (n : Nat) : (List.replicate n ([] : List Itm)).map (rItem e) = List.replicate n (.r e 0 []) := by rw [List.map_replicate]; rfl
theorem mapS_event (e : TypeId) (n : Nat) : (List.replicate n ([] : List Ev)).map (sEvent e) = List.replicate n (.s e 0 []) := by rw [List.map_replicate]; rfl
theorem mapR_event (e : TypeId) (n : Nat) : (List.replicate n ([] : List Ev)).map (rEvent e) = List.replicate n (.r e 0 []) := by rw [List.map_replicate]; rfl
@[simp] theorem ssT_nil : ssT [] = [] := rfl
@[simp] theorem stT_nil : stT [] = [] := rfl
@[simp] theorem sItem_nil (e : TypeId) : sItem e [] = .s e 0 [] := rfl
@[simp] theorem sEvent_nil (e : TypeId) : sEvent e [] = .s e 0 [] := rfl
def H_sn (l : List (List Ins)) (i : Nat) : St := ⟨[(2, .ptr 192 [] 0), (4, .c (.v (.int .i64 l.length))), (5, .ptr 384 [] 0), (6, .c (.v (.int .i64 i)))], [(0, ⟨.ro, 24, l.map (rIns 40)⟩), (192, zBox), (384, ⟨.box, 45, [.l 896 [] 0 l.length, lkZ 1984 i, .l 1152 [] 0 (l.length * l.length), .l 1280 [] 0 l.length]⟩), (896, ⟨.own, 24, l.map (sIns 40)⟩), (1152, ⟨.own, 92, List.replicate (l.length * l.length) (.s 100 0 [])⟩), (1280, ⟨.own, 54, List.replicate l.length (.s 29 0 [])⟩)] ++ obZ 1984 i ⟨.own, 27, ssT (List.replicate i s0)⟩⟩
def H_in (l : List (List Ins)) (i : Nat) : St := ⟨[(2, .ptr 192 [] 0), (5, .ptr 384 [] 0), (21, .c (.sl 0 [] 0 l.length)), (22, .c (.v (.int .i64 l.length))), (23, .c (.v (.int .i64 i)))], [(0, ⟨.ro, 24, l.map (rIns 40)⟩), (192, zBox), (384, ⟨.box, 45, [lkZ 2112 i, lkZ 2496 i, .l 1152 [] 0 (l.length * l.length), .l 1280 [] 0 l.length]⟩), (1152, ⟨.own, 92, List.replicate (l.length * l.length) (.s 100 0 [])⟩), (1280, ⟨.own, 54, List.replicate l.length (.s 29 0 [])⟩)] ++ (obZ 2112 i ⟨.own, 24, (l.take i).map (sIns 40)⟩ ++ obZ 2496 i ⟨.own, 27, ssT (List.replicate i s0)⟩)⟩
theorem run_implNew {j : Nat} (hj : big ≤ j) (l : List (List Ins)) (hl : l.length ≤ 1048576) (ht : tot l ≤ 1048576) : M.run (j + 11) 15 [.c (.r 24 l.length (l.map (rIns 40)))] = some ([.agg (syS (newS l)), .c (.v (.bool (newB l)))], [.c (.r 24 l.length (l.map (rIns 40)))]) := by
 rw [m_run (fn := Try.f15) (i0 := 0) rfl Try.func15 rfl rfl (by simp)]
 by_cases h4 : 1 ≤ l.length ∧ l.length ≤ 4
 rotate_left
 ·have : newB l = false := by unfold newB; rw [decide_eq_false h4]; rfl
  have hin : inB l.length 1 4 = false := by unfold inB; exact decide_eq_false (by omega)
  unfold newS
  rw [this]
  simp -implicitDefEqProofs [syS, zSy, own1, run64, hin]
 have hin : inB l.length 1 4 = true := by unfold inB; exact decide_eq_true (by omega)
 obtain ⟨h1, h4⟩ := h4
 have hS := new_small h4 ht
 have e2 := run_implSysOk hj (newSy l) hS
 have hq : l.length * l.length ≤ 16 := Nat.mul_le_mul h4 h4
 have hnn : ((l.length : Int) * (l.length : Int)) = ((l.length * l.length : Nat) : Int) := (Int.natCast_mul _ _).symm
 have w := w64 (x := (l.length : Int) * (l.length : Int)) (by rw [hnn]; omega)
 have hpn : 0 ≤ (l.length : Int) * (l.length : Int) := by rw [hnn]; omega
 have htn : ((l.length : Int) * (l.length : Int)).toNat = l.length * l.length := by rw [hnn]; rfl
 have hle : (l.length : Int) * (l.length : Int) ≤ most := by rw [hnn]; unfold most; omega
 have hB : sysB (newSy l) = newB l := by
  unfold newB
  rw [decide_eq_true ⟨h1, h4⟩]
  rfl
 rw [hB] at e2
 simp only [syR, newSy, mapR_item, mapR_event, List.length_replicate] at e2
 simp -implicitDefEqProofs [own1, run64, hin, w, hpn, htn, hle, le_most (n := l.length) (by omega)]
 rw [loop_then (H_in l) l.length (by simp -implicitDefEqProofs [H_in, zBox, hint1]) (by simp [big] at hj; omega) (fun i hi => by
  have e3 := run16 (j := j + 9)
  have hb : l[i].length ≤ 1048576 := by have := tot_len l _ (List.getElem_mem hi); omega
  have e4 := run_cloneIns (j := j + 9) l[i] hb
  have tk := ssT_rtk i
  have lm' : i * 4 + 4 ≤ most := by unfold most; omega
  have lm := le_most (n := i + 1) (by omega)
  have l4 : 4 ≤ most := by unfold most; omega
  have l1 : 1 ≤ most := by unfold most; omega
  have hm : min i l.length = i := by omega
  have hs := ssT_rep i
  have hs2 := sIns_snoc (e := 40) hi
  have tk2 := take_map (sIns 40) l i
  simp only [sSta, stS, s0] at hs tk e3
  by_cases hz : i = 0
  ·have hs0 : ssT (List.replicate i s0) = [] := by rw [hz]; rfl
   have ht0 : l.take i = [] := by rw [hz]; rfl
   simp only [s0] at hs0
   rw [hs0] at hs
   rw [ht0] at hs2
   simp -implicitDefEqProofs [H_in, zBox, hint1, hi, own1, lm, lm', l4, l1, hm, e3, e4, hs, hs2, hs0, ht0, s0, rIns_at hi, rIns, sIns, lkZ_z hz, obZ_z hz, w64 (x := (i : Int) + 1) (by omega), -List.map_take] <;> omega
  ·simp -implicitDefEqProofs [H_in, zBox, hint1, hi, own1, lm, lm', l4, l1, hm, e3, e4, hs, hs2, tk, tk2, s0, rIns_at hi, rIns, sIns, lkZ_of hz, obZ_of hz, w64 (x := (i : Int) + 1) (by omega), -List.map_take])]
 have fin := ssT_rtk l.length
 have finr : (stT (List.replicate l.length s0)).take (l.length * 4) = stT (List.replicate l.length s0) := List.take_of_length_le (by rw [stT_len, List.length_replicate]; exact Nat.le_refl _)
 have finp : (l.map (sIns 40)).take l.length = l.map (sIns 40) := List.take_of_length_le (by simp)
 have finq : (l.map (rIns 40)).take l.length = l.map (rIns 40) := List.take_of_length_le (by simp)
 have ft : l.take l.length = l := List.take_length
 unfold newS
 generalize hb : newB l = b at *
 generalize hln : l.length = n at *
 obtain ⟨n, rfl⟩ : ∃ m, n = m + 1 := ⟨n - 1, by omega⟩
 cases b with
 | true => simp -implicitDefEqProofs [H_in, zBox, syS, zSy, newSy, mapS_item, mapS_event, own1, hln, e2, finp, finq, fin, finr, ft, -List.map_take]
 | false => simp -implicitDefEqProofs [H_in, zBox, syS, zSy, newSy, mapS_item, mapS_event, own1, hln, e2, finp, finq, fin, finr, ft, -List.map_take]
end Go.Proofs.Ytninncdacekfgaa.VM

/- The law FnExactSysNew, reckoned. -/
namespace Go.Proofs.Ytninncdacekfgaa.VM
open Go Go.Proofs
set_option linter.unusedSimpArgs false
set_option linter.unusedVariables false
set_option maxRecDepth 100000
set_option maxHeartbeats 40000000
theorem newS_small {l : List (List Ins)} (ht : tot l ≤ 1048576) : Small (newS l) := by
 unfold newS
 split
 ·rename_i h
  unfold newB at h
  simp only [Bool.and_eq_true, decide_eq_true_eq] at h
  exact new_small h.1.2 ht
 ·refine ⟨?_, ?_, ?_, ?_, ?_, ?_, ?_, ?_⟩ <;> simp [zSy, tot]
end Go.Proofs.Ytninncdacekfgaa.VM
