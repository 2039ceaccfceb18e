/- Marked systems; new systems: reckoned. -/
import Derived.Test.YtkgkbkpgpbpjhaaGreatK7
import Derived.Test.YtkgkbkpgpbpjhaaGreatK8
import Derived.Test.YtkgkbkpgpbpjhaaGreatK11
import Derived.Test.YtkgkbkpgpbpjhaaGreatK12
namespace Go.Proofs.YtkgkbkpgpbpjhaaGreat.VM
open Go Go.Proofs
set_option linter.unusedSimpArgs false
set_option linter.unusedVariables false
set_option maxRecDepth 100000
set_option maxHeartbeats 40000000
def rlen {α : Type} (xss : List (List α)) (m : Nat) : Nat := ((xss[m]?).map List.length).getD 0
theorem ext_map {α : Type} {f : Nat → α} {l : List α} {n : Nat} (hl : l.length = n) (h : ∀ m, m < n → l[m]? = some (f m)) : l = (List.range n).map f := by
 apply List.ext_getElem?
 intro m
 rw [List.getElem?_map]
 rcases Nat.lt_or_ge m n with h' | h'
 ·rw [List.getElem?_range h', h m h']; rfl
 ·rw [List.getElem?_eq_none (by omega), List.getElem?_eq_none (by simpa using h')]; rfl
def mkInsR (k : Int) (xss : List (List Ins)) : List (List Ins) := (List.range xss.length).map fun m => insUp (k + 5 * (tot (xss.take m) : Nat)) (rlen xss m)
theorem mkInsR_len (k : Int) (xss : List (List Ins)) : (mkInsR k xss).length = xss.length := by simp [mkInsR]
theorem mkIns_done (k : Int) (xss : List (List Ins)) {m : Nat} : ∀ i, m < i → i ≤ xss.length → (mkIns k xss i).2[m]? = some (sIns 116 (insUp (k + 5 * (tot (xss.take m) : Nat)) (rlen xss m)))
 | 0, h, _ => by omega
 | i + 1, h, hi => by
  rw [mkIns, List.getElem?_set]
  by_cases e : i = m
  ·subst e
   rw [if_pos rfl, if_pos (by rw [mkIns_len]; omega), (mkIns_le k xss i (by omega)).2]
   unfold sIns
   rw [insUp_len]
   rfl
  ·rw [if_neg e]
   exact mkIns_done k xss i (by omega) (by omega)
theorem mkIns_all (k : Int) (xss : List (List Ins)) : (mkIns k xss xss.length).2 = (mkInsR k xss).map (sIns 116) := by
 unfold mkInsR
 rw [List.map_map]
 exact ext_map (mkIns_len k xss xss.length) fun m hm => mkIns_done k xss xss.length hm (Nat.le_refl _)
def mkItemR (k : Int) (xss : List (List Itm)) : List (List Itm) := (List.range xss.length).map fun m => itUp (k + 2 * (tot (xss.take m) : Nat)) (rlen xss m)
theorem mkItemR_len (k : Int) (xss : List (List Itm)) : (mkItemR k xss).length = xss.length := by simp [mkItemR]
theorem mkItem_done (k : Int) (xss : List (List Itm)) {m : Nat} : ∀ i, m < i → i ≤ xss.length → (mkItem k xss i).2[m]? = some (sItem 142 (itUp (k + 2 * (tot (xss.take m) : Nat)) (rlen xss m)))
 | 0, h, _ => by omega
 | i + 1, h, hi => by
  rw [mkItem, List.getElem?_set]
  by_cases e : i = m
  ·subst e
   rw [if_pos rfl, if_pos (by rw [mkItem_len]; omega), (mkItem_le k xss i (by omega)).2]
   unfold sItem
   rw [itUp_len]
   rfl
  ·rw [if_neg e]
   exact mkItem_done k xss i (by omega) (by omega)
theorem mkItem_all (k : Int) (xss : List (List Itm)) : (mkItem k xss xss.length).2 = (mkItemR k xss).map (sItem 142) := by
 unfold mkItemR
 rw [List.map_map]
 exact ext_map (mkItem_len k xss xss.length) fun m hm => mkItem_done k xss xss.length hm (Nat.le_refl _)
def mkEventR (k : Int) (xss : List (List Ev)) : List (List Ev) := (List.range xss.length).map fun m => evUp (k + 3 * (tot (xss.take m) : Nat)) (rlen xss m)
theorem mkEventR_len (k : Int) (xss : List (List Ev)) : (mkEventR k xss).length = xss.length := by simp [mkEventR]
theorem mkEvent_done (k : Int) (xss : List (List Ev)) {m : Nat} : ∀ i, m < i → i ≤ xss.length → (mkEvent k xss i).2[m]? = some (sEvent 65 (evUp (k + 3 * (tot (xss.take m) : Nat)) (rlen xss m)))
 | 0, h, _ => by omega
 | i + 1, h, hi => by
  rw [mkEvent, List.getElem?_set]
  by_cases e : i = m
  ·subst e
   rw [if_pos rfl, if_pos (by rw [mkEvent_len]; omega), (mkEvent_le k xss i (by omega)).2]
   unfold sEvent
   rw [evUp_len]
   rfl
  ·rw [if_neg e]
   exact mkEvent_done k xss i (by omega) (by omega)
theorem mkEvent_all (k : Int) (xss : List (List Ev)) : (mkEvent k xss xss.length).2 = (mkEventR k xss).map (sEvent 65) := by
 unfold mkEventR
 rw [List.map_map]
 exact ext_map (mkEvent_len k xss xss.length) fun m hm => mkEvent_done k xss xss.length hm (Nat.le_refl _)
open Go Go.Proofs
set_option linter.unusedSimpArgs false
set_option linter.unusedVariables false
set_option maxRecDepth 100000
set_option maxHeartbeats 40000000
def kSt (k : Int) (l : List Sta) (m : Nat) : Int := k + 2 * m + (tot ((l.map nums).take m) : Nat)
def stM (k : Int) (s : Sta) : Sta := ⟨k, upto (k + 1) s.regs.length, upto (k + 1 + s.regs.length) s.out.length, k + 1 + s.regs.length + s.out.length⟩
def mkStR (k : Int) (l : List Sta) : List Sta := (List.range l.length).map fun m => stM (kSt k l m) (l.getD m ⟨0, [], [], 0⟩)
theorem mkStR_len (k : Int) (l : List Sta) : (mkStR k l).length = l.length := by simp [mkStR]
theorem mkStR_at {k : Int} {l : List Sta} {m : Nat} (h : m < l.length) (h' : m < (mkStR k l).length) : (mkStR k l)[m] = stM (kSt k l m) l[m] := by
 simp [mkStR, h]
theorem mkSt_done (k : Int) (l : List Sta) {m : Nat} : ∀ i, m < i → (hi : i ≤ l.length) → ∀ o, o < 4 → (mkSt k l i).2[m * 4 + o]? = (sSta (stM (kSt k l m) (l.getD m ⟨0, [], [], 0⟩)))[o]?
 | 0, h, _, o, ho => by omega
 | i + 1, h, hi, o, ho => by
  have hl := mkSt_len k l i
  have hk := mkSt_le k l i (by omega)
  rw [mkSt, List.getElem?_eq_getElem (show i < l.length by omega)]
  simp only
  by_cases e : i = m
  ·subst e
   have hk' : (mkSt k l i).1 = kSt k l i := by rw [hk]; rfl
   rw [hk']
   have hg : l.getD i ⟨0, [], [], 0⟩ = l[i] := by simp [show i < l.length by omega]
   rw [hg]
   generalize (mkSt k l i).2 = L at *
   have : o = 0 ∨ o = 1 ∨ o = 2 ∨ o = 3 := by omega
   rcases this with rfl | rfl | rfl | rfl <;> simp [List.getElem?_set, hl, sSta, stS, stM, show i * 4 < l.length * 4 by omega, show i * 4 + 1 < l.length * 4 by omega, show i * 4 + 2 < l.length * 4 by omega, show i * 4 + 3 < l.length * 4 by omega]
  ·rw [List.getElem?_set_ne (by omega), List.getElem?_set_ne (by omega), List.getElem?_set_ne (by omega), List.getElem?_set_ne (by omega)]
   exact mkSt_done k l i (by omega) (by omega) o ho
theorem mkSt_all (k : Int) (l : List Sta) : (mkSt k l l.length).2 = ssT (mkStR k l) := by
 apply List.ext_getElem?
 intro q
 rcases Nat.lt_or_ge q (l.length * 4) with h | h
 ·have h1 : q / 4 < l.length := by omega
  have h2 : q % 4 < 4 := by omega
  have h3 : q = q / 4 * 4 + q % 4 := by omega
  rw [h3, mkSt_done k l l.length h1 (Nat.le_refl _) _ h2]
  have h4 : q / 4 < (mkStR k l).length := by rw [mkStR_len]; exact h1
  have := fm_get (o := q % 4) sSta_len h4 h2
  rw [mkStR_at h1 h4] at this
  rw [show l.getD (q / 4) ⟨0, [], [], 0⟩ = l[q / 4] by simp [h1]]
  exact this.symm
 ·rw [List.getElem?_eq_none (by rw [mkSt_len]; exact h), List.getElem?_eq_none (by rw [ssT_len, mkStR_len]; exact h)]
def mkSy (s : Sy) : Sy := ⟨mkInsR 1 s.progs, mkStR (1 + 5 * (tot s.progs : Nat)) s.states, mkItemR (1 + 5 * (tot s.progs : Nat) + 2 * s.states.length + (tot (s.states.map nums) : Nat)) s.ways, mkEventR (1 + 5 * (tot s.progs : Nat) + 2 * s.states.length + (tot (s.states.map nums) : Nat) + 2 * (tot s.ways : Nat)) s.hist⟩
def markR (s : Sy) : Int := 1 + 5 * (tot s.progs : Nat) + 2 * s.states.length + (tot (s.states.map nums) : Nat) + 2 * (tot s.ways : Nat) + 3 * (tot s.hist : Nat)
theorem markR_pos (s : Sy) (h : Small s) : 0 ≤ markR s ∧ markR s ≤ 100000000 := by
 have := h.progsT
 have := h.states
 have := h.statesT
 have := h.waysT
 have := h.histT
 unfold markR
 omega
theorem run_markSys3 {j : Nat} (hj : big ≤ j) (s : Sy) (h : Small s) : M.run (j + 3) 73 [.agg (syS s), .c (.v (.int .i64 1))] = some ([.c (.v (.int .i64 (markR s)))], [.agg (syS (mkSy s)), .c (.v (.int .i64 1))]) := by
 have b1 := h.progs
 have b2 := h.progsT
 have b3 := h.ways
 have b4 := h.waysT
 have b5 := h.hist
 have b6 := h.histT
 have b7 := h.states
 have b8 := h.statesT
 have e1 := run_markInsSS (j := j) hj s.progs 1 (by omega) b1
 have e2 := run_markStateS (j := j) hj s.states (1 + 5 * (tot s.progs : Nat)) b7 (by omega)
 have e3 := run_markItemSS (j := j) hj s.ways (1 + 5 * (tot s.progs : Nat) + 2 * s.states.length + (tot (s.states.map nums) : Nat)) (by omega) b3
 have e4 := run_markEventSS (j := j) hj s.hist (1 + 5 * (tot s.progs : Nat) + 2 * s.states.length + (tot (s.states.map nums) : Nat) + 2 * (tot s.ways : Nat)) (by omega) b5
 unfold mkSy markR
 simp only [syS, mkInsR_len, mkItemR_len, mkEventR_len, mkStR_len] at *
 rw [mkIns_all] at e1
 rw [mkSt_all] at e2
 rw [mkItem_all] at e3
 rw [mkEvent_all] at e4
 rw [m_run (fn := Tryz.f73) (i0 := 0) rfl Tryz.func73 rfl rfl (by simp [syS])]
 simp -implicitDefEqProofs [syS, own1, e1, e2, e3, e4, mkInsR_len, mkItemR_len, mkEventR_len, mkStR_len]
open Go Go.Proofs
set_option linter.unusedSimpArgs false
set_option linter.unusedVariables false
set_option maxRecDepth 100000
set_option maxHeartbeats 40000000
def lkZ (id n : Nat) : T := if n = 0 then .z else .l id [] 0 n
def obZ (id n : Nat) (ob : Obj) : List (Nat × Obj) := if n = 0 then [] else [(id, ob)]
@[simp] theorem lkZ_0 (id : Nat) : lkZ id 0 = .z := rfl
@[simp] theorem lkZ_s (id n : Nat) : lkZ id (n + 1) = .l id [] 0 (n + 1) := rfl
@[simp] theorem obZ_0 (id : Nat) (ob : Obj) : obZ id 0 ob = [] := rfl
@[simp] theorem obZ_s (id n : Nat) (ob : Obj) : obZ id (n + 1) ob = [(id, ob)] := rfl
open Go Go.Proofs
set_option linter.unusedSimpArgs false
set_option linter.unusedVariables false
set_option maxRecDepth 100000
set_option maxHeartbeats 40000000
@[simp] theorem ros_repS (e : TypeId) : ∀ n, ros (List.replicate n (.s e 0 [])) = List.replicate n (.r e 0 [])
 | 0 => rfl
 | n + 1 => by rw [List.replicate_succ, List.replicate_succ, ← ros_repS e n]; simp [ros]
@[simp] theorem ssT_nil : ssT [] = [] := rfl
@[simp] theorem stT_nil : stT [] = [] := rfl
@[simp] theorem sItem_nil (e : TypeId) : sItem e [] = .s e 0 [] := rfl
@[simp] theorem sEvent_nil (e : TypeId) : sEvent e [] = .s e 0 [] := rfl
open Go Go.Proofs
set_option linter.unusedSimpArgs false
set_option linter.unusedVariables false
set_option maxRecDepth 100000
set_option maxHeartbeats 40000000
end Go.Proofs.YtkgkbkpgpbpjhaaGreat.VM
