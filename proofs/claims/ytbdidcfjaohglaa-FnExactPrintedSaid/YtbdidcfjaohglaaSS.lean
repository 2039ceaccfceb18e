/- Rows of rows: measured, copied, compared, marked. -/
import Derived.Test.YtbdidcfjaohglaaIi
namespace Go.Proofs.Ytbdidcfjaohglaa.VM
open Go Go.Proofs
set_option linter.unusedSimpArgs false
set_option linter.unusedVariables false
set_option maxRecDepth 100000
set_option maxHeartbeats 4000000
@[simp] theorem take_map_full {α : Type} (f : α → T) (l : List α) : (l.map f).take l.length = l.map f := List.take_of_length_le (by simp)
def tot {α : Type} (xss : List (List α)) : Nat := (xss.map List.length).sum
theorem tot_take_succ {α : Type} {xss : List (List α)} {i : Nat} (h : i < xss.length) : tot (xss.take (i + 1)) = tot (xss.take i) + xss[i].length := by
  unfold tot
  rw [List.take_succ_eq_append_getElem h, List.map_append, List.sum_append, List.map_cons, List.map_nil, List.sum_cons, List.sum_nil, Nat.add_zero]
theorem tot_take_le {α : Type} (xss : List (List α)) (i : Nat) : tot (xss.take i) ≤ tot xss := by
  have h := congrArg (fun l => (l.map List.length).sum) (List.take_append_drop i xss)
  simp only [List.map_append, List.sum_append] at h
  unfold tot
  omega
theorem len_tot {α : Type} {xss : List (List α)} {i : Nat} (h : i < xss.length) : xss[i].length ≤ tot xss := by
  have h1 := tot_take_succ h
  have h2 := tot_take_le xss (i + 1)
  omega
theorem tot_len {α : Type} (xss : List (List α)) : ∀ x ∈ xss, x.length ≤ tot xss := fun x hx => by
  obtain ⟨i, hi, rfl⟩ := List.getElem_of_mem hx
  exact len_tot hi

/-! ### rows of rows: Ins -/
def rIns (e : TypeId) (xs : List Ins) : T := .r e xs.length (insT xs)
def sIns (e : TypeId) (xs : List Ins) : T := .s e xs.length (insT xs)
def H_szInsSS (left : Int) (xss : List (List Ins)) (i : Nat) : St := ⟨[(0, .c (.sl 0 [] 0 xss.length)), (1, .c (.v (.int .i64 (left - xss.length - (tot (xss.take i) : Nat))))), (5, .c (.v (.int .i64 i)))], [(0, ⟨.ro, 48, xss.map (rIns 112)⟩)]⟩
theorem run_szInsSS {j : Nat} (hj : big ≤ j) (xss : List (List Ins)) (left : Int) (hk : 0 ≤ left ∧ left ≤ 1048576) (hn : xss.length ≤ 9223372036854775807) (hx : ∀ x ∈ xss, x.length ≤ 9223372036854775807) :
    ∃ r : Int, M.run (j + 2) 50 [.c (.r 48 xss.length (xss.map (rIns 112))), .c (.v (.int .i64 left))] = some ([.c (.v (.int .i64 r))], [.c (.r 48 xss.length (xss.map (rIns 112))), .c (.v (.int .i64 left))]) ∧ (r = -1 ∨ (r = left - xss.length - (tot xss : Nat) ∧ 0 ≤ r)) := by
  by_cases h : left - xss.length < 0
  · refine ⟨-1, ?_, .inl rfl⟩
    rw [m_run (fn := Try.f50) (i0 := 0) rfl Try.func50 rfl rfl (by simp)]
    simp -implicitDefEqProofs [h, w64 (x := left - xss.length) (by omega)]
  · have stp : ∀ i, ∀ hi : i < xss.length, 0 ≤ left - xss.length - (tot (xss.take i) : Nat) → M.run (j + 1) 23 [.c (.r 112 xss[i].length (insT xss[i])), .c (.v (.int .i64 (left - xss.length - (tot (xss.take i) : Nat))))] = some ([.c (.v (.int .i64 (if left - xss.length - (tot (xss.take (i + 1)) : Nat) < 0 then -1 else left - xss.length - (tot (xss.take (i + 1)) : Nat))))], [.c (.r 112 xss[i].length (insT xss[i])), .c (.v (.int .i64 (left - xss.length - (tot (xss.take i) : Nat))))]) := fun i hi h0 => by
      have e := run42 (j := j) xss[i].length (insT xss[i]) (left - xss.length - (tot (xss.take i) : Nat)) (hx _ (List.getElem_mem _)) ⟨h0, by omega⟩
      rw [show left - xss.length - (tot (xss.take i) : Nat) - (xss[i].length : Nat) = left - xss.length - (tot (xss.take (i + 1)) : Nat) by rw [tot_take_succ hi]; omega] at e
      exact e
    rcases allTo_or (fun i => decide (0 ≤ left - xss.length - (tot (xss.take (i + 1)) : Nat))) xss.length with ⟨_, hall⟩ | ⟨_, m, hm, hbad, hall⟩
    · have h0 : ∀ i, i ≤ xss.length → 0 ≤ left - xss.length - (tot (xss.take i) : Nat) := fun i hi => by
        cases i with
        | zero => simp [tot]; omega
        | succ i => simpa using hall i (by omega)
      refine ⟨left - xss.length - (tot xss : Nat), ?_, .inr ⟨rfl, by have := h0 xss.length (Nat.le_refl _); rwa [List.take_length] at this⟩⟩
      rw [m_run (fn := Try.f50) (i0 := 0) rfl Try.func50 rfl rfl (by simp)]
      simp -implicitDefEqProofs [h, w64 (x := left - xss.length) (by omega)]
      rw [loop_to (H_szInsSS left xss) xss.length (by simp -implicitDefEqProofs [H_szInsSS, hint1, tot]) (by simp [big] at hj; omega) (fun i hi => by
        have e := stp i hi (h0 i (by omega))
        have h1 := h0 (i + 1) (by omega)
        rw [if_neg (by omega)] at e
        simp -implicitDefEqProofs [H_szInsSS, hint1, hi, w64 (x := (i : Int) + 1) (by omega), own1, rIns, e, show ¬ (left - xss.length - (tot (xss.take (i + 1)) : Nat) < 0) by omega]) (by simp -implicitDefEqProofs [H_szInsSS, stops])]
      simp -implicitDefEqProofs [H_szInsSS]
    · have hbad : ¬ 0 ≤ left - xss.length - (tot (xss.take (m + 1)) : Nat) := by simpa using hbad
      have h0 : ∀ i, i ≤ m → 0 ≤ left - xss.length - (tot (xss.take i) : Nat) := fun i hi => by
        cases i with
        | zero => simp [tot]; omega
        | succ i => simpa using hall i (by omega)
      have em := stp m hm (h0 m (Nat.le_refl _))
      rw [if_pos (by omega)] at em
      refine ⟨-1, ?_, .inl rfl⟩
      rw [m_run (fn := Try.f50) (i0 := 0) rfl Try.func50 rfl rfl (by simp)]
      simp -implicitDefEqProofs [h, w64 (x := left - xss.length) (by omega)]
      rw [loop_to (H_szInsSS left xss) m (by simp -implicitDefEqProofs [H_szInsSS, hint1, tot]) (by simp [big] at hj; omega) (fun i hi => by
        have hi' : i < xss.length := by omega
        have e := stp i hi' (h0 i (by omega))
        have h1 := h0 (i + 1) (by omega)
        rw [if_neg (by omega)] at e
        simp -implicitDefEqProofs [H_szInsSS, hint1, hi', w64 (x := (i : Int) + 1) (by omega), own1, rIns, e, show ¬ (left - xss.length - (tot (xss.take (i + 1)) : Nat) < 0) by omega]) (by simp -implicitDefEqProofs [H_szInsSS, stops, hm, own1, rIns, em])]
      simp -implicitDefEqProofs [H_szInsSS, hm, own1, rIns, em]
def H_toInsSS (xss : List (List Ins)) (i : Nat) : St := ⟨[(0, .c (.sl 0 [] 0 xss.length)), (3, .c (.sl 512 [] 0 xss.length)), (4, .c (.v (.int .i64 i)))], [(0, ⟨.ro, 48, xss.map (rIns 112)⟩), (512, ⟨.own, 58, tp (xss.map (sIns 110)) .z i⟩)]⟩
theorem run_toInsSS {j : Nat} (hj : big ≤ j) (xss : List (List Ins)) (hn : xss.length ≤ 1048576) (hx : ∀ x ∈ xss, x.length ≤ 1048576) :
    M.run (j + 3) 55 [.c (.r 48 xss.length (xss.map (rIns 112)))] = some ([.c (.s 58 xss.length (xss.map (sIns 110)))], [.c (.r 48 xss.length (xss.map (rIns 112)))]) := by
  have tf : tp (xss.map (sIns 110)) .z xss.length = xss.map (sIns 110) := by
    have := tp_full (xss.map (sIns 110)) T.z
    rwa [List.length_map] at this
  rw [m_run (fn := Try.f55) (i0 := 0) rfl Try.func55 rfl rfl (by simp)]
  simp -implicitDefEqProofs [le_most hn]
  rw [loop_to (H_toInsSS xss) xss.length (by simp -implicitDefEqProofs [H_toInsSS, hint1]) (by simp [big] at hj; omega) (fun i hi => by
    have e := run45 (j := j) (by omega) xss[i] (hx _ (List.getElem_mem _))
    have e2 : (tp (xss.map (sIns 110)) .z i).set i (.s 110 xss[i].length (insT xss[i])) = tp (xss.map (sIns 110)) .z (i + 1) := by
      have h2 := tp_set (xss.map (sIns 110)) T.z (i := i) (by simpa using hi)
      rw [List.getElem_map] at h2
      exact h2
    simp -implicitDefEqProofs [H_toInsSS, hint1, hi, w64 (x := (i : Int) + 1) (by omega), show i + 1 ≤ xss.length by omega, own1, rIns, e, e2]) (by simp -implicitDefEqProofs [H_toInsSS, stops])]
  simp -implicitDefEqProofs [H_toInsSS, tf]
def H_eqInsSS (xss : List (List Ins)) (i : Nat) : St := ⟨[(0, .c (.sl 0 [] 0 xss.length)), (1, .c (.sl 1 [] 0 xss.length)), (5, .c (.v (.int .i64 i)))], [(0, ⟨.ro, 58, xss.map (rIns 110)⟩), (1, ⟨.ro, 58, xss.map (rIns 110)⟩)]⟩
theorem run_eqInsSS {j : Nat} (hj : big ≤ j) (xss : List (List Ins)) (hn : xss.length ≤ 1048576) (hx : ∀ x ∈ xss, x.length ≤ 1048576) :
    M.run (j + 3) 61 [.c (.r 58 xss.length (xss.map (rIns 110))), .c (.r 58 xss.length (xss.map (rIns 110)))] = some ([.c (.v (.bool true))], [.c (.r 58 xss.length (xss.map (rIns 110))), .c (.r 58 xss.length (xss.map (rIns 110)))]) := by
  rw [m_run (fn := Try.f61) (i0 := 0) rfl Try.func61 rfl rfl (by simp)]
  simp -implicitDefEqProofs
  rw [loop_to (H_eqInsSS xss) xss.length (by simp -implicitDefEqProofs [H_eqInsSS, hint1]) (by simp [big] at hj; omega) (fun i hi => by
    have e := run48 (j := j) (by omega) xss[i] (by have := hx _ (List.getElem_mem hi); omega)
    simp -implicitDefEqProofs [H_eqInsSS, hint1, hi, w64 (x := (i : Int) + 1) (by omega), own1, rIns, e]) (by simp -implicitDefEqProofs [H_eqInsSS, stops])]
  simp -implicitDefEqProofs [H_eqInsSS]
/-- Marked so far: the next number, the rows. -/
def mkIns (k : Int) (xss : List (List Ins)) : Nat → Int × List T
  | 0 => (k, xss.map (sIns 110))
  | i + 1 => ((mkIns k xss i).1 + 5 * (((xss[i]?).map List.length).getD 0 : Nat), (mkIns k xss i).2.set i (.s 110 (((xss[i]?).map List.length).getD 0) (insT (insUp (mkIns k xss i).1 (((xss[i]?).map List.length).getD 0)))))
theorem mkIns_len (k : Int) (xss : List (List Ins)) : ∀ i, (mkIns k xss i).2.length = xss.length
  | 0 => by simp [mkIns]
  | i + 1 => by simp [mkIns, mkIns_len k xss i]
theorem mkIns_at (k : Int) (xss : List (List Ins)) {m : Nat} : ∀ i, i ≤ m → (mkIns k xss i).2[m]? = (xss.map (sIns 110))[m]?
  | 0, _ => rfl
  | i + 1, h => by
    rw [mkIns, List.getElem?_set_ne (by omega)]
    exact mkIns_at k xss i (by omega)
theorem mkIns_le (k : Int) (xss : List (List Ins)) : ∀ i, i ≤ xss.length → k ≤ (mkIns k xss i).1 ∧ (mkIns k xss i).1 = k + 5 * (tot (xss.take i) : Nat)
  | 0, _ => by simp [mkIns, tot]
  | i + 1, h => by
    have h1 := mkIns_le k xss i (by omega)
    have h2 := tot_take_succ (xss := xss) (i := i) (by omega)
    rw [mkIns]
    simp only [List.getElem?_eq_getElem (show i < xss.length by omega), Option.map_some, Option.getD_some]
    rw [h2]
    omega
def H_markInsSS (k : Int) (xss : List (List Ins)) (i : Nat) : St := ⟨[(0, .c (.sl 0 [] 0 xss.length)), (1, .c (.v (.int .i64 (mkIns k xss i).1))), (5, .c (.v (.int .i64 i)))], [(0, ⟨.own, 58, (mkIns k xss i).2⟩)]⟩
theorem run_markInsSS {j : Nat} (hj : big ≤ j) (xss : List (List Ins)) (k : Int) (hk : 0 ≤ k ∧ k + 5 * (tot xss : Nat) ≤ 1152921504606846976) (hn : xss.length ≤ 1048576) :
    M.run (j + 2) 65 [.c (.s 58 xss.length (xss.map (sIns 110))), .c (.v (.int .i64 k))] = some ([.c (.v (.int .i64 (k + 5 * (tot xss : Nat))))], [.c (.s 58 xss.length (mkIns k xss xss.length).2), .c (.v (.int .i64 k))]) := by
  rw [m_run (fn := Try.f65) (i0 := 0) rfl Try.func65 rfl rfl (by simp)]
  have hend : (mkIns k xss xss.length).1 = k + 5 * (tot xss : Nat) := by
    have := (mkIns_le k xss xss.length (Nat.le_refl _)).2
    rwa [List.take_length] at this
  simp -implicitDefEqProofs
  rw [loop_to (H_markInsSS k xss) xss.length (by simp -implicitDefEqProofs [H_markInsSS, hint1, mkIns]) (by simp [big] at hj; omega) (fun i hi => by
    have h1 := mkIns_le k xss i (by omega)
    have h2 := tot_take_le xss i
    have h3 := tot_take_le xss (i + 1)
    have h4 := tot_take_succ hi
    have e := run_markInsS (j := j) (by omega) xss[i] (mkIns k xss i).1 (by omega)
    have ha : (mkIns k xss i).2[i]? = some (.s 110 xss[i].length (insT xss[i])) := by
      rw [mkIns_at k xss i (Nat.le_refl _), List.getElem?_map, List.getElem?_eq_getElem hi]
      rfl
    have hl := mkIns_len k xss i
    have hg : ∀ h : i < (mkIns k xss i).2.length, (mkIns k xss i).2[i] = .s 110 xss[i].length (insT xss[i]) := fun h => by
      rw [List.getElem?_eq_getElem h] at ha
      exact Option.some.inj ha
    simp -implicitDefEqProofs [H_markInsSS, hint1, hi, w64 (x := (i : Int) + 1) (by omega), own1, hg, ha, hl, e, mkIns]) (by simp -implicitDefEqProofs [H_markInsSS, stops])]
  simp -implicitDefEqProofs [H_markInsSS, hend]

/-! ### rows of rows: Item -/
def rItem (e : TypeId) (xs : List Itm) : T := .r e xs.length (itT xs)
def sItem (e : TypeId) (xs : List Itm) : T := .s e xs.length (itT xs)
def H_szItemSS (left : Int) (xss : List (List Itm)) (i : Nat) : St := ⟨[(0, .c (.sl 0 [] 0 xss.length)), (1, .c (.v (.int .i64 (left - xss.length - (tot (xss.take i) : Nat))))), (5, .c (.v (.int .i64 i)))], [(0, ⟨.ro, 130, xss.map (rItem 146)⟩)]⟩
theorem run_szItemSS {j : Nat} (hj : big ≤ j) (xss : List (List Itm)) (left : Int) (hk : 0 ≤ left ∧ left ≤ 1048576) (hn : xss.length ≤ 9223372036854775807) (hx : ∀ x ∈ xss, x.length ≤ 9223372036854775807) :
    ∃ r : Int, M.run (j + 2) 52 [.c (.r 130 xss.length (xss.map (rItem 146))), .c (.v (.int .i64 left))] = some ([.c (.v (.int .i64 r))], [.c (.r 130 xss.length (xss.map (rItem 146))), .c (.v (.int .i64 left))]) ∧ (r = -1 ∨ (r = left - xss.length - (tot xss : Nat) ∧ 0 ≤ r)) := by
  by_cases h : left - xss.length < 0
  · refine ⟨-1, ?_, .inl rfl⟩
    rw [m_run (fn := Try.f52) (i0 := 0) rfl Try.func52 rfl rfl (by simp)]
    simp -implicitDefEqProofs [h, w64 (x := left - xss.length) (by omega)]
  · have stp : ∀ i, ∀ hi : i < xss.length, 0 ≤ left - xss.length - (tot (xss.take i) : Nat) → M.run (j + 1) 99 [.c (.r 146 xss[i].length (itT xss[i])), .c (.v (.int .i64 (left - xss.length - (tot (xss.take i) : Nat))))] = some ([.c (.v (.int .i64 (if left - xss.length - (tot (xss.take (i + 1)) : Nat) < 0 then -1 else left - xss.length - (tot (xss.take (i + 1)) : Nat))))], [.c (.r 146 xss[i].length (itT xss[i])), .c (.v (.int .i64 (left - xss.length - (tot (xss.take i) : Nat))))]) := fun i hi h0 => by
      have e := run_szItemS (j := j) xss[i].length (itT xss[i]) (left - xss.length - (tot (xss.take i) : Nat)) (hx _ (List.getElem_mem _)) ⟨h0, by omega⟩
      rw [show left - xss.length - (tot (xss.take i) : Nat) - (xss[i].length : Nat) = left - xss.length - (tot (xss.take (i + 1)) : Nat) by rw [tot_take_succ hi]; omega] at e
      exact e
    rcases allTo_or (fun i => decide (0 ≤ left - xss.length - (tot (xss.take (i + 1)) : Nat))) xss.length with ⟨_, hall⟩ | ⟨_, m, hm, hbad, hall⟩
    · have h0 : ∀ i, i ≤ xss.length → 0 ≤ left - xss.length - (tot (xss.take i) : Nat) := fun i hi => by
        cases i with
        | zero => simp [tot]; omega
        | succ i => simpa using hall i (by omega)
      refine ⟨left - xss.length - (tot xss : Nat), ?_, .inr ⟨rfl, by have := h0 xss.length (Nat.le_refl _); rwa [List.take_length] at this⟩⟩
      rw [m_run (fn := Try.f52) (i0 := 0) rfl Try.func52 rfl rfl (by simp)]
      simp -implicitDefEqProofs [h, w64 (x := left - xss.length) (by omega)]
      rw [loop_to (H_szItemSS left xss) xss.length (by simp -implicitDefEqProofs [H_szItemSS, hint1, tot]) (by simp [big] at hj; omega) (fun i hi => by
        have e := stp i hi (h0 i (by omega))
        have h1 := h0 (i + 1) (by omega)
        rw [if_neg (by omega)] at e
        simp -implicitDefEqProofs [H_szItemSS, hint1, hi, w64 (x := (i : Int) + 1) (by omega), own1, rItem, e, show ¬ (left - xss.length - (tot (xss.take (i + 1)) : Nat) < 0) by omega]) (by simp -implicitDefEqProofs [H_szItemSS, stops])]
      simp -implicitDefEqProofs [H_szItemSS]
    · have hbad : ¬ 0 ≤ left - xss.length - (tot (xss.take (m + 1)) : Nat) := by simpa using hbad
      have h0 : ∀ i, i ≤ m → 0 ≤ left - xss.length - (tot (xss.take i) : Nat) := fun i hi => by
        cases i with
        | zero => simp [tot]; omega
        | succ i => simpa using hall i (by omega)
      have em := stp m hm (h0 m (Nat.le_refl _))
      rw [if_pos (by omega)] at em
      refine ⟨-1, ?_, .inl rfl⟩
      rw [m_run (fn := Try.f52) (i0 := 0) rfl Try.func52 rfl rfl (by simp)]
      simp -implicitDefEqProofs [h, w64 (x := left - xss.length) (by omega)]
      rw [loop_to (H_szItemSS left xss) m (by simp -implicitDefEqProofs [H_szItemSS, hint1, tot]) (by simp [big] at hj; omega) (fun i hi => by
        have hi' : i < xss.length := by omega
        have e := stp i hi' (h0 i (by omega))
        have h1 := h0 (i + 1) (by omega)
        rw [if_neg (by omega)] at e
        simp -implicitDefEqProofs [H_szItemSS, hint1, hi', w64 (x := (i : Int) + 1) (by omega), own1, rItem, e, show ¬ (left - xss.length - (tot (xss.take (i + 1)) : Nat) < 0) by omega]) (by simp -implicitDefEqProofs [H_szItemSS, stops, hm, own1, rItem, em])]
      simp -implicitDefEqProofs [H_szItemSS, hm, own1, rItem, em]
def H_toItemSS (xss : List (List Itm)) (i : Nat) : St := ⟨[(0, .c (.sl 0 [] 0 xss.length)), (3, .c (.sl 512 [] 0 xss.length)), (4, .c (.v (.int .i64 i)))], [(0, ⟨.ro, 130, xss.map (rItem 146)⟩), (512, ⟨.own, 43, tp (xss.map (sItem 106)) .z i⟩)]⟩
theorem run_toItemSS {j : Nat} (hj : big ≤ j) (xss : List (List Itm)) (hn : xss.length ≤ 1048576) (hx : ∀ x ∈ xss, x.length ≤ 1048576) :
    M.run (j + 3) 57 [.c (.r 130 xss.length (xss.map (rItem 146)))] = some ([.c (.s 43 xss.length (xss.map (sItem 106)))], [.c (.r 130 xss.length (xss.map (rItem 146)))]) := by
  have tf : tp (xss.map (sItem 106)) .z xss.length = xss.map (sItem 106) := by
    have := tp_full (xss.map (sItem 106)) T.z
    rwa [List.length_map] at this
  rw [m_run (fn := Try.f57) (i0 := 0) rfl Try.func57 rfl rfl (by simp)]
  simp -implicitDefEqProofs [le_most hn]
  rw [loop_to (H_toItemSS xss) xss.length (by simp -implicitDefEqProofs [H_toItemSS, hint1]) (by simp [big] at hj; omega) (fun i hi => by
    have e := run_toItemS (j := j) (by omega) xss[i] (hx _ (List.getElem_mem _))
    have e2 : (tp (xss.map (sItem 106)) .z i).set i (.s 106 xss[i].length (itT xss[i])) = tp (xss.map (sItem 106)) .z (i + 1) := by
      have h2 := tp_set (xss.map (sItem 106)) T.z (i := i) (by simpa using hi)
      rw [List.getElem_map] at h2
      exact h2
    simp -implicitDefEqProofs [H_toItemSS, hint1, hi, w64 (x := (i : Int) + 1) (by omega), show i + 1 ≤ xss.length by omega, own1, rItem, e, e2]) (by simp -implicitDefEqProofs [H_toItemSS, stops])]
  simp -implicitDefEqProofs [H_toItemSS, tf]
def H_eqItemSS (xss : List (List Itm)) (i : Nat) : St := ⟨[(0, .c (.sl 0 [] 0 xss.length)), (1, .c (.sl 1 [] 0 xss.length)), (5, .c (.v (.int .i64 i)))], [(0, ⟨.ro, 43, xss.map (rItem 106)⟩), (1, ⟨.ro, 43, xss.map (rItem 106)⟩)]⟩
theorem run_eqItemSS {j : Nat} (hj : big ≤ j) (xss : List (List Itm)) (hn : xss.length ≤ 1048576) (hx : ∀ x ∈ xss, x.length ≤ 1048576) :
    M.run (j + 3) 63 [.c (.r 43 xss.length (xss.map (rItem 106))), .c (.r 43 xss.length (xss.map (rItem 106)))] = some ([.c (.v (.bool true))], [.c (.r 43 xss.length (xss.map (rItem 106))), .c (.r 43 xss.length (xss.map (rItem 106)))]) := by
  rw [m_run (fn := Try.f63) (i0 := 0) rfl Try.func63 rfl rfl (by simp)]
  simp -implicitDefEqProofs
  rw [loop_to (H_eqItemSS xss) xss.length (by simp -implicitDefEqProofs [H_eqItemSS, hint1]) (by simp [big] at hj; omega) (fun i hi => by
    have e := run_eqItemS (j := j) (by omega) xss[i] (by have := hx _ (List.getElem_mem hi); omega)
    simp -implicitDefEqProofs [H_eqItemSS, hint1, hi, w64 (x := (i : Int) + 1) (by omega), own1, rItem, e]) (by simp -implicitDefEqProofs [H_eqItemSS, stops])]
  simp -implicitDefEqProofs [H_eqItemSS]
/-- Marked so far: the next number, the rows. -/
def mkItem (k : Int) (xss : List (List Itm)) : Nat → Int × List T
  | 0 => (k, xss.map (sItem 106))
  | i + 1 => ((mkItem k xss i).1 + 2 * (((xss[i]?).map List.length).getD 0 : Nat), (mkItem k xss i).2.set i (.s 106 (((xss[i]?).map List.length).getD 0) (itT (itUp (mkItem k xss i).1 (((xss[i]?).map List.length).getD 0)))))
theorem mkItem_len (k : Int) (xss : List (List Itm)) : ∀ i, (mkItem k xss i).2.length = xss.length
  | 0 => by simp [mkItem]
  | i + 1 => by simp [mkItem, mkItem_len k xss i]
theorem mkItem_at (k : Int) (xss : List (List Itm)) {m : Nat} : ∀ i, i ≤ m → (mkItem k xss i).2[m]? = (xss.map (sItem 106))[m]?
  | 0, _ => rfl
  | i + 1, h => by
    rw [mkItem, List.getElem?_set_ne (by omega)]
    exact mkItem_at k xss i (by omega)
theorem mkItem_le (k : Int) (xss : List (List Itm)) : ∀ i, i ≤ xss.length → k ≤ (mkItem k xss i).1 ∧ (mkItem k xss i).1 = k + 2 * (tot (xss.take i) : Nat)
  | 0, _ => by simp [mkItem, tot]
  | i + 1, h => by
    have h1 := mkItem_le k xss i (by omega)
    have h2 := tot_take_succ (xss := xss) (i := i) (by omega)
    rw [mkItem]
    simp only [List.getElem?_eq_getElem (show i < xss.length by omega), Option.map_some, Option.getD_some]
    rw [h2]
    omega
def H_markItemSS (k : Int) (xss : List (List Itm)) (i : Nat) : St := ⟨[(0, .c (.sl 0 [] 0 xss.length)), (1, .c (.v (.int .i64 (mkItem k xss i).1))), (5, .c (.v (.int .i64 i)))], [(0, ⟨.own, 43, (mkItem k xss i).2⟩)]⟩
theorem run_markItemSS {j : Nat} (hj : big ≤ j) (xss : List (List Itm)) (k : Int) (hk : 0 ≤ k ∧ k + 2 * (tot xss : Nat) ≤ 1152921504606846976) (hn : xss.length ≤ 1048576) :
    M.run (j + 2) 67 [.c (.s 43 xss.length (xss.map (sItem 106))), .c (.v (.int .i64 k))] = some ([.c (.v (.int .i64 (k + 2 * (tot xss : Nat))))], [.c (.s 43 xss.length (mkItem k xss xss.length).2), .c (.v (.int .i64 k))]) := by
  rw [m_run (fn := Try.f67) (i0 := 0) rfl Try.func67 rfl rfl (by simp)]
  have hend : (mkItem k xss xss.length).1 = k + 2 * (tot xss : Nat) := by
    have := (mkItem_le k xss xss.length (Nat.le_refl _)).2
    rwa [List.take_length] at this
  simp -implicitDefEqProofs
  rw [loop_to (H_markItemSS k xss) xss.length (by simp -implicitDefEqProofs [H_markItemSS, hint1, mkItem]) (by simp [big] at hj; omega) (fun i hi => by
    have h1 := mkItem_le k xss i (by omega)
    have h2 := tot_take_le xss i
    have h3 := tot_take_le xss (i + 1)
    have h4 := tot_take_succ hi
    have e := run_markItemS (j := j) (by omega) xss[i] (mkItem k xss i).1 (by omega)
    have ha : (mkItem k xss i).2[i]? = some (.s 106 xss[i].length (itT xss[i])) := by
      rw [mkItem_at k xss i (Nat.le_refl _), List.getElem?_map, List.getElem?_eq_getElem hi]
      rfl
    have hl := mkItem_len k xss i
    have hg : ∀ h : i < (mkItem k xss i).2.length, (mkItem k xss i).2[i] = .s 106 xss[i].length (itT xss[i]) := fun h => by
      rw [List.getElem?_eq_getElem h] at ha
      exact Option.some.inj ha
    simp -implicitDefEqProofs [H_markItemSS, hint1, hi, w64 (x := (i : Int) + 1) (by omega), own1, hg, ha, hl, e, mkItem]) (by simp -implicitDefEqProofs [H_markItemSS, stops])]
  simp -implicitDefEqProofs [H_markItemSS, hend]

/-! ### rows of rows: Event -/
def rEvent (e : TypeId) (xs : List Ev) : T := .r e xs.length (evT xs)
def sEvent (e : TypeId) (xs : List Ev) : T := .s e xs.length (evT xs)
def H_szEventSS (left : Int) (xss : List (List Ev)) (i : Nat) : St := ⟨[(0, .c (.sl 0 [] 0 xss.length)), (1, .c (.v (.int .i64 (left - xss.length - (tot (xss.take i) : Nat))))), (5, .c (.v (.int .i64 i)))], [(0, ⟨.ro, 74, xss.map (rEvent 52)⟩)]⟩
theorem run_szEventSS {j : Nat} (hj : big ≤ j) (xss : List (List Ev)) (left : Int) (hk : 0 ≤ left ∧ left ≤ 1048576) (hn : xss.length ≤ 9223372036854775807) (hx : ∀ x ∈ xss, x.length ≤ 9223372036854775807) :
    ∃ r : Int, M.run (j + 2) 53 [.c (.r 74 xss.length (xss.map (rEvent 52))), .c (.v (.int .i64 left))] = some ([.c (.v (.int .i64 r))], [.c (.r 74 xss.length (xss.map (rEvent 52))), .c (.v (.int .i64 left))]) ∧ (r = -1 ∨ (r = left - xss.length - (tot xss : Nat) ∧ 0 ≤ r)) := by
  by_cases h : left - xss.length < 0
  · refine ⟨-1, ?_, .inl rfl⟩
    rw [m_run (fn := Try.f53) (i0 := 0) rfl Try.func53 rfl rfl (by simp)]
    simp -implicitDefEqProofs [h, w64 (x := left - xss.length) (by omega)]
  · have stp : ∀ i, ∀ hi : i < xss.length, 0 ≤ left - xss.length - (tot (xss.take i) : Nat) → M.run (j + 1) 42 [.c (.r 52 xss[i].length (evT xss[i])), .c (.v (.int .i64 (left - xss.length - (tot (xss.take i) : Nat))))] = some ([.c (.v (.int .i64 (if left - xss.length - (tot (xss.take (i + 1)) : Nat) < 0 then -1 else left - xss.length - (tot (xss.take (i + 1)) : Nat))))], [.c (.r 52 xss[i].length (evT xss[i])), .c (.v (.int .i64 (left - xss.length - (tot (xss.take i) : Nat))))]) := fun i hi h0 => by
      have e := run_szEventS (j := j) xss[i].length (evT xss[i]) (left - xss.length - (tot (xss.take i) : Nat)) (hx _ (List.getElem_mem _)) ⟨h0, by omega⟩
      rw [show left - xss.length - (tot (xss.take i) : Nat) - (xss[i].length : Nat) = left - xss.length - (tot (xss.take (i + 1)) : Nat) by rw [tot_take_succ hi]; omega] at e
      exact e
    rcases allTo_or (fun i => decide (0 ≤ left - xss.length - (tot (xss.take (i + 1)) : Nat))) xss.length with ⟨_, hall⟩ | ⟨_, m, hm, hbad, hall⟩
    · have h0 : ∀ i, i ≤ xss.length → 0 ≤ left - xss.length - (tot (xss.take i) : Nat) := fun i hi => by
        cases i with
        | zero => simp [tot]; omega
        | succ i => simpa using hall i (by omega)
      refine ⟨left - xss.length - (tot xss : Nat), ?_, .inr ⟨rfl, by have := h0 xss.length (Nat.le_refl _); rwa [List.take_length] at this⟩⟩
      rw [m_run (fn := Try.f53) (i0 := 0) rfl Try.func53 rfl rfl (by simp)]
      simp -implicitDefEqProofs [h, w64 (x := left - xss.length) (by omega)]
      rw [loop_to (H_szEventSS left xss) xss.length (by simp -implicitDefEqProofs [H_szEventSS, hint1, tot]) (by simp [big] at hj; omega) (fun i hi => by
        have e := stp i hi (h0 i (by omega))
        have h1 := h0 (i + 1) (by omega)
        rw [if_neg (by omega)] at e
        simp -implicitDefEqProofs [H_szEventSS, hint1, hi, w64 (x := (i : Int) + 1) (by omega), own1, rEvent, e, show ¬ (left - xss.length - (tot (xss.take (i + 1)) : Nat) < 0) by omega]) (by simp -implicitDefEqProofs [H_szEventSS, stops])]
      simp -implicitDefEqProofs [H_szEventSS]
    · have hbad : ¬ 0 ≤ left - xss.length - (tot (xss.take (m + 1)) : Nat) := by simpa using hbad
      have h0 : ∀ i, i ≤ m → 0 ≤ left - xss.length - (tot (xss.take i) : Nat) := fun i hi => by
        cases i with
        | zero => simp [tot]; omega
        | succ i => simpa using hall i (by omega)
      have em := stp m hm (h0 m (Nat.le_refl _))
      rw [if_pos (by omega)] at em
      refine ⟨-1, ?_, .inl rfl⟩
      rw [m_run (fn := Try.f53) (i0 := 0) rfl Try.func53 rfl rfl (by simp)]
      simp -implicitDefEqProofs [h, w64 (x := left - xss.length) (by omega)]
      rw [loop_to (H_szEventSS left xss) m (by simp -implicitDefEqProofs [H_szEventSS, hint1, tot]) (by simp [big] at hj; omega) (fun i hi => by
        have hi' : i < xss.length := by omega
        have e := stp i hi' (h0 i (by omega))
        have h1 := h0 (i + 1) (by omega)
        rw [if_neg (by omega)] at e
        simp -implicitDefEqProofs [H_szEventSS, hint1, hi', w64 (x := (i : Int) + 1) (by omega), own1, rEvent, e, show ¬ (left - xss.length - (tot (xss.take (i + 1)) : Nat) < 0) by omega]) (by simp -implicitDefEqProofs [H_szEventSS, stops, hm, own1, rEvent, em])]
      simp -implicitDefEqProofs [H_szEventSS, hm, own1, rEvent, em]
def H_toEventSS (xss : List (List Ev)) (i : Nat) : St := ⟨[(0, .c (.sl 0 [] 0 xss.length)), (3, .c (.sl 512 [] 0 xss.length)), (4, .c (.v (.int .i64 i)))], [(0, ⟨.ro, 74, xss.map (rEvent 52)⟩), (512, ⟨.own, 77, tp (xss.map (sEvent 61)) .z i⟩)]⟩
theorem run_toEventSS {j : Nat} (hj : big ≤ j) (xss : List (List Ev)) (hn : xss.length ≤ 1048576) (hx : ∀ x ∈ xss, x.length ≤ 1048576) :
    M.run (j + 3) 58 [.c (.r 74 xss.length (xss.map (rEvent 52)))] = some ([.c (.s 77 xss.length (xss.map (sEvent 61)))], [.c (.r 74 xss.length (xss.map (rEvent 52)))]) := by
  have tf : tp (xss.map (sEvent 61)) .z xss.length = xss.map (sEvent 61) := by
    have := tp_full (xss.map (sEvent 61)) T.z
    rwa [List.length_map] at this
  rw [m_run (fn := Try.f58) (i0 := 0) rfl Try.func58 rfl rfl (by simp)]
  simp -implicitDefEqProofs [le_most hn]
  rw [loop_to (H_toEventSS xss) xss.length (by simp -implicitDefEqProofs [H_toEventSS, hint1]) (by simp [big] at hj; omega) (fun i hi => by
    have e := run_toEventS (j := j) (by omega) xss[i] (hx _ (List.getElem_mem _))
    have e2 : (tp (xss.map (sEvent 61)) .z i).set i (.s 61 xss[i].length (evT xss[i])) = tp (xss.map (sEvent 61)) .z (i + 1) := by
      have h2 := tp_set (xss.map (sEvent 61)) T.z (i := i) (by simpa using hi)
      rw [List.getElem_map] at h2
      exact h2
    simp -implicitDefEqProofs [H_toEventSS, hint1, hi, w64 (x := (i : Int) + 1) (by omega), show i + 1 ≤ xss.length by omega, own1, rEvent, e, e2]) (by simp -implicitDefEqProofs [H_toEventSS, stops])]
  simp -implicitDefEqProofs [H_toEventSS, tf]
def H_eqEventSS (xss : List (List Ev)) (i : Nat) : St := ⟨[(0, .c (.sl 0 [] 0 xss.length)), (1, .c (.sl 1 [] 0 xss.length)), (5, .c (.v (.int .i64 i)))], [(0, ⟨.ro, 77, xss.map (rEvent 61)⟩), (1, ⟨.ro, 77, xss.map (rEvent 61)⟩)]⟩
theorem run_eqEventSS {j : Nat} (hj : big ≤ j) (xss : List (List Ev)) (hn : xss.length ≤ 1048576) (hx : ∀ x ∈ xss, x.length ≤ 1048576) :
    M.run (j + 3) 64 [.c (.r 77 xss.length (xss.map (rEvent 61))), .c (.r 77 xss.length (xss.map (rEvent 61)))] = some ([.c (.v (.bool true))], [.c (.r 77 xss.length (xss.map (rEvent 61))), .c (.r 77 xss.length (xss.map (rEvent 61)))]) := by
  rw [m_run (fn := Try.f64) (i0 := 0) rfl Try.func64 rfl rfl (by simp)]
  simp -implicitDefEqProofs
  rw [loop_to (H_eqEventSS xss) xss.length (by simp -implicitDefEqProofs [H_eqEventSS, hint1]) (by simp [big] at hj; omega) (fun i hi => by
    have e := run_eqEventS (j := j) (by omega) xss[i] (by have := hx _ (List.getElem_mem hi); omega)
    simp -implicitDefEqProofs [H_eqEventSS, hint1, hi, w64 (x := (i : Int) + 1) (by omega), own1, rEvent, e]) (by simp -implicitDefEqProofs [H_eqEventSS, stops])]
  simp -implicitDefEqProofs [H_eqEventSS]
/-- Marked so far: the next number, the rows. -/
def mkEvent (k : Int) (xss : List (List Ev)) : Nat → Int × List T
  | 0 => (k, xss.map (sEvent 61))
  | i + 1 => ((mkEvent k xss i).1 + 3 * (((xss[i]?).map List.length).getD 0 : Nat), (mkEvent k xss i).2.set i (.s 61 (((xss[i]?).map List.length).getD 0) (evT (evUp (mkEvent k xss i).1 (((xss[i]?).map List.length).getD 0)))))
theorem mkEvent_len (k : Int) (xss : List (List Ev)) : ∀ i, (mkEvent k xss i).2.length = xss.length
  | 0 => by simp [mkEvent]
  | i + 1 => by simp [mkEvent, mkEvent_len k xss i]
theorem mkEvent_at (k : Int) (xss : List (List Ev)) {m : Nat} : ∀ i, i ≤ m → (mkEvent k xss i).2[m]? = (xss.map (sEvent 61))[m]?
  | 0, _ => rfl
  | i + 1, h => by
    rw [mkEvent, List.getElem?_set_ne (by omega)]
    exact mkEvent_at k xss i (by omega)
theorem mkEvent_le (k : Int) (xss : List (List Ev)) : ∀ i, i ≤ xss.length → k ≤ (mkEvent k xss i).1 ∧ (mkEvent k xss i).1 = k + 3 * (tot (xss.take i) : Nat)
  | 0, _ => by simp [mkEvent, tot]
  | i + 1, h => by
    have h1 := mkEvent_le k xss i (by omega)
    have h2 := tot_take_succ (xss := xss) (i := i) (by omega)
    rw [mkEvent]
    simp only [List.getElem?_eq_getElem (show i < xss.length by omega), Option.map_some, Option.getD_some]
    rw [h2]
    omega
def H_markEventSS (k : Int) (xss : List (List Ev)) (i : Nat) : St := ⟨[(0, .c (.sl 0 [] 0 xss.length)), (1, .c (.v (.int .i64 (mkEvent k xss i).1))), (5, .c (.v (.int .i64 i)))], [(0, ⟨.own, 77, (mkEvent k xss i).2⟩)]⟩
theorem run_markEventSS {j : Nat} (hj : big ≤ j) (xss : List (List Ev)) (k : Int) (hk : 0 ≤ k ∧ k + 3 * (tot xss : Nat) ≤ 1152921504606846976) (hn : xss.length ≤ 1048576) :
    M.run (j + 2) 68 [.c (.s 77 xss.length (xss.map (sEvent 61))), .c (.v (.int .i64 k))] = some ([.c (.v (.int .i64 (k + 3 * (tot xss : Nat))))], [.c (.s 77 xss.length (mkEvent k xss xss.length).2), .c (.v (.int .i64 k))]) := by
  rw [m_run (fn := Try.f68) (i0 := 0) rfl Try.func68 rfl rfl (by simp)]
  have hend : (mkEvent k xss xss.length).1 = k + 3 * (tot xss : Nat) := by
    have := (mkEvent_le k xss xss.length (Nat.le_refl _)).2
    rwa [List.take_length] at this
  simp -implicitDefEqProofs
  rw [loop_to (H_markEventSS k xss) xss.length (by simp -implicitDefEqProofs [H_markEventSS, hint1, mkEvent]) (by simp [big] at hj; omega) (fun i hi => by
    have h1 := mkEvent_le k xss i (by omega)
    have h2 := tot_take_le xss i
    have h3 := tot_take_le xss (i + 1)
    have h4 := tot_take_succ hi
    have e := run_markEventS (j := j) (by omega) xss[i] (mkEvent k xss i).1 (by omega)
    have ha : (mkEvent k xss i).2[i]? = some (.s 61 xss[i].length (evT xss[i])) := by
      rw [mkEvent_at k xss i (Nat.le_refl _), List.getElem?_map, List.getElem?_eq_getElem hi]
      rfl
    have hl := mkEvent_len k xss i
    have hg : ∀ h : i < (mkEvent k xss i).2.length, (mkEvent k xss i).2[i] = .s 61 xss[i].length (evT xss[i]) := fun h => by
      rw [List.getElem?_eq_getElem h] at ha
      exact Option.some.inj ha
    simp -implicitDefEqProofs [H_markEventSS, hint1, hi, w64 (x := (i : Int) + 1) (by omega), own1, hg, ha, hl, e, mkEvent]) (by simp -implicitDefEqProofs [H_markEventSS, stops])]
  simp -implicitDefEqProofs [H_markEventSS, hend]
end Go.Proofs.Ytbdidcfjaohglaa.VM
