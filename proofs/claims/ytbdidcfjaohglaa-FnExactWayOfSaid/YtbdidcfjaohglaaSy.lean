/- Systems: measured, copied, compared, marked; what is on a way; what is printed. -/
import Derived.Test.YtbdidcfjaohglaaSSt
import Derived.Test.YtbdidcfjaohglaaOp2
namespace Go.Proofs.Ytbdidcfjaohglaa.VM
open Go Go.Proofs
set_option linter.unusedSimpArgs false
set_option linter.unusedVariables false
set_option maxRecDepth 100000
set_option maxHeartbeats 10000000
@[simp] theorem itUp_take (k : Int) (n : Nat) : (itUp k n).take n = itUp k n := List.take_of_length_le (by simp)
theorem ros_map {α : Type} {f g : α → T} (h : ∀ x, (f x).ro = g x) : ∀ l : List α, ros (l.map f) = l.map g
  | [] => rfl
  | x :: l => by rw [List.map_cons, ros, h, ros_map h l]; rfl
theorem ro_s (e : TypeId) (n : Nat) (xs : List T) : (T.s e n xs).ro = .r e n (ros xs) := by rw [T.ro]
theorem ro_r (e : TypeId) (n : Nat) (xs : List T) : (T.r e n xs).ro = .r e n xs := by rw [T.ro]
@[simp] theorem ros_sIns (e : TypeId) (l : List (List Ins)) : ros (l.map (sIns e)) = l.map (rIns e) := ros_map (fun x => by rw [sIns, ro_s, insT_ros]; rfl) l
@[simp] theorem ros_rIns (e : TypeId) (l : List (List Ins)) : ros (l.map (rIns e)) = l.map (rIns e) := ros_map (fun x => by rw [rIns, ro_r]) l
@[simp] theorem ros_sItem (e : TypeId) (l : List (List Itm)) : ros (l.map (sItem e)) = l.map (rItem e) := ros_map (fun x => by rw [sItem, ro_s, itT_ros]; rfl) l
@[simp] theorem ros_rItem (e : TypeId) (l : List (List Itm)) : ros (l.map (rItem e)) = l.map (rItem e) := ros_map (fun x => by rw [rItem, ro_r]) l
@[simp] theorem ros_sEvent (e : TypeId) (l : List (List Ev)) : ros (l.map (sEvent e)) = l.map (rEvent e) := ros_map (fun x => by rw [sEvent, ro_s, evT_ros]; rfl) l
@[simp] theorem ros_rEvent (e : TypeId) (l : List (List Ev)) : ros (l.map (rEvent e)) = l.map (rEvent e) := ros_map (fun x => by rw [rEvent, ro_r]) l
theorem ros_fm {α : Type} {f g : α → List T} (h : ∀ x, ros (f x) = g x) : ∀ l : List α, ros (l.flatMap f) = l.flatMap g
  | [] => rfl
  | x :: l => by rw [List.flatMap_cons, ros_app, h, ros_fm h l]; rfl
@[simp] theorem ros_ssT (l : List Sta) : ros (ssT l) = stT l := ros_fm (fun x => by
  show ros [T.v _, .s _ _ _, .s _ _ _, .v _] = [T.v _, .r _ _ _, .r _ _ _, .v _]
  simp only [ros, ro_s, ros_ints]
  rfl) l
@[simp] theorem ros_stT (l : List Sta) : ros (stT l) = stT l := ros_fm (fun x => by
  show ros [T.v _, .r _ _ _, .r _ _ _, .v _] = [T.v _, .r _ _ _, .r _ _ _, .v _]
  simp only [ros, ro_r]
  rfl) l
def syL (s : Sy) : List T := [.r 48 s.progs.length (s.progs.map (rIns 112)), .r 50 s.states.length (stT s.states), .r 130 s.ways.length (s.ways.map (rItem 146)), .r 74 s.hist.length (s.hist.map (rEvent 52))]
def syR (s : Sy) : List T := [.r 58 s.progs.length (s.progs.map (rIns 110)), .r 55 s.states.length (stT s.states), .r 43 s.ways.length (s.ways.map (rItem 106)), .r 77 s.hist.length (s.hist.map (rEvent 61))]
def syS (s : Sy) : List T := [.s 58 s.progs.length (s.progs.map (sIns 110)), .s 55 s.states.length (ssT s.states), .s 43 s.ways.length (s.ways.map (sItem 106)), .s 77 s.hist.length (s.hist.map (sEvent 61))]
theorem tSyL_eq (s : Sy) : tSyL s = syL s := rfl
structure Small (s : Sy) : Prop where
  progs : s.progs.length ≤ 1048576
  progsT : tot s.progs ≤ 1048576
  states : s.states.length ≤ 1048576
  statesT : tot (s.states.map nums) ≤ 1048576
  ways : s.ways.length ≤ 1048576
  waysT : tot s.ways ≤ 1048576
  hist : s.hist.length ≤ 1048576
  histT : tot s.hist ≤ 1048576
theorem Small.sta {s : Sy} (h : Small s) : ∀ x ∈ s.states, x.regs.length ≤ 1048576 ∧ x.out.length ≤ 1048576 := fun x hx => by
  obtain ⟨i, hi, rfl⟩ := List.getElem_of_mem hx
  have h1 := totS_len hi
  have h2 := h.statesT
  omega
theorem run_szSys {j : Nat} (hj : big ≤ j) (s : Sy) (hs : syOk s) : ∃ r : Int, M.run (j + 4) 9 [.agg (syL s), .c (.v (.int .i64 1048576))] = some ([.c (.v (.int .i64 r))], [.agg (syL s), .c (.v (.int .i64 1048576))]) ∧ (r < 0 ∨ (¬ r < 0 ∧ Small s)) := by
  obtain ⟨hp, hst, hw, hh⟩ := hs
  obtain ⟨r1, e1, k1⟩ := run_szInsSS (j := j + 1) (by omega) s.progs 1048576 (by omega) hp.2 (fun x hx => (hp.1 x hx).2)
  by_cases h1 : r1 < 0
  · refine ⟨-1, ?_, .inl (by omega)⟩
    rw [m_run (fn := Try.f9) (i0 := 0) rfl Try.func9 rfl rfl (by simp [syL])]
    simp -implicitDefEqProofs [syL, own1, e1, h1]
  have k1 := k1.resolve_left (by omega)
  obtain ⟨r2, e2, k2⟩ := run_szStateS (j := j) hj s.states r1 (by omega) hst.2 (fun x hx => ⟨(hst.1 x hx).2.1.2, (hst.1 x hx).2.2.1.2⟩)
  by_cases h2 : r2 < 0
  · refine ⟨-1, ?_, .inl (by omega)⟩
    rw [m_run (fn := Try.f9) (i0 := 0) rfl Try.func9 rfl rfl (by simp [syL])]
    simp -implicitDefEqProofs [syL, own1, e1, h1, e2, h2]
  have k2 := k2.resolve_left (by omega)
  obtain ⟨r3, e3, k3⟩ := run_szItemSS (j := j + 1) (by omega) s.ways r2 (by omega) hw.2 (fun x hx => (hw.1 x hx).2)
  by_cases h3 : r3 < 0
  · refine ⟨-1, ?_, .inl (by omega)⟩
    rw [m_run (fn := Try.f9) (i0 := 0) rfl Try.func9 rfl rfl (by simp [syL])]
    simp -implicitDefEqProofs [syL, own1, e1, h1, e2, h2, e3, h3]
  have k3 := k3.resolve_left (by omega)
  obtain ⟨r4, e4, k4⟩ := run_szEventSS (j := j + 1) (by omega) s.hist r3 (by omega) hh.2 (fun x hx => (hh.1 x hx).2)
  by_cases h4 : r4 < 0
  · refine ⟨-1, ?_, .inl (by omega)⟩
    rw [m_run (fn := Try.f9) (i0 := 0) rfl Try.func9 rfl rfl (by simp [syL])]
    simp -implicitDefEqProofs [syL, own1, e1, h1, e2, h2, e3, h3, e4, h4]
  have k4 := k4.resolve_left (by omega)
  refine ⟨r4, ?_, .inr ⟨h4, ⟨by omega, by omega, by omega, by omega, by omega, by omega, by omega, by omega⟩⟩⟩
  rw [m_run (fn := Try.f9) (i0 := 0) rfl Try.func9 rfl rfl (by simp [syL])]
  simp -implicitDefEqProofs [syL, own1, e1, h1, e2, h2, e3, h3, e4, h4]
theorem run_toSys {j : Nat} (hj : big ≤ j) (s : Sy) (h : Small s) : M.run (j + 4) 11 [.agg (syL s)] = some ([.agg (syS s)], [.agg (syL s)]) := by
  have b1 := h.progs
  have b2 := h.progsT
  have b3 := h.ways
  have b4 := h.waysT
  have b5 := h.hist
  have b6 := h.histT
  have e1 := run_toInsSS (j := j) hj s.progs b1 (fun x hx => by have := tot_len s.progs x hx; omega)
  have e2 := run_toStateS (j := j) hj s.states h.states h.sta
  have e3 := run_toItemSS (j := j) hj s.ways b3 (fun x hx => by have := tot_len s.ways x hx; omega)
  have e4 := run_toEventSS (j := j) hj s.hist b5 (fun x hx => by have := tot_len s.hist x hx; omega)
  rw [m_run (fn := Try.f11) (i0 := 0) rfl Try.func11 rfl rfl (by simp [syL])]
  simp -implicitDefEqProofs [syL, syS, own1, e1, e2, e3, e4]
theorem run_eqSys {j : Nat} (hj : big ≤ j) (s : Sy) (h : Small s) : M.run (j + 4) 14 [.agg (syR s), .agg (syR s)] = some ([.c (.v (.bool true))], [.agg (syR s), .agg (syR s)]) := by
  have b1 := h.progs
  have b2 := h.progsT
  have b3 := h.ways
  have b4 := h.waysT
  have b5 := h.hist
  have b6 := h.histT
  have e1 := run_eqInsSS (j := j) hj s.progs b1 (fun x hx => by have := tot_len s.progs x hx; omega)
  have e2 := run_eqStateS (j := j) hj s.states h.states h.sta
  have e3 := run_eqItemSS (j := j) hj s.ways b3 (fun x hx => by have := tot_len s.ways x hx; omega)
  have e4 := run_eqEventSS (j := j) hj s.hist b5 (fun x hx => by have := tot_len s.hist x hx; omega)
  rw [m_run (fn := Try.f14) (i0 := 0) rfl Try.func14 rfl rfl (by simp [syR])]
  simp -implicitDefEqProofs [syR, own1, e1, e2, e3, e4]
theorem run_markSys {j : Nat} (hj : big ≤ j) (s : Sy) (h : Small s) : ∃ (r : Int) (a b c d : List T), M.run (j + 3) 15 [.agg (syS s), .c (.v (.int .i64 1))] = some ([.c (.v (.int .i64 r))], [.agg [.s 58 s.progs.length a, .s 55 s.states.length b, .s 43 s.ways.length c, .s 77 s.hist.length d], .c (.v (.int .i64 1))]) ∧ ¬ r < 0 := by
  have b1 := h.progs
  have b2 := h.progsT
  have b3 := h.ways
  have b4 := h.waysT
  have b5 := h.hist
  have b6 := h.histT
  have b7 := h.states
  have b8 := h.statesT
  have e1 := run_markInsSS (j := j) hj s.progs 1 (by omega) b1
  have e2 := run_markStateS (j := j) hj s.states (1 + 5 * (tot s.progs : Nat)) b7 (by omega)
  have e3 := run_markItemSS (j := j) hj s.ways (1 + 5 * (tot s.progs : Nat) + 2 * s.states.length + (tot (s.states.map nums) : Nat)) (by omega) b3
  have e4 := run_markEventSS (j := j) hj s.hist (1 + 5 * (tot s.progs : Nat) + 2 * s.states.length + (tot (s.states.map nums) : Nat) + 2 * (tot s.ways : Nat)) (by omega) b5
  have l1 := mkIns_len 1 s.progs s.progs.length
  have l2 := mkSt_len (1 + 5 * (tot s.progs : Nat)) s.states s.states.length
  have l3 := mkItem_len (1 + 5 * (tot s.progs : Nat) + 2 * s.states.length + (tot (s.states.map nums) : Nat)) s.ways s.ways.length
  have l4 := mkEvent_len (1 + 5 * (tot s.progs : Nat) + 2 * s.states.length + (tot (s.states.map nums) : Nat) + 2 * (tot s.ways : Nat)) s.hist s.hist.length
  refine ⟨1 + 5 * (tot s.progs : Nat) + 2 * s.states.length + (tot (s.states.map nums) : Nat) + 2 * (tot s.ways : Nat) + 3 * (tot s.hist : Nat), (mkIns 1 s.progs s.progs.length).2, (mkSt (1 + 5 * (tot s.progs : Nat)) s.states s.states.length).2, (mkItem (1 + 5 * (tot s.progs : Nat) + 2 * s.states.length + (tot (s.states.map nums) : Nat)) s.ways s.ways.length).2, (mkEvent (1 + 5 * (tot s.progs : Nat) + 2 * s.states.length + (tot (s.states.map nums) : Nat) + 2 * (tot s.ways : Nat)) s.hist s.hist.length).2, ?_, by omega⟩
  rw [m_run (fn := Try.f15) (i0 := 0) rfl Try.func15 rfl rfl (by simp [syS])]
  simp -implicitDefEqProofs [syS, own1, e1, e2, e3, e4, l1, l2, l3, l4]
/-! ### what is printed -/
def printedF (s : Sy) (p : Int) : List Int := if inB p 0 ((s.states.length : Int) - 1) = true then ((s.states[p.toNat]?).map (·.out)).getD [] else []
theorem inB_nat {k : Int} {n : Nat} (h : inB k 0 ((n : Int) - 1) = true) : ∃ m : Nat, k = m ∧ m < n := by
  have := inB_le h
  exact ⟨k.toNat, by omega, by omega⟩
theorem run_specPrinted {j : Nat} (s : Sy) (h : Small s) (p : Int) : M.run (j + 2) 10 [.agg (syR s), .c (.v (.int .i64 p))] = some ([.c (.s 3 (printedF s p).length (ints (printedF s p)))], [.agg (syR s), .c (.v (.int .i64 p))]) := by
  have b7 := h.states
  rw [m_run (fn := Try.f10) (i0 := 0) rfl Try.func10 rfl rfl (by simp [syR])]
  unfold printedF
  cases hq : inB p 0 ((s.states.length : Int) - 1)
  · simp -implicitDefEqProofs [syR, own1, run61, w64 (x := (s.states.length : Int) - 1) (by omega), hq]
  · obtain ⟨m, rfl, hm⟩ := inB_nat hq
    have hb := (h.sta _ (List.getElem_mem hm)).2
    simp -implicitDefEqProofs [syR, own1, run61, w64 (x := (s.states.length : Int) - 1) (by omega), hq, hm, stT_2 hm, le_most hb]
theorem run_implPrinted {j : Nat} (s : Sy) (h : Small s) (p : Int) : M.run (j + 2) 12 [.agg (syR s), .c (.v (.int .i64 p))] = some ([.c (.s 3 (printedF s p).length (ints (printedF s p)))], [.agg (syR s), .c (.v (.int .i64 p))]) := by
  have b7 := h.states
  rw [m_run (fn := Try.f12) (i0 := 0) rfl Try.func12 rfl rfl (by simp [syR])]
  unfold printedF
  cases hq : inB p 0 ((s.states.length : Int) - 1)
  · simp -implicitDefEqProofs [syR, own1, run64, w64 (x := (s.states.length : Int) - 1) (by omega), hq]
  · obtain ⟨m, rfl, hm⟩ := inB_nat hq
    have hb := (h.sta _ (List.getElem_mem hm)).2
    simp -implicitDefEqProofs [syR, own1, run64, w64 (x := (s.states.length : Int) - 1) (by omega), hq, hm, stT_2 hm, run_clone _ hb]
theorem printedF_len (s : Sy) (h : Small s) (p : Int) : (printedF s p).length ≤ 1048576 := by
  unfold printedF
  split
  · cases hq : s.states[p.toNat]? with
    | none => simp
    | some x => exact (h.sta x (List.mem_of_getElem? hq)).2
  · simp
theorem run_FnExactPrinted {j : Nat} (hj : big ≤ j) (s : Sy) (hs : syOk s) (p : Int) : M.run (j + 5) 3 [.agg (syL s), .c (.v (.int .i64 p))] = some ([.c (.v (.bool true))], [.agg (syL s), .c (.v (.int .i64 p))]) := by
  obtain ⟨r, e1, k1⟩ := run_szSys hj s hs
  by_cases h1 : r < 0
  · rw [m_run (fn := Try.f3) (i0 := 0) rfl Try.func3 rfl rfl (by simp [syL])]
    simp only [syL] at e1 ⊢
    simp -implicitDefEqProofs [own1, e1, h1]
  · have h := (k1.resolve_left h1).2
    have hl := printedF_len s h p
    have e2 := run_toSys hj s h
    have e3 := run_specPrinted (j := j + 2) s h p
    have e4 := run_implPrinted (j := j + 2) s h p
    have e5 := run34 (j := j + 3) (by omega) (printedF s p) (by omega)
    have e6 := run_eqSys hj s h
    obtain ⟨r2, a, b, c, d, e7, k7⟩ := run_markSys (j := j + 1) (by omega) s h
    have e8 := run37 (j := j + 3) (by omega) (printedF s p) 1 (by omega)
    have e9 := run38 (j := j + 3) (by omega) (printedF s p).length 1 (by omega)
    generalize printedF s p = D at *
    rw [m_run (fn := Try.f3) (i0 := 0) rfl Try.func3 rfl rfl (by simp [syL])]
    have n2 : ¬ (1 + (D.length : Int) < 0) := by omega
    simp only [syL, syR, syS] at e1 e2 e3 e4 e6 e7 ⊢
    try simp -implicitDefEqProofs at e8
    try simp -implicitDefEqProofs at e9
    simp -implicitDefEqProofs (maxSteps := 10000000) [own1, e1, e2, e3, e4, e5, e6, e7, e8, e9, h1, k7, n2]
/-! ### what is on a way -/
def wayF (s : Sy) (a b : Int) : List Itm := if inB a 0 ((s.progs.length : Int) - 1) = true ∧ inB b 0 ((s.progs.length : Int) - 1) = true ∧ a * s.progs.length + b < s.ways.length then (s.ways[(a * s.progs.length + b).toNat]?).getD [] else []
def wayI (s : Sy) (a b : Int) : Int := if inB a 0 ((s.progs.length : Int) - 1) = true ∧ inB b 0 ((s.progs.length : Int) - 1) = true ∧ a * s.progs.length + b < s.ways.length then a * s.progs.length + b else -1
theorem mul_le20 {a n : Nat} (ha : a ≤ 1048576) (hn : n ≤ 1048576) : (a : Int) * (n : Int) ≤ 1099511627776 ∧ 0 ≤ (a : Int) * (n : Int) := by
  have := Nat.mul_le_mul ha hn
  have h2 : ((a * n : Nat) : Int) = (a : Int) * (n : Int) := by simp
  omega
theorem run_wayAt {j : Nat} (s : Sy) (h : Small s) (a b : Int) : M.run (j + 2) 69 [.agg (syR s), .c (.v (.int .i64 a)), .c (.v (.int .i64 b))] = some ([.c (.v (.int .i64 (wayI s a b)))], [.agg (syR s), .c (.v (.int .i64 a)), .c (.v (.int .i64 b))]) := by
  have b1 := h.progs
  rw [m_run (fn := Try.f69) (i0 := 0) rfl Try.func69 rfl rfl (by simp [syR])]
  unfold wayI
  have hw := w64 (x := (s.progs.length : Int) - 1) (by omega)
  cases ha : inB a 0 ((s.progs.length : Int) - 1)
  · simp -implicitDefEqProofs [syR, own1, run64, hw, ha]
  cases hb : inB b 0 ((s.progs.length : Int) - 1)
  · simp -implicitDefEqProofs [syR, own1, run64, hw, ha, hb]
  obtain ⟨ka, rfl, la⟩ := inB_nat ha
  obtain ⟨kb, rfl, lb⟩ := inB_nat hb
  have hm := mul_le20 (a := ka) (n := s.progs.length) (by omega) b1
  have w1 := w64 (x := (ka : Int) * (s.progs.length : Int)) (by omega)
  have w2 := w64 (x := (ka : Int) * (s.progs.length : Int) + kb) (by omega)
  by_cases hc : (ka : Int) * (s.progs.length : Int) + kb < s.ways.length
  · simp -implicitDefEqProofs [syR, own1, run64, hw, ha, hb, w1, w2, hc, show ¬ (s.ways.length : Int) ≤ (ka : Int) * (s.progs.length : Int) + kb by omega]
  · simp -implicitDefEqProofs [syR, own1, run64, hw, ha, hb, w1, w2, hc, show (s.ways.length : Int) ≤ (ka : Int) * (s.progs.length : Int) + kb by omega]
theorem rItem_at {l : List (List Itm)} {e : TypeId} {m : Nat} (hm : m < l.length) : (l.map (rItem e))[m]? = some (.r e l[m].length (itT l[m])) := by
  rw [List.getElem?_map, List.getElem?_eq_getElem hm]
  rfl
theorem run_cloneItem {j : Nat} (xs : List Itm) (hx : xs.length ≤ 1048576) : M.run (j + 1) 70 [.c (.r 106 xs.length (itT xs))] = some ([.c (.s 106 xs.length (itT xs))], [.c (.r 106 xs.length (itT xs))]) :=
  show cloneG 106 _ = _ from cloneG_eq (itT_v xs) (by rw [itT_len]; unfold most; omega)
theorem way_cases (s : Sy) (h : Small s) (a b : Int) : (wayF s a b = [] ∧ wayI s a b = -1) ∨ (∃ m : Nat, ∃ hm : m < s.ways.length, wayF s a b = s.ways[m] ∧ wayI s a b = m) := by
  unfold wayF wayI
  split
  · rename_i hc
    obtain ⟨ha, hb, hc⟩ := hc
    obtain ⟨ka, rfl, la⟩ := inB_nat ha
    obtain ⟨kb, rfl, lb⟩ := inB_nat hb
    have hm := mul_le20 (a := ka) (n := s.progs.length) (by have := h.progs; omega) h.progs
    refine .inr ⟨((ka : Int) * (s.progs.length : Int) + kb).toNat, by omega, ?_, by omega⟩
    rw [List.getElem?_eq_getElem (by omega)]
    rfl
  · exact .inl ⟨rfl, rfl⟩
theorem run_implWayOf {j : Nat} (s : Sy) (h : Small s) (a b : Int) : M.run (j + 3) 19 [.agg (syR s), .c (.v (.int .i64 a)), .c (.v (.int .i64 b))] = some ([.c (.s 106 (wayF s a b).length (itT (wayF s a b)))], [.agg (syR s), .c (.v (.int .i64 a)), .c (.v (.int .i64 b))]) := by
  have e1 := run_wayAt (j := j) s h a b
  rw [m_run (fn := Try.f19) (i0 := 0) rfl Try.func19 rfl rfl (by simp [syR])]
  rcases way_cases s h a b with ⟨h1, h2⟩ | ⟨m, hm, h1, h2⟩
  · rw [h2] at e1
    rw [h1]
    simp only [syR] at e1 ⊢
    simp -implicitDefEqProofs [own1, e1, itT]
  · rw [h2] at e1
    rw [h1]
    have hb : s.ways[m].length ≤ 1048576 := by have := len_tot hm; have := h.waysT; omega
    have e2 := run_cloneItem (j := j + 1) s.ways[m] hb
    simp only [syR] at e1 ⊢
    simp -implicitDefEqProofs [own1, e1, hm, rItem, e2, show ¬ ((m : Int) < 0) by omega]
theorem run_specWayOf {j : Nat} (s : Sy) (h : Small s) (a b : Int) : M.run (j + 3) 18 [.agg (syR s), .c (.v (.int .i64 a)), .c (.v (.int .i64 b))] = some ([.c (.s 106 (wayF s a b).length (itT (wayF s a b)))], [.agg (syR s), .c (.v (.int .i64 a)), .c (.v (.int .i64 b))]) := by
  have b1 := h.progs
  have hw := w64 (x := (s.progs.length : Int) - 1) (by omega)
  rw [m_run (fn := Try.f18) (i0 := 0) rfl Try.func18 rfl rfl (by simp [syR])]
  cases ha : inB a 0 ((s.progs.length : Int) - 1)
  · rw [show wayF s a b = [] by simp [wayF, ha]]
    simp -implicitDefEqProofs [syR, own1, run61, hw, ha, itT]
  cases hb : inB b 0 ((s.progs.length : Int) - 1)
  · rw [show wayF s a b = [] by simp [wayF, hb]]
    simp -implicitDefEqProofs [syR, own1, run61, hw, ha, hb, itT]
  obtain ⟨ka, rfl, la⟩ := inB_nat ha
  obtain ⟨kb, rfl, lb⟩ := inB_nat hb
  have hm := mul_le20 (a := ka) (n := s.progs.length) (by omega) b1
  have w1 := w64 (x := (ka : Int) * (s.progs.length : Int)) (by omega)
  have w2 := w64 (x := (ka : Int) * (s.progs.length : Int) + kb) (by omega)
  by_cases hc : (ka : Int) * (s.progs.length : Int) + kb < s.ways.length
  · obtain ⟨m, hm'⟩ : ∃ m : Nat, (ka : Int) * (s.progs.length : Int) + kb = m := ⟨((ka : Int) * (s.progs.length : Int) + kb).toNat, by omega⟩
    have hml : m < s.ways.length := by omega
    rw [show wayF s ka kb = s.ways[m] by
      unfold wayF
      rw [if_pos ⟨ha, hb, hc⟩, hm', Int.toNat_natCast, List.getElem?_eq_getElem hml]
      rfl]
    rw [hm'] at w2
    have hbl : s.ways[m].length * 2 ≤ most := by have := len_tot hml; have := h.waysT; unfold most; omega
    simp -implicitDefEqProofs [syR, own1, run61, hw, ha, hb, w1, hm', w2, hml, show ¬ (s.ways.length : Int) ≤ (m : Int) by omega, rItem, hbl]
  · rw [show wayF s ka kb = [] by simp [wayF, hc]]
    simp -implicitDefEqProofs [syR, own1, run61, hw, ha, hb, w1, w2, show (s.ways.length : Int) ≤ (ka : Int) * (s.progs.length : Int) + kb by omega, itT]
theorem wayF_len (s : Sy) (h : Small s) (a b : Int) : (wayF s a b).length ≤ 1048576 := by
  rcases way_cases s h a b with ⟨h1, _⟩ | ⟨m, hm, h1, _⟩ <;> rw [h1]
  · simp
  · have := len_tot hm
    have := h.waysT
    omega
theorem run_FnExactWayOf {j : Nat} (hj : big ≤ j) (s : Sy) (hs : syOk s) (a b : Int) : M.run (j + 5) 4 [.agg (syL s), .c (.v (.int .i64 a)), .c (.v (.int .i64 b))] = some ([.c (.v (.bool true))], [.agg (syL s), .c (.v (.int .i64 a)), .c (.v (.int .i64 b))]) := by
  obtain ⟨r, e1, k1⟩ := run_szSys hj s hs
  by_cases h1 : r < 0
  · rw [m_run (fn := Try.f4) (i0 := 0) rfl Try.func4 rfl rfl (by simp [syL])]
    simp only [syL] at e1 ⊢
    simp -implicitDefEqProofs [own1, e1, h1]
  · have h := (k1.resolve_left h1).2
    have hl := wayF_len s h a b
    have e2 := run_toSys hj s h
    have e3 := run_specWayOf (j := j + 1) s h a b
    have e4 := run_implWayOf (j := j + 1) s h a b
    have e5 := run_eqItemS (j := j + 2) (by omega) (wayF s a b) (by omega)
    have e6 := run_eqSys hj s h
    obtain ⟨r2, x, y, z, u, e7, k7⟩ := run_markSys (j := j + 1) (by omega) s h
    have e8 := run_markItemS (j := j + 3) (by omega) (wayF s a b) 1 (by omega)
    have e9 := run_heldItemS (j := j + 3) (by omega) (wayF s a b).length 1 (by omega)
    generalize wayF s a b = D at *
    rw [m_run (fn := Try.f4) (i0 := 0) rfl Try.func4 rfl rfl (by simp [syL])]
    have n2 : ¬ (1 + 2 * (D.length : Int) < 0) := by omega
    simp only [syL, syR, syS] at e1 e2 e3 e4 e6 e7 ⊢
    try simp -implicitDefEqProofs at e8
    try simp -implicitDefEqProofs at e9
    simp -implicitDefEqProofs (maxSteps := 10000000) [own1, e1, e2, e3, e4, e5, e6, e7, e8, e9, h1, k7, n2]
theorem law_FnExactPrinted (s : Sy) (p : Int) (hs : syOk s) (_ : i64 p) : ∃ k xs, M.run k 3 [.agg (tSyL s), .c (.v (.int .i64 p))] = some ([.c (.v (.bool true))], xs) :=
  ⟨big + 5, _, run_FnExactPrinted (Nat.le_refl _) s hs p⟩
theorem law_FnExactWayOf (s : Sy) (a b : Int) (hs : syOk s) (_ : i64 a) (_ : i64 b) : ∃ k xs, M.run k 4 [.agg (tSyL s), .c (.v (.int .i64 a)), .c (.v (.int .i64 b))] = some ([.c (.v (.bool true))], xs) :=
  ⟨big + 5, _, run_FnExactWayOf (Nat.le_refl _) s hs a b⟩
end Go.Proofs.Ytbdidcfjaohglaa.VM
