/- Draws of systems: sizes; reckoned. -/
import Derived.Test.YtninncdacekfgaaGreatK33s
set_option linter.unusedSimpArgs false
set_option linter.unusedVariables false
set_option maxRecDepth 100000
set_option maxHeartbeats 40000000
namespace Go.Proofs.YtninncdacekfgaaGreat.VM
open Go Go.Proofs
structure Tiny (s : Sy) : Prop where
 n4 : s.progs.length ≤ 4
 st : s.states.length ≤ 4
 wa : s.ways.length ≤ 16
 hi : s.hist.length ≤ 4
 pr : ∀ x ∈ s.progs, x.length ≤ 100
 ss : ∀ x ∈ s.states, (nums x).length ≤ 64
 wy : ∀ x ∈ s.ways, x.length ≤ 13
 ev : ∀ x ∈ s.hist, x.length ≤ 201
theorem Tiny.small {s : Sy} (h : Tiny s) : Small s := by
 have p1 := tot_bound h.pr
 have p2 : tot (s.states.map nums) ≤ 64 * (s.states.map nums).length := tot_bound fun x hx => by
  obtain ⟨y, hy, rfl⟩ := List.mem_map.1 hx
  exact h.ss y hy
 have p3 := tot_bound h.wy
 have p4 := tot_bound h.ev
 have n4 := h.n4
 have st := h.st
 have wa := h.wa
 have hi := h.hi
 rw [List.length_map] at p2
 exact ⟨by omega, by omega, by omega, by omega, by omega, by omega, by omega, by omega⟩
theorem Right.way12 {s : Sy} (R : Right s) : ∀ x ∈ s.ways, x.length ≤ 12 := fun x hx => by
 have h1 : s.ways.all wayB = true := (all_ways R.wa).2 R.way
 have := List.all_eq_true.1 h1 x hx
 unfold wayB at this
 simp only [Bool.and_eq_true, decide_eq_true_eq] at this
 exact this.1
theorem Right.hist200 {s : Sy} (R : Right s) : ∀ x ∈ s.hist, x.length ≤ 200 := fun x hx => by
 have hh := R.hi
 obtain ⟨i, hi, rfl⟩ := List.getElem_of_mem hx
 have := (R.pr (p := i) (by omega)).len
 rw [rowH_of hi] at this
 exact this
theorem Right.sta4 {s : Sy} (R : Right s) : ∀ x ∈ s.states, x.regs.length = 4 ∧ (nums x).length ≤ 64 := fun x hx => by
 have hs := R.st
 obtain ⟨i, hi, rfl⟩ := List.getElem_of_mem hx
 have P := (R.pr (p := i) (by omega)).rok
 unfold stOf at P
 rw [List.getElem?_eq_getElem hi] at P
 have := P.regs
 have := P.out
 rw [nums_len]
 simp at *
 omega
theorem Right.tiny {s : Sy} (R : Right s) : Tiny s := by
 have n4 := R.n4
 have hh := R.hi
 have hs := R.st
 have hw := R.wa
 have nn : s.progs.length * s.progs.length ≤ 16 := Nat.mul_le_mul n4 n4
 refine ⟨n4, by omega, by omega, by omega, fun x hx => ?_, fun x hx => (R.sta4 x hx).2, fun x hx => by have := R.way12 x hx; omega, fun x hx => by have := R.hist200 x hx; omega⟩
 obtain ⟨i, hi, rfl⟩ := List.getElem_of_mem hx
 have := (R.pr hi).pr
 unfold progB progOf at this
 rw [List.getElem?_eq_getElem hi] at this
 simp only [Bool.and_eq_true] at this
 have := inB_le this.1
 simp at this
 omega
theorem zSy_tiny : Tiny zSy := by refine ⟨?_, ?_, ?_, ?_, ?_, ?_, ?_, ?_⟩ <;> simp [zSy]
theorem all_set {α : Type} {p : α → Prop} {l : List α} (h : ∀ x ∈ l, p x) {i : Nat} {y : α} (hy : p y) : ∀ x ∈ l.set i y, p x := fun x hx => by
 rcases List.mem_or_eq_of_mem_set hx with hx | rfl
 ·exact h x hx
 ·exact hy
def reg1 (s : Sta) : Sta := ⟨s.at_, s.regs.set 1 5, s.out, s.code⟩
theorem ssT_reg {l : List Sta} {i : Nat} (hi : i < l.length) : (ssT l).set (i * 4 + 1) (.s 3 l[i].regs.length ((ints l[i].regs).set 1 (.v (.int .i64 5)))) = ssT (l.set i (reg1 l[i])) := by
 have e1 : ((ints l[i].regs).set 1 (.v (.int .i64 5))) = ints (l[i].regs.set 1 5) := by unfold ints; rw [List.map_set]
 rw [e1]
 apply List.ext_getElem?
 intro k
 have hr : (ssT (l.set i (reg1 l[i])))[i * 4 + 1]? = some (.s 3 l[i].regs.length (ints (l[i].regs.set 1 5))) := by
  have h2 : i < (l.set i (reg1 l[i])).length := by rw [List.length_set]; exact hi
  have := fm_get (tr := sSta) sSta_len (xs := l.set i (reg1 l[i])) (i := i) (o := 1) h2 (by omega)
  rw [List.getElem_set_self] at this
  have h3 : (sSta (reg1 l[i]))[1]? = some (.s 3 l[i].regs.length (ints (l[i].regs.set 1 5))) := by
   simp only [sSta, stS, reg1, List.length_set]
   rfl
  rw [h3] at this
  exact this
 rw [List.getElem?_set]
 by_cases e : i * 4 + 1 = k
 ·subst e
  rw [if_pos rfl, if_pos (by rw [ssT_len]; omega), hr]
 ·rw [if_neg e]
  rcases Nat.lt_or_ge k (l.length * 4) with hk | hk
  ·obtain ⟨m, o, rfl, ho⟩ : ∃ m o, k = m * 4 + o ∧ o < 4 := ⟨k / 4, k % 4, by omega, by omega⟩
   have hm : m < l.length := by omega
   have hm2 : m < (l.set i (reg1 l[i])).length := by rw [List.length_set]; exact hm
   have g1 := fm_get (tr := sSta) sSta_len (xs := l) (i := m) (o := o) hm ho
   have g2 := fm_get (tr := sSta) sSta_len (xs := l.set i (reg1 l[i])) (i := m) (o := o) hm2 ho
   rw [show (ssT l)[m * 4 + o]? = _ from g1, show (ssT (l.set i (reg1 l[i])))[m * 4 + o]? = _ from g2]
   by_cases em : i = m
   ·subst em
    rw [List.getElem_set_self]
    have : o = 0 ∨ o = 2 ∨ o = 3 := by omega
    rcases this with rfl | rfl | rfl <;> rfl
   ·rw [List.getElem_set_ne em]
  ·rw [List.getElem?_eq_none (by rw [ssT_len]; exact hk), List.getElem?_eq_none (by rw [ssT_len, List.length_set]; exact hk)]
theorem itS_set2 {l : List (List Itm)} {e : TypeId} {m : Nat} (r : List Itm) (b : Bool) (v : Int) : (l.map (sItem e)).set m (.s e (r.length + 1) (itT r ++ [.v (.bool b), .v (.int .i64 v)])) = (l.set m (r ++ [⟨b, v⟩])).map (sItem e) := by
 rw [List.map_set]
 congr 1
 simp [sItem, itT, tItem]
theorem itS_cons {l : List (List Itm)} {e : TypeId} {m : Nat} (r : List Itm) (b : Bool) (v : Int) : (l.map (sItem e)).set m (.s e (r.length + 1) (.v (.bool b) :: .v (.int .i64 v) :: itT r)) = (l.set m (⟨b, v⟩ :: r)).map (sItem e) := by
 rw [List.map_set]
 congr 1
theorem insS_set {l : List (List Ins)} {e : TypeId} {m : Nat} (r : List Ins) : (l.map (sIns e)).set m (.s e r.length (insT r)) = (l.set m r).map (sIns e) := by
 rw [List.map_set]
 congr 1
end Go.Proofs.YtninncdacekfgaaGreat.VM
namespace Go.Proofs.YtninncdacekfgaaGreat.VM
open Go Go.Proofs
theorem drawSysW_ex {bs : List Int} {i : Nat} {h : Int} (ok : CuOk ⟨bs, i, h⟩) (hb : bs.length ≤ 1048576) : ∃ (S : Sy) (i' : Nat) (h' : Int), CuOk ⟨bs, i', h'⟩ ∧ Tiny S ∧ ∀ j, big ≤ j ∧ j ≤ big + 890 → M.run (j + 12) 27 [curT bs i h, .c (.r 5 bs.length (octT bs))] = some ([.agg (syS S)], [curT bs i' h', .c (.r 5 bs.length (octT bs))]) := by
 obtain ⟨S, i1, h1, k1, d1, e1⟩ := drawRight_ex ok hb
 obtain ⟨n, hn⟩ : ∃ n : Nat, max (S.progs.length : Int) 1 = n := ⟨(max (S.progs.length : Int) 1).toNat, by omega⟩
 have n4 := d1.n4
 obtain ⟨p, i2, h2, k2, _, lp, e2⟩ := below_ex k1 n
 have lp := lp (by omega)
 have e0 : ∀ j, M.run (j + 1) 64 [.c (.v (.int .i64 S.progs.length)), .c (.v (.int .i64 1))] = some ([.c (.v (.int .i64 n))], [.c (.v (.int .i64 S.progs.length)), .c (.v (.int .i64 1))]) := fun j => by
  rw [run_maxN, hn]
 have w1 : ∀ l : List (List Ins), (l.map (sIns 105)).take l.length = l.map (sIns 105) := fun l => List.take_of_length_le (by simp)
 have w2 : ∀ l : List Sta, (ssT l).take (l.length * 4) = ssT l := fun l => List.take_of_length_le (by rw [ssT_len]; exact Nat.le_refl _)
 have w3 : ∀ l : List (List Itm), (l.map (sItem 99)).take l.length = l.map (sItem 99) := fun l => List.take_of_length_le (by simp)
 have w4 : ∀ l : List (List Ev), (l.map (sEvent 96)).take l.length = l.map (sEvent 96) := fun l => List.take_of_length_le (by simp)
 by_cases hz : S.progs.length = 0
 ·have hS : S = zSy := by
   rcases d1 with d1 | d1
   ·have := (right_iff.1 d1).n1
    omega
   ·exact d1
  refine ⟨S, i2, h2, k2, by rw [hS]; exact zSy_tiny, fun j hj => ?_⟩
  have e0 := e0 (j + 10)
  have e1 := e1 j hj
  have e2 := e2 (j + 9)
  rw [m_run (fn := Tryz.f27) (i0 := 0) rfl Tryz.func27 rfl rfl (by simp [curT])]
  simp only [curT, syS, hz, show ((0 : Nat) : Int) = 0 from rfl] at e0 e1 e2 ⊢
  simp -implicitDefEqProofs (maxSteps := 10000000) [own1, e0, e1, e2, hz, zBox, w1, w2, w3, w4, -List.map_take]
  exact List.eq_nil_of_length_eq_zero hz
 have R : Right S := by
  rcases d1 with d1 | d1
  ·exact right_iff.1 d1
  ·rw [d1] at hz
   exact absurd rfl hz
 obtain ⟨m, rfl⟩ : ∃ m : Nat, p = m := ⟨p.toNat, by omega⟩
 have hm : m < S.progs.length := by omega
 obtain ⟨v, i3, h3, k3, _, lv, e3⟩ := below_ex k2 25
 have lv := lv (by omega)
 have Ti := R.tiny
 have hms : m < S.states.length := by rw [R.st]; exact hm
 have hmh : m < S.hist.length := by rw [R.hi]; exact hm
 have hv : v = 0 ∨ v = 1 ∨ v = 2 ∨ v = 3 ∨ v = 4 ∨ v = 5 ∨ 6 ≤ v := by omega
 rcases hv with rfl | rfl | rfl | rfl | rfl | rfl | hv
 ·refine ⟨⟨S.progs, S.states.set m (reg1 S.states[m]), S.ways, S.hist⟩, i3, h3, k3, ⟨Ti.n4, by rw [List.length_set]; exact Ti.st, Ti.wa, Ti.hi, Ti.pr, all_set Ti.ss (by
   have := Ti.ss _ (List.getElem_mem hms)
   rw [nums_len] at this ⊢
   simp only [reg1, List.length_set]
   exact this), Ti.wy, Ti.ev⟩, fun j hj => ?_⟩
  have r4 := (R.sta4 _ (List.getElem_mem hms)).1
  have st1 := ssT_1 hms
  have st1g := gq st1
  have hset := ssT_reg hms
  rw [r4, show (ints S.states[m].regs).set 1 (.v (.int .i64 5)) = ints (S.states[m].regs.set 1 5) by unfold ints; rw [List.map_set]] at hset
  have tks : (ssT (S.states.set m (reg1 S.states[m]))).take (S.states.length * 4) = ssT (S.states.set m (reg1 S.states[m])) := List.take_of_length_le (by rw [ssT_len, List.length_set]; exact Nat.le_refl _)
  have e0 := e0 (j + 10)
  have e1 := e1 j hj
  have e2 := e2 (j + 9)
  have e3 := e3 (j + 9)
  rw [m_run (fn := Tryz.f27) (i0 := 0) rfl Tryz.func27 rfl rfl (by simp [curT])]
  simp only [curT, syS] at e0 e1 e2 e3 ⊢
  simp -implicitDefEqProofs (maxSteps := 10000000) [own1, e0, e1, e2, e3, hz, hm, hms, zBox, st1, st1g, r4, hset, tks, w1, w2, w3, w4, show m * 4 + 1 < S.states.length * 4 by omega, -List.map_take] <;> (repeat' apply And.intro) <;> first | exact List.take_of_length_le (by simp) | (congr 1; exact List.take_of_length_le (by simp)) | skip
 ·obtain ⟨a1, i4, h4, k4, _, _, e4⟩ := below_ex k3 5
  obtain ⟨a2, i5, h5, k5, _, _, e5⟩ := below_ex k4 3
  obtain ⟨a3, i6, h6, k6, _, _, e6⟩ := below_ex k5 4
  have hl := Ti.ev _ (List.getElem_mem hmh)
  refine ⟨⟨S.progs, S.states, S.ways, S.hist.set m (S.hist[m] ++ [⟨a1, a2, a3⟩])⟩, i6, h6, k6, ⟨Ti.n4, Ti.st, Ti.wa, by rw [List.length_set]; exact Ti.hi, Ti.pr, Ti.ss, Ti.wy, all_set Ti.ev (by
   have := R.hist200 _ (List.getElem_mem hmh)
   simp only [List.length_append, List.length_singleton]
   omega)⟩, fun j hj => ?_⟩
  have e0 := e0 (j + 10)
  have e1 := e1 j hj
  have e2 := e2 (j + 9)
  have e3 := e3 (j + 9)
  have e4 := e4 (j + 9)
  have e5 := e5 (j + 9)
  have e6 := e6 (j + 9)
  have lev' : S.hist[m].length * 3 + 3 ≤ most := by unfold most; omega
  have lev : (S.hist[m].length + 1) * 3 ≤ most := by unfold most; omega
  have mle : m + 1 ≤ S.hist.length := by omega
  have tke : ∀ a b c : T, (evT S.hist[m] ++ [a, b, c]).take ((S.hist[m].length + 1) * 3) = evT S.hist[m] ++ [a, b, c] := fun a b c => List.take_of_length_le (by simp; omega)
  have tkl : (S.hist[m].length + 1) * 3 ≤ S.hist[m].length * 3 + 3 := by omega
  have hset := evS_set (l := S.hist) (e := 96) (m := m) S.hist[m] ⟨a1, a2, a3⟩
  simp only at hset
  rw [m_run (fn := Tryz.f27) (i0 := 0) rfl Tryz.func27 rfl rfl (by simp [curT])]
  simp only [curT, syS] at e0 e1 e2 e3 e4 e5 e6 ⊢
  simp -implicitDefEqProofs (maxSteps := 10000000) [own1, e0, e1, e2, e3, e4, e5, e6, hz, hm, hms, hmh, zBox, sEvent_at hmh, sEvent, lev, lev', mle, tke, tkl, hset, w1, w2, w3, w4, -List.map_take] <;> (repeat' apply And.intro) <;> first | exact List.take_of_length_le (by simp) | (congr 1; exact List.take_of_length_le (by simp)) | skip
 ·have hw0 : 0 < S.ways.length := by
   rw [R.wa]
   exact Nat.mul_pos R.n1 R.n1
  obtain ⟨w, i4, h4, k4, _, lw, e4⟩ := below_ex k3 S.ways.length
  have lw := lw (by omega)
  obtain ⟨y, rfl⟩ : ∃ y : Nat, w = y := ⟨w.toNat, by omega⟩
  have hy : y < S.ways.length := by omega
  have hl := R.way12 _ (List.getElem_mem hy)
  obtain ⟨b, i5, h5, k5, e5⟩ := once_ex k4 2
  obtain ⟨x, i6, h6, k6, _, _, e6⟩ := below_ex k5 2
  refine ⟨⟨S.progs, S.states, S.ways.set y (S.ways[y] ++ [⟨b, x⟩]), S.hist⟩, i6, h6, k6, ⟨Ti.n4, Ti.st, by rw [List.length_set]; exact Ti.wa, Ti.hi, Ti.pr, Ti.ss, all_set Ti.wy (by
   simp only [List.length_append, List.length_singleton]
   omega), Ti.ev⟩, fun j hj => ?_⟩
  have e0 := e0 (j + 10)
  have e1 := e1 j hj
  have e2 := e2 (j + 9)
  have e3 := e3 (j + 9)
  have e4 := e4 (j + 9)
  have e5 := e5 (j + 8)
  have e6 := e6 (j + 9)
  have lit : S.ways[y].length * 2 + 2 ≤ most := by unfold most; omega
  have yle : y + 1 ≤ S.ways.length := by omega
  have tki : ∀ a b : T, (itT S.ways[y] ++ [a, b]).take ((S.ways[y].length + 1) * 2) = itT S.ways[y] ++ [a, b] := fun a b => List.take_of_length_le (by simp; omega)
  have tkj : (S.ways[y].length + 1) * 2 ≤ S.ways[y].length * 2 + 2 := by omega
  have hset2 := itS_set2 (l := S.ways) (e := 99) (m := y) S.ways[y] b x
  rw [m_run (fn := Tryz.f27) (i0 := 0) rfl Tryz.func27 rfl rfl (by simp [curT])]
  simp only [curT, syS] at e0 e1 e2 e3 e4 e5 e6 ⊢
  simp -implicitDefEqProofs (maxSteps := 10000000) [own1, e0, e1, e2, e3, e4, e5, e6, hz, hy, zBox, sItem_at hy, sItem, lit, yle, tki, tkj, hset2, w1, w2, w3, w4, -List.map_take] <;> (repeat' apply And.intro) <;> first | exact List.take_of_length_le (by simp) | (congr 1; exact List.take_of_length_le (by simp)) | skip
 ·have hw0 : 0 < S.ways.length := by
   rw [R.wa]
   exact Nat.mul_pos R.n1 R.n1
  obtain ⟨nw, hnw⟩ : ∃ nw, S.ways.length = nw + 1 := ⟨S.ways.length - 1, by omega⟩
  refine ⟨⟨S.progs, S.states, S.ways.tail, S.hist⟩, i3, h3, k3, ⟨Ti.n4, Ti.st, by rw [List.length_tail]; have := Ti.wa; omega, Ti.hi, Ti.pr, Ti.ss, fun x hx => Ti.wy x (List.mem_of_mem_tail hx), Ti.ev⟩, fun j hj => ?_⟩
  have e0 := e0 (j + 10)
  have e1 := e1 j hj
  have e2 := e2 (j + 9)
  have e3 := e3 (j + 9)
  have htl : ((S.ways.map (sItem 99)).drop 1).take nw = S.ways.tail.map (sItem 99) := by
   rw [show (S.ways.map (sItem 99)).drop 1 = S.ways.tail.map (sItem 99) by cases S.ways <;> rfl]
   exact List.take_of_length_le (by simp; omega)
  have htl2 : (S.ways.map (sItem 99)).tail = S.ways.tail.map (sItem 99) := by cases S.ways <;> rfl
  have hlt : S.ways.tail.length = nw := by rw [List.length_tail]; omega
  rw [m_run (fn := Tryz.f27) (i0 := 0) rfl Tryz.func27 rfl rfl (by simp [curT])]
  simp only [curT, syS] at e0 e1 e2 e3 ⊢
  simp only [hnw] at e1
  simp -implicitDefEqProofs (maxSteps := 10000000) [own1, e0, e1, e2, e3, hz, zBox, hnw, htl, hlt, htl2, show 1 + nw ≤ nw + 1 by omega, show max ((nw : Int) + 1) 0 = nw + 1 by omega, show (1 : Int) ≤ nw + 1 by omega, w1, w2, w3, w4, -List.map_take, -List.map_drop, -List.drop_one, -List.map_tail] <;> (repeat' apply And.intro) <;> first | exact List.take_of_length_le (by simp) | (congr 1; exact List.take_of_length_le (by simp)) | skip
 ·obtain ⟨l, i4, h4, k4, ⟨_, lp1, _⟩, e4⟩ := drawAny_ex k3
  refine ⟨⟨S.progs.set m l, S.states, S.ways, S.hist⟩, i4, h4, k4, ⟨by rw [List.length_set]; exact Ti.n4, Ti.st, Ti.wa, Ti.hi, all_set Ti.pr lp1, Ti.ss, Ti.wy, Ti.ev⟩, fun j hj => ?_⟩
  have e0 := e0 (j + 10)
  have e1 := e1 j hj
  have e2 := e2 (j + 9)
  have e3 := e3 (j + 9)
  have e4 := e4 (j + 5) (by omega)
  have t2 : (insT l).take (l.length * 5) = insT l := List.take_of_length_le (by simp)
  have hset := insS_set (l := S.progs) (e := 105) (m := m) l
  rw [m_run (fn := Tryz.f27) (i0 := 0) rfl Tryz.func27 rfl rfl (by simp [curT])]
  simp only [curT, syS] at e0 e1 e2 e3 e4 ⊢
  simp -implicitDefEqProofs (maxSteps := 10000000) [own1, e0, e1, e2, e3, e4, hz, hm, zBox, t2, hset, show m + 1 ≤ S.progs.length by omega, w1, w2, w3, w4, -List.map_take] <;> (repeat' apply And.intro) <;> first | exact List.take_of_length_le (by simp) | (congr 1; exact List.take_of_length_le (by simp)) | skip
 ·have hw0 : 0 < S.ways.length := by
   rw [R.wa]
   exact Nat.mul_pos R.n1 R.n1
  obtain ⟨w, i4, h4, k4, _, lw, e4⟩ := below_ex k3 S.ways.length
  have lw := lw (by omega)
  obtain ⟨y, rfl⟩ : ∃ y : Nat, w = y := ⟨w.toNat, by omega⟩
  have hy : y < S.ways.length := by omega
  have hl := R.way12 _ (List.getElem_mem hy)
  refine ⟨⟨S.progs, S.states, S.ways.set y (⟨true, 0⟩ :: S.ways[y]), S.hist⟩, i4, h4, k4, ⟨Ti.n4, Ti.st, by rw [List.length_set]; exact Ti.wa, Ti.hi, Ti.pr, Ti.ss, all_set Ti.wy (by
   simp only [List.length_cons]
   omega), Ti.ev⟩, fun j hj => ?_⟩
  have e0 := e0 (j + 10)
  have e1 := e1 j hj
  have e2 := e2 (j + 9)
  have e3 := e3 (j + 9)
  have e4 := e4 (j + 9)
  have lit : S.ways[y].length * 2 + 2 ≤ most := by unfold most; omega
  have lit2 : 2 + S.ways[y].length * 2 ≤ most := by unfold most; omega
  have yle : y + 1 ≤ S.ways.length := by omega
  have tki : (T.v (.bool true) :: T.v (.int .i64 0) :: itT S.ways[y]).take ((S.ways[y].length + 1) * 2) = T.v (.bool true) :: T.v (.int .i64 0) :: itT S.ways[y] := List.take_of_length_le (by simp; omega)
  have tkj : (1 + S.ways[y].length) * 2 ≤ S.ways[y].length * 2 + 2 := by omega
  have hset2 := itS_cons (l := S.ways) (e := 99) (m := y) S.ways[y] true 0
  have hc : 1 + S.ways[y].length = S.ways[y].length + 1 := by omega
  rw [m_run (fn := Tryz.f27) (i0 := 0) rfl Tryz.func27 rfl rfl (by simp [curT])]
  simp only [curT, syS] at e0 e1 e2 e3 e4 ⊢
  simp -implicitDefEqProofs (maxSteps := 10000000) [own1, e0, e1, e2, e3, e4, hz, hy, zBox, sItem_at hy, sItem, lit, lit2, yle, tki, tkj, hc, hset2, show (S.ways[y].length + 1) * 2 ≤ S.ways[y].length * 2 + 1 + 1 by omega, w1, w2, w3, w4, -List.map_take] <;> (repeat' apply And.intro) <;> first | exact List.take_of_length_le (by simp) | (congr 1; exact List.take_of_length_le (by simp)) | skip
 ·refine ⟨S, i3, h3, k3, Ti, fun j hj => ?_⟩
  have e0 := e0 (j + 10)
  have e1 := e1 j hj
  have e2 := e2 (j + 9)
  have e3 := e3 (j + 9)
  rw [m_run (fn := Tryz.f27) (i0 := 0) rfl Tryz.func27 rfl rfl (by simp [curT])]
  simp only [curT, syS] at e0 e1 e2 e3 ⊢
  simp -implicitDefEqProofs (maxSteps := 10000000) [own1, e0, e1, e2, e3, hz, zBox, show ¬ v = 0 by omega, show ¬ v = 1 by omega, show ¬ v = 2 by omega, show ¬ v = 3 by omega, show ¬ v = 4 by omega, show ¬ v = 5 by omega, w1, w2, w3, w4, -List.map_take]
end Go.Proofs.YtninncdacekfgaaGreat.VM
