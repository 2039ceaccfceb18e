/- What is ready; systems copied; steps of none: reckoned. -/
import Derived.Test.YtninncdacekfgaaGreatK17s
import Derived.Test.YtninncdacekfgaaGreatK53s
set_option linter.unusedSimpArgs false
set_option linter.unusedVariables false
set_option maxRecDepth 100000
set_option maxHeartbeats 40000000
namespace Go.Proofs.YtninncdacekfgaaGreat.VM
open Go Go.Proofs
theorem ssT_3 {l : List Sta} {i : Nat} (hi : i < l.length) : (ssT l)[i * 4 + 3]? = some (.v (.int .i64 l[i].code)) := fm_get sSta_len hi (by omega)
theorem ssT_2 {l : List Sta} {i : Nat} (hi : i < l.length) : (ssT l)[i * 4 + 2]? = some (.s 3 l[i].out.length (ints l[i].out)) := fm_get sSta_len hi (by omega)
theorem ssT_1 {l : List Sta} {i : Nat} (hi : i < l.length) : (ssT l)[i * 4 + 1]? = some (.s 3 l[i].regs.length (ints l[i].regs)) := fm_get sSta_len hi (by omega)
theorem ssT_set {l : List Sta} {i : Nat} (hi : i < l.length) (y : Sta) : ((((ssT l).set (i * 4) (.v (.int .i64 y.at_))).set (i * 4 + 1) (.s 3 y.regs.length (ints y.regs))).set (i * 4 + 2) (.s 3 y.out.length (ints y.out))).set (i * 4 + 3) (.v (.int .i64 y.code)) = ssT (l.set i y) := by
 have := fm_set sSta_len hi y
 exact this
theorem sIns_at {l : List (List Ins)} {e : TypeId} {m : Nat} (hm : m < l.length) : (l.map (sIns e))[m]? = some (.s e l[m].length (insT l[m])) := by
 rw [List.getElem?_map, List.getElem?_eq_getElem hm]
 rfl
theorem sItem_at {l : List (List Itm)} {e : TypeId} {m : Nat} (hm : m < l.length) : (l.map (sItem e))[m]? = some (.s e l[m].length (itT l[m])) := by
 rw [List.getElem?_map, List.getElem?_eq_getElem hm]
 rfl
theorem sEvent_at {l : List (List Ev)} {e : TypeId} {m : Nat} (hm : m < l.length) : (l.map (sEvent e))[m]? = some (.s e l[m].length (evT l[m])) := by
 rw [List.getElem?_map, List.getElem?_eq_getElem hm]
 rfl
theorem evS_set {l : List (List Ev)} {e : TypeId} {m : Nat} (r : List Ev) (x : Ev) : (l.map (sEvent e)).set m (.s e (r.length + 1) (evT r ++ [.v (.int .i64 x.kind), .v (.int .i64 x.peer), .v (.int .i64 x.v)])) = (l.set m (r ++ [x])).map (sEvent e) := by
 rw [List.map_set]
 unfold sEvent
 rw [show evT (r ++ [x]) = evT r ++ [.v (.int .i64 x.kind), .v (.int .i64 x.peer), .v (.int .i64 x.v)] by simp [evT, tEv]]
 simp
theorem itS_set {l : List (List Itm)} {e : TypeId} {m : Nat} (r : List Itm) (v : Int) : (l.map (sItem e)).set m (.s e (r.length + 1) (itT r ++ [.v (.bool false), .v (.int .i64 v)])) = (l.set m (r ++ [⟨false, v⟩])).map (sItem e) := by
 rw [List.map_set]
 unfold sItem
 rw [show itT (r ++ [⟨false, v⟩]) = itT r ++ [.v (.bool false), .v (.int .i64 v)] by simp [itT, tItem]]
 simp
def goneS : A := .agg [.h, .h, .h, .h]
theorem run_l5None {j : Nat} (s : Sy) (R : Right s) (p peer : Int) (hp : inB p 0 ((s.progs.length : Int) - 1) = false) : M.run (j + 5) 92 [.agg (syS s), .c (.v (.int .i64 p)), .c (.v (.int .i64 peer))] = some ([.agg (syS s), .c (.v (.int .i64 2))], [goneS, .c (.v (.int .i64 p)), .c (.v (.int .i64 peer))]) := by
 have n4 := R.n4
 have w := w64 (x := (s.progs.length : Int) - 1) (by omega)
 have t1 : (s.progs.map (sIns 105)).take s.progs.length = s.progs.map (sIns 105) := List.take_of_length_le (by simp)
 have t2 : (ssT s.states).take (s.states.length * 4) = ssT s.states := List.take_of_length_le (by rw [ssT_len]; exact Nat.le_refl _)
 have t3 : (s.ways.map (sItem 99)).take s.ways.length = s.ways.map (sItem 99) := List.take_of_length_le (by simp)
 have t4 : (s.hist.map (sEvent 96)).take s.hist.length = s.hist.map (sEvent 96) := List.take_of_length_le (by simp)
 rw [m_run (fn := Tryz.f92) (i0 := 10560) rfl Tryz.func92 rfl (by rw [Mfar]; rfl) (by simp [syS])]
 simp -implicitDefEqProofs [syS, goneS, own1, run61, w, hp, t1, t2, t3, t4, -List.map_take]
end Go.Proofs.YtninncdacekfgaaGreat.VM
namespace Go.Proofs.YtninncdacekfgaaGreat.VM
open Go Go.Proofs
theorem roundN {j : Nat} {l : List Ins} {s : Sta} (hp : progB l 4 = true) (h : Rok l s) :
  M.run (j + 1) 144 [.c (.r 105 l.length (insT l)), .agg (tSta s)] = some ([.agg (tEv (nextE (insAt l s.at_) s.regs))], [.c (.r 105 l.length (insT l)), .agg (tSta s)]) := by
 have R := rok_rt hp h
 obtain ⟨i, hi, h1, h2⟩ := insAt_of h
 obtain ⟨a, xs, ys, c⟩ := s
 simp only at h1
 subst h1
 rw [h2] at R ⊢
 exact run83 (j := j) l i hi c xs ys R.regs (fun _ => R.a)
theorem itT_drop2 (r : List Itm) : (itT r).drop 2 = itT r.tail := by cases r <;> simp [itT, tItem]
theorem itS_tl {l : List (List Itm)} {e : TypeId} {m n : Nat} (r : List Itm) (hn : r.length = n + 1) : (l.map (sItem e)).set m (.s e n (itT r.tail)) = (l.set m r.tail).map (sItem e) := by
 rw [List.map_set]
 unfold sItem
 rw [List.length_tail, hn]
 rfl
theorem run_l5Step {j : Nat} (hj : big ≤ j) (s : Sy) (R : Right s) (p peer : Int) : M.run (j + 5) 92 [.agg (syS s), .c (.v (.int .i64 p)), .c (.v (.int .i64 peer))] = some ([.agg (syS (stepF s p peer).1), .c (.v (.int .i64 (stepF s p peer).2))], [goneS, .c (.v (.int .i64 p)), .c (.v (.int .i64 peer))]) := by
 have h := R.small
 have n4 := R.n4
 have w := w64 (x := (s.progs.length : Int) - 1) (by omega)
 have t1 : (s.progs.map (sIns 105)).take s.progs.length = s.progs.map (sIns 105) := List.take_of_length_le (by simp)
 have t2 : (ssT s.states).take (s.states.length * 4) = ssT s.states := List.take_of_length_le (by rw [ssT_len]; exact Nat.le_refl _)
 have t3 : (s.ways.map (sItem 99)).take s.ways.length = s.ways.map (sItem 99) := List.take_of_length_le (by simp)
 have t4 : (s.hist.map (sEvent 96)).take s.hist.length = s.hist.map (sEvent 96) := List.take_of_length_le (by simp)
 cases hq : inB p 0 ((s.progs.length : Int) - 1)
 ·have : stepF s p peer = (s, 2) := by
   unfold stepF comeF
   rw [if_pos hq]
   rfl
  rw [this]
  exact run_l5None s R p peer hq
 obtain ⟨m, rfl, hm⟩ := inB_nat hq
 have h2 : m < s.states.length := by rw [R.st]; exact hm
 have h3 : m < s.hist.length := by rw [R.hi]; exact hm
 have P := R.pr hm
 have hst : stOf s m = s.states[m] := by unfold stOf; rw [List.getElem?_eq_getElem h2]; rfl
 have hpg : progOf s m = s.progs[m] := by unfold progOf; rw [List.getElem?_eq_getElem hm]; rfl
 have hrw := rowH_of h3
 have hcf : comeF s m peer = comeN s m peer := by unfold comeF; rw [if_neg (by rw [hq]; simp), Int.toNat_natCast]
 have st3 := ssT_3 h2
 have st3g := gq st3
 rw [m_run (fn := Tryz.f92) (i0 := 10560) rfl Tryz.func92 rfl (by rw [Mfar]; rfl) (by simp [syS])]
 by_cases hc : s.states[m].code = 0
 rotate_left
 ·have : stepF s m peer = (s, 6) := by
   unfold stepF
   rw [hcf]
   unfold comeN
   rw [hst, if_pos hc]
   rfl
  rw [this]
  simp -implicitDefEqProofs (maxSteps := 10000000) [syS, goneS, own1, run61, w, hq, hm, h2, st3, st3g, hc, t1, t2, t3, t4, show m * 4 + 3 < s.states.length * 4 by omega, -List.map_take]
 have hl200 : s.hist[m].length ≤ 200 := by have := P.len; rw [hrw] at this; exact this
 by_cases hl : 200 ≤ s.hist[m].length
 ·have : stepF s m peer = (s, 4) := by
   unfold stepF
   rw [hcf]
   unfold comeN
   rw [hst, if_neg (show ¬ (s.states[m].code ≠ 0) from fun h => h hc), hrw, if_pos hl]
   rfl
  rw [this]
  simp -implicitDefEqProofs (maxSteps := 10000000) [syS, goneS, own1, run61, w, hq, hm, h2, h3, st3, st3g, hc, sEvent_at h3, sEvent, show (s.hist[m].length : Int) = 200 by omega, t1, t2, t3, t4, show m * 4 + 3 < s.states.length * 4 by omega, -List.map_take]
 have hl' : ¬ (s.hist[m].length : Int) = 200 := by omega
 have PR := P
 rw [hst, hpg, hrw] at P
 have r1 := roundN (j := j + 3) P.pr4 P.rok
 have r2 := fun e => roundS (j := j) P.pr4 P.rok e
 have hw : wantE s m = nextE (insAt s.progs[m] s.states[m].at_) s.states[m].regs := by unfold wantE; rw [hst, hpg]
 rw [← hw] at r1 r2
 have hcn : comeN s m peer = if (wantE s m).kind = 2 then (if 12 ≤ (wayR s m (wantE s m).peer.toNat).length then (⟨0, 0, 0⟩, 4) else (wantE s m, 0)) else if (wantE s m).kind = 3 then takeN s m (if (wantE s m).peer = 9 then peer else (wantE s m).peer) else (wantE s m, 0) := by
  unfold comeN
  rw [hst, if_neg (show ¬ (s.states[m].code ≠ 0) from fun h => h hc), hrw, if_neg hl]
 obtain ⟨i, hi, hi1, hi2⟩ := insAt_of P.rok
 obtain ⟨q1, q2⟩ := ins_of R hm
 rw [hpg, hst, hi2] at q1
 have hx : (s.progs[m][i].op = 6 ∧ wantE s m = ⟨2, s.progs[m][i].n, (s.states[m].regs[s.progs[m][i].a.toNat]?).getD 0⟩) ∨ (s.progs[m][i].op = 7 ∧ wantE s m = ⟨3, s.progs[m][i].n, 0⟩) ∨ ((wantE s m).kind ≠ 2 ∧ (wantE s m).kind ≠ 3) := by
  rw [hw, hi2]
  exact want_kind _ _
 have lev : (s.hist[m].length + 1) * 3 ≤ most := by unfold most; omega
 have lev' : s.hist[m].length * 3 + 3 ≤ most := by unfold most; omega
 have hdone : ∀ e : Ev, comeF s m peer = (e, 0) → comesB e (wantE s m) = true ∧ stepF s m peer = (⟨s.progs, s.states.set m (stepS s.progs[m] s.states[m] e), waysN s m e, s.hist.set m (s.hist[m] ++ [e])⟩, 0) := by
  intro e he
  obtain ⟨m', hm', B⟩ := come_came R (p := m) (peer := peer) (by rw [he])
  have : m' = m := by omega
  subst this
  rw [he] at B
  refine ⟨B.comes, ?_⟩
  unfold stepF
  rw [he, if_pos rfl, Int.toNat_natCast]
  unfold doneF
  rw [hst, hpg, hrw]
 have sm : m * 4 + 4 ≤ s.states.length * 4 := by omega
 have mle : m + 1 ≤ s.hist.length := by omega
 have tke : ∀ a b c : T, (evT s.hist[m] ++ [a, b, c]).take ((s.hist[m].length + 1) * 3) = evT s.hist[m] ++ [a, b, c] := fun a b c => List.take_of_length_le (by simp; omega)
 have tkl : (s.hist[m].length + 1) * 3 ≤ s.hist[m].length * 3 + 3 := by omega
 have sat := fm_at sSta_len h2
 rw [show s.states.flatMap sSta = ssT s.states from rfl] at sat
 simp only [sSta, stS] at sat
 rcases hx with ⟨o, hx⟩ | ⟨o, hx⟩ | ⟨k2, k3⟩
 ·rw [hx] at hcn r1 r2 hdone
  have l1 := q1
  simp only [insB, Bool.and_eq_true] at l1
  have l1 := l1.2
  simp [lastB, hasB, formL, o] at l1
  obtain ⟨q, hq2, hqn⟩ := inB_nat l1
  obtain ⟨w1, w2, w3⟩ := wayI_of R hm hqn
  have wl : (wayR s m q).length ≤ 12 := by
   have := R.way m q hm hqn
   unfold wayB at this
   simp at this
   exact this.1
  generalize (s.states[m].regs[s.progs[m][i].a.toNat]?).getD 0 = ev at *
  rw [hq2] at hcn r1 r2 hdone
  rw [if_pos rfl, Int.toNat_natCast] at hcn
  have hyc : (m : Int) * (s.progs.length : Int) + (q : Int) = ((m * s.progs.length + q : Nat) : Int) := (cast_idx _ _ _).symm
  have hm1 := mul_le20 (a := m) (n := s.progs.length) (by omega) h.progs
  have wm := w64 (x := (m : Int) * (s.progs.length : Int)) (by omega)
  have hyn : ∀ b, waysN s m ⟨2, (q : Int), b⟩ = s.ways.set (m * s.progs.length + q) ((s.ways[m * s.progs.length + q]?).getD [] ++ [⟨false, b⟩]) := by
   intro b
   simp only [waysN, if_true, Int.toNat_natCast, w3]
  rw [w3, List.getElem?_eq_getElem w2, Option.getD_some] at hcn wl
  have hyn := hyn ev
  rw [List.getElem?_eq_getElem w2, Option.getD_some] at hyn
  have hy64 : ((m * s.progs.length + q : Nat) : Int) ≤ 9223372036854775807 := by
   have := h.ways
   omega
  generalize m * s.progs.length + q = y at *
  have wy := w64 (x := (y : Int)) (by omega)
  have yle : y + 1 ≤ s.ways.length := by omega
  have hy0 : ¬ ((y : Int) < 0) := by omega
  by_cases h12 : 12 ≤ s.ways[y].length
  ·rw [if_pos h12] at hcn
   have : stepF s m peer = (s, 4) := by
    unfold stepF
    rw [hcf, hcn]
    rfl
   rw [this]
   simp only [tEv, tSta, stR, hc] at r1
   simp -implicitDefEqProofs (maxSteps := 10000000) [syS, goneS, own1, run61, w, wm, wy, hyc, hy0, hq, hm, h2, h3, w2, st3, st3g, hc, r1, ssT_1 h2, ssT_2 h2, sIns_at hm, sIns, tSta, stR, sat, sEvent_at h3, sEvent, sItem_at w2, sItem, hl', show (s.ways[y].length : Int) = 12 by omega, t1, t2, t3, t4, sm, show m * 4 + 3 < s.states.length * 4 by omega, -List.map_take]
  ·rw [if_neg h12] at hcn
   obtain ⟨d1, d2⟩ := hdone _ (by rw [hcf, hcn])
   rw [d2, hyn]
   have r2 := r2 ⟨2, q, ev⟩
   rw [if_pos d1, d1] at r2
   have hset := evS_set (l := s.hist) (e := 96) (m := m) s.hist[m] ⟨2, q, ev⟩
   have hstat := ssT_set h2 (stepS s.progs[m] s.states[m] ⟨2, q, ev⟩)
   have hset2 := itS_set (l := s.ways) (e := 99) (m := y) s.ways[y] ev
   have lit : s.ways[y].length * 2 + 2 ≤ most := by unfold most; omega
   have tki : ∀ a b : T, (itT s.ways[y] ++ [a, b]).take ((s.ways[y].length + 1) * 2) = itT s.ways[y] ++ [a, b] := fun a b => List.take_of_length_le (by simp; omega)
   have tkj : (s.ways[y].length + 1) * 2 ≤ s.ways[y].length * 2 + 2 := by omega
   generalize stepS s.progs[m] s.states[m] ⟨2, (q : Int), ev⟩ = g at *
   obtain ⟨g1, g2, g3, g4⟩ := g
   simp only [tEv, tSta, stR, sSta, stS, hc] at r1 r2 hset hstat
   simp -implicitDefEqProofs (maxSteps := 10000000) [syS, goneS, own1, run61, w, wm, wy, hyc, hy0, hq, hm, h2, h3, w2, st3, st3g, hc, r1, r2, ssT_1 h2, ssT_2 h2, sIns_at hm, sIns, tSta, stR, sat, sEvent_at h3, sEvent, sItem_at w2, sItem, hl', show ¬ (s.ways[y].length : Int) = 12 by omega, hset, hset2, hstat, lev, lev', tke, tkl, mle, lit, tki, tkj, yle, t1, t2, t3, t4, sm, show m * 4 + 3 < s.states.length * 4 by omega, -List.map_take] <;> (repeat' apply And.intro) <;> first | exact List.take_of_length_le (by simp) | (congr 1; exact List.take_of_length_le (by simp)) | skip
 ·rw [hx] at hcn r1 r2 hdone
  rw [if_neg (by simp), if_pos rfl] at hcn
  simp only at hcn
  generalize hA : (if s.progs[m][i].n = 9 then peer else s.progs[m][i].n) = A at *
  have hx9 : (s.progs[m][i].n = 9 ∧ peer = A) ∨ (¬ A = 9 ∧ s.progs[m][i].n = A) := by
   by_cases h9 : s.progs[m][i].n = 9
   ·rw [if_pos h9] at hA; exact .inl ⟨h9, hA⟩
   ·rw [if_neg h9] at hA; exact .inr ⟨by rw [← hA]; exact h9, hA⟩
  clear hA
  cases hin : inB A 0 ((s.progs.length : Int) - 1)
  ·have : stepF s m peer = (s, 2) := by
    unfold stepF
    rw [hcf, hcn]
    unfold takeN
    rw [if_pos hin]
    rfl
   rw [this]
   simp only [tEv, tSta, stR, hc] at r1
   rcases hx9 with ⟨h9, h9'⟩ | ⟨h9, h9'⟩
   ·simp -implicitDefEqProofs (maxSteps := 10000000) [syS, goneS, own1, run61, w, hq, hm, h2, h3, st3, st3g, hc, r1, h9, h9', hin, ssT_1 h2, ssT_2 h2, sIns_at hm, sIns, tSta, stR, sat, sEvent_at h3, sEvent, hl', t1, t2, t3, t4, sm, show m * 4 + 3 < s.states.length * 4 by omega, -List.map_take]
   ·simp -implicitDefEqProofs (maxSteps := 10000000) [syS, goneS, own1, run61, w, hq, hm, h2, h3, st3, st3g, hc, r1, h9, h9', hin, ssT_1 h2, ssT_2 h2, sIns_at hm, sIns, tSta, stR, sat, sEvent_at h3, sEvent, hl', t1, t2, t3, t4, sm, show m * 4 + 3 < s.states.length * 4 by omega, -List.map_take]
  obtain ⟨q, hqA, hqn⟩ := inB_nat hin
  subst hqA
  obtain ⟨w1, w2, w3⟩ := wayI_of R hqn hm
  have hyc : (q : Int) * (s.progs.length : Int) + (m : Int) = ((q * s.progs.length + m : Nat) : Int) := (cast_idx _ _ _).symm
  have hm1 := mul_le20 (a := q) (n := s.progs.length) (by omega) h.progs
  have wm := w64 (x := (q : Int) * (s.progs.length : Int)) (by omega)
  have hyn : ∀ b, waysN s m ⟨3, (q : Int), b⟩ = s.ways.set (q * s.progs.length + m) ((s.ways[q * s.progs.length + m]?).getD []).tail := by
   intro b
   simp only [waysN, show ¬ ((3 : Int) = 2) by decide, if_false, if_true, Int.toNat_natCast, w3]
  have hcn' : comeN s m peer = match wayR s q m with
   | [] => (⟨0, 0, 0⟩, 3)
   | x :: _ => if x.mark = true then (⟨0, 0, 0⟩, 5) else (⟨3, (q : Int), x.v⟩, 0) := by
   rw [hcn]
   unfold takeN
   rw [if_neg (by rw [hin]; simp), Int.toNat_natCast]
   cases wayR s q m <;> rfl
  rw [w3, List.getElem?_eq_getElem w2, Option.getD_some] at hcn'
  rw [List.getElem?_eq_getElem w2, Option.getD_some] at hyn
  have hy64 : ((q * s.progs.length + m : Nat) : Int) ≤ 9223372036854775807 := by
   have := h.ways
   omega
  generalize q * s.progs.length + m = y at *
  have wy := w64 (x := (y : Int)) (by omega)
  have yle : y + 1 ≤ s.ways.length := by omega
  have hy0 : ¬ ((y : Int) < 0) := by omega
  simp only [tEv, tSta, stR, hc] at r1
  cases hway : s.ways[y] with
  | nil =>
   rw [hway] at hcn'
   have : stepF s m peer = (s, 3) := by
    unfold stepF
    rw [hcf, hcn']
    rfl
   rw [this]
   have hwl : s.ways[y].length = 0 := by rw [hway]; rfl
   rcases hx9 with ⟨h9, h9'⟩ | ⟨h9, h9'⟩
   ·simp -implicitDefEqProofs (maxSteps := 10000000) [syS, goneS, own1, run61, w, wm, wy, hyc, hy0, hq, hm, h2, h3, w2, st3, st3g, hc, r1, h9, h9', hin, hwl, ssT_1 h2, ssT_2 h2, sIns_at hm, sIns, tSta, stR, sat, sEvent_at h3, sEvent, sItem_at w2, sItem, hl', t1, t2, t3, t4, sm, show m * 4 + 3 < s.states.length * 4 by omega, -List.map_take]
   ·simp -implicitDefEqProofs (maxSteps := 10000000) [syS, goneS, own1, run61, w, wm, wy, hyc, hy0, hq, hm, h2, h3, w2, st3, st3g, hc, r1, h9, h9', hin, hwl, ssT_1 h2, ssT_2 h2, sIns_at hm, sIns, tSta, stR, sat, sEvent_at h3, sEvent, sItem_at w2, sItem, hl', t1, t2, t3, t4, sm, show m * 4 + 3 < s.states.length * 4 by omega, -List.map_take]
  | cons x t =>
   rw [hway] at hcn'
   have hwl : s.ways[y].length = t.length + 1 := by rw [hway]; rfl
   have hpos : 0 < s.ways[y].length := by omega
   have hx0 : s.ways[y][0] = x := by simp [hway]
   have f0 : (itT s.ways[y])[0]? = some (.v (.bool s.ways[y][0].mark)) := by simpa using itT_0 hpos
   have f1 : (itT s.ways[y])[1]? = some (.v (.int .i64 s.ways[y][0].v)) := by simpa using itT_1 hpos
   rw [hx0] at f0 f1
   have tne : ¬ ((t.length : Int) + 1 = 0) := by omega
   have tmx : max ((t.length : Int) + 1) 0 = (t.length : Int) + 1 := by omega
   have tm1 : (1 : Int) ≤ (t.length : Int) + 1 := by omega
   have tm2 : 2 + t.length * 2 ≤ (t.length + 1) * 2 := by omega
   have htl : s.ways[y].tail = t := by rw [hway]; rfl
   have hd2 := itT_drop2 s.ways[y]
   rw [htl] at hd2
   have htk : (itT t).take (t.length * 2) = itT t := List.take_of_length_le (by simp)
   have hset2 := itS_tl (l := s.ways) (e := 99) (m := y) s.ways[y] hwl
   have lt2 : t.length * 2 ≤ most := by
    have := h.way w2
    unfold most
    omega
   rw [htl] at hset2 hyn
   clear hway
   by_cases hk : x.mark = true
   ·simp only [hk, if_true] at hcn'
    have : stepF s m peer = (s, 5) := by
     unfold stepF
     rw [hcf, hcn']
     rfl
    rw [this]
    rw [hk] at f0
    rcases hx9 with ⟨h9, h9'⟩ | ⟨h9, h9'⟩
    ·simp -implicitDefEqProofs (maxSteps := 10000000) [syS, goneS, own1, run61, w, wm, wy, hyc, hy0, hq, hm, h2, h3, w2, st3, st3g, hc, r1, h9, h9', hin, hwl, tne, tmx, tm1, tm2, f0, gq f0, ssT_1 h2, ssT_2 h2, sIns_at hm, sIns, tSta, stR, sat, sEvent_at h3, sEvent, sItem_at w2, sItem, hl', t1, t2, t3, t4, sm, show m * 4 + 3 < s.states.length * 4 by omega, -List.map_take]
    ·simp -implicitDefEqProofs (maxSteps := 10000000) [syS, goneS, own1, run61, w, wm, wy, hyc, hy0, hq, hm, h2, h3, w2, st3, st3g, hc, r1, h9, h9', hin, hwl, tne, tmx, tm1, tm2, f0, gq f0, ssT_1 h2, ssT_2 h2, sIns_at hm, sIns, tSta, stR, sat, sEvent_at h3, sEvent, sItem_at w2, sItem, hl', t1, t2, t3, t4, sm, show m * 4 + 3 < s.states.length * 4 by omega, -List.map_take]
   ·have hk' : x.mark = false := by simpa using hk
    simp only [hk', Bool.false_eq_true, if_false] at hcn'
    obtain ⟨d1, d2⟩ := hdone _ (by rw [hcf, hcn'])
    rw [d2, hyn]
    rw [hk'] at f0
    have r2 := r2 ⟨3, q, x.v⟩
    rw [if_pos d1, d1] at r2
    have hset := evS_set (l := s.hist) (e := 96) (m := m) s.hist[m] ⟨3, q, x.v⟩
    have hstat := ssT_set h2 (stepS s.progs[m] s.states[m] ⟨3, q, x.v⟩)
    generalize stepS s.progs[m] s.states[m] ⟨3, (q : Int), x.v⟩ = g at *
    obtain ⟨g1, g2, g3, g4⟩ := g
    simp only [tEv, tSta, stR, sSta, stS, hc] at r2 hset hstat
    rcases hx9 with ⟨h9, h9'⟩ | ⟨h9, h9'⟩
    ·simp -implicitDefEqProofs (maxSteps := 10000000) [syS, goneS, own1, run61, w, wm, wy, hyc, hy0, hq, hm, h2, h3, w2, st3, st3g, hc, r1, r2, h9, h9', hin, hwl, tne, tmx, tm1, tm2, f0, gq f0, f1, gq f1, yle, hd2, htk, lt2, hset, hstat, lev, lev', tke, tkl, mle, ssT_1 h2, ssT_2 h2, sIns_at hm, sIns, tSta, stR, sat, sEvent_at h3, sEvent, sItem_at w2, sItem, hl', t1, t2, t3, t4, sm, show m * 4 + 3 < s.states.length * 4 by omega, -List.map_take] <;> (repeat' apply And.intro) <;> first | exact List.take_of_length_le (by simp) | (congr 1; exact List.take_of_length_le (by simp)) | skip
    ·simp -implicitDefEqProofs (maxSteps := 10000000) [syS, goneS, own1, run61, w, wm, wy, hyc, hy0, hq, hm, h2, h3, w2, st3, st3g, hc, r1, r2, h9, h9', hin, hwl, tne, tmx, tm1, tm2, f0, gq f0, f1, gq f1, yle, hd2, htk, lt2, hset, hstat, lev, lev', tke, tkl, mle, ssT_1 h2, ssT_2 h2, sIns_at hm, sIns, tSta, stR, sat, sEvent_at h3, sEvent, sItem_at w2, sItem, hl', t1, t2, t3, t4, sm, show m * 4 + 3 < s.states.length * 4 by omega, -List.map_take] <;> (repeat' apply And.intro) <;> first | exact List.take_of_length_le (by simp) | (congr 1; exact List.take_of_length_le (by simp)) | skip
 ·rw [if_neg k2, if_neg k3] at hcn
  obtain ⟨d1, d2⟩ := hdone _ (by rw [hcf, hcn])
  rw [d2]
  generalize wantE s m = e at *
  have hyn : waysN s m e = s.ways := by simp only [waysN, if_neg k2, if_neg k3]
  rw [hyn]
  have r2 := r2 e
  rw [if_pos d1, d1] at r2
  have hset := evS_set (l := s.hist) (e := 96) (m := m) s.hist[m] e
  have hstat := ssT_set h2 (stepS s.progs[m] s.states[m] e)
  generalize stepS s.progs[m] s.states[m] e = g at *
  obtain ⟨g1, g2, g3, g4⟩ := g
  obtain ⟨ek, ep, ev⟩ := e
  simp only at k2 k3
  simp only [tEv, tSta, stR, sSta, stS, hc] at r1 r2 hset hstat
  simp -implicitDefEqProofs (maxSteps := 10000000) [syS, goneS, own1, run61, w, hq, hm, h2, h3, st3, st3g, hc, k2, k3, r1, r2, ssT_1 h2, ssT_2 h2, sIns_at hm, sIns, tSta, stR, sat, sEvent_at h3, sEvent, hl', hset, hstat, lev, lev', tke, tkl, mle, t1, t2, t3, t4, sm, show m * 4 + 3 < s.states.length * 4 by omega, -List.map_take] <;> (repeat' apply And.intro) <;> first | exact List.take_of_length_le (by simp) | (congr 1; exact List.take_of_length_le (by simp)) | skip
end Go.Proofs.YtninncdacekfgaaGreat.VM
