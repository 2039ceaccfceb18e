/- Rows that are joined; the machine. -/
import Derived.Test.YtninncdacekfgaaFx
import Derived.WalkKit
import Derived.Lib.Walk
import Derived.Lib.SliceRun
import Derived.Lib.AppendZeros
import Derived.Tactics
import Derived.Tactics2
import Derived.Test.YtninncdacekfgaaK1
/- Rows that are joined: slices.Grow of nil. -/
namespace Go.Proofs.Ytninncdacekfgaa.VM
open Go Go.Proofs
set_option linter.unusedSimpArgs false
set_option linter.unusedVariables false
set_option maxRecDepth 100000
set_option maxHeartbeats 4000000
theorem grow_run (n : Nat) (h0 : 0 < n) (hn : n ≤ 4294967296) (w : World) : Calls Try.prog 118 #[.slice none 0 0, .int .i64 n] w fun e w' =>
  ∃ cs, e = .returned (.slice (some ⟨w.heap.size, 0, none⟩) 0 (grownCap w n 0 3)) ∧ w' = w.drew.alloc (.cells cs 3) ∧ cs.size = grownCap w n 0 3 := by
 obtain ⟨i, z, hi, hz, hone, hsz, hzz⟩ := zeroT_some (show zeroT Try.prog 3 = some _ from (by simp; rfl))
 obtain ⟨i', z', hi', hz', hpos, _, hby, hce⟩ := elemOk_some (show elemOk Try.prog 3 = true by simp)
 rw [hi] at hi'
 injection hi' with hi'
 subst hi'
 have hsz1 : i.size = 1 := by rw [← hce]; simp
 have h1 : ¬ ((n : Int) < 0) := by omega
 have h4 : (n : Int) > 0 := by omega
 have hrz : ∀ ty, (Builtin.append_ #[25, 3] ty #[.slice none 0 0, .int .i64 (n : Int)]).run Try.prog w = .ok (.slice (some ⟨w.heap.size, 0, none⟩) n (grownCap w n 0 3)) (w.drew.alloc (.cells (Builtin.zeroCells z.cells n ++ Builtin.zeroCells z.cells (grownCap w n 0 3 - n)) 3)) := fun ty =>
  Lib.run_append_nil_zeros w 25 3 ty 3 i z .i64 .i64 Try.underlying25 Try.underlying3 hi hz n h0 hpos (by omega) (by
   have h1 : n * i.bytes ≤ 4294967296 * 32768 := Nat.mul_le_mul hn hby
   omega)
 have hzc : z.cells.size = 1 := hsz.trans hsz1
 generalize z.cells = zc at hrz hzc
 clear hz hz' hone hsz hzz
 have hGn : n ≤ grownCap w n 0 3 := grownCap_ge w _ _ _
 obtain ⟨G, hG⟩ : ∃ G, G = grownCap w n 0 3 := ⟨_, rfl⟩
 rw [← hG] at hrz hGn ⊢
 have hG63 : G ≤ 9223372036854775807 := by
  have := grownCap_le_maxLen w n 0 3 (by unfold maxLen; omega)
  rw [← hG] at this
  unfold maxLen at this
  omega
 clear hG
 go_enter Try.func118, Try.ntmps118
 go_wp2_with (at_builtin; refine Lib.wpList_append_run _ rfl _ _ _ _ rfl _ _ rfl rfl _ _ (hrz _) ?_)
 all_goals (go_ret; refine ⟨rfl, _, rfl, ?_⟩; simp [Builtin.zeroCells, hzc]; omega)
theorem grow_run0 (w : World) : Calls Try.prog 118 #[.slice none 0 0, .int .i64 0] w fun e w' => e = .returned (.slice none 0 0) ∧ w' = w := by
 go_enter Try.func118, Try.ntmps118
 go_wp2
 go_ret
 exact ⟨rfl, rfl⟩
/-- What Grow of nil answers: a row of one's own, empty. -/
def Grown (P : Program) (e : TypeId) (w : World) (v : Value) (w' : World) : Prop := ∃ O', RepT P w' (.s e 0 []) v O' [] ∧ O'.Nodup ∧ (∀ b ∈ O', w.heap.size ≤ b ∧ b < w'.heap.size) ∧ w.heap.size ≤ w'.heap.size ∧ Still w w' ∧ ∀ b, b < w.heap.size → w'.heap[b]? = w.heap[b]?
theorem grow_ok (n : Nat) (hn : n ≤ 4294967296) (w : World) : Calls Try.prog 118 #[.slice none 0 0, .int .i64 n] w fun e w' => ∃ v, e = .returned v ∧ Grown Try.prog 3 w v w' := by
 rcases Nat.eq_zero_or_pos n with rfl | h0
 ·refine (grow_run0 w).mono ?_
  rintro e w' ⟨rfl, rfl⟩
  refine ⟨_, rfl, [], ?_, List.nodup_nil, fun b hb => by simp at hb, Nat.le_refl _, Still.refl, fun _ _ => rfl⟩
  rw [RepT]
  exact ⟨[], [], ⟨by simp, none, 0, rfl, Nat.le_refl _, by unfold maxLen; omega, .inl rfl⟩, by rw [RepTs]; exact ⟨rfl, rfl, rfl⟩, rfl, rfl⟩
 ·refine (grow_run n h0 hn w).mono ?_
  rintro e w' ⟨cs, rfl, rfl, hcs⟩
  have hG : n ≤ grownCap w n 0 3 := grownCap_ge w _ _ _
  have hm : grownCap w n 0 3 ≤ maxLen := grownCap_le_maxLen w n 0 3 (by unfold maxLen; omega)
  have hsz : (w.drew.alloc (.cells cs 3)).heap.size = w.heap.size + 1 := by
   show (w.heap.push _).size = _
   simp
  refine ⟨_, rfl, [w.heap.size], ?_, by simp, fun b hb => ?_, by rw [hsz]; omega, ⟨rfl, rfl, rfl⟩, fun b hb => ?_⟩
  ·rw [RepT]
   refine ⟨[], [], ⟨by simp, _, _, rfl, Nat.zero_le _, hm, .inr ⟨w.heap.size, 0, cs, rfl, ?_, by simp [hcs], by simp⟩⟩, by rw [RepTs]; exact ⟨rfl, rfl, rfl⟩, ?_, rfl⟩
   ·exact heap_alloc_new w.drew _
   ·rw [oblk_pos (by omega)]
    rfl
  ·simp only [List.mem_singleton] at hb
   subst hb
   rw [hsz]
   omega
  ·exact heap_alloc_old w.drew _ hb
end Go.Proofs.Ytninncdacekfgaa.VM

/- Two rows that are joined: what is told by hand of slices.Concat. -/
namespace Go.Proofs.Ytninncdacekfgaa.VM
open Go Go.Proofs Go.Proofs.YtninncdacekfgaaW.PrintWords
set_option linter.unusedSimpArgs false
set_option linter.unusedVariables false
set_option maxRecDepth 100000
set_option maxHeartbeats 4000000
section
variable {P : Program} {w w1 w2 w0 : World} {mine : Ctx} {o o1 o2 : OM} {loc loc1 loc2 : Nat → Value} {O R : Nat → List Nat} {σ σ1 σ2 : St} {a : Act}
/-- A call whose end is known. -/
theorem wp_callP {x : Oper} {g : FuncId} {args : Array Operand} {ts : Array TypeId} (ho : x.op = .call { callee := .value (.func g), args := args, argTypes := ts }) {us : List Value} (hus : (args.map a.eval) = us.toArray) {S : Value → World → Prop} (k1 : (callFunc g us.toArray).run P w = .ok (.enter g us.toArray) w) (hc : Calls P g us.toArray w fun e w' => ∃ v, e = .returned v ∧ S v w')
  {K : Act → World → Prop} {Q : Exit → Act → World → Prop} (hK : ∀ v w', S v w' → K (a.put x.dst v) w') : x.wp P a w K Q := by
 unfold Oper.wp
 have he : (execOp a.eval x).run P w = .ok (.enter g us.toArray) w := by
  unfold execOp
  rw [ho]
  have hfe : a.eval (.func g) = .func (.func g) #[] #[] := rfl
  simp only [resolve, hfe, Deferred.ofValue, Sem.run_bind, Sem.run_pure, Result.andThen_ok, invoke, hus]
  have : (#[] ++ us.toArray ++ #[]) = us.toArray := by simp
  rw [this]
  exact k1
 rw [he]
 show Calls P g us.toArray w _
 refine hc.mono fun e w' he => ?_
 obtain ⟨v, rfl, hS⟩ := he
 exact hK v w' hS
/-- The region that calls Grow of nil. -/
theorem grow_region {E : Env} {ops : Array Oper} {x0 x1 x2 : Oper} {y : Operand} {d0 d1 d2 : Nat} {g : FuncId} {e : TypeId} {ts : Array TypeId} {n : Nat} (h0 : x0.op = .move y) (q0 : x0.dst = some d0) (g0 : x0.guard = none)
  (h1 : x1.op = .call { callee := .value (.func g), args := #[.const (.slice none 0 0), .tmp d0], argTypes := ts }) (q1 : x1.dst = some d1) (g1 : x1.guard = none)
  (h2 : x2.op = .assign (.tmp d1)) (q2 : x2.dst = some d2) (g2 : x2.guard = none) (hd : d0 < E.n ∧ d1 < E.n ∧ d2 < E.n)
  (k1 : ∀ (w : World) (us : List Value), (callFunc g us.toArray).run E.P w = .ok (.enter g us.toArray) w) (hc : ∀ w, Calls E.P g #[.slice none 0 0, .int .i64 n] w fun e' w' => ∃ v, e' = .returned v ∧ Grown E.P e w v w')
  (h : Cor E.P w0 mine σ a w loc O R) (hn : a.tmps.size = E.n) (hy : σ.ev y = some (.c (.v (.int .i64 n)))) {Q : Exit → Act → World → Prop}
  (hQ : ∀ a' w' loc' O' R', Cor E.P w0 mine ((((σ.put (some d0) (.c (.v (.int .i64 n)))).new (site d1 0) ⟨.own, e, []⟩).put (some d1) (.c (.sl (site d1 0) [] 0 0))).put (some d2) (.c (.sl (site d1 0) [] 0 0))) a' w' loc' O' R' → a'.tmps.size = E.n → a'.defers = a.defers → Q .normal a' w') : wpList E.P ops Q [x0, x1, x2] a w := by
 have wt : ∀ {x : Oper} {t : Array Value}, x.guard = none → Region.wanted x (yielded ops t) = true := fun hg => by unfold Region.wanted; rw [hg]
 have ey : a.eval y = .int .i64 n := (rep_int (rep_ev h.tm hy)).1
 rw [wpList, wt g0, if_pos rfl]
 refine .inl (wp_mv (.inl h0) ?_)
 rw [q0, ey]
 have c0 := h.put (d := d0) (by rw [hn]; exact hd.1) (rep_ev h.tm hy)
 rw [ey] at c0
 have n0 : (a.put (some d0) (.int .i64 n)).tmps.size = E.n := by rw [put_size]; exact hn
 have v0 : (a.put (some d0) (.int .i64 n)).eval (.tmp d0) = .int .i64 n := by
  show (a.put (some d0) (.int .i64 n)).tmps.getD d0 undef = _
  rw [getD_put _ _ _ _ (by rw [hn]; exact hd.1), if_pos rfl]
 have dd : (a.put (some d0) (.int .i64 n)).defers = a.defers := rfl
 generalize a.put (some d0) (.int .i64 n) = a1 at *
 rw [wpList, wt g1, if_pos rfl]
 refine .inl (wp_callP h1 (us := [.slice none 0 0, .int .i64 n]) (by
  have hm : Array.map a1.eval #[Operand.const (.slice none 0 0), Operand.tmp d0] = #[a1.eval (.const (.slice none 0 0)), a1.eval (.tmp d0)] := by simp
  rw [hm, v0]
  rfl) (k1 w _) (hc w) fun v w' hS => ?_)
 obtain ⟨O', hr, hnd, hnew, hz, hst, hk⟩ := hS
 have c1 := c0.grow hz hst hk
 obtain ⟨loc', O2, R2, c2, hv⟩ := c1.newRow (site d1 0) (site_ge d1 0) hr hnd (fun id ob hl b hb hb' => by
  have := (c0.inv.own_ id ob hl b hb).1
  have := (hnew b hb').1
  omega) (fun b hb => ⟨(hnew b hb).2, .inl (Nat.le_trans c0.inv.size (hnew b hb).1)⟩) (fun b hb => by simp at hb)
 rw [q1]
 have c3 := c2.put (d := d1) (by rw [n0]; exact hd.2.1) (rep_c hv)
 have n1 : (a1.put (some d1) v).tmps.size = E.n := by rw [put_size]; exact n0
 rw [wpList, wt g2, if_pos rfl]
 refine .inl (wp_mv (.inr h2) ?_)
 rw [q2, wpList]
 exact hQ _ _ _ _ _ (c3.put (d := d2) (by rw [n1]; exact hd.2.2) (rep_ev (x := .tmp d1) c3.tm (by simp [St.ev, St.put, lk_ins]))) (by rw [put_size]; exact n1) dd
end
/-- Two rows joined. -/
def concatG (e : TypeId) : List A → Ans
 | [.c (.r e0 2 [.r e1 n xs, .r e2 m ys])] => if e0 = 25 ∧ e1 = e ∧ e2 = e ∧ allV xs = true ∧ allV ys = true ∧ xs.length = n ∧ ys.length = m ∧ n + m ≤ 4294967296 then some ([.c (.s e (n + m) (xs ++ ys))], [.c (.r e0 2 [.r e1 n xs, .r e2 m ys])]) else none
 | _ => none
def hintC (r : Nat) : List Nat × List Nat := if r = 3 then ([0, 2, 3, 9, 10, 11], [0]) else ([0, 2, 3, 6, 25, 26, 27], [0, 1600])
noncomputable def ECC : Env := ⟨Try.prog, 36, fun _ _ => none, fun _ _ => false⟩
theorem concat_ok : PrimOk Try.prog 101 (concatG 3) := by
 intro args rs args' hg w us Ox Rx hgv
 refine ⟨prim_enter Try.func101 rfl rfl, ?_⟩
 unfold concatG at hg
 split at hg
 ·rename_i e0 e1 n xs e2 m ys
  split at hg
  ·rename_i hc
   obtain ⟨rfl, rfl, rfl, v1, v2, l1, l2, hm⟩ := hc
   simp only [Option.some.injEq, Prod.mk.injEq] at hg
   obtain ⟨rfl, rfl⟩ := hg
   subst l1 l2
   have hs : Sound ECC.P ECC.run := fun f xs rs ys h => by cases h
   have hcalls : ∀ w0 mine, CallsOk ECC w0 mine := fun w0 mine => callsOk_of hs w0 mine
   have hdraws : ∀ w0 mine, DrawsOk ECC w0 mine := fun w0 mine => draws_sound (callsOk_of hs w0 mine) M0_ok.mixed
   refine func_any (E := ECC) (i0 := 0) (fn := Try.f101) Try.func101 rfl rfl (by simp [enter.enters, enter, enterC, ECC]) hgv ?_
   intro c0 a loc O R Q hc hn hQ
   refine wp_seq (exec_sound (hcalls _ _) (hdraws _ _) (k := 1) (hint := hintC) (x := .normal) (σ1 := ⟨[(0, .c (.sl 0 [] 0 2)), (2, .c .z)], [(0, ⟨.ro, 25, [.r 3 xs.length xs, .r 3 ys.length ys]⟩)]⟩) _ rfl hc hn (by simp -implicitDefEqProofs [ECC]) fun a1 w1 loc1 O1 R1 hc1 hn1 hd1 => ?_)
   refine wp_seq (exec_sound (hcalls _ _) (hdraws _ _) (k := 1) (hint := hintC) (x := .normal) (σ1 := ⟨[(0, .c (.sl 0 [] 0 2)), (2, .c .z), (3, .c (.v (.int .i64 0)))], [(0, ⟨.ro, 25, [.r 3 xs.length xs, .r 3 ys.length ys]⟩)]⟩) _ rfl hc1 hn1 (by simp -implicitDefEqProofs [ECC]) fun a2 w2 loc2 O2 R2 hc2 hn2 hd2 => ?_)
   refine wp_seq (exec_sound (hcalls _ _) (hdraws _ _) (k := 5) (hint := hintC) (x := .normal) (σ1 := ⟨[(0, .c (.sl 0 [] 0 2)), (2, .c .z), (3, .c (.v (.int .i64 (xs.length + ys.length : Nat)))), (9, .c (.sl 0 [] 0 2)), (10, .c (.v (.int .i64 2))), (11, .c (.v (.int .i64 2))), (12, .c (.v (.bool false)))], [(0, ⟨.ro, 25, [.r 3 xs.length xs, .r 3 ys.length ys]⟩)]⟩) _ rfl hc2 hn2 (by simp -implicitDefEqProofs [ECC, loopE, iter, hintC, w64 (x := 1) (by decide), w64 (x := 2) (by decide), w64 (x := (xs.length : Int)) (by omega), w64 (x := (xs.length : Int) + ys.length) (by omega), show ¬ (xs.length : Int) < 0 by omega, show ¬ (xs.length : Int) + ys.length < 0 by omega]) fun a3 w3 loc3 O3 R3 hc3 hn3 hd3 => ?_)
   refine wp_seq (wp_region ?_)
   rw [show ∀ (ops : Array Oper) (Q : Exit → Act → World → Prop), wpOps ECC.P ops Q (List.range ops.size) = wpList ECC.P ops Q ops.toList from fun ops Q => by
    rw [List.range_eq_range', ← Array.length_toList]
    exact wpOps_eq_wpList ops.toList 0 (fun j => by simp)]
   refine grow_region (E := ECC) (e := 3) (n := xs.length + ys.length) rfl rfl rfl rfl rfl rfl rfl rfl rfl (by simp [ECC]) (fun w us => prim_enter Try.func118 rfl rfl) (fun w => grow_ok _ hm w) hc3 hn3 (by simp [St.ev, lk]) fun a4 w4 loc4 O4 R4 hc4 hn4 hd4 => ?_
   refine exec_sound (hcalls _ _) (hdraws _ _) (k := 5) (hint := hintC) (x := .ret) (σ1 := ⟨[(0, .c (.sl 0 [] 0 2)), (2, .c (.sl 1600 [] 0 (xs.length + ys.length))), (3, .c (.v (.int .i64 (xs.length + ys.length : Nat)))), (6, .c (.sl 1600 [] 0 (xs.length + ys.length))), (25, .c (.sl 0 [] 0 2)), (26, .c (.v (.int .i64 2))), (27, .c (.v (.int .i64 2))), (28, .c (.v (.bool false))), (35, .c (.sl 1600 [] 0 (xs.length + ys.length)))], [(0, ⟨.ro, 25, [.r 3 xs.length xs, .r 3 ys.length ys]⟩), (1600, ⟨.own, 3, xs ++ ys⟩)]⟩) _ rfl hc4 hn4 (by simp -implicitDefEqProofs [ECC, loopE, iter, hintC, w64 (x := 1) (by decide), w64 (x := 2) (by decide), v1, v2, List.take_of_length_le, show xs.length ≤ most by unfold most; omega, show xs.length + ys.length ≤ most by unfold most; omega]) fun a5 w5 loc5 O5 R5 hc5 hn5 hd5 => ?_
   exact hQ .ret _ a5 w5 loc5 O5 R5 (by simp -implicitDefEqProofs [ECC, List.take_of_length_le (i := xs.length + ys.length) (l := xs ++ ys) (by simp)]) hc5 hn5 (hd5.trans (hd4.trans (hd3.trans (hd2.trans hd1))))
  ·simp at hg
 ·simp at hg
end Go.Proofs.Ytninncdacekfgaa.VM

/- A row that is cut off at its end: what is told by hand of slices.Clip. -/
namespace Go.Proofs.Ytninncdacekfgaa.VM
open Go Go.Proofs Go.Proofs.YtninncdacekfgaaW.PrintWords
set_option linter.unusedSimpArgs false
set_option linter.unusedVariables false
set_option maxRecDepth 100000
set_option maxHeartbeats 4000000
/-- A row of one's own, cut off at its end. -/
def clipG (e : TypeId) : List A → Ans
 | [.c (.s e' n xs)] => if e' = e ∧ allV xs = true then some ([.c (.s e n xs)], [.c .h]) else none
 | _ => none
theorem allV_none {P : Program} {w : World} : ∀ {xs : List T} {us : List Value} {O R : List Nat}, allV xs = true → RepTs P w xs us O R → O = [] ∧ R = []
 | [], us, O, R, _, h => by rw [RepTs] at h; exact h.2
 | x :: xs, us, O, R, hv, h => by
  cases x with
  | v q =>
   rw [RepTs] at h
   obtain ⟨u, us', O1, R1, O2, R2, rfl, h1, h2, rfl, rfl⟩ := h
   rw [RepT] at h1
   obtain ⟨rfl, _, rfl, rfl⟩ := h1
   obtain ⟨rfl, rfl⟩ := allV_none (by simpa [allV] using hv) h2
   exact ⟨rfl, rfl⟩
  | _ => simp [allV] at hv
end Go.Proofs.Ytninncdacekfgaa.VM

/- A draw's cursor: what is told by hand of spec.l1New. -/
namespace Go.Proofs.Ytninncdacekfgaa.VM
open Go Go.Proofs Go.RowKit Go.Proofs.YtninncdacekfgaaW.PrintWords
set_option linter.unusedSimpArgs false
set_option linter.unusedVariables false
set_option maxRecDepth 100000
set_option maxHeartbeats 4000000
def stepH (h b : Int) : Int := bits BinOp.and IntKind.i64 (wrap64 (wrap64 (wrap64 (h * 131) + wrap64 b) + 7)) 1073741823
def hashK (bs : List Int) : Nat → Int
 | 0 => 17259 + bs.length
 | k + 1 => stepH (hashK bs k) ((bs[k]?).getD 0)
theorem new_run (b off c : Nat) (bs : List Int) (w : World) (hm : bs.length ≤ 1048576) (hc : bs.length ≤ c) (hcell : ∀ i (h : i < bs.length), w.cell? ⟨b, off + i, none⟩ = some (.int .u8 bs[i])) : Calls Try.prog 24 #[.slice (some ⟨b, off, none⟩) bs.length c] w fun e w' => e = .returned (.pointer (some ⟨w.heap.size, 0, none⟩)) ∧ w' = w.alloc (.cells #[.slice (some ⟨b, off, none⟩) bs.length c, .int .i64 0, .int .i64 (hashK bs (min bs.length 4000))] 82) := by
 go_enter Try.func24, Try.ntmps24
 go_wp2
 go_loop [3, 4] (fun h i => ∃ k : Nat, k ≤ min bs.length 4000 ∧ i = .int .i64 k ∧ h = .int .i64 (hashK bs k)) (fun _ i => bs.length - (intOf i).toNat)
 case atStart => exact ⟨0, Nat.zero_le _, rfl, rfl⟩
 case round =>
  obtain ⟨k, hk, rfl, rfl⟩ := hrel
  have hcc : k < bs.length → w.cell? ⟨b, off + k, none⟩ = some (.int .u8 ((bs[k]?).getD 0)) := fun h => by rw [hcell k h, List.getElem?_eq_getElem h]; rfl
  go_wp2
  ·have hk1 : k < bs.length := by omega
   refine ⟨⟨k + 1, by omega, by simp, ?_⟩, by simp [intOf]; omega⟩
   rw [hashK, stepH, List.getElem?_eq_getElem hk1]
   rfl
  ·go_ret
   refine ⟨rfl, ?_⟩
   have : min bs.length 4000 = k := by omega
   rw [this]
  ·go_ret
   refine ⟨rfl, ?_⟩
   have : min bs.length 4000 = k := by omega
   rw [this]
theorem new_run0 (A : Option Addr) (c : Nat) (w : World) : Calls Try.prog 24 #[.slice A 0 c] w fun e w' => e = .returned (.pointer (some ⟨w.heap.size, 0, none⟩)) ∧ w' = w.alloc (.cells #[.slice A 0 c, .int .i64 0, .int .i64 17259] 82) := by
 go_enter Try.func24, Try.ntmps24
 go_wp2
 refine wp_loop_rounds 1 ?_
 rw [rounds_succ]
 go_wp2
 go_ret
 exact ⟨rfl, rfl⟩
def octT (bs : List Int) : List T := bs.map fun b => .v (.int .u8 b)
def valB : T → Int
 | .v (.int .u8 b) => b
 | _ => 0
theorem valB_map (bs : List Int) : (octT bs).map valB = bs := by
 unfold octT
 rw [List.map_map]
 exact (List.map_congr_left fun _ _ => rfl).trans (List.map_id _)
open Classical in
noncomputable def newG : List A → Ans
 | [.c (.r e n xs)] => if e = 5 ∧ n = xs.length ∧ n ≤ 1048576 ∧ xs = octT (xs.map valB) then some ([.box 82 [.h, .v (.int .i64 0), .v (.int .i64 (hashK (xs.map valB) (min n 4000)))]], [.c (.r e n xs)]) else none
 | _ => none
theorem newG_eq {bs : List Int} (h : bs.length ≤ 1048576) : newG [.c (.r 5 bs.length (octT bs))] = some ([.box 82 [.h, .v (.int .i64 0), .v (.int .i64 (hashK bs (min bs.length 4000)))]], [.c (.r 5 bs.length (octT bs))]) := by
 have := valB_map bs
 refine (if_pos (show 5 = 5 ∧ bs.length = (octT bs).length ∧ bs.length ≤ 1048576 ∧ octT bs = octT ((octT bs).map valB) from ⟨rfl, by simp [octT], h, by rw [this]⟩)).trans ?_
 rw [this]
theorem RepTs_oct {P : Program} {w : World} : ∀ {bs : List Int} {us : List Value} {O R : List Nat}, RepTs P w (octT bs) us O R → us = bs.map fun b => .int .u8 b
 | [], us, O, R, h => by
  simp only [octT, List.map_nil] at h
  rw [RepTs] at h
  exact h.1
 | b :: bs, us, O, R, h => by
  simp only [octT, List.map_cons] at h
  rw [RepTs] at h
  obtain ⟨u, us', O1, R1, O2, R2, rfl, h1, h2, rfl, rfl⟩ := h
  rw [RepT] at h1
  obtain ⟨rfl, _⟩ := h1
  rw [RepTs_oct h2]
  rfl
theorem new_ok : PrimOk Try.prog 24 newG := by
 intro args rs args' hg w us Ox Rx hgv
 refine ⟨prim_enter Try.func24 rfl rfl, ?_⟩
 unfold newG at hg
 split at hg
 ·rename_i e n xs
  split at hg
  ·rename_i hc
   obtain ⟨rfl, hn, hm, hx⟩ := hc
   generalize xs.map valB = bs at *
   simp only [Option.some.injEq, Prod.mk.injEq] at hg
   obtain ⟨rfl, rfl⟩ := hg
   have hr := hgv.rep
   rw [RepAs] at hr
   obtain ⟨u, us', O1, R1, O2, R2, rfl, h1, h2, rfl, rfl⟩ := hr
   rw [RepAs] at h2
   obtain ⟨rfl, rfl, rfl⟩ := h2
   rw [RepA] at h1
   obtain ⟨A, c, vs, O', R', rfl, hnc, ⟨hcm, hpos⟩, hl, hs, _, _, hcell⟩ := Row_cells (own := false) (show Row Try.prog w false 5 n xs u O1 R1 from h1)
   subst hx
   have hvs := RepTs_oct hs
   have hbl : bs.length = n := by rw [hn]; simp [octT]
   subst hbl
   have fin : ∀ A, (Calls Try.prog 24 #[.slice A bs.length c] w fun e w' => e = .returned (.pointer (some ⟨w.heap.size, 0, none⟩)) ∧ w' = w.alloc (.cells #[.slice A bs.length c, .int .i64 0, .int .i64 (hashK bs (min bs.length 4000))] 82)) → Calls Try.prog 24 [Value.slice A bs.length c].toArray w (AnswersX Try.prog w [.c (.r 5 bs.length (octT bs))] [Value.slice A bs.length c] (O1 ++ []) [.box 82 [.h, .v (.int .i64 0), .v (.int .i64 (hashK bs (min bs.length 4000)))]] [.c (.r 5 bs.length (octT bs))]) := fun A h => by
    refine h.mono ?_
    rintro e w' ⟨rfl, rfl⟩
    refine ⟨_, [.int .i64 0, .int .i64 (hashK bs (min bs.length 4000))], rfl, rfl, rfl, ?_⟩
    rw [RepTs]
    refine ⟨_, _, [], [], [], [], rfl, ?_, ?_, rfl, rfl⟩
    ·rw [RepT]; exact ⟨rfl, rfl, rfl, rfl⟩
    ·rw [RepTs]
     refine ⟨_, _, [], [], [], [], rfl, ?_, ?_, rfl, rfl⟩
     ·rw [RepT]; exact ⟨rfl, rfl, rfl, rfl⟩
     ·rw [RepTs]; exact ⟨rfl, rfl, rfl⟩
   refine fin A ?_
   cases hb : bs.length with
   | zero =>
    have : bs = [] := List.eq_nil_of_length_eq_zero hb
    subst this
    exact new_run0 A c w
   | succ k =>
    have hv0 : vs[0]? = some (.int .u8 (bs[0]'(by omega))) := by rw [hvs, List.getElem?_map, List.getElem?_eq_getElem (by omega)]; rfl
    obtain ⟨ad, rfl, hsp, _, _⟩ := hcell 0 _ hv0
    obtain ⟨b, off, spot⟩ := ad
    simp only at hsp
    subst hsp
    rw [← hb]
    refine new_run b off c bs w hm hnc fun i hi => ?_
    obtain ⟨ad, he, _, hx, _⟩ := hcell i (.int .u8 bs[i]) (by rw [hvs, List.getElem?_map, List.getElem?_eq_getElem hi]; rfl)
    injection he with he
    subst he
    by_cases hi0 : i = 0
    ·subst hi0
     simpa [Addr.add] using hx
    ·simpa [Addr.add, hi0] using hx
  ·simp at hg
 ·simp at hg
end Go.Proofs.Ytninncdacekfgaa.VM

/- The machine, with what is told by hand: has, slices.Clone. -/
namespace Go.Proofs.Ytninncdacekfgaa.VM
open Go Go.Proofs
set_option linter.unusedSimpArgs false
set_option linter.unusedVariables false
set_option maxRecDepth 100000
theorem has_ok : PrimOk Try.prog 91 g66 := by
 intro args rs args' hg w us Ox Rx hgv
 refine ⟨prim_enter Try.func91 rfl rfl, ?_⟩
 unfold g66 at hg
 split at hg
 ·rename_i op p
  simp only [Option.some.injEq, Prod.mk.injEq] at hg
  obtain ⟨rfl, rfl⟩ := hg
  exact has_calls op p hgv
 ·simp at hg
noncomputable def M : Mach := withSkip (machP M0 [(91, g66), (47, cloneG 3), (75, cloneG 100), (41, cloneG 40), (76, cloneG 29), (101, concatG 3), (24, newG)]) skip1
theorem M_ok : MachOk M := withSkip_ok (machP_ok M0_ok fun x hx => by
 simp only [List.mem_cons, List.not_mem_nil, or_false] at hx
 rcases hx with rfl | rfl | rfl | rfl | rfl | rfl | rfl
 ·exact has_ok
 ·exact clone_int
 ·exact clone_item
 ·exact clone_ins
 ·exact clone_event
 ·exact concat_ok
 ·exact new_ok
 )
@[simp] theorem MP : M.P = Try.prog := M0P
@[simp] theorem Mown : M.own = own1 := M0own
@[simp] theorem Mhint : M.hint = hint1 := M0hint
@[simp] theorem Mfar : M.far = far1 := M0far
@[simp] theorem Mskip : M.skip = skip1 := rfl
theorem run66 {j : Nat} (op p : Int) : M.run (j + 1) 91 [.c (.v (.int .i64 op)), .c (.v (.int .u8 p))] = some ([.c (.v (.bool (hasB op p)))], [.c (.v (.int .i64 op)), .c (.v (.int .u8 p))]) := rfl
theorem cloneG_eq {e n : Nat} {xs : List T} (hv : allV xs = true) (hm : xs.length ≤ most) : cloneG e [.c (.r e n xs)] = some ([.c (.s e n xs)], [.c (.r e n xs)]) := if_pos ⟨rfl, hv, hm⟩
theorem run_clone {j : Nat} (xs : List Int) (hx : xs.length ≤ 1048576) : M.run (j + 1) 47 [.c (.r 3 xs.length (ints xs))] = some ([.c (.s 3 xs.length (ints xs))], [.c (.r 3 xs.length (ints xs))]) :=
 show cloneG 3 _ = _ from cloneG_eq (allV_ints xs) (by rw [ints_len]; exact le_most hx)
end Go.Proofs.Ytninncdacekfgaa.VM

/- The machine's answers: rows of numbers, states. -/
namespace Go.Proofs.Ytninncdacekfgaa.VM
open Go Go.Proofs
set_option linter.unusedSimpArgs false
set_option linter.unusedVariables false
set_option maxRecDepth 100000
def H37 (k : Int) (xs : List Int) (i : Nat) : St := ⟨[(0, .c (.sl 0 [] 0 xs.length)), (1, .c (.v (.int .i64 (k + i)))), (5, .c (.v (.int .i64 i)))], [(0, ⟨.own, 3, ints (upto k i ++ xs.drop i)⟩)]⟩
def H34 (xs : List Int) (i : Nat) : St := ⟨[(0, .c (.sl 0 [] 0 xs.length)), (1, .c (.sl 1 [] 0 xs.length)), (5, .c (.v (.int .i64 i)))], [(0, ⟨.ro, 3, ints xs⟩), (1, ⟨.ro, 3, ints xs⟩)]⟩
def H38 (k : Int) (n : Nat) (i : Nat) : St := ⟨[(0, .c (.sl 0 [] 0 n)), (1, .c (.v (.int .i64 (k + i)))), (5, .c (.v (.int .i64 i)))], [(0, ⟨.ro, 3, ints (upto k n)⟩)]⟩
/-! ### State -/
def stR (a : Int) (xs ys : List Int) (c : Int) : List T := [.v (.int .i64 a), .r 3 xs.length (ints xs), .r 3 ys.length (ints ys), .v (.int .i64 c)]
def stS (a : Int) (xs ys : List Int) (c : Int) : List T := [.v (.int .i64 a), .s 3 xs.length (ints xs), .s 3 ys.length (ints ys), .v (.int .i64 c)]
theorem run15 {j : Nat} : M.run (j + 1) 86 [] = some ([.agg (stS 0 [0, 0, 0, 0] [] 0)], []) := by
 rw [m_run (fn := Try.f86) (i0 := 0) rfl Try.func86 rfl rfl (by simp)]
 simp -implicitDefEqProofs [stS, most, ints]
theorem run16 {j : Nat} : M.run (j + 1) 42 [] = some ([.agg (stS 0 [0, 0, 0, 0] [] 0)], []) := by
 rw [m_run (fn := Try.f42) (i0 := 0) rfl Try.func42 rfl rfl (by simp)]
 simp -implicitDefEqProofs [stS, most, ints]

end Go.Proofs.Ytninncdacekfgaa.VM

/- Numbers and instructions reckoned. -/
namespace Go.Proofs.Ytninncdacekfgaa.VM
open Go Go.Proofs
set_option linter.unusedSimpArgs false
set_option linter.unusedVariables false
set_option maxRecDepth 100000
def inB (n lo hi : Int) : Bool := decide (lo ≤ n ∧ n ≤ hi)
theorem run61 {j : Nat} (n lo hi : Int) : M.run (j + 1) 39 [.c (.v (.int .i64 n)), .c (.v (.int .i64 lo)), .c (.v (.int .i64 hi))] = some ([.c (.v (.bool (inB n lo hi)))], [.c (.v (.int .i64 n)), .c (.v (.int .i64 lo)), .c (.v (.int .i64 hi))]) := by
 rw [m_run (fn := Try.f39) (i0 := 0) rfl Try.func39 rfl rfl (by simp)]
 by_cases h : lo ≤ n <;> simp -implicitDefEqProofs [h, inB]
theorem run64 {j : Nat} (n lo hi : Int) : M.run (j + 1) 38 [.c (.v (.int .i64 n)), .c (.v (.int .i64 lo)), .c (.v (.int .i64 hi))] = some ([.c (.v (.bool (inB n lo hi)))], [.c (.v (.int .i64 n)), .c (.v (.int .i64 lo)), .c (.v (.int .i64 hi))]) := by
 rw [m_run (fn := Try.f38) (i0 := 0) rfl Try.func38 rfl rfl (by simp)]
 by_cases h : lo ≤ n <;> simp -implicitDefEqProofs [h, inB]
def numB (n : Int) : Bool := inB n (-1000000000) 1000000000
theorem run62 {j : Nat} (n : Int) : M.run (j + 2) 40 [.c (.v (.int .i64 n))] = some ([.c (.v (.bool (numB n)))], [.c (.v (.int .i64 n))]) := by
 rw [m_run (fn := Try.f40) (i0 := 0) rfl Try.func40 rfl rfl (by simp)]
 simp -implicitDefEqProofs [run61, numB, own1]
theorem run67 {j : Nat} (n : Int) : M.run (j + 2) 55 [.c (.v (.int .i64 n))] = some ([.c (.v (.bool (numB n)))], [.c (.v (.int .i64 n))]) := by
 rw [m_run (fn := Try.f55) (i0 := 0) rfl Try.func55 rfl rfl (by simp)]
 simp -implicitDefEqProofs [run64, numB, own1]
def regB (n : Int) (h : Bool) : Bool := decide (n = 0) || (h && inB n 0 3)
theorem run65 {j : Nat} (n : Int) (b : Bool) : M.run (j + 2) 90 [.c (.v (.int .i64 n)), .c (.v (.bool b))] = some ([.c (.v (.bool (regB n b)))], [.c (.v (.int .i64 n)), .c (.v (.bool b))]) := by
 rw [m_run (fn := Try.f90) (i0 := 0) rfl Try.func90 rfl rfl (by simp)]
 by_cases h : n = 0
 ·subst h; cases b <;> simp -implicitDefEqProofs [regB, own1]
 ·cases b <;> simp -implicitDefEqProofs [h, regB, run64, own1]
structure Ins where
 op : Int
 r : Int
 a : Int
 b : Int
 n : Int
def tIns (x : Ins) : List T := [.v (.int .i64 x.op), .v (.int .i64 x.r), .v (.int .i64 x.a), .v (.int .i64 x.b), .v (.int .i64 x.n)]
end Go.Proofs.Ytninncdacekfgaa.VM
