/- Rows that are joined; the machine. -/
import Derived.Test.YtemghdnofgjnmaaDoorFx
import Derived.WalkKit
import Derived.Lib.Walk
import Derived.Lib.SliceRun
import Derived.Lib.AppendZeros
import Derived.Tactics
import Derived.Tactics2
import Derived.Test.YtemghdnofgjnmaaDoorK1
import Derived.Test.YtemghdnofgjnmaaDoorShelf
import Derived.Lib.SplitLaws
/- Rows that are joined: slices.Grow of nil. -/
namespace Go.Proofs.YtemghdnofgjnmaaDoor.VM
open Go Go.Proofs
set_option linter.unusedSimpArgs false
set_option linter.unusedVariables false
set_option maxRecDepth 100000
set_option maxHeartbeats 4000000
/-- What Grow of nil answers: a row of one's own, empty. -/
def Grown (P : Program) (e : TypeId) (w : World) (v : Value) (w' : World) : Prop := ∃ O', RepT P w' (.s e 0 []) v O' [] ∧ O'.Nodup ∧ (∀ b ∈ O', w.heap.size ≤ b ∧ b < w'.heap.size) ∧ w.heap.size ≤ w'.heap.size ∧ Still w w' ∧ ∀ b, b < w.heap.size → w'.heap[b]? = w.heap[b]?
end Go.Proofs.YtemghdnofgjnmaaDoor.VM

/- Two rows that are joined: what is told by hand of slices.Concat. -/
namespace Go.Proofs.YtemghdnofgjnmaaDoor.VM
open Go Go.Proofs Go.Proofs.YtemghdnofgjnmaaDoorW.PrintWords
set_option linter.unusedSimpArgs false
set_option linter.unusedVariables false
set_option maxRecDepth 100000
set_option maxHeartbeats 4000000
section
variable {P : Program} {w w1 w2 w0 : World} {mine : Ctx} {o o1 o2 : OM} {loc loc1 loc2 : Nat → Value} {O R : Nat → List Nat} {σ σ1 σ2 : St} {a : Act}
/-- A call whose end is known. -/
theorem wp_callP {x : Oper} {g : FuncId} {args : Array Operand} {ts : Array TypeId} (ho : x.op = .call { callee := .value (.func g), args := args, argTypes := ts }) {us : List Value} (hus : (args.map a.eval) = us.toArray) {S : Value → World → Prop} (k1 : (callFunc g us.toArray).run P w = .ok (.enter g us.toArray) w) (hc : Calls P g us.toArray w fun e w' => ∃ v, e = .returned v ∧ S v w')
  {K : Act → World → Prop} {Q : Exit → Act → World → Prop} (hK : ∀ v w', S v w' → K (a.put x.dst v) w') : x.wp P a w K Q := by
 unfold Oper.wp
 have he : (execOp a.eval x).run P w = .ok (.enter g us.toArray) w := by
  unfold execOp
  rw [ho]
  have hfe : a.eval (.func g) = .func (.func g) #[] #[] := rfl
  simp only [resolve, hfe, Deferred.ofValue, Sem.run_bind, Sem.run_pure, Result.andThen_ok, invoke, hus]
  have : (#[] ++ us.toArray ++ #[]) = us.toArray := by simp
  rw [this]
  exact k1
 rw [he]
 show Calls P g us.toArray w _
 refine hc.mono fun e w' he => ?_
 obtain ⟨v, rfl, hS⟩ := he
 exact hK v w' hS
/-- The region that calls Grow of nil. -/
theorem grow_region {E : Env} {ops : Array Oper} {x0 x1 x2 : Oper} {y : Operand} {d0 d1 d2 : Nat} {g : FuncId} {e : TypeId} {ts : Array TypeId} {n : Nat} (h0 : x0.op = .move y) (q0 : x0.dst = some d0) (g0 : x0.guard = none)
  (h1 : x1.op = .call { callee := .value (.func g), args := #[.const (.slice none 0 0), .tmp d0], argTypes := ts }) (q1 : x1.dst = some d1) (g1 : x1.guard = none)
  (h2 : x2.op = .assign (.tmp d1)) (q2 : x2.dst = some d2) (g2 : x2.guard = none) (hd : d0 < E.n ∧ d1 < E.n ∧ d2 < E.n)
  (k1 : ∀ (w : World) (us : List Value), (callFunc g us.toArray).run E.P w = .ok (.enter g us.toArray) w) (hc : ∀ w, Calls E.P g #[.slice none 0 0, .int .i64 n] w fun e' w' => ∃ v, e' = .returned v ∧ Grown E.P e w v w')
  (h : Cor E.P w0 mine σ a w loc O R) (hn : a.tmps.size = E.n) (hy : σ.ev y = some (.c (.v (.int .i64 n)))) {Q : Exit → Act → World → Prop}
  (hQ : ∀ a' w' loc' O' R', Cor E.P w0 mine ((((σ.put (some d0) (.c (.v (.int .i64 n)))).new (site d1 0) ⟨.own, e, []⟩).put (some d1) (.c (.sl (site d1 0) [] 0 0))).put (some d2) (.c (.sl (site d1 0) [] 0 0))) a' w' loc' O' R' → a'.tmps.size = E.n → a'.defers = a.defers → Q .normal a' w') : wpList E.P ops Q [x0, x1, x2] a w := by
 have wt : ∀ {x : Oper} {t : Array Value}, x.guard = none → Region.wanted x (yielded ops t) = true := fun hg => by unfold Region.wanted; rw [hg]
 have ey : a.eval y = .int .i64 n := (rep_int (rep_ev h.tm hy)).1
 rw [wpList, wt g0, if_pos rfl]
 refine .inl (wp_mv (.inl h0) ?_)
 rw [q0, ey]
 have c0 := h.put (d := d0) (by rw [hn]; exact hd.1) (rep_ev h.tm hy)
 rw [ey] at c0
 have n0 : (a.put (some d0) (.int .i64 n)).tmps.size = E.n := by rw [put_size]; exact hn
 have v0 : (a.put (some d0) (.int .i64 n)).eval (.tmp d0) = .int .i64 n := by
  show (a.put (some d0) (.int .i64 n)).tmps.getD d0 undef = _
  rw [getD_put _ _ _ _ (by rw [hn]; exact hd.1), if_pos rfl]
 have dd : (a.put (some d0) (.int .i64 n)).defers = a.defers := rfl
 generalize a.put (some d0) (.int .i64 n) = a1 at *
 rw [wpList, wt g1, if_pos rfl]
 refine .inl (wp_callP h1 (us := [.slice none 0 0, .int .i64 n]) (by
  have hm : Array.map a1.eval #[Operand.const (.slice none 0 0), Operand.tmp d0] = #[a1.eval (.const (.slice none 0 0)), a1.eval (.tmp d0)] := by simp
  rw [hm, v0]
  rfl) (k1 w _) (hc w) fun v w' hS => ?_)
 obtain ⟨O', hr, hnd, hnew, hz, hst, hk⟩ := hS
 have c1 := c0.grow hz hst hk
 obtain ⟨loc', O2, R2, c2, hv⟩ := c1.newRow (site d1 0) (site_ge d1 0) hr hnd (fun id ob hl b hb hb' => by
  have := (c0.inv.own_ id ob hl b hb).1
  have := (hnew b hb').1
  omega) (fun b hb => ⟨(hnew b hb).2, .inl (Nat.le_trans c0.inv.size (hnew b hb).1)⟩) (fun b hb => by simp at hb)
 rw [q1]
 have c3 := c2.put (d := d1) (by rw [n0]; exact hd.2.1) (rep_c hv)
 have n1 : (a1.put (some d1) v).tmps.size = E.n := by rw [put_size]; exact n0
 rw [wpList, wt g2, if_pos rfl]
 refine .inl (wp_mv (.inr h2) ?_)
 rw [q2, wpList]
 exact hQ _ _ _ _ _ (c3.put (d := d2) (by rw [n1]; exact hd.2.2) (rep_ev (x := .tmp d1) c3.tm (by simp [St.ev, St.put, lk_ins]))) (by rw [put_size]; exact n1) dd
end
/-- Two rows joined. -/
def concatG (e : TypeId) : List A → Ans
 | [.c (.r e0 2 [.r e1 n xs, .r e2 m ys])] => if e0 = 37 ∧ e1 = e ∧ e2 = e ∧ allV xs = true ∧ allV ys = true ∧ xs.length = n ∧ ys.length = m ∧ n + m ≤ 4294967296 then some ([.c (.s e (n + m) (xs ++ ys))], [.c (.r e0 2 [.r e1 n xs, .r e2 m ys])]) else none
 | _ => none
def hintC (r : Nat) : List Nat × List Nat := if r = 3 then ([0, 2, 3, 9, 10, 11], [0]) else ([0, 2, 3, 6, 25, 26, 27], [0, 1600])
noncomputable def ECC : Env := ⟨Tryd.prog, 36, fun _ _ => none, fun _ _ => false⟩
end Go.Proofs.YtemghdnofgjnmaaDoor.VM

/- A row that is cut off at its end: what is told by hand of slices.Clip. -/
namespace Go.Proofs.YtemghdnofgjnmaaDoor.VM
open Go Go.Proofs Go.Proofs.YtemghdnofgjnmaaDoorW.PrintWords
set_option linter.unusedSimpArgs false
set_option linter.unusedVariables false
set_option maxRecDepth 100000
set_option maxHeartbeats 4000000
/-- A row of one's own, cut off at its end. -/
def clipG (e : TypeId) : List A → Ans
 | [.c (.s e' n xs)] => if e' = e ∧ allV xs = true then some ([.c (.s e n xs)], [.c .h]) else none
 | _ => none
theorem allV_none {P : Program} {w : World} : ∀ {xs : List T} {us : List Value} {O R : List Nat}, allV xs = true → RepTs P w xs us O R → O = [] ∧ R = []
 | [], us, O, R, _, h => by rw [RepTs] at h; exact h.2
 | x :: xs, us, O, R, hv, h => by
  cases x with
  | v q =>
   rw [RepTs] at h
   obtain ⟨u, us', O1, R1, O2, R2, rfl, h1, h2, rfl, rfl⟩ := h
   rw [RepT] at h1
   obtain ⟨rfl, _, rfl, rfl⟩ := h1
   obtain ⟨rfl, rfl⟩ := allV_none (by simpa [allV] using hv) h2
   exact ⟨rfl, rfl⟩
  | _ => simp [allV] at hv
end Go.Proofs.YtemghdnofgjnmaaDoor.VM

/- A draw's cursor: what is told by hand of spec.l1New. -/
namespace Go.Proofs.YtemghdnofgjnmaaDoor.VM
open Go Go.Proofs Go.RowKit Go.Proofs.YtemghdnofgjnmaaDoorW.PrintWords
set_option linter.unusedSimpArgs false
set_option linter.unusedVariables false
set_option maxRecDepth 100000
set_option maxHeartbeats 4000000
def stepH (h b : Int) : Int := bits BinOp.and IntKind.i64 (wrap64 (wrap64 (wrap64 (h * 131) + wrap64 b) + 7)) 1073741823
def hashK (bs : List Int) : Nat → Int
 | 0 => 17259 + bs.length
 | k + 1 => stepH (hashK bs k) ((bs[k]?).getD 0)
theorem new_run (b off c : Nat) (bs : List Int) (w : World) (hm : bs.length ≤ 1048576) (hc : bs.length ≤ c) (hcell : ∀ i (h : i < bs.length), w.cell? ⟨b, off + i, none⟩ = some (.int .u8 bs[i])) : Calls Tryd.prog 22 #[.slice (some ⟨b, off, none⟩) bs.length c] w fun e w' => e = .returned (.pointer (some ⟨w.heap.size, 0, none⟩)) ∧ w' = w.alloc (.cells #[.slice (some ⟨b, off, none⟩) bs.length c, .int .i64 0, .int .i64 (hashK bs (min bs.length 4000))] 64) := by
 go_enter Tryd.func22, Tryd.ntmps22
 go_wp2
 go_loop [3, 4] (fun h i => ∃ k : Nat, k ≤ min bs.length 4000 ∧ i = .int .i64 k ∧ h = .int .i64 (hashK bs k)) (fun _ i => bs.length - (intOf i).toNat)
 case atStart => exact ⟨0, Nat.zero_le _, rfl, rfl⟩
 case round =>
  obtain ⟨k, hk, rfl, rfl⟩ := hrel
  have hcc : k < bs.length → w.cell? ⟨b, off + k, none⟩ = some (.int .u8 ((bs[k]?).getD 0)) := fun h => by rw [hcell k h, List.getElem?_eq_getElem h]; rfl
  go_wp2
  ·have hk1 : k < bs.length := by omega
   refine ⟨⟨k + 1, by omega, by simp, ?_⟩, by simp [intOf]; omega⟩
   rw [hashK, stepH, List.getElem?_eq_getElem hk1]
   rfl
  ·go_ret
   refine ⟨rfl, ?_⟩
   have : min bs.length 4000 = k := by omega
   rw [this]
  ·go_ret
   refine ⟨rfl, ?_⟩
   have : min bs.length 4000 = k := by omega
   rw [this]
theorem new_run0 (A : Option Addr) (c : Nat) (w : World) : Calls Tryd.prog 22 #[.slice A 0 c] w fun e w' => e = .returned (.pointer (some ⟨w.heap.size, 0, none⟩)) ∧ w' = w.alloc (.cells #[.slice A 0 c, .int .i64 0, .int .i64 17259] 64) := by
 go_enter Tryd.func22, Tryd.ntmps22
 go_wp2
 refine wp_loop_rounds 1 ?_
 rw [rounds_succ]
 go_wp2
 go_ret
 exact ⟨rfl, rfl⟩
def octT (bs : List Int) : List T := bs.map fun b => .v (.int .u8 b)
def valB : T → Int
 | .v (.int .u8 b) => b
 | _ => 0
theorem valB_map (bs : List Int) : (octT bs).map valB = bs := by
 unfold octT
 rw [List.map_map]
 exact (List.map_congr_left fun _ _ => rfl).trans (List.map_id _)
open Classical in
noncomputable def newG : List A → Ans
 | [.c (.r e n xs)] => if e = 5 ∧ n = xs.length ∧ n ≤ 1048576 ∧ xs = octT (xs.map valB) then some ([.box 64 [.h, .v (.int .i64 0), .v (.int .i64 (hashK (xs.map valB) (min n 4000)))]], [.c (.r e n xs)]) else none
 | _ => none
theorem newG_eq {bs : List Int} (h : bs.length ≤ 1048576) : newG [.c (.r 5 bs.length (octT bs))] = some ([.box 64 [.h, .v (.int .i64 0), .v (.int .i64 (hashK bs (min bs.length 4000)))]], [.c (.r 5 bs.length (octT bs))]) := by
 have := valB_map bs
 refine (if_pos (show 5 = 5 ∧ bs.length = (octT bs).length ∧ bs.length ≤ 1048576 ∧ octT bs = octT ((octT bs).map valB) from ⟨rfl, by simp [octT], h, by rw [this]⟩)).trans ?_
 rw [this]
theorem RepTs_oct {P : Program} {w : World} : ∀ {bs : List Int} {us : List Value} {O R : List Nat}, RepTs P w (octT bs) us O R → us = bs.map fun b => .int .u8 b
 | [], us, O, R, h => by
  simp only [octT, List.map_nil] at h
  rw [RepTs] at h
  exact h.1
 | b :: bs, us, O, R, h => by
  simp only [octT, List.map_cons] at h
  rw [RepTs] at h
  obtain ⟨u, us', O1, R1, O2, R2, rfl, h1, h2, rfl, rfl⟩ := h
  rw [RepT] at h1
  obtain ⟨rfl, _⟩ := h1
  rw [RepTs_oct h2]
  rfl
theorem new_ok  {gd : Guard} : PrimOk gd Tryd.prog 22 newG := by
 intro args rs args' hg w us Ox Rx hgv
 refine ⟨prim_enter Tryd.func22 rfl rfl, ?_⟩
 unfold newG at hg
 split at hg
 ·rename_i e n xs
  split at hg
  ·rename_i hc
   obtain ⟨rfl, hn, hm, hx⟩ := hc
   generalize xs.map valB = bs at *
   simp only [Option.some.injEq, Prod.mk.injEq] at hg
   obtain ⟨rfl, rfl⟩ := hg
   have hr := hgv.rep
   rw [RepAs] at hr
   obtain ⟨u, us', O1, R1, O2, R2, rfl, h1, h2, rfl, rfl⟩ := hr
   rw [RepAs] at h2
   obtain ⟨rfl, rfl, rfl⟩ := h2
   rw [RepA] at h1
   obtain ⟨A, c, vs, O', R', rfl, hnc, ⟨hcm, hpos⟩, hl, hs, _, _, hcell⟩ := Row_cells (own := false) (show Row Tryd.prog w false 5 n xs u O1 R1 from h1)
   subst hx
   have hvs := RepTs_oct hs
   have hbl : bs.length = n := by rw [hn]; simp [octT]
   subst hbl
   have fin : ∀ A, (Calls Tryd.prog 22 #[.slice A bs.length c] w fun e w' => e = .returned (.pointer (some ⟨w.heap.size, 0, none⟩)) ∧ w' = w.alloc (.cells #[.slice A bs.length c, .int .i64 0, .int .i64 (hashK bs (min bs.length 4000))] 64)) → Calls Tryd.prog 22 [Value.slice A bs.length c].toArray w (AnswersX Tryd.prog w [.c (.r 5 bs.length (octT bs))] [Value.slice A bs.length c] (O1 ++ []) [.box 64 [.h, .v (.int .i64 0), .v (.int .i64 (hashK bs (min bs.length 4000)))]] [.c (.r 5 bs.length (octT bs))]) := fun A h => by
    refine h.mono ?_
    rintro e w' ⟨rfl, rfl⟩
    refine ⟨_, [.int .i64 0, .int .i64 (hashK bs (min bs.length 4000))], rfl, rfl, rfl, ?_⟩
    rw [RepTs]
    refine ⟨_, _, [], [], [], [], rfl, ?_, ?_, rfl, rfl⟩
    ·rw [RepT]; exact ⟨rfl, rfl, rfl, rfl⟩
    ·rw [RepTs]
     refine ⟨_, _, [], [], [], [], rfl, ?_, ?_, rfl, rfl⟩
     ·rw [RepT]; exact ⟨rfl, rfl, rfl, rfl⟩
     ·rw [RepTs]; exact ⟨rfl, rfl, rfl⟩
   refine fin A ?_
   cases hb : bs.length with
   | zero =>
    have : bs = [] := List.eq_nil_of_length_eq_zero hb
    subst this
    exact new_run0 A c w
   | succ k =>
    have hv0 : vs[0]? = some (.int .u8 (bs[0]'(by omega))) := by rw [hvs, List.getElem?_map, List.getElem?_eq_getElem (by omega)]; rfl
    obtain ⟨ad, rfl, hsp, _, _⟩ := hcell 0 _ hv0
    obtain ⟨b, off, spot⟩ := ad
    simp only at hsp
    subst hsp
    rw [← hb]
    refine new_run b off c bs w hm hnc fun i hi => ?_
    obtain ⟨ad, he, _, hx, _⟩ := hcell i (.int .u8 bs[i]) (by rw [hvs, List.getElem?_map, List.getElem?_eq_getElem hi]; rfl)
    injection he with he
    subst he
    by_cases hi0 : i = 0
    ·subst hi0
     simpa [Addr.add] using hx
    ·simpa [Addr.add, hi0] using hx
  ·simp at hg
 ·simp at hg
end Go.Proofs.YtemghdnofgjnmaaDoor.VM

/- A number's decimal numeral: what is told by hand of strconv.Itoa. -/
namespace Go.Proofs.YtemghdnofgjnmaaDoor.VM
open Go Go.Proofs Go.Sort
set_option linter.unusedSimpArgs false
set_option linter.unusedVariables false
set_option maxRecDepth 100000
section
variable {P : Program} {w w1 : World}
/-- Arguments that are plain values. -/
def plainA (vs : List Value) : List A := vs.map fun v => .c (.v v)
theorem rep_plain : ∀ {vs us : List Value} {O R : List Nat}, RepAs P w (plainA vs) us O R → us = vs ∧ O = [] ∧ R = [] ∧ ∀ v ∈ vs, v.oneCell' = true
 | [], us, O, R, h => by
  rw [plainA, List.map_nil, RepAs] at h
  exact ⟨h.1, h.2.1, h.2.2, fun v hv => by simp at hv⟩
 | v :: vs, us, O, R, h => by
  rw [plainA, List.map_cons, RepAs] at h
  obtain ⟨u, us', O1, R1, O2, R2, rfl, h1, h2, rfl, rfl⟩ := h
  rw [RepA, RepT] at h1
  obtain ⟨rfl, hv, rfl, rfl⟩ := h1
  obtain ⟨rfl, rfl, rfl, hvs⟩ := rep_plain h2
  exact ⟨rfl, rfl, rfl, fun x hx => (List.mem_cons.1 hx).elim (fun h => by rw [h]; exact hv) (hvs x)⟩
theorem after_plain : ∀ {vs : List Value}, (∀ v ∈ vs, v.oneCell' = true) → AfterAs P w w1 (plainA vs) (plainA vs) vs [] []
 | [], _ => by rw [plainA, List.map_nil, AfterAs]; exact ⟨rfl, rfl, rfl⟩
 | v :: vs, h => by
  rw [plainA, List.map_cons, AfterAs]
  refine ⟨v, vs, [], [], [], [], [], rfl, ?_, ?_, after_plain (fun x hx => h x (List.mem_cons_of_mem _ hx)), rfl, rfl⟩
  ·rw [RepA, RepT]
   exact ⟨rfl, h v (List.mem_cons_self ..), rfl, rfl⟩
  ·rw [AfterA]
   exact rfl
/-- What only tells a plain value of plain values. -/
theorem tell_answers {vs us : List Value} {rv : Value} {Ox Rx : List Nat} {f : FuncId} (hrep : RepAs P w (plainA vs) us Ox Rx) (hone : rv.oneCell' = true)
  (h : Calls P f vs.toArray w fun e w' => e = .returned rv ∧ w.heap.size ≤ w'.heap.size ∧ Still w w' ∧ ∀ b, b < w.heap.size → w'.heap[b]? = w.heap[b]?) :
  Calls P f us.toArray w (AnswersX P w (plainA vs) us Ox [.c (.v rv)] (plainA vs)) := by
 obtain ⟨rfl, rfl, rfl, hv⟩ := rep_plain hrep
 refine h.mono ?_
 rintro e w' ⟨rfl, hz, hst, hk⟩
 refine ⟨[rv], [], [], rfl, ?_, after_plain hv, List.nodup_nil, hz, hst, fun b hb _ => hk b hb, fun b hb => by simp at hb⟩
 rw [RepAs]
 refine ⟨rv, [], [], [], [], [], rfl, ?_, by rw [RepAs]; exact ⟨rfl, rfl, rfl⟩, rfl, rfl⟩
 rw [RepA, RepT]
 exact ⟨rfl, hone, rfl, rfl⟩
end
/-- The table of the powers of ten; what the library's errors hold; a length that the library keeps. -/
def tabG : Guard := ⟨fun w => Lib.TabIs Tryd.prog w "internal/strconv.uint64pow10" .u64 Lib.pow10Tab ∧ (∃ t u, w.cell? ⟨0, 0, none⟩ = some (.iface t u)) ∧ (∃ t u, w.cell? ⟨1, 0, none⟩ = some (.iface t u)) ∧ ∃ m, w.cell? ⟨2, 0, none⟩ = some (.int .i64 m), fun b => Tryd.prog.globalNamed "internal/strconv.uint64pow10" = some b ∨ b = 0 ∨ b = 1 ∨ b = 2, fun w w' h hk => by
 obtain ⟨h, ⟨t0, u0, h0⟩, ⟨t1, u1, h1⟩, m, h2⟩ := h
 refine ⟨?_, ⟨t0, u0, (World.cell?_of_block (hk 0 (by simp))).trans h0⟩, ⟨t1, u1, (World.cell?_of_block (hk 1 (by simp))).trans h1⟩, m, (World.cell?_of_block (hk 2 (by simp))).trans h2⟩
 unfold Lib.TabIs World.var? at *
 cases hg : Tryd.prog.globalNamed "internal/strconv.uint64pow10" with
 | none => rw [hg] at h; simp at h
 | some g =>
  rw [hg] at h
  simp only [Option.bind_some] at h ⊢
  rw [hk g (.inl hg)]
  exact h⟩
def itoaG : List A → Ans
 | [.c (.v (.int .i64 n))] => if -9223372036854775808 ≤ n ∧ n ≤ 9223372036854775807 then some ([.c (.v (.string ⟨(Lib.itoa n).toArray⟩))], [.c (.v (.int .i64 n))]) else none
 | _ => none
theorem itoa_ok : PrimOk tabG Tryd.prog 39 itoaG := by
 intro args rs args' hg w us Ox Rx hgv
 refine ⟨prim_enter Tryd.func39 rfl rfl, ?_⟩
 unfold itoaG at hg
 split at hg
 ·rename_i n
  split at hg
  ·rename_i hc
   simp only [Option.some.injEq, Prod.mk.injEq] at hg
   obtain ⟨rfl, rfl⟩ := hg
   refine tell_answers (vs := [.int .i64 n]) hgv.rep rfl ((Tryd.strconv_Itoa n hc.1 hc.2 w hgv.guard.1.1).mono ?_)
   rintro e w' ⟨rfl, k, os, rfl⟩
   exact ⟨rfl, by rw [size_grow]; exact Nat.le_add_right _ _, ⟨rfl, rfl, rfl⟩, fun b hb => heap_grow_old (w.drewN k) os hb⟩
  ·simp at hg
 ·simp at hg
end Go.Proofs.YtemghdnofgjnmaaDoor.VM

/- Words of a line, and a word read as a number: what is told by hand of strings.Split and strconv.Atoi. -/
namespace Go.Proofs.YtemghdnofgjnmaaDoor.VM
open Go Go.Proofs Go.Sort Go.Shelf
set_option linter.unusedSimpArgs false
set_option linter.unusedVariables false
set_option maxRecDepth 100000
set_option maxHeartbeats 4000000
section
variable {P : Program} {w w1 : World}
/-- What tells new values of plain ones. -/
theorem told_answers {vs us : List Value} {rs : List A} {Ox Rx : List Nat} {f : FuncId} (hrep : RepAs P w (plainA vs) us Ox Rx) (hm : maker rs = none)
  (h : Calls P f vs.toArray w fun e w' => ∃ rvs O1, e = .returned (tupV rvs) ∧ RepAs P w' rs rvs O1 [] ∧ O1.Nodup ∧ (∀ b ∈ O1, b < w'.heap.size ∧ w.heap.size ≤ b) ∧ w.heap.size ≤ w'.heap.size ∧ Still w w' ∧ ∀ b, b < w.heap.size → w'.heap[b]? = w.heap[b]?) :
  Calls P f us.toArray w (AnswersX P w (plainA vs) us Ox rs (plainA vs)) := by
 obtain ⟨rfl, rfl, rfl, hv⟩ := rep_plain hrep
 rw [AnswersX_none hm]
 refine h.mono ?_
 rintro e w' ⟨rvs, O1, rfl, hr, hn, hO, hz, hst, hk⟩
 refine ⟨rvs, O1, [], rfl, hr, after_plain hv, by simpa using hn, hz, hst, fun b hb _ => hk b hb, fun b hb => ?_⟩
 obtain ⟨h1, h2⟩ := hO b (by simpa using hb)
 exact ⟨h1, .inl h2⟩
def strsT (l : List ByteArray) : List T := l.map fun x => .v (.string x)
theorem rep_strs : ∀ l : List ByteArray, RepTs P w (strsT l) (l.map Value.string) [] []
 | [] => by rw [strsT, List.map_nil, RepTs]; exact ⟨rfl, rfl, rfl⟩
 | x :: l => by
  rw [strsT, List.map_cons, RepTs]
  refine ⟨_, _, [], [], [], [], rfl, ?_, rep_strs l, rfl, rfl⟩
  rw [RepT]
  exact ⟨rfl, rfl, rfl, rfl⟩
end
def splitG : List A → Ans
 | [.c (.v (.string s)), .c (.v (.string sep))] => if s.size ≤ 1048576 ∧ 1 ≤ sep.size then some ([.c (.s 9 (Lib.countB s sep + 1) (strsT (Lib.splitB sep 0 (Lib.countB s sep) s)))], [.c (.v (.string s)), .c (.v (.string sep))]) else none
 | _ => none
theorem split_ok : PrimOk tabG Tryd.prog 17 splitG := by
 intro args rs args' hg w us Ox Rx hgv
 refine ⟨prim_enter Tryd.func17 rfl rfl, ?_⟩
 unfold splitG at hg
 split at hg
 ·rename_i s sep
  split at hg
  ·rename_i hc
   simp only [Option.some.injEq, Prod.mk.injEq] at hg
   obtain ⟨rfl, rfl⟩ := hg
   obtain ⟨m, hm⟩ := hgv.guard.1.2.2.2
   have hl := Lib.splitB_all sep hc.2 0 _ s rfl
   have hb := Lib.countB_le sep hc.2 _ s (Nat.le_refl _)
   refine told_answers (vs := [.string s, .string sep]) hgv.rep rfl ((Tryd.strings_Split s sep m w (by omega) hm hc.2).mono ?_)
   rintro e w' ⟨rfl, rfl⟩
   generalize Lib.splitB sep 0 (Lib.countB s sep) s = l at *
   generalize Lib.countB s sep = n at *
   have hz : (w.alloc (.cells (l.map Value.string).toArray 9)).heap.size = w.heap.size + 1 := by
    show (w.heap.push _).size = _
    simp
   refine ⟨[_], [w.heap.size], rfl, ?_, by simp, fun b hb => ?_, by rw [hz]; omega, ⟨rfl, rfl, rfl⟩, fun b hb => heap_alloc_old w _ hb⟩
   ·rw [RepAs]
    refine ⟨_, [], [w.heap.size], [], [], [], rfl, ?_, by rw [RepAs]; exact ⟨rfl, rfl, rfl⟩, rfl, rfl⟩
    rw [RepA, RepT]
    have hce : Tryd.prog.cellsOf 9 = 1 := by simp
    refine ⟨l.map Value.string, [], ⟨by rw [hce, List.length_map]; omega, _, _, rfl, Nat.le_refl _, by unfold maxLen; omega, .inr ⟨w.heap.size, 0, _, rfl, heap_alloc_new w _, by rw [hce]; simp; omega, by rw [hce, List.drop_zero, Nat.mul_one]; exact List.take_of_length_le (by rw [List.length_map]; omega)⟩⟩, rep_strs l, ?_, rfl⟩
    rw [oblk_pos (by omega)]
    rfl
   ·simp only [List.mem_singleton] at hb
    subst hb
    rw [hz]
    omega
  ·simp at hg
 ·simp at hg
/-- The number that Atoi tells, and whether it is one. -/
def atoiV (s : ByteArray) : Int := match Lib.atoiAll s.data.toList with
 | .ok v => v
 | .range => Lib.atoiSat s.data.toList
 | _ => 0
def atoiB (s : ByteArray) : Bool := match Lib.atoiAll s.data.toList with
 | .ok _ => true
 | _ => false
def errA (b : Bool) : A := if b = true then .c (.v .nilIface) else .nn
def atoiG : List A → Ans
 | [.c (.v (.string s))] => if s.size ≤ 281474976710656 then some ([.c (.v (.int .i64 (atoiV s))), errA (atoiB s)], [.c (.v (.string s))]) else none
 | _ => none
theorem rep_num {P : Program} {w : World} {n : Int} {a : A} {v : Value} (h : RepA P w a v [] []) : RepAs P w [.c (.v (.int .i64 n)), a] [.int .i64 n, v] [] [] := by
 rw [RepAs]
 refine ⟨_, _, [], [], [], [], rfl, ?_, ?_, rfl, rfl⟩
 ·rw [RepA, RepT]; exact ⟨rfl, rfl, rfl, rfl⟩
 ·rw [RepAs]
  refine ⟨_, _, [], [], [], [], rfl, h, ?_, rfl, rfl⟩
  rw [RepAs]
  exact ⟨rfl, rfl, rfl⟩
theorem atoi_ok : PrimOk tabG Tryd.prog 21 atoiG := by
 intro args rs args' hg w us Ox Rx hgv
 refine ⟨prim_enter Tryd.func21 rfl rfl, ?_⟩
 unfold atoiG at hg
 split at hg
 ·rename_i s
  split at hg
  ·rename_i hc
   simp only [Option.some.injEq, Prod.mk.injEq] at hg
   obtain ⟨rfl, rfl⟩ := hg
   obtain ⟨t0, u0, hv0⟩ := hgv.guard.1.2.1
   obtain ⟨t1, u1, hv1⟩ := hgv.guard.1.2.2.1
   have hm : maker [.c (.v (.int .i64 (atoiV s))), errA (atoiB s)] = none := rfl
   refine told_answers (vs := [.string s]) hgv.rep hm ?_
   unfold atoiV atoiB
   cases h : Lib.atoiAll s.data.toList with
   | ok v =>
    refine (Tryd.strconv_Atoi_ok s (by omega) v h w).mono ?_
    rintro e w' ⟨rfl, hw⟩
    refine ⟨[.int .i64 v, .nilIface], [], rfl, rep_num (by rw [errA, if_pos rfl, RepA, RepT]; exact ⟨rfl, rfl, rfl, rfl⟩), List.nodup_nil, fun b hb => by simp at hb, ?_⟩
    rcases hw with rfl | ⟨t, rfl⟩
    ·exact ⟨Nat.le_refl _, Still.refl, fun _ _ => rfl⟩
    ·exact ⟨by rw [Lib.bytesWorld_size]; omega, still_bytes w _ t, fun b hb => Lib.bytesWorld_at_old w _ t b hb⟩
   | range =>
    refine (Tryd.strconv_Atoi_range s hc h _ w hv1 (.inr ⟨t1, u1, rfl⟩)).mono ?_
    rintro e w' ⟨N, rfl, hN, _, hb⟩
    refine ⟨[.int .i64 (Lib.atoiSat s.data.toList), _], [], rfl, rep_num (by rw [errA, if_neg (by simp), RepA]; exact ⟨⟨_, _, rfl⟩, rfl, rfl⟩), List.nodup_nil, fun b hb => by simp at hb, hb.size, ⟨hb.os, hb.tape, hb.output⟩, fun b h => hb.block b h⟩
   | _ =>
    refine (Any.strconv_Atoi_syntax Tryd.laysC172 s hc h _ w hv0 (.inr ⟨t0, u0, rfl⟩)).mono ?_
    rintro e w' ⟨N, rfl, hN, _, hb⟩
    refine ⟨[.int .i64 0, _], [], rfl, rep_num (by rw [errA, if_neg (by simp), RepA]; exact ⟨⟨_, _, rfl⟩, rfl, rfl⟩), List.nodup_nil, fun b hb => by simp at hb, hb.size, ⟨hb.os, hb.tape, hb.output⟩, fun b h => hb.block b h⟩
  ·simp at hg
 ·simp at hg
end Go.Proofs.YtemghdnofgjnmaaDoor.VM

/- The machine, with what is told by hand: has, slices.Clone. -/
namespace Go.Proofs.YtemghdnofgjnmaaDoor.VM
open Go Go.Proofs
set_option linter.unusedSimpArgs false
set_option linter.unusedVariables false
set_option maxRecDepth 100000
theorem has_ok  {gd : Guard} : PrimOk gd Tryd.prog 31 g66 := by
 intro args rs args' hg w us Ox Rx hgv
 refine ⟨prim_enter Tryd.func31 rfl rfl, ?_⟩
 unfold g66 at hg
 split at hg
 ·rename_i op p
  simp only [Option.some.injEq, Prod.mk.injEq] at hg
  obtain ⟨rfl, rfl⟩ := hg
  exact has_calls op p hgv
 ·simp at hg
noncomputable def M : Mach := withSkip (machP M0 [(31, g66), (22, newG), (39, itoaG), (17, splitG), (21, atoiG)]) skip1
theorem M_ok : MachOk tabG M := withSkip_ok (machP_ok M0_ok fun x hx => by
 simp only [List.mem_cons, List.not_mem_nil, or_false] at hx
 rcases hx with rfl | rfl | rfl | rfl | rfl
 ·exact has_ok
 ·exact new_ok
 ·exact itoa_ok
 ·exact split_ok
 ·exact atoi_ok
 )
@[simp] theorem MP : M.P = Tryd.prog := M0P
@[simp] theorem Mown : M.own = own1 := M0own
@[simp] theorem Mhint : M.hint = hint1 := M0hint
@[simp] theorem Mfar : M.far = far1 := M0far
@[simp] theorem Mskip : M.skip = skip1 := rfl
theorem run66 {j : Nat} (op p : Int) : M.run (j + 1) 31 [.c (.v (.int .i64 op)), .c (.v (.int .u8 p))] = some ([.c (.v (.bool (hasB op p)))], [.c (.v (.int .i64 op)), .c (.v (.int .u8 p))]) := rfl
theorem cloneG_eq {e n : Nat} {xs : List T} (hv : allV xs = true) (hm : xs.length ≤ most) : cloneG e [.c (.r e n xs)] = some ([.c (.s e n xs)], [.c (.r e n xs)]) := if_pos ⟨rfl, hv, hm⟩
end Go.Proofs.YtemghdnofgjnmaaDoor.VM

/- The machine's answers: rows of numbers, states. -/
namespace Go.Proofs.YtemghdnofgjnmaaDoor.VM
open Go Go.Proofs
set_option linter.unusedSimpArgs false
set_option linter.unusedVariables false
set_option maxRecDepth 100000
def H37 (k : Int) (xs : List Int) (i : Nat) : St := ⟨[(0, .c (.sl 0 [] 0 xs.length)), (1, .c (.v (.int .i64 (k + i)))), (5, .c (.v (.int .i64 i)))], [(0, ⟨.own, 3, ints (upto k i ++ xs.drop i)⟩)]⟩
def H34 (xs : List Int) (i : Nat) : St := ⟨[(0, .c (.sl 0 [] 0 xs.length)), (1, .c (.sl 1 [] 0 xs.length)), (5, .c (.v (.int .i64 i)))], [(0, ⟨.ro, 3, ints xs⟩), (1, ⟨.ro, 3, ints xs⟩)]⟩
def H38 (k : Int) (n : Nat) (i : Nat) : St := ⟨[(0, .c (.sl 0 [] 0 n)), (1, .c (.v (.int .i64 (k + i)))), (5, .c (.v (.int .i64 i)))], [(0, ⟨.ro, 3, ints (upto k n)⟩)]⟩
/-! ### State -/
def stR (a : Int) (xs ys : List Int) (c : Int) : List T := [.v (.int .i64 a), .r 3 xs.length (ints xs), .r 3 ys.length (ints ys), .v (.int .i64 c)]
def stS (a : Int) (xs ys : List Int) (c : Int) : List T := [.v (.int .i64 a), .s 3 xs.length (ints xs), .s 3 ys.length (ints ys), .v (.int .i64 c)]
end Go.Proofs.YtemghdnofgjnmaaDoor.VM

/- Numbers and instructions reckoned. -/
namespace Go.Proofs.YtemghdnofgjnmaaDoor.VM
open Go Go.Proofs
set_option linter.unusedSimpArgs false
set_option linter.unusedVariables false
set_option maxRecDepth 100000
def inB (n lo hi : Int) : Bool := decide (lo ≤ n ∧ n ≤ hi)
theorem run61 {j : Nat} (n lo hi : Int) : M.run (j + 1) 40 [.c (.v (.int .i64 n)), .c (.v (.int .i64 lo)), .c (.v (.int .i64 hi))] = some ([.c (.v (.bool (inB n lo hi)))], [.c (.v (.int .i64 n)), .c (.v (.int .i64 lo)), .c (.v (.int .i64 hi))]) := by
 rw [m_run (fn := Tryd.f40) (i0 := 0) rfl Tryd.func40 rfl rfl (by simp)]
 by_cases h : lo ≤ n <;> simp -implicitDefEqProofs [h, inB]
theorem run64 {j : Nat} (n lo hi : Int) : M.run (j + 1) 29 [.c (.v (.int .i64 n)), .c (.v (.int .i64 lo)), .c (.v (.int .i64 hi))] = some ([.c (.v (.bool (inB n lo hi)))], [.c (.v (.int .i64 n)), .c (.v (.int .i64 lo)), .c (.v (.int .i64 hi))]) := by
 rw [m_run (fn := Tryd.f29) (i0 := 0) rfl Tryd.func29 rfl rfl (by simp)]
 by_cases h : lo ≤ n <;> simp -implicitDefEqProofs [h, inB]
def numB (n : Int) : Bool := inB n (-1000000000) 1000000000
theorem run62 {j : Nat} (n : Int) : M.run (j + 2) 41 [.c (.v (.int .i64 n))] = some ([.c (.v (.bool (numB n)))], [.c (.v (.int .i64 n))]) := by
 rw [m_run (fn := Tryd.f41) (i0 := 0) rfl Tryd.func41 rfl rfl (by simp)]
 simp -implicitDefEqProofs [run61, numB, own1]
theorem run67 {j : Nat} (n : Int) : M.run (j + 2) 32 [.c (.v (.int .i64 n))] = some ([.c (.v (.bool (numB n)))], [.c (.v (.int .i64 n))]) := by
 rw [m_run (fn := Tryd.f32) (i0 := 0) rfl Tryd.func32 rfl rfl (by simp)]
 simp -implicitDefEqProofs [run64, numB, own1]
def regB (n : Int) (h : Bool) : Bool := decide (n = 0) || (h && inB n 0 3)
theorem run65 {j : Nat} (n : Int) (b : Bool) : M.run (j + 2) 30 [.c (.v (.int .i64 n)), .c (.v (.bool b))] = some ([.c (.v (.bool (regB n b)))], [.c (.v (.int .i64 n)), .c (.v (.bool b))]) := by
 rw [m_run (fn := Tryd.f30) (i0 := 0) rfl Tryd.func30 rfl rfl (by simp)]
 by_cases h : n = 0
 ·subst h; cases b <;> simp -implicitDefEqProofs [regB, own1]
 ·cases b <;> simp -implicitDefEqProofs [h, regB, run64, own1]
structure Ins where
 op : Int
 r : Int
 a : Int
 b : Int
 n : Int
def tIns (x : Ins) : List T := [.v (.int .i64 x.op), .v (.int .i64 x.r), .v (.int .i64 x.a), .v (.int .i64 x.b), .v (.int .i64 x.n)]
end Go.Proofs.YtemghdnofgjnmaaDoor.VM
