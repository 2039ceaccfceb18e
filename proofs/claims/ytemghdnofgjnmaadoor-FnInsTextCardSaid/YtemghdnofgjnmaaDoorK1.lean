/- The machine's hand-told functions. -/
import Derived.Test.YtemghdnofgjnmaaDoorV3
import Derived.Lib.ConvBytes
import Derived.Test.YtemghdnofgjnmaaDoorTab
import Derived.Laws.AppendOwn
/- A function that the machine does not know: its call out of a proof about its code; one that asks whether a byte is in a text. -/
namespace Go.Proofs.YtemghdnofgjnmaaDoor.VM
open Go Go.Proofs Go.Proofs.YtemghdnofgjnmaaDoorW.PrintWords
set_option linter.unusedVariables false
set_option linter.unusedSimpArgs false
variable {P : Program} {w w1 w2 w0 : World} {mine : Ctx} {o o1 o2 : OM} {loc loc1 loc2 : Nat → Value} {O R : Nat → List Nat} {σ σ1 σ2 : St} {a : Act}

/-- What a function that ended so answers. -/
def ansOf (E : Env) (fn : Func) (i0 : Nat) (as1 : List A) (x : Ex) (σ : St) : Ans := match x with
 | .exit _ => none
 | _ => (σ.results E.P fn.resultTypes.toList fn.results.toList).bind (fun x => some (x.1, (St.leave.leaves x.2 i0 as1).1))
attribute [simp] ansOf
/-- A call out of a proof about the code. -/
theorem func_any {E : Env} {i0 : Nat} {f : FuncId} {fn : Func} {code : Code} (hf : E.P.funcs[f]? = some fn) (hb : fn.body = some code) (hn : E.n = fn.ntmps) {as1 rs as' : List A} (hlen : (enter.enters i0 as1).1.length ≤ E.n) 
  {us : List Value} {Ox Rx : List Nat} {gd : Guard} (hg : Given gd E.P w as1 us Ox Rx)
  (hexec : ∀ (c : Ctx) (a : Act) (loc : Nat → Value) (O R : Nat → List Nat) (Q : Exit → Act → World → Prop), Cor E.P w c ⟨tmps0 0 (enter.enters i0 as1).1, (enter.enters i0 as1).2.2⟩ a w loc O R → a.tmps.size = E.n → (∀ x σ a' w' loc' O' R', ansOf E fn i0 as1 x σ = some (rs, as') → Cor E.P w c σ a' w' loc' O' R' → a'.tmps.size = E.n → a'.defers = a.defers → Q (exOf x) a' w') → code.wp E.P Q a w) : Calls E.P f us.toArray w (Answers E.P w as1 us Ox rs as') := by
 have hents : enter.enters i0 as1 = ((enter.enters i0 as1).1, (enter.enters i0 as1).2.1, (enter.enters i0 as1).2.2) := rfl
 have h0 : Ent E.P w (fun b => b ∈ Ox) (ctx0 Ox) [] i0 (fun _ => undef) (fun _ => []) (fun _ => []) := by
  refine ⟨fun x hx => by simp at hx, rfl, ⟨⟨fun id ob hl => ?_, fun id ob hl => ?_, fun id id' ob ob' _ hl => ?_, fun id ob hl => ?_, fun id ob hl => ?_, fun b _ _ => rfl, Nat.le_refl _, Still.refl⟩, fun d v hd => ?_, List.Pairwise.nil, List.Pairwise.nil, fun id ob hl => ?_⟩⟩ <;> simp [lk] at *
 obtain ⟨c, loc, O, R, ⟨⟨hkeys, hm, hcor⟩, _⟩, hrep, hcame⟩ := enters_sound h0 hg.rep hg.known ⟨hg.nodup, fun j y hl => by simp [lk] at hl, fun b hb => ⟨hg.own b hb, hb⟩, fun b hb => hg.ro b hb⟩ hents
 rw [List.nil_append] at hcor hrep
 have hvl := RepAVs_len hrep
 refine calls_of_wp hf hb ?_
 have hstart : Cor E.P w c ⟨tmps0 0 (enter.enters i0 as1).1, (enter.enters i0 as1).2.2⟩ { tmps := us.toArray ++ Array.replicate (fn.ntmps - us.toArray.size) undef, defers := [] } w loc O R := by
  refine ⟨hcor.inv, fun d v hd => ?_, srt_tmps0, hcor.so, hcor.par⟩
  obtain ⟨_, hd⟩ := lk_tmps0 hd
  rw [Nat.sub_zero] at hd
  obtain ⟨u, hu, hr⟩ := RepAVs_get hrep hd
  have hdl := (List.getElem?_eq_some_iff.1 hu).1
  have e : (us.toArray ++ Array.replicate (fn.ntmps - us.toArray.size) undef).getD d undef = u := by
   rw [Array.getD_eq_getD_getElem?, Array.getElem?_append_left (by simpa using hdl)]
   simp [hu]
  show RepAV E.P w _ loc v ((us.toArray ++ Array.replicate (fn.ntmps - us.toArray.size) undef).getD d undef)
  rw [e]
  exact hr
 refine hexec c _ loc O R _ hstart (by simp; omega) fun x σ a' w' loc' O' R' hx hc hn' hd => ?_
 have fin : (σ.results E.P fn.resultTypes.toList fn.results.toList).bind (fun x => some (x.1, (St.leave.leaves x.2 i0 as1).1)) = some (rs, as') → a'.defers = [] ∧ ∃ v, (results fn a'.tmps).run E.P w' = .ok v w' ∧ Answers E.P w as1 us Ox rs as' (.returned v) w' := by
  intro hx
  obtain ⟨⟨ys, σ1⟩, hres, hx⟩ := Option.bind_eq_some_iff.1 hx
  simp only [Option.some.injEq, Prod.mk.injEq] at hx
  obtain ⟨rfl, rfl⟩ := hx
  obtain ⟨k1, k2, vs, O1, k3, k4⟩ := results_sound hc hres
  obtain ⟨O2, j1, j2, j3, j4⟩ := leaves_sound k1 hcame
  have hO1 : ∀ b ∈ O1, b < w'.heap.size ∧ (w.heap.size ≤ b ∨ b ∈ Ox) := fun b hb => by
   obtain ⟨id, ob, p1, p2, p3⟩ := k3.gone b hb
   have := hc.inv.own_ id ob p1 b p3
   exact ⟨this.1, this.2.imp (fun h => h) fun h => by have h : c.m b := h; rw [hm] at h; exact h⟩
  have hO2 : ∀ b ∈ O2, b < w'.heap.size ∧ (w.heap.size ≤ b ∨ b ∈ Ox) := fun b hb => by
   obtain ⟨id, ob, _, _, p1, p3⟩ := j3 b hb
   have := k1.inv.own_ id ob p1 b p3
   exact ⟨this.1, this.2.imp (fun h => h) fun h => by have h : c.m b := h; rw [hm] at h; exact h⟩
  refine ⟨hd, tupV vs, run_results k4, vs, O1, O2, rfl, k3.rep, j1, List.nodup_append.2 ⟨k3.nodup, j2, fun b hb c' hc' e => ?_⟩, hc.inv.size, hc.inv.still, fun b hb hb' => hc.inv.kept b hb (fun h => by have h : c.m b := h; rw [hm] at h; exact hb' h), fun b hb => (List.mem_append.1 hb).elim (hO1 b) (hO2 b)⟩
  subst e
  obtain ⟨id, ob, p1, p2, p3⟩ := k3.gone b hb
  obtain ⟨id', ob', _, _, q1, q3⟩ := j3 b hc'
  obtain ⟨ob2, q4, _⟩ := k2 id' ob' q1
  have hne : id ≠ id' := fun e => by rw [e, q1] at p2; simp at p2
  exact hc.inv.disj id id' ob ob2 hne p1 q4 b p3 q3
 cases x with
 | normal => exact fin hx
 | ret => exact fin hx
 | exit id => simp at hx
/-- A call out of a proof about the code, that ends in one state. -/
theorem func_of {E : Env} {i0 : Nat} {f : FuncId} {fn : Func} {code : Code} (hf : E.P.funcs[f]? = some fn) (hb : fn.body = some code) (hn : E.n = fn.ntmps) {as1 rs as' : List A} (hlen : (enter.enters i0 as1).1.length ≤ E.n) {x : Ex} {σ : St}
  {us : List Value} {Ox Rx : List Nat} {gd : Guard} (hg : Given gd E.P w as1 us Ox Rx)
  (hexec : ∀ (c : Ctx) (a : Act) (loc : Nat → Value) (O R : Nat → List Nat) (Q : Exit → Act → World → Prop), Cor E.P w c ⟨tmps0 0 (enter.enters i0 as1).1, (enter.enters i0 as1).2.2⟩ a w loc O R → a.tmps.size = E.n → (∀ a' w' loc' O' R', Cor E.P w c σ a' w' loc' O' R' → a'.tmps.size = E.n → a'.defers = a.defers → Q (exOf x) a' w') → code.wp E.P Q a w)
  (hx : ansOf E fn i0 as1 x σ = some (rs, as')) : Calls E.P f us.toArray w (Answers E.P w as1 us Ox rs as') :=
 func_any hf hb hn hlen hg fun c a loc O R Q hc hn hQ => hexec c a loc O R Q hc hn fun a' w' loc' O' R' h1 h2 h3 => hQ x σ a' w' loc' O' R' hx h1 h2 h3
end Go.Proofs.YtemghdnofgjnmaaDoor.VM

/- A region that makes bytes of a text, and asks a function of them. -/
namespace Go.Proofs.YtemghdnofgjnmaaDoor.VM
open Go Go.Proofs Go.Proofs.YtemghdnofgjnmaaDoorW.PrintWords
set_option linter.unusedVariables false
set_option linter.unusedSimpArgs false
variable {P : Program} {w w1 w2 w0 : World} {mine : Ctx} {o o1 o2 : OM} {loc loc1 loc2 : Nat → Value} {O R : Nat → List Nat} {σ σ1 σ2 : St} {a : Act}

theorem bytesT_len (s : ByteArray) : (bytesT s).length = s.size := by simp [bytesT]
theorem Cor.drop (h : Cor P w0 mine σ a w loc O R) {d : Nat} (hd : d < a.tmps.size) (v : Value) : Cor P w0 mine ⟨del σ.t d, σ.o⟩ (a.put (some d) v) w loc O R :=
 ⟨h.inv, fun d' v' hl => by
  rw [lk_del _ _ _ h.st] at hl
  split at hl
  ·simp at hl
  ·rename_i hne
   rw [getD_put _ _ _ _ hd, if_neg hne]
   exact h.tm d' v' hl, srt_del _ _ h.st, h.so, h.par⟩
theorem wp_mv {x : Oper} {y : Operand} (ho : x.op = .move y ∨ x.op = .assign y) {K : Act → World → Prop} {Q : Exit → Act → World → Prop} (hK : K (a.put x.dst (a.eval y)) w) : x.wp P a w K Q := by
 refine wp_value ?_ hK
 unfold execOp
 rcases ho with ho | ho <;> rw [ho] <;> rfl
/-- Bytes of a text: a new row. -/
theorem wp_conv {x : Oper} {src dst e : TypeId} {y : Operand} {s : ByteArray} {u : TypeDesc} (ho : x.op = .convert src dst y) (hy : a.eval y = .string s) (hs : P.underlying src = some u) (hd : P.underlying dst = some (.slice e)) (he : P.underlying e = some (.int .u8))
  {K : Act → World → Prop} {Q : Exit → Act → World → Prop} (hK : K (a.put x.dst (.slice (some ⟨w.heap.size, 0, none⟩) s.size (grownCap w s.size 0 e))) (Lib.bytesWorld w e s)) : x.wp P a w K Q := by
 refine wp_value ?_ hK
 unfold execOp
 rw [ho]
 simp only [hy, Sem.run_bind, Lib.run_convert_string_bytes w src dst e s hs hd he]
 rfl
theorem cell_same {v v' : World} {ad : Addr} (h : v'.heap[ad.block]? = v.heap[ad.block]?) : v'.cell? ad = v.cell? ad := by
 simp [World.cell?, h]
/-- The new row, as1 an argument. -/
theorem given_bytes {gd : Guard} (w : World) (hgd : gd.on w fun _ => False) (e : TypeId) (s : ByteArray) (hc : P.cellsOf e = 1) (hm : grownCap w s.size 0 e ≤ maxLen) (hn : s.size ≤ grownCap w s.size 0 e) (p : Int) :
  ∃ Rx, Given gd P (Lib.bytesWorld w e s) [.c (.r e s.size (bytesT s)), .c (.v (.int .u8 p))] [.slice (some ⟨w.heap.size, 0, none⟩) s.size (grownCap w s.size 0 e), .int .u8 p] [] Rx := by
 refine ⟨(hdrB (some ⟨w.heap.size, 0, none⟩) s.size ++ []) ++ ([] ++ []), ?_, by simp [knowns, A.known, known], List.nodup_nil, fun b hb => by simp at hb, fun b hb => ?_, gd.still w _ hgd.1 fun b hb => Lib.bytesWorld_at_old w e s b (hgd.2 b hb).1, fun b hb => ⟨by rw [Lib.bytesWorld_size]; have := (hgd.2 b hb).1; omega, by simp⟩⟩
 ·rw [RepAs]
  refine ⟨_, _, [], _, [], _, rfl, ?_, ?_, rfl, rfl⟩
  ·rw [RepA, RepT]
   refine ⟨rfl, some ⟨w.heap.size, 0, none⟩, _, s.data.toList.map fun b => Value.int .u8 b.toNat, [], rfl, hn, hm, fun _ => ⟨_, rfl, rfl⟩, by simp [hc], fun j x hx => ⟨_, rfl, ?_⟩, reps_bytes _, rfl⟩
   have hj : j < s.size := by
    have := (List.getElem?_eq_some_iff.1 hx).1
    simpa using this
   have e1 : Addr.add ⟨w.heap.size, 0, none⟩ j = ⟨w.heap.size, j, none⟩ := by unfold Addr.add; split <;> simp_all
   rw [e1, Lib.bytesWorld_cell w e s j hj]
   rw [List.getElem?_map] at hx
   obtain ⟨b, hb, rfl⟩ := Option.map_eq_some_iff.1 hx
   simp [List.getD, hb]
  ·rw [RepAs]
   refine ⟨_, [], [], [], [], [], rfl, ?_, ?_, rfl, rfl⟩
   ·rw [RepA, RepT]
    exact ⟨rfl, rfl, rfl, rfl⟩
   ·rw [RepAs]
    exact ⟨rfl, rfl, rfl⟩
 ·have hb : b ∈ hdrB (some ⟨w.heap.size, 0, none⟩) s.size := by simpa using hb
  unfold hdrB at hb
  simp only at hb
  split at hb
  ·simp at hb
  ·simp only [List.mem_singleton] at hb
   subst hb
   rw [Lib.bytesWorld_size]
   exact ⟨by omega, by simp⟩
/-- A call that only tells. -/
theorem wp_tell {gd : Guard} {x : Oper} {run : FuncId → List A → Ans} (hrun : Sound gd P run) {g : FuncId} {args : Array Operand} {ts : Array TypeId} (ho : x.op = .call { callee := .value (.func g), args := args, argTypes := ts }) {as1 as' : List A} {us : List Value} (hus : (args.map a.eval) = us.toArray) {Rx : List Nat} (hg : Given gd P w as1 us [] Rx) {rv : Value} (hr : run g as1 = some ([.c (.v rv)], as'))
  {K : Act → World → Prop} {Q : Exit → Act → World → Prop} (hK : ∀ w', w.heap.size ≤ w'.heap.size → Still w w' → (∀ b, b < w.heap.size → w'.heap[b]? = w.heap[b]?) → K (a.put x.dst rv) w') : x.wp P a w K Q := by
 obtain ⟨k1, k2⟩ := hrun g as1 _ _ hr w us [] Rx hg
 unfold Oper.wp
 have he : (execOp a.eval x).run P w = .ok (.enter g us.toArray) w := by
  unfold execOp
  rw [ho]
  have hfe : a.eval (.func g) = .func (.func g) #[] #[] := rfl
  simp only [resolve, hfe, Deferred.ofValue, Sem.run_bind, Sem.run_pure, Result.andThen_ok, invoke, hus]
  have : (#[] ++ us.toArray ++ #[]) = us.toArray := by simp
  rw [this]
  exact k1
 rw [he]
 show Calls P g us.toArray w _
 refine k2.mono fun e w' he => ?_
 cases e with
 | returned v' =>
  obtain ⟨vs, O1, O2, rfl, hl⟩ := he
  have hrep := hl.rep
  rw [RepAs] at hrep
  obtain ⟨u, us', Oa, Ra, Ob, Rb, rfl, h1, h2, _⟩ := hrep
  rw [RepA, RepT] at h1
  rw [RepAs] at h2
  obtain ⟨rfl, _⟩ := h1
  obtain ⟨rfl, _⟩ := h2
  exact hK w' hl.size hl.still (fun b hb => hl.kept b hb (by simp))
 | panicked chain => exact he.elim
 | outgrown => exact he.elim
/-- Five operations: a text, its bytes, a byte, the question, the answer. -/
theorem conv_region {E : Env} (hrun : Sound noGuard E.P E.run) {ops : Array Oper} {x0 x1 x2 x3 x4 : Oper} {y0 y2 : Operand} {d0 d1 d2 d3 d4 : Nat} {src dst e : TypeId} {g : FuncId} {ts : Array TypeId} {u : TypeDesc} {s : ByteArray} {p : Int} {rv : Value} {as' : List A}
  (h0 : x0.op = .move y0) (q0 : x0.dst = some d0) (g0 : x0.guard = none)
  (h1 : x1.op = .convert src dst (.tmp d0)) (q1 : x1.dst = some d1) (g1 : x1.guard = none)
  (h2 : x2.op = .move y2) (q2 : x2.dst = some d2) (g2 : x2.guard = none)
  (h3 : x3.op = .call { callee := .value (.func g), args := #[.tmp d1, .tmp d2], argTypes := ts }) (q3 : x3.dst = some d3) (g3 : x3.guard = none)
  (h4 : x4.op = .assign (.tmp d3)) (q4 : x4.dst = some d4) (g4 : x4.guard = none)
  (hd : d0 < E.n ∧ d1 < E.n ∧ d2 < E.n ∧ d3 < E.n ∧ d4 < E.n) (hne : d2 ≠ d1)
  (hs : E.P.underlying src = some u) (hds : E.P.underlying dst = some (.slice e)) (he : E.P.underlying e = some (.int .u8)) (hc : E.P.cellsOf e = 1)
  (hcap : ∀ w, grownCap w s.size 0 e ≤ maxLen ∧ s.size ≤ grownCap w s.size 0 e)
  (hone : rv.oneCell' = true)
  (hr : E.run g [.c (.r e s.size (bytesT s)), .c (.v (.int .u8 p))] = some ([.c (.v rv)], as'))
  (h : Cor E.P w0 mine σ a w loc O R) (hn : a.tmps.size = E.n) (hy0 : σ.ev y0 = some (.c (.v (.string s)))) (hy2 : ∀ d, y2 = .tmp d → d ≠ d0 ∧ d ≠ d1) (hyt : ∃ d, y2 = .tmp d) (hy2v : σ.ev y2 = some (.c (.v (.int .u8 p)))) {Q : Exit → Act → World → Prop}
  (hQ : ∀ a' w' loc' O' R', Cor E.P w0 mine ⟨ins (del (del (del (del σ.t d0) d1) d2) d3) d4 (.c (.v rv)), σ.o⟩ a' w' loc' O' R' → a'.tmps.size = E.n → a'.defers = a.defers → Q .normal a' w') : wpList E.P ops Q [x0, x1, x2, x3, x4] a w := by
 have e0 : a.eval y0 = .string s := (rep_int (rep_ev h.tm hy0)).1
 have e2 : a.eval y2 = .int .u8 p := (rep_int (rep_ev h.tm hy2v)).1
 have wt : ∀ {x : Oper} {t : Array Value}, x.guard = none → Region.wanted x (yielded ops t) = true := fun hg => by unfold Region.wanted; rw [hg]
 obtain ⟨b0, b1, b2, b3, b4⟩ := hd
 rw [wpList, wt g0, if_pos rfl]
 refine .inl (wp_mv (.inl h0) ?_)
 rw [q0, e0]
 have c0 := h.drop (d := d0) (by rw [hn]; exact b0) (.string s)
 have n0 : (a.put (some d0) (.string s)).tmps.size = E.n := by rw [put_size]; exact hn
 have v0 : (a.put (some d0) (.string s)).eval (.tmp d0) = .string s := by
  show (a.put (some d0) (.string s)).tmps.getD d0 undef = _
  rw [getD_put _ _ _ _ (by rw [hn]; exact b0), if_pos rfl]
 obtain ⟨dy, rfl⟩ := hyt
 obtain ⟨m1, m2⟩ := hy2 dy rfl
 have v2 : (a.put (some d0) (.string s)).tmps.getD dy undef = .int .u8 p := by
  rw [getD_put _ _ _ _ (by rw [hn]; exact b0), if_neg (Ne.symm m1)]
  exact e2
 generalize ha1 : a.put (some d0) (.string s) = a1 at *
 rw [wpList, wt g1, if_pos rfl]
 refine .inl (wp_conv h1 v0 hs hds he ?_)
 rw [q1]
 obtain ⟨k1, k2⟩ := hcap w
 have c1 := (c0.grow (by rw [Lib.bytesWorld_size]; omega) (still_bytes w e s) (fun b hb => Lib.bytesWorld_at_old w e s b hb)).drop (d := d1) (by rw [n0]; exact b1) (.slice (some ⟨w.heap.size, 0, none⟩) s.size (grownCap w s.size 0 e))
 have n1 : (a1.put (some d1) (.slice (some ⟨w.heap.size, 0, none⟩) s.size (grownCap w s.size 0 e))).tmps.size = E.n := by rw [put_size]; exact n0
 have v1 : (a1.put (some d1) (.slice (some ⟨w.heap.size, 0, none⟩) s.size (grownCap w s.size 0 e))).tmps.getD d1 undef = .slice (some ⟨w.heap.size, 0, none⟩) s.size (grownCap w s.size 0 e) := by
  rw [getD_put _ _ _ _ (by rw [n0]; exact b1), if_pos rfl]
 have v2' : (a1.put (some d1) (.slice (some ⟨w.heap.size, 0, none⟩) s.size (grownCap w s.size 0 e))).tmps.getD dy undef = .int .u8 p := by
  rw [getD_put _ _ _ _ (by rw [n0]; exact b1), if_neg (Ne.symm m2)]
  exact v2
 have dd1 : (a1.put (some d1) (.slice (some ⟨w.heap.size, 0, none⟩) s.size (grownCap w s.size 0 e))).defers = a1.defers := rfl
 generalize ha2 : a1.put (some d1) (.slice (some ⟨w.heap.size, 0, none⟩) s.size (grownCap w s.size 0 e)) = a2 at *
 rw [wpList, wt g2, if_pos rfl]
 refine .inl (wp_mv (.inl h2) ?_)
 rw [q2, show a2.eval (.tmp dy) = .int .u8 p from v2']
 have c2 := c1.drop (d := d2) (by rw [n1]; exact b2) (.int .u8 p)
 have n2 : (a2.put (some d2) (.int .u8 p)).tmps.size = E.n := by rw [put_size]; exact n1
 have w1' : (a2.put (some d2) (.int .u8 p)).tmps.getD d1 undef = .slice (some ⟨w.heap.size, 0, none⟩) s.size (grownCap w s.size 0 e) := by
  rw [getD_put _ _ _ _ (by rw [n1]; exact b2), if_neg hne]
  exact v1
 have w2' : (a2.put (some d2) (.int .u8 p)).tmps.getD d2 undef = .int .u8 p := by
  rw [getD_put _ _ _ _ (by rw [n1]; exact b2), if_pos rfl]
 have dd2 : (a2.put (some d2) (.int .u8 p)).defers = a2.defers := rfl
 generalize ha3 : a2.put (some d2) (.int .u8 p) = a3 at *
 rw [wpList, wt g3, if_pos rfl]
 obtain ⟨Rx, hg⟩ := given_bytes (gd := noGuard) (P := E.P) w noGuard_on e s hc k1 k2 p
 refine .inl (wp_tell hrun h3 (us := [.slice (some ⟨w.heap.size, 0, none⟩) s.size (grownCap w s.size 0 e), .int .u8 p]) ?_ hg hr fun w' hz hst hk => ?_)
 ·have hm : Array.map a3.eval #[Operand.tmp d1, Operand.tmp d2] = #[a3.eval (.tmp d1), a3.eval (.tmp d2)] := by simp
  rw [hm, show a3.eval (.tmp d1) = _ from w1', show a3.eval (.tmp d2) = _ from w2']
 rw [q3]
 have c3 := (c2.grow hz hst hk).drop (d := d3) (by rw [n2]; exact b3) rv
 have n3 : (a3.put (some d3) rv).tmps.size = E.n := by rw [put_size]; exact n2
 have v3 : (a3.put (some d3) rv).tmps.getD d3 undef = rv := by
  rw [getD_put _ _ _ _ (by rw [n2]; exact b3), if_pos rfl]
 have dd3 : (a3.put (some d3) rv).defers = a3.defers := rfl
 generalize ha4 : a3.put (some d3) rv = a4 at *
 rw [wpList, wt g4, if_pos rfl]
 refine .inl (wp_mv (.inr h4) ?_)
 rw [q4, show a4.eval (.tmp d3) = rv from v3]
 rw [wpList]
 refine hQ _ _ _ _ _ (c3.put (d := d4) (av := .c (.v rv)) (by rw [n3]; exact b4) (rep_v hone)) (by rw [put_size]; exact n3) ?_
 show a4.defers = a.defers
 rw [dd3, dd2, dd1, ← ha1]
 rfl
end Go.Proofs.YtemghdnofgjnmaaDoor.VM

/- A row that is copied: a function that asks whether it is nil. -/
namespace Go.Proofs.YtemghdnofgjnmaaDoor.VM
open Go Go.Proofs Go.Proofs.YtemghdnofgjnmaaDoorW.PrintWords
set_option linter.unusedVariables false
set_option linter.unusedSimpArgs false
variable {P : Program} {w w1 w2 w0 : World} {mine : Ctx} {o o1 o2 : OM} {loc loc1 loc2 : Nat → Value} {O R : Nat → List Nat} {σ σ1 σ2 : St} {a : Act}
theorem run_eq_nil {d : Nat} {t e : TypeId} {A : Option Addr} {n c : Nat} (hu : P.underlying t = some (.slice e)) : (Op.equalIn (d + 1) t (.slice A n c) (.slice none 0 0)).run P w = .ok A.isNone w := by
 cases A <;> simp [Op.equalIn, run_underlying hu]
theorem wp_nil {x : Oper} {t t' e : TypeId} {y : Operand} {A : Option Addr} {n c : Nat} (ho : x.op = .binOp .eql t y (.const (.slice none 0 0)) t') (hy : a.eval y = .slice A n c) (hu : P.underlying t = some (.slice e))
  {K : Act → World → Prop} {Q : Exit → Act → World → Prop} (hK : K (a.put x.dst (.bool A.isNone)) w) : x.wp P a w K Q := by
 refine wp_value ?_ hK
 have he : a.eval (.const (.slice none 0 0)) = .slice none 0 0 := rfl
 have hq : (Op.equalIn 10000 t (.slice A n c) (.slice none 0 0)).run P w = .ok A.isNone w := run_eq_nil (d := 9999) hu
 have hg : (eqGuard .eql t y (.const (.slice none 0 0)) (.slice A n c) (.slice none 0 0)).run P w = .ok () w := run_guard (fun cs h => by cases h) (fun h => by cases h)
 unfold execOp
 rw [ho]
 simp only [hy, he, Sem.run_bind, hg, Result.andThen_ok, run_eql_any hq rfl]
 rfl
/-- What a slice that is read only is, as1 a value. -/
theorem given_row {gd : Guard} {e : TypeId} {n : Nat} {xs : List T} {us : List Value} {Ox Rx : List Nat} (hg : Given gd P w [.c (.r e n xs)] us Ox Rx) : ∃ A c, us = [.slice A n c] ∧ (A = none → n = 0 ∧ xs = []) := by
 have h := hg.rep
 rw [RepAs] at h
 obtain ⟨u, us', O1, R1, O2, R2, rfl, h1, h2, _⟩ := h
 rw [RepAs] at h2
 obtain ⟨rfl, _⟩ := h2
 rw [RepA, RepT] at h1
 obtain ⟨_, A, c, vs, R', rfl, hn, _, hA, hl, _, hr, _⟩ := h1
 refine ⟨A, c, rfl, fun hN => ?_⟩
 subst hN
 have hc : c = 0 := by
  rcases Nat.eq_zero_or_pos c with h | h
  ·exact h
  ·obtain ⟨ad, h, _⟩ := hA h
   cases h
 have hn0 : n = 0 := by omega
 have := RepTs_len hr
 rw [hl, hn0, Nat.zero_mul] at this
 exact ⟨hn0, List.length_eq_zero_iff.1 this.symm⟩
theorem sl_val (h : Cor P w0 mine σ a w loc O R) {id n : Nat} {u : Value} (hr : RepC P w σ.o loc (.sl id [] 0 n) u) {k : Kind} {e : TypeId} {xs : List T} (hl : lk σ.o id = some ⟨k, e, xs⟩) (hs : 0 < P.cellsOf e) : ∃ A c, u = .slice A n c ∧ (A = none → n = 0) := by
 obtain ⟨ob', own', e', xs', m, h', O', R', hl', hk, hd', hh, hrow, _, _, A, m', c, A', c', rfl, rfl, hnc, hcm, hle, hA⟩ := h.inv.sl hr
 rw [hl] at hl'
 injection hl' with hl'
 subst hl'
 rw [down] at hd'
 injection hd' with hd'
 injection hd' with h1 hd'
 injection hd' with h2 h3
 subst h1; subst h2; subst h3
 obtain ⟨A2, c2, us, O2, R2, he, hmc, ⟨hc2, hpos⟩, _⟩ := Row_cells hrow
 injection he with e1 e2 e3
 subst e1; subst e2; subst e3
 refine ⟨A', c', rfl, fun hN => ?_⟩
 rcases Nat.eq_zero_or_pos c' with h0 | h0
 ·omega
 ·exfalso
  have hc : 0 < c := by
   rcases Nat.eq_zero_or_pos c with h1 | h1
   ·subst h1
    have h2 := Nat.mul_pos h0 hs
    have hle' : 0 + c' * P.cellsOf e = 0 * P.cellsOf e := hle
    rw [Nat.zero_mul] at hle'
    omega
   ·exact h1
  obtain ⟨ad, rfl, _⟩ := hpos hc
  rw [hA h0] at hN
  simp at hN
/-- A row copied. -/
def cloneG (e : TypeId) : List A → Ans
 | [.c (.r e' n xs)] => if e' = e ∧ allV xs = true ∧ xs.length ≤ most then some ([.c (.s e n xs)], [.c (.r e n xs)]) else none
 | _ => none
/-- The region that asks. -/
theorem nil_region {E : Env} {ops : Array Oper} {x0 x1 : Oper} {t t' e : TypeId} {y : Operand} {d0 d1 : Nat} {A : Option Addr} {n c : Nat} {av : AV} (h0 : x0.op = .move y) (q0 : x0.dst = some d0) (g0 : x0.guard = none)
  (h1 : x1.op = .binOp .eql t (.tmp d0) (.const (.slice none 0 0)) t') (q1 : x1.dst = some d1) (g1 : x1.guard = none) (hd : d0 < E.n ∧ d1 < E.n) (hu : E.P.underlying t = some (.slice e))
  (h : Cor E.P w0 mine σ a w loc O R) (hn : a.tmps.size = E.n) (hy : σ.ev y = some av) (hyv : a.eval y = .slice A n c) {Q : Exit → Act → World → Prop}
  (hQ : ∀ a', Cor E.P w0 mine ⟨ins (ins σ.t d0 av) d1 (.c (.v (.bool A.isNone))), σ.o⟩ a' w loc O R → a'.tmps.size = E.n → a'.defers = a.defers → Q .normal a' w) : wpList E.P ops Q [x0, x1] a w := by
 have wt : ∀ {x : Oper} {t : Array Value}, x.guard = none → Region.wanted x (yielded ops t) = true := fun hg => by unfold Region.wanted; rw [hg]
 rw [wpList, wt g0, if_pos rfl]
 refine .inl (wp_mv (.inl h0) ?_)
 rw [q0]
 have c0 := h.put (d := d0) (by rw [hn]; exact hd.1) (rep_ev h.tm hy)
 have n0 : (a.put (some d0) (a.eval y)).tmps.size = E.n := by rw [put_size]; exact hn
 have v0 : (a.put (some d0) (a.eval y)).eval (.tmp d0) = .slice A n c := by
  show (a.put (some d0) (a.eval y)).tmps.getD d0 undef = _
  rw [getD_put _ _ _ _ (by rw [hn]; exact hd.1), if_pos rfl]
  exact hyv
 rw [wpList, wt g1, if_pos rfl]
 refine .inl (wp_nil h1 v0 hu ?_)
 rw [q1, wpList]
 exact hQ _ (c0.put (d := d1) (av := .c (.v (.bool A.isNone))) (by rw [n0]; exact hd.2) (rep_v rfl)) (by rw [put_size]; exact n0) rfl
/-- A function that is told by hand. -/
def PrimOk (gd : Guard) (P : Program) (f : FuncId) (g : List A → Ans) : Prop := ∀ (as1 rs as' : List A), g as1 = some (rs, as') → ∀ (w : World) (us : List Value) (Ox Rx : List Nat), Given gd P w as1 us Ox Rx →
  (callFunc f us.toArray).run P w = .ok (.enter f us.toArray) w ∧ Calls P f us.toArray w (AnswersX P w as1 us Ox rs as')
theorem prim_enter {f : FuncId} {fn : Func} {c : Code} {us : List Value} (hf : P.funcs[f]? = some fn) (hn : (fn.name == "runtime.NumGoroutine") = false) (hb : fn.body = some c) : (callFunc f us.toArray).run P w = .ok (.enter f us.toArray) w := by
 have hn' : ¬ fn.name = "runtime.NumGoroutine" := by simpa using hn
 simp [callFunc, go_sem, hf, hn', hb]
/-- A machine that is told of some functions by hand. -/
def machP (M0 : Mach) (ps : List (FuncId × (List A → Ans))) : Mach := ⟨M0.P, M0.own, M0.hint, fun f => match lk ps f with | some g => some g | none => M0.prim f, M0.far, M0.skip⟩
theorem machP_ok {gd : Guard} {M0 : Mach} (h : MachOk gd M0) {ps : List (FuncId × (List A → Ans))} (hp : ∀ x ∈ ps, PrimOk gd M0.P x.1 x.2) : MachOk gd (machP M0 ps) := by
 refine ⟨h.name, fun f g hg xs rs ys hx w us Ox Rx hgv => ?_, fun f fn c hn hf hb => ?_, h.mixed⟩
 ·have hg : (match lk ps f with | some g => some g | none => M0.prim f) = some g := hg
  split at hg
  ·rename_i g' hl
   injection hg with hg
   subst hg
   exact hp (f, g') (lk_mem hl) xs rs ys hx w us Ox Rx hgv
  ·exact h.prim f g hg xs rs ys hx w us Ox Rx hgv
 ·have hn : (match lk ps f with | some g => some g | none => M0.prim f) = none := hn
  split at hn
  ·simp at hn
  ·exact h.code f fn c hn hf hb
/-- Results that are left. -/
def withSkip (M : Mach) (sk : Nat → FuncId → List A → List Nat) : Mach := ⟨M.P, M.own, M.hint, M.prim, M.far, sk⟩
theorem withSkip_ok {gd : Guard} {M : Mach} (h : MachOk gd M) {sk : Nat → FuncId → List A → List Nat} : MachOk gd (withSkip M sk) := ⟨h.name, h.prim, h.code, h.mixed⟩
end Go.Proofs.YtemghdnofgjnmaaDoor.VM

/- The machine, and what it is told of one function by hand: which parts an instruction has. -/
namespace Go.Proofs.YtemghdnofgjnmaaDoor.VM
open Go Go.Proofs
set_option linter.unusedSimpArgs false
set_option linter.unusedVariables false
set_option maxRecDepth 100000
noncomputable def M0 : Mach := mach Tryd.prog badL own1 hint1 far1
theorem M0_ok {gd : Guard} : MachOk gd M0 := mach_ok (by kernel_rfl) (by kernel_rfl)
@[simp] theorem M0P : M0.P = Tryd.prog := rfl
@[simp] theorem M0skip (k : Nat) (f : FuncId) (xs : List A) : M0.skip k f xs = [] := rfl
@[simp] theorem M0own : M0.own = own1 := by unfold M0 mach; rfl
@[simp] theorem M0hint : M0.hint = hint1 := by unfold M0 mach; rfl
@[simp] theorem M0far : M0.far = far1 := by unfold M0 mach; rfl
/-- The parts of an instruction. -/
def formL (op : Int) : List UInt8 := if op = 1 then [82, 78] else if op = 2 ∨ op = 3 ∨ op = 4 ∨ op = 5 then [82, 65, 66] else if op = 6 then [80, 65] else if op = 7 then [82, 84] else if op = 8 then [65] else if op = 9 then [76] else if op = 10 then [65, 76] else []
def formS (op : Int) : ByteArray := ⟨(formL op).toArray⟩
def formB (op : Int) : Bool := decide (1 ≤ op ∧ op ≤ 11)
def hasB (op p : Int) : Bool := (formL op).any fun b => p == (b.toNat : Int)
theorem form63 {j : Nat} (op : Int) : M0.run (j + 1) 20 [.c (.v (.int .i64 op))] = some ([.c (.v (.string (formS op))), .c (.v (.bool (formB op)))], [.c (.v (.int .i64 op))]) := by
 rw [m_run (fn := Tryd.f20) (i0 := 0) rfl Tryd.func20 rfl rfl (by simp)]
 by_cases h1 : op = 1
 ·subst h1; simp -implicitDefEqProofs [formS, formL, formB]
 by_cases h2 : op = 2
 ·subst h2; simp -implicitDefEqProofs [formS, formL, formB]
 by_cases h3 : op = 3
 ·subst h3; simp -implicitDefEqProofs [formS, formL, formB]
 by_cases h4 : op = 4
 ·subst h4; simp -implicitDefEqProofs [formS, formL, formB]
 by_cases h5 : op = 5
 ·subst h5; simp -implicitDefEqProofs [formS, formL, formB]
 by_cases h6 : op = 6
 ·subst h6; simp -implicitDefEqProofs [formS, formL, formB]
 by_cases h7 : op = 7
 ·subst h7; simp -implicitDefEqProofs [formS, formL, formB]
 by_cases h8 : op = 8
 ·subst h8; simp -implicitDefEqProofs [formS, formL, formB]
 by_cases h9 : op = 9
 ·subst h9; simp -implicitDefEqProofs [formS, formL, formB]
 by_cases h10 : op = 10
 ·subst h10; simp -implicitDefEqProofs [formS, formL, formB]
 rw [show formS op = ⟨#[]⟩ by simp [formS, formL, h1, h2, h3, h4, h5, h6, h7, h8, h9, h10], show formB op = (op == 11) by rw [Bool.eq_iff_iff]; simp [formB]; omega]
 simp -implicitDefEqProofs [h1, h2, h3, h4, h5, h6, h7, h8, h9, h10]
/-- Bytes as1 numbers. -/
def by8 (xs : List UInt8) : List T := xs.map fun b => .v (.int .u8 b.toNat)
@[simp] theorem by8_len (xs : List UInt8) : (by8 xs).length = xs.length := by simp [by8]
@[simp] theorem by8_take (xs : List UInt8) (n : Nat) : (by8 xs).take n = by8 (xs.take n) := by simp [by8, List.map_take]
@[simp] theorem ros_by8 : ∀ (xs : List UInt8), ros (by8 xs) = by8 xs
 | [] => rfl
 | x :: xs => by
  show ros (.v _ :: by8 xs) = .v _ :: by8 xs
  rw [ros, ros_by8 xs]
  rfl
theorem by8_get {xs : List UInt8} {i : Nat} (h : i < xs.length) : (by8 xs)[i]? = some (.v (.int .u8 xs[i].toNat)) := by simp [by8, h]
@[simp] theorem by8_at {xs : List UInt8} {i : Nat} (h : i < (by8 xs).length) : (by8 xs)[i] = .v (.int .u8 (xs[i]'(by simpa using h)).toNat) := by simp [by8]
def H94 (xs : List UInt8) (p : Int) (i : Nat) : St := ⟨[(0, .c (.sl 0 [] 0 xs.length)), (1, .c (.v (.int .u8 p))), (7, .c (.v (.int .i64 xs.length))), (8, .c (.v (.int .i64 i)))], [(0, ⟨.ro, 5, by8 xs⟩)]⟩
theorem run94 {j : Nat} (hj : big ≤ j) (xs : List UInt8) (p : Int) (hl : xs.length ≤ 1048576) : ∃ n : Int, M0.run (j + 1) 53 [.c (.r 5 xs.length (by8 xs)), .c (.v (.int .u8 p))] = some ([.c (.v (.int .i64 n))], [.c (.r 5 xs.length (by8 xs)), .c (.v (.int .u8 p))]) ∧ decide (0 ≤ n) = xs.any fun b => p == (b.toNat : Int) := by
 rcases first_bad (fun b : UInt8 => !(p == (b.toNat : Int))) xs with hc | ⟨n, hn, hc, hg⟩
 ·refine ⟨-1, ?_, ?_⟩
  ·rw [m_run (fn := Tryd.f53) (i0 := 0) rfl Tryd.func53 rfl rfl (by simp)]
   simp -implicitDefEqProofs
   rw [loop_to (H94 xs p) xs.length (by simp -implicitDefEqProofs [H94, hint1]) (by simp [big] at hj; omega) (fun i hi => by
    have := hc i hi
    simp at this
    simp -implicitDefEqProofs [H94, hint1, hi, w64 (x := (i : Int) + 1) (by omega), this, own1]) (by simp -implicitDefEqProofs [H94, stops, hint1])]
   simp -implicitDefEqProofs [H94]
  ·have := all_of (p := fun b : UInt8 => !(p == (b.toNat : Int))) (xs := xs) hc
   simp only [List.all_eq_true] at this
   symm
   simp only [show decide ((0 : Int) ≤ -1) = false from rfl, List.any_eq_false]
   intro x hx
   have := this x hx
   simpa using this
 ·refine ⟨n, ?_, ?_⟩
  ·have hc' : p = (xs[n].toNat : Int) := by simpa using hc
   rw [m_run (fn := Tryd.f53) (i0 := 0) rfl Tryd.func53 rfl rfl (by simp)]
   simp -implicitDefEqProofs
   rw [loop_to (H94 xs p) n (by simp -implicitDefEqProofs [H94, hint1]) (by simp [big] at hj; omega) (fun i hi => by
    have := hg i hi
    simp at this
    simp -implicitDefEqProofs [H94, hint1, show i < xs.length by omega, w64 (x := (i : Int) + 1) (by omega), this, own1]) (by simp -implicitDefEqProofs [H94, stops, hn, ← hc', own1])]
   simp -implicitDefEqProofs [H94, hn, ← hc', own1]
  ·have hc' : p = (xs[n].toNat : Int) := by simpa using hc
   have : (xs.any fun b => p == (b.toNat : Int)) = true := List.any_eq_true.2 ⟨xs[n], List.getElem_mem hn, by simp [hc']⟩
   rw [this]
   simp
theorem run87 {j : Nat} (hj : big ≤ j) (xs : List UInt8) (p : Int) (hl : xs.length ≤ 1048576) : M0.run (j + 2) 42 [.c (.r 5 xs.length (by8 xs)), .c (.v (.int .u8 p))] = some ([.c (.v (.bool (xs.any fun b => p == (b.toNat : Int))))], [.c (.r 5 xs.length (by8 xs)), .c (.v (.int .u8 p))]) := by
 obtain ⟨n, h1, h2⟩ := run94 hj xs p hl
 rw [m_run (fn := Tryd.f42) (i0 := 0) rfl Tryd.func42 rfl rfl (by simp)]
 simp -implicitDefEqProofs [h1, own1, ← h2]
end Go.Proofs.YtemghdnofgjnmaaDoor.VM

/- What is told by hand of one function, and that it is so: which parts an instruction has. The machine. -/
namespace Go.Proofs.YtemghdnofgjnmaaDoor.VM
open Go Go.Proofs
set_option linter.unusedSimpArgs false
set_option linter.unusedVariables false
set_option maxRecDepth 100000
def g66 : List A → Ans
 | [.c (.v (.int .i64 op)), .c (.v (.int .u8 p))] => some ([.c (.v (.bool (hasB op p)))], [.c (.v (.int .i64 op)), .c (.v (.int .u8 p))])
 | _ => none
noncomputable def E66 : Env := ⟨Tryd.prog, 16, M0.run (big + 5), own1⟩
theorem by8_bytes (op : Int) : bytesT (formS op) = by8 (formL op) := by simp [bytesT, by8, formS]
theorem formS_len (op : Int) : (formS op).size = (formL op).length := by simp [formS, ByteArray.size]
theorem formL_le (op : Int) : (formL op).length ≤ 3 := by unfold formL; (repeat' split) <;> simp
set_option maxHeartbeats 4000000 in
theorem has_calls {gd : Guard} (op p : Int) {w : World} {us : List Value} {Ox Rx : List Nat} (hg : Given gd Tryd.prog w [.c (.v (.int .i64 op)), .c (.v (.int .u8 p))] us Ox Rx) :
  Calls Tryd.prog 31 us.toArray w (Answers Tryd.prog w [.c (.v (.int .i64 op)), .c (.v (.int .u8 p))] us Ox [.c (.v (.bool (hasB op p)))] [.c (.v (.int .i64 op)), .c (.v (.int .u8 p))]) := by
 have hs : Sound noGuard E66.P E66.run := sound M0_ok (big + 5)
 have hcalls : ∀ w0 mine, CallsOk E66 w0 mine := fun w0 mine => callsOk_of hs w0 mine noGuard_on
 have hdraws : ∀ w0 mine, DrawsOk E66 w0 mine := fun w0 mine => draws_sound (callsOk_of hs w0 mine noGuard_on) (M0_ok (gd := noGuard)).mixed
 refine func_of (E := E66) (i0 := 0) (fn := Tryd.f31) (x := .ret) (σ := ⟨[(0, .c (.v (.int .i64 op))), (1, .c (.v (.int .u8 p))), (4, .c (.v (.bool (hasB op p)))), (5, .c (.v (.string (formS op)))), (6, .c (.v (.bool (formB op)))), (7, .tup [.c (.v (.string (formS op))), .c (.v (.bool (formB op)))]), (8, .c (.v (.int .i64 op))), (9, .tup [.c (.v (.string (formS op))), .c (.v (.bool (formB op)))]), (10, .c (.v (.string (formS op)))), (11, .c (.v (.bool (formB op))))], []⟩) Tryd.func31 rfl rfl (by simp [enter.enters, enter, enterC, E66]) hg ?_ (by simp -implicitDefEqProofs [E66])
 intro c a loc O R Q hc hn hQ
 refine wp_seq (exec_sound (hcalls _ _) (hdraws _ _) (k := 1) (hint := fun _ => ([], [])) (x := .normal) (σ1 := ⟨[(0, .c (.v (.int .i64 op))), (1, .c (.v (.int .u8 p))), (4, .c (.v (.bool false)))], []⟩) _ rfl hc hn (by simp -implicitDefEqProofs [E66]) fun a1 w1 loc1 O1 R1 hc1 hn1 hd1 => ?_)
 refine wp_seq (exec_sound (hcalls _ _) (hdraws _ _) (k := 1) (hint := fun _ => ([], [])) (x := .normal) (σ1 := ⟨[(0, .c (.v (.int .i64 op))), (1, .c (.v (.int .u8 p))), (4, .c (.v (.bool false))), (5, .c (.v (.string (formS op)))), (6, .c (.v (.bool (formB op)))), (7, .tup [.c (.v (.string (formS op))), .c (.v (.bool (formB op)))]), (8, .c (.v (.int .i64 op))), (9, .tup [.c (.v (.string (formS op))), .c (.v (.bool (formB op)))]), (10, .c (.v (.string (formS op)))), (11, .c (.v (.bool (formB op))))], []⟩) _ rfl hc1 hn1 (by simp -implicitDefEqProofs [E66, form63, own1]) fun a2 w2 loc2 O2 R2 hc2 hn2 hd2 => ?_)
 refine wp_seq (wp_region ?_)
 rw [show ∀ (ops : Array Oper) (Q : Exit → Act → World → Prop), wpOps E66.P ops Q (List.range ops.size) = wpList E66.P ops Q ops.toList from fun ops Q => by
  rw [List.range_eq_range', ← Array.length_toList]
  exact wpOps_eq_wpList ops.toList 0 (fun j => by simp)]
 have hr : E66.run 42 [.c (.r 5 (formS op).size (bytesT (formS op))), .c (.v (.int .u8 p))] = some ([.c (.v (.bool (hasB op p)))], [.c (.r 5 (formL op).length (by8 (formL op))), .c (.v (.int .u8 p))]) := by
  rw [by8_bytes, formS_len]
  exact run87 (j := big + 3) (by omega) (formL op) p (by have := formL_le op; omega)
 refine conv_region hs rfl rfl rfl rfl rfl rfl rfl rfl rfl rfl rfl rfl rfl rfl rfl (by simp [E66]) (by decide) (s := formS op) (p := p) (rv := .bool (hasB op p)) (by show Tryd.prog.underlying 9 = _; rw [Tryd.underlying9]) (by show Tryd.prog.underlying 28 = _; rw [Tryd.underlying28]) (by show Tryd.prog.underlying 5 = _; rw [Tryd.underlying5]) (by show Tryd.prog.cellsOf 5 = _; simp) (fun w => ⟨grownCap_le_maxLen w _ _ _ (by rw [formS_len]; have := formL_le op; unfold maxLen; omega), grownCap_ge w _ _ _⟩) rfl hr hc2 hn2 (by simp [St.ev, lk]) (fun d hd => by simp at hd; subst hd; decide) ⟨_, rfl⟩ (by simp [St.ev, lk]) ?_
 intro a3 w3 loc3 O3 R3 hc3 hn3 hd3
 exact wp_ret (hQ a3 w3 loc3 O3 R3 (by simpa [ins, del] using hc3) hn3 (hd3.trans (hd2.trans hd1)))
end Go.Proofs.YtemghdnofgjnmaaDoor.VM

/- Rows that are copied: what is told by hand of slices.Clone. -/
namespace Go.Proofs.YtemghdnofgjnmaaDoor.VM
open Go Go.Proofs Go.Proofs.YtemghdnofgjnmaaDoorW.PrintWords
set_option linter.unusedSimpArgs false
set_option linter.unusedVariables false
set_option maxRecDepth 100000
set_option maxHeartbeats 4000000
end Go.Proofs.YtemghdnofgjnmaaDoor.VM
