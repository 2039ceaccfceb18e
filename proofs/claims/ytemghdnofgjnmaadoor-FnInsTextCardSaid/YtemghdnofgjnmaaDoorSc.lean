/- Code without loops, whose regions that draw their order go by a schedule: what only yields may be taken first. -/
import Derived.Test.YtemghdnofgjnmaaDoorK1
import Derived.Deep.RegionHeld3
namespace Go.Proofs.YtemghdnofgjnmaaDoor.VM
open Go Go.Proofs
set_option linter.unusedSimpArgs false
set_option linter.unusedVariables false
set_option maxRecDepth 100000
section
variable {w w0 : World} {mine : Ctx} {loc : Nat → Value} {O R : Nat → List Nat} {σ σ1 τ σ' : St} {a : Act}
/-- Operations one after the other. -/
def Env.opersS (E : Env) (ops : Array Oper) : List Oper → St → Option St
  | [], σ => some σ
  | o :: l, σ => (E.oper ops σ o).bind (E.opersS ops l)
/-- It only yields: a move, a cut of a text. -/
def isTake (P : Program) (o : Oper) : Bool := o.guard.isNone && match o.op with
  | .move _ => true
  | .slice t _ _ _ _ => (match P.underlying t with | some .string => true | _ => false)
  | _ => false
theorem take_yields {E : Env} (h : Cor E.P w0 mine τ a w loc O R) (hn : a.tmps.size = E.n) {ops : Array Oper} {x : Oper} (hl : isTake E.P x = true) (ho : E.oper ops τ x = some σ') : ∃ v, Yields E.P ops x v a ∧ Cor E.P w0 mine σ' (a.put x.dst v) w loc O R := by
  unfold isTake at hl
  rw [Bool.and_eq_true] at hl
  obtain ⟨hg, hop⟩ := hl
  have hg : x.guard = none := by simpa using hg
  unfold Env.oper at ho
  split at ho
  rotate_left
  · simp at ho
  rename_i hd
  rw [show τ.want ops x.guard = some true by rw [hg]; rfl] at ho
  simp only [Option.bind_some, if_pos] at ho
  obtain ⟨⟨r, σ2⟩, hop2, ho⟩ := Option.bind_eq_some_iff.1 ho
  injection ho with ho
  subst ho
  have fin : ∀ {v : Value}, σ2 = τ → RepAV E.P w τ.o loc (r.getD .u) v → Cor E.P w0 mine (σ2.put x.dst (r.getD .u)) (a.put x.dst v) w loc O R := fun {v} e hr => by
    subst e
    cases hdst : x.dst with
    | none => exact h
    | some d =>
      rw [hdst] at hd
      exact h.put (by rw [hn]; exact hd) hr
  have hw : Region.wanted x (yielded ops a.tmps) = true := by unfold Region.wanted; rw [hg]
  split at hop
  · rename_i y hxo
    rw [hxo] at hop2
    simp only [Env.op] at hop2
    obtain ⟨v, hv, hop2⟩ := Option.bind_eq_some_iff.1 hop2
    simp only [Option.some.injEq, Prod.mk.injEq] at hop2
    obtain ⟨rfl, rfl⟩ := hop2
    refine ⟨a.eval y, .inl ⟨hw, fun w => ?_⟩, fin rfl (rep_ev h.tm hv)⟩
    unfold execOp
    rw [hxo]
    rfl
  · rename_i t y lo hi mx hxo
    rw [hxo] at hop2
    split at hop
    · rename_i hu
      simp only [Env.op, hu] at hop2
      split at hop2
      · rename_i s e id p off n hu' hx
        simp at hu'
      · rename_i s e hu' hx
        simp at hu'
      · rename_i s hu' hx
        obtain ⟨l, hl, hop2⟩ := Option.bind_eq_some_iff.1 hop2
        obtain ⟨hh, hhi, hop2⟩ := Option.bind_eq_some_iff.1 hop2
        split at hop2
        · rename_i hc
          obtain ⟨h0, h3, h4, h5⟩ := hc
          injection hop2 with hop2
          injection hop2 with h1 h2
          obtain ⟨he, _⟩ := rep_int (rep_ev h.tm hx)
          have hmx : mx = none := by cases mx <;> simp_all
          subst hmx
          refine ⟨.string (s.extract l.toNat hh.toNat), .inl ⟨hw, fun w' => ?_⟩, fin h2.symm (by rw [← h1]; exact rep_v rfl)⟩
          obtain ⟨cc, hb, hc1, hc2, hc3⟩ := run_bounds (P := E.P) (w := w') (b := false) (len := s.size) (cap := s.size) (lo := lo.map a.eval) (hi := hi.map a.eval) (mx := none) (opt_map_intOr h.tm hl) (opt_map_intOr h.tm hhi) (.inl ⟨rfl, rfl⟩) h0 h3 (Int.le_refl _) h4
          unfold execOp
          rw [hxo]
          simp only [he, Option.map_none]
          rw [Sem.run_bind, run_sliceAt_string w' t _ _ _ _ hu, run_slice_str hu hb]
          rfl
        · simp at hop2
      · simp at hop2
    · simp at hop
  · simp at hop
/-- A schedule: what may be taken first, and what alone is ready. -/
def schedB (P : Program) (ops : Array Oper) : List Nat → Array Bool → Bool
  | [], listed => (Region.ready .any ops listed).isEmpty
  | i :: l, listed => (match ops[i]? with
    | some o => (isTake P o && Region.free .any ops listed i && (Region.ready .any ops listed).contains i) || decide (Region.ready .any ops listed = [i])
    | none => false) && schedB P ops l (listed.setIfInBounds i true)
theorem sched_sound {E : Env} (hcalls : CallsOk E w0 mine) {ops : Array Oper} (hs : Region.noSelect ops = true) {Q : Exit → Act → World → Prop} {ds : List Deferred} (hQ : ∀ a' w' loc' O' R', Cor E.P w0 mine σ1 a' w' loc' O' R' → a'.tmps.size = E.n → a'.defers = ds → Q .normal a' w') :
    ∀ (l : List Nat) (listed : Array Bool) (fuel : Nat) {σ : St} {a : Act} {w : World} {loc : Nat → Value} {O R : Nat → List Nat}, schedB E.P ops l listed = true → l.length ≤ fuel → E.opersS ops (l.filterMap fun k => ops[k]?) σ = some σ1 → Cor E.P w0 mine σ a w loc O R → a.tmps.size = E.n → a.defers = ds → wpAny E.P .any ops (NoPanic Q) fuel listed a w
  | [], listed, fuel, σ, a, w, loc, O, R, hb, hf, ho, hc, hn, hd => by
    simp only [List.filterMap_nil, Env.opersS, Option.some.injEq] at ho
    subst ho
    exact wpAny_done (by simpa [schedB] using hb) (NoPanic.normal (hQ a w loc O R hc hn hd)) fuel
  | i :: l, listed, fuel, σ, a, w, loc, O, R, hb, hf, ho, hc, hn, hd => by
    obtain ⟨n, rfl⟩ : ∃ n, fuel = n + 1 := ⟨fuel - 1, by simp at hf; omega⟩
    have hf' : l.length ≤ n := by simpa using hf
    simp only [schedB, Bool.and_eq_true] at hb
    obtain ⟨hb, hb2⟩ := hb
    cases hi : ops[i]? with
    | none => rw [hi] at hb; simp at hb
    | some o =>
      rw [hi] at hb
      rw [List.filterMap_cons_some hi] at ho
      simp only [Env.opersS] at ho
      obtain ⟨τ, h1, h2⟩ := Option.bind_eq_some_iff.1 ho
      simp only [Bool.or_eq_true, Bool.and_eq_true, decide_eq_true_eq] at hb
      rcases hb with ⟨⟨q1, q2⟩, q3⟩ | q
      · obtain ⟨v, hy, hc2⟩ := take_yields hc hn q1 h1
        exact wpAny_take hi hs q2 q3 (fun c a w h => h) hy (sched_sound hcalls hs hQ l _ n hb2 hf' h2 hc2 (by rw [put_size]; exact hn) ((put_defers _ _ _).trans hd))
      · refine wpAny_all q (by simp) fun k hk => ?_
        obtain rfl := List.mem_singleton.1 hk
        unfold Go.wpOp
        rw [hi]
        exact oper_step hcalls hc hn h1 fun a' w' loc' O' R' hc' hn' hd' => sched_sound hcalls hs hQ l _ n hb2 hf' h2 hc' hn' (hd'.trans hd)
/-! ### code without loops -/
def Env.execS (E : Env) (sc : Nat → List Nat) : Code → St → Option (Ex × St)
  | .skip, σ => some (.normal, σ)
  | .region i ops dr, σ => (if dr = true then E.opersS ops ((sc i).filterMap fun k => ops[k]?) σ else E.opers ops ops.toList σ).bind fun σ => some (.normal, σ)
  | .seq c d, σ => (E.execS sc c σ).bind fun (x, σ) => match x with
    | .normal => E.execS sc d σ
    | x => some (x, σ)
  | .cond c d e, σ => match σ.ev c with
    | some (.c (.v (.bool t))) => if t = true then E.execS sc d σ else E.execS sc e σ
    | _ => none
  | .block id c, σ => (E.execS sc c σ).bind fun (x, σ) => match x with
    | .exit i => some (if i = id then (.normal, σ) else (.exit i, σ))
    | x => some (x, σ)
  | .exit id, σ => some (.exit id, σ)
  | .ret, σ => some (.ret, σ)
  | _, _ => none
def codeS (P : Program) (sc : Nat → List Nat) : Code → Bool
  | .region i ops dr => !dr || (Region.noSelect ops && decide ((sc i).length ≤ ops.size) && schedB P ops (sc i) (Array.replicate ops.size false))
  | .seq c d => codeS P sc c && codeS P sc d
  | .cond _ c d => codeS P sc c && codeS P sc d
  | .block _ c => codeS P sc c
  | _ => true
theorem execS_sound {E : Env} (hcalls : CallsOk E w0 mine) (hm : E.P.follows .mixedOrders = true) {sc : Nat → List Nat} : ∀ (c : Code) {σ σ1 : St} {x : Ex} {a : Act} {w : World} {loc : Nat → Value} {O R : Nat → List Nat} {Q : Exit → Act → World → Prop}, codeS E.P sc c = true → Cor E.P w0 mine σ a w loc O R → a.tmps.size = E.n → E.execS sc c σ = some (x, σ1) →
    (∀ a' w' loc' O' R', Cor E.P w0 mine σ1 a' w' loc' O' R' → a'.tmps.size = E.n → a'.defers = a.defers → Q (exOf x) a' w') → c.wp E.P Q a w
  | .skip, σ, σ1, x, a, w, loc, O, R, Q, hok, h, hn, hx, hQ => by
    simp only [Env.execS, Option.some.injEq, Prod.mk.injEq] at hx
    obtain ⟨rfl, rfl⟩ := hx
    exact wp_skip (hQ a w loc O R h hn rfl)
  | .region i ops dr, σ, σ1, x, a, w, loc, O, R, Q, hok, h, hn, hx, hQ => by
    simp only [Env.execS] at hx
    obtain ⟨σ2, ho, hx⟩ := Option.bind_eq_some_iff.1 hx
    simp only [Option.some.injEq, Prod.mk.injEq] at hx
    obtain ⟨rfl, rfl⟩ := hx
    cases dr with
    | true =>
      simp only [codeS, Bool.not_true, Bool.false_or, Bool.and_eq_true, decide_eq_true_eq] at hok
      refine wp_region_noPanic (wp_region_any hm ?_)
      exact sched_sound (σ1 := σ2) (ds := a.defers) hcalls hok.1.1 hQ (sc i) _ ops.size hok.2 hok.1.2 (by simpa using ho) (h.grow (Nat.le_refl _) ⟨rfl, rfl, rfl⟩ (fun _ _ => rfl)) hn rfl
    | false =>
      refine wp_region ?_
      have e : wpOps E.P ops Q (List.range ops.size) = wpList E.P ops Q ops.toList := by
        rw [List.range_eq_range', ← Array.length_toList]
        exact wpOps_eq_wpList ops.toList 0 (fun j => by simp)
      rw [e]
      exact opers_sound hcalls h hn (by simpa using ho) hQ
  | .seq c d, σ, σ1, x, a, w, loc, O, R, Q, hok, h, hn, hx, hQ => by
    simp only [Env.execS] at hx
    obtain ⟨⟨y, σ2⟩, h1, hx⟩ := Option.bind_eq_some_iff.1 hx
    simp only [codeS, Bool.and_eq_true] at hok
    refine wp_seq (execS_sound hcalls hm c hok.1 h hn h1 fun a' w' loc' O' R' hc hn' hd => ?_)
    cases y with
    | normal => exact execS_sound hcalls hm d hok.2 hc hn' hx fun a'' w'' loc'' O'' R'' hc' hn'' hd' => hQ a'' w'' loc'' O'' R'' hc' hn'' (hd'.trans hd)
    | exit id =>
      simp only [Option.some.injEq, Prod.mk.injEq] at hx
      obtain ⟨rfl, rfl⟩ := hx
      exact hQ a' w' loc' O' R' hc hn' hd
    | ret =>
      simp only [Option.some.injEq, Prod.mk.injEq] at hx
      obtain ⟨rfl, rfl⟩ := hx
      exact hQ a' w' loc' O' R' hc hn' hd
  | .cond c d e, σ, σ1, x, a, w, loc, O, R, Q, hok, h, hn, hx, hQ => by
    simp only [Env.execS] at hx
    simp only [codeS, Bool.and_eq_true] at hok
    split at hx
    · rename_i t hc
      refine wp_cond (rep_int (rep_ev h.tm hc)).1 ?_
      cases t with
      | true => exact execS_sound hcalls hm d hok.1 h hn (by simpa using hx) hQ
      | false => exact execS_sound hcalls hm e hok.2 h hn (by simpa using hx) hQ
    · simp at hx
  | .block id c, σ, σ1, x, a, w, loc, O, R, Q, hok, h, hn, hx, hQ => by
    simp only [Env.execS] at hx
    obtain ⟨⟨y, σ2⟩, h1, hx⟩ := Option.bind_eq_some_iff.1 hx
    simp only [codeS] at hok
    refine wp_block (execS_sound hcalls hm c hok h hn h1 fun a' w' loc' O' R' hc hn' hd => ?_)
    cases y with
    | normal =>
      simp only [Option.some.injEq, Prod.mk.injEq] at hx
      obtain ⟨rfl, rfl⟩ := hx
      exact hQ a' w' loc' O' R' hc hn' hd
    | ret =>
      simp only [Option.some.injEq, Prod.mk.injEq] at hx
      obtain ⟨rfl, rfl⟩ := hx
      exact hQ a' w' loc' O' R' hc hn' hd
    | exit i =>
      simp only at hx
      by_cases hi : i = id
      · rw [if_pos hi] at hx
        simp only [Option.some.injEq, Prod.mk.injEq] at hx
        obtain ⟨rfl, rfl⟩ := hx
        have := hQ a' w' loc' O' R' hc hn' hd
        simpa [exOf, Exit.inBlock, hi] using this
      · rw [if_neg hi] at hx
        simp only [Option.some.injEq, Prod.mk.injEq] at hx
        obtain ⟨rfl, rfl⟩ := hx
        have := hQ a' w' loc' O' R' hc hn' hd
        simpa [exOf, Exit.inBlock, hi] using this
  | .exit id, σ, σ1, x, a, w, loc, O, R, Q, hok, h, hn, hx, hQ => by
    simp only [Env.execS, Option.some.injEq, Prod.mk.injEq] at hx
    obtain ⟨rfl, rfl⟩ := hx
    exact wp_exit (hQ a w loc O R h hn rfl)
  | .ret, σ, σ1, x, a, w, loc, O, R, Q, hok, h, hn, hx, hQ => by
    simp only [Env.execS, Option.some.injEq, Prod.mk.injEq] at hx
    obtain ⟨rfl, rfl⟩ := hx
    exact wp_ret (hQ a w loc O R h hn rfl)
  | .loop c, σ, σ1, x, a, w, loc, O, R, Q, hok, h, hn, hx, hQ => by simp [Env.execS] at hx
  | .label l, σ, σ1, x, a, w, loc, O, R, Q, hok, h, hn, hx, hQ => by simp [Env.execS] at hx
  | .goto l, σ, σ1, x, a, w, loc, O, R, Q, hok, h, hn, hx, hQ => by simp [Env.execS] at hx
/-- A call of code without loops. -/
theorem func_S {E : Env} {sc : Nat → List Nat} {i0 : Nat} {f : FuncId} {fn : Func} {code : Code} {gd : Guard} (hcalls : ∀ (w0 : World) (mine : Ctx), gd.on w0 mine.m → CallsOk E w0 mine) (hmix : E.P.follows .mixedOrders = true) (hf : E.P.funcs[f]? = some fn) (hb : fn.body = some code) (hn : E.n = fn.ntmps) (hok : codeS E.P sc code = true) {as1 rs as' : List A} (hlen : (enter.enters i0 as1).1.length ≤ E.n)
    (hrun : (E.execS sc code ⟨tmps0 0 (enter.enters i0 as1).1, (enter.enters i0 as1).2.2⟩).bind (fun q => ansOf E fn i0 as1 q.1 q.2) = some (rs, as'))
    {us : List Value} {Ox Rx : List Nat} (hg : Given gd E.P w as1 us Ox Rx) : Calls E.P f us.toArray w (Answers E.P w as1 us Ox rs as') := by
  have hents : enter.enters i0 as1 = ((enter.enters i0 as1).1, (enter.enters i0 as1).2.1, (enter.enters i0 as1).2.2) := rfl
  have h0 : Ent E.P w (fun b => b ∈ Ox) (ctx0 Ox) [] i0 (fun _ => undef) (fun _ => []) (fun _ => []) := by
    refine ⟨fun x hx => by simp at hx, rfl, ⟨⟨fun id ob hl => ?_, fun id ob hl => ?_, fun id id' ob ob' _ hl => ?_, fun id ob hl => ?_, fun id ob hl => ?_, fun b _ _ => rfl, Nat.le_refl _, Still.refl⟩, fun d v hd => ?_, List.Pairwise.nil, List.Pairwise.nil, fun id ob hl => ?_⟩⟩ <;> simp [lk] at *
  obtain ⟨c, loc, O, R, ⟨⟨hkeys, hm, hcor⟩, _⟩, hrep, hcame⟩ := enters_sound h0 hg.rep hg.known ⟨hg.nodup, fun j y hl => by simp [lk] at hl, fun b hb => ⟨hg.own b hb, hb⟩, fun b hb => hg.ro b hb⟩ hents
  rw [List.nil_append] at hcor hrep
  have hvl := RepAVs_len hrep
  refine calls_of_wp hf hb ?_
  have hstart : Cor E.P w c ⟨tmps0 0 (enter.enters i0 as1).1, (enter.enters i0 as1).2.2⟩ { tmps := us.toArray ++ Array.replicate (fn.ntmps - us.toArray.size) undef, defers := [] } w loc O R := by
    refine ⟨hcor.inv, fun d v hd => ?_, srt_tmps0, hcor.so, hcor.par⟩
    obtain ⟨_, hd⟩ := lk_tmps0 hd
    rw [Nat.sub_zero] at hd
    obtain ⟨u, hu, hr⟩ := RepAVs_get hrep hd
    have hdl := (List.getElem?_eq_some_iff.1 hu).1
    have e : (us.toArray ++ Array.replicate (fn.ntmps - us.toArray.size) undef).getD d undef = u := by
      rw [Array.getD_eq_getD_getElem?, Array.getElem?_append_left (by simpa using hdl)]
      simp [hu]
    show RepAV E.P w _ loc v ((us.toArray ++ Array.replicate (fn.ntmps - us.toArray.size) undef).getD d undef)
    rw [e]
    exact hr
  have hgd : gd.on w c.m := by rw [hm]; exact hg.guard
  obtain ⟨⟨x, σ⟩, he, hx⟩ := Option.bind_eq_some_iff.1 hrun
  refine execS_sound (hcalls w c hgd) hmix code hok hstart (by simp; omega) he fun a' w' loc' O' R' hc hn' hd => ?_
  have fin : (σ.results E.P fn.resultTypes.toList fn.results.toList).bind (fun x => some (x.1, (St.leave.leaves x.2 i0 as1).1)) = some (rs, as') → a'.defers = [] ∧ ∃ v, (results fn a'.tmps).run E.P w' = .ok v w' ∧ Answers E.P w as1 us Ox rs as' (.returned v) w' := by
    intro hx
    obtain ⟨⟨ys, σ1⟩, hres, hx⟩ := Option.bind_eq_some_iff.1 hx
    simp only [Option.some.injEq, Prod.mk.injEq] at hx
    obtain ⟨rfl, rfl⟩ := hx
    obtain ⟨k1, k2, vs, O1, k3, k4⟩ := results_sound hc hres
    obtain ⟨O2, j1, j2, j3, j4⟩ := leaves_sound k1 hcame
    have hO1 : ∀ b ∈ O1, b < w'.heap.size ∧ (w.heap.size ≤ b ∨ b ∈ Ox) := fun b hb => by
      obtain ⟨id, ob, p1, p2, p3⟩ := k3.gone b hb
      have := hc.inv.own_ id ob p1 b p3
      exact ⟨this.1, this.2.imp (fun h => h) fun h => by have h : c.m b := h; rw [hm] at h; exact h⟩
    have hO2 : ∀ b ∈ O2, b < w'.heap.size ∧ (w.heap.size ≤ b ∨ b ∈ Ox) := fun b hb => by
      obtain ⟨id, ob, _, _, p1, p3⟩ := j3 b hb
      have := k1.inv.own_ id ob p1 b p3
      exact ⟨this.1, this.2.imp (fun h => h) fun h => by have h : c.m b := h; rw [hm] at h; exact h⟩
    refine ⟨hd, tupV vs, run_results k4, vs, O1, O2, rfl, k3.rep, j1, List.nodup_append.2 ⟨k3.nodup, j2, fun b hb c' hc' e => ?_⟩, hc.inv.size, hc.inv.still, fun b hb hb' => hc.inv.kept b hb (fun h => by have h : c.m b := h; rw [hm] at h; exact hb' h), fun b hb => (List.mem_append.1 hb).elim (hO1 b) (hO2 b)⟩
    subst e
    obtain ⟨id, ob, p1, p2, p3⟩ := k3.gone b hb
    obtain ⟨id', ob', _, _, q1, q3⟩ := j3 b hc'
    obtain ⟨ob2, q4, _⟩ := k2 id' ob' q1
    have hne : id ≠ id' := fun e => by rw [e, q1] at p2; simp at p2
    exact hc.inv.disj id id' ob ob2 hne p1 q4 b p3 q3
  cases x with
  | normal => exact fin hx
  | ret => exact fin hx
  | exit id => simp at hx
end
/-! ### reckoning -/
section
variable {E : Env} {sc : Nat → List Nat} {σ : St}
def seqCS (E : Env) (sc : Nat → List Nat) (b : Code) : Ex × St → Option (Ex × St)
  | (.normal, σ) => E.execS sc b σ
  | (.exit i, σ) => some (.exit i, σ)
  | (.ret, σ) => some (.ret, σ)
def condCS (E : Env) (sc : Nat → List Nat) (a b : Code) (σ : St) : AV → Option (Ex × St)
  | .c (.v (.bool t)) => if t = true then E.execS sc a σ else E.execS sc b σ
  | _ => none
theorem xs_skip : E.execS sc .skip σ = some (.normal, σ) := (rfl)
theorem xs_region {i : Nat} {ops : Array Oper} : E.execS sc (.region i ops false) σ = (E.opers ops ops.toList σ).bind regC := (rfl)
theorem xs_draw {i : Nat} {ops : Array Oper} : E.execS sc (.region i ops true) σ = (E.opersS ops ((sc i).filterMap fun k => ops[k]?) σ).bind regC := (rfl)
theorem xs_seq {a b : Code} : E.execS sc (.seq a b) σ = (E.execS sc a σ).bind (seqCS E sc b) := by
  show Option.bind _ _ = _
  congr 1
  funext ⟨x, σ⟩
  cases x <;> rfl
theorem xs_cond {c : Operand} {a b : Code} : E.execS sc (.cond c a b) σ = (σ.ev c).bind (condCS E sc a b σ) := by
  simp only [Env.execS]
  cases hv : σ.ev c with
  | none => rfl
  | some v =>
    rw [Option.bind_some]
    cases v with
    | c x => cases x with
      | v y => cases y <;> rfl
      | _ => rfl
    | _ => rfl
theorem xs_block {i : Nat} {a : Code} : E.execS sc (.block i a) σ = (E.execS sc a σ).bind (blockC i) := by
  show Option.bind _ _ = _
  congr 1
  funext ⟨x, σ⟩
  cases x <;> rfl
theorem xs_exit {i : Nat} : E.execS sc (.exit i) σ = some (.exit i, σ) := (rfl)
theorem xs_ret : E.execS sc .ret σ = some (.ret, σ) := (rfl)
theorem os_nil {ops : Array Oper} : E.opersS ops [] σ = some σ := (rfl)
theorem os_cons {ops : Array Oper} {o : Oper} {l : List Oper} : E.opersS ops (o :: l) σ = (E.oper ops σ o).bind (E.opersS ops l) := (rfl)
end
attribute [simp] xs_skip xs_region xs_draw xs_seq xs_cond xs_block xs_exit xs_ret os_nil os_cons seqCS condCS
end Go.Proofs.YtemghdnofgjnmaaDoor.VM
