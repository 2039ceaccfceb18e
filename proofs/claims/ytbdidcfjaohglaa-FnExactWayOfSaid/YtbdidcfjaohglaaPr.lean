/- A function that the machine does not know: its call out of a proof about its code; one that asks whether a byte is in a text. -/
import Derived.Test.YtbdidcfjaohglaaV3
import Derived.Lib.ConvBytes
namespace Go.Proofs.Ytbdidcfjaohglaa.VM
open Go Go.Proofs Go.Proofs.YtbdidcfjaohglaaW.PrintWords
set_option linter.unusedVariables false
set_option linter.unusedSimpArgs false
variable {P : Program} {w w1 w2 w0 : World} {mine : Ctx} {o o1 o2 : OM} {loc loc1 loc2 : Nat → Value} {O R : Nat → List Nat} {σ σ1 σ2 : St} {a : Act}

/-- What a function that ended so answers. -/
def ansOf (E : Env) (fn : Func) (i0 : Nat) (as : List A) (x : Ex) (σ : St) : Ans := match x with
  | .exit _ => none
  | _ => (σ.results E.P fn.resultTypes.toList fn.results.toList).bind (fun x => some (x.1, (St.leave.leaves x.2 i0 as).1))
attribute [simp] ansOf
/-- A call out of a proof about the code. -/
theorem func_any {E : Env} {i0 : Nat} {f : FuncId} {fn : Func} {code : Code} (hf : E.P.funcs[f]? = some fn) (hb : fn.body = some code) (hn : E.n = fn.ntmps) {as rs as' : List A} (hlen : (enter.enters i0 as).1.length ≤ E.n) 
    {us : List Value} {Ox Rx : List Nat} (hg : Given E.P w as us Ox Rx)
    (hexec : ∀ (c : Ctx) (a : Act) (loc : Nat → Value) (O R : Nat → List Nat) (Q : Exit → Act → World → Prop), Cor E.P w c ⟨tmps0 0 (enter.enters i0 as).1, (enter.enters i0 as).2.2⟩ a w loc O R → a.tmps.size = E.n → (∀ x σ a' w' loc' O' R', ansOf E fn i0 as x σ = some (rs, as') → Cor E.P w c σ a' w' loc' O' R' → a'.tmps.size = E.n → a'.defers = a.defers → Q (exOf x) a' w') → code.wp E.P Q a w) : Calls E.P f us.toArray w (Answers E.P w as us Ox rs as') := by
  have hents : enter.enters i0 as = ((enter.enters i0 as).1, (enter.enters i0 as).2.1, (enter.enters i0 as).2.2) := rfl
  have h0 : Ent E.P w (fun b => b ∈ Ox) (ctx0 Ox) [] i0 (fun _ => undef) (fun _ => []) (fun _ => []) := by
    refine ⟨fun x hx => by simp at hx, rfl, ⟨⟨fun id ob hl => ?_, fun id ob hl => ?_, fun id id' ob ob' _ hl => ?_, fun id ob hl => ?_, fun id ob hl => ?_, fun b _ _ => rfl, Nat.le_refl _, Still.refl⟩, fun d v hd => ?_, List.Pairwise.nil, List.Pairwise.nil, fun id ob hl => ?_⟩⟩ <;> simp [lk] at *
  obtain ⟨c, loc, O, R, ⟨⟨hkeys, hm, hcor⟩, _⟩, hrep, hcame⟩ := enters_sound h0 hg.rep hg.known ⟨hg.nodup, fun j y hl => by simp [lk] at hl, fun b hb => ⟨hg.own b hb, hb⟩, fun b hb => hg.ro b hb⟩ hents
  rw [List.nil_append] at hcor hrep
  have hvl := RepAVs_len hrep
  refine calls_of_wp hf hb ?_
  have hstart : Cor E.P w c ⟨tmps0 0 (enter.enters i0 as).1, (enter.enters i0 as).2.2⟩ { tmps := us.toArray ++ Array.replicate (fn.ntmps - us.toArray.size) undef, defers := [] } w loc O R := by
    refine ⟨hcor.inv, fun d v hd => ?_, srt_tmps0, hcor.so, hcor.par⟩
    obtain ⟨_, hd⟩ := lk_tmps0 hd
    rw [Nat.sub_zero] at hd
    obtain ⟨u, hu, hr⟩ := RepAVs_get hrep hd
    have hdl := (List.getElem?_eq_some_iff.1 hu).1
    have e : (us.toArray ++ Array.replicate (fn.ntmps - us.toArray.size) undef).getD d undef = u := by
      rw [Array.getD_eq_getD_getElem?, Array.getElem?_append_left (by simpa using hdl)]
      simp [hu]
    show RepAV E.P w _ loc v ((us.toArray ++ Array.replicate (fn.ntmps - us.toArray.size) undef).getD d undef)
    rw [e]
    exact hr
  refine hexec c _ loc O R _ hstart (by simp; omega) fun x σ a' w' loc' O' R' hx hc hn' hd => ?_
  have fin : (σ.results E.P fn.resultTypes.toList fn.results.toList).bind (fun x => some (x.1, (St.leave.leaves x.2 i0 as).1)) = some (rs, as') → a'.defers = [] ∧ ∃ v, (results fn a'.tmps).run E.P w' = .ok v w' ∧ Answers E.P w as us Ox rs as' (.returned v) w' := by
    intro hx
    obtain ⟨⟨ys, σ1⟩, hres, hx⟩ := Option.bind_eq_some_iff.1 hx
    simp only [Option.some.injEq, Prod.mk.injEq] at hx
    obtain ⟨rfl, rfl⟩ := hx
    obtain ⟨k1, k2, vs, O1, k3, k4⟩ := results_sound hc hres
    obtain ⟨O2, j1, j2, j3, j4⟩ := leaves_sound k1 hcame
    have hO1 : ∀ b ∈ O1, b < w'.heap.size ∧ (w.heap.size ≤ b ∨ b ∈ Ox) := fun b hb => by
      obtain ⟨id, ob, p1, p2, p3⟩ := k3.gone b hb
      have := hc.inv.own_ id ob p1 b p3
      exact ⟨this.1, this.2.imp (fun h => h) fun h => by have h : c.m b := h; rw [hm] at h; exact h⟩
    have hO2 : ∀ b ∈ O2, b < w'.heap.size ∧ (w.heap.size ≤ b ∨ b ∈ Ox) := fun b hb => by
      obtain ⟨id, ob, _, _, p1, p3⟩ := j3 b hb
      have := k1.inv.own_ id ob p1 b p3
      exact ⟨this.1, this.2.imp (fun h => h) fun h => by have h : c.m b := h; rw [hm] at h; exact h⟩
    refine ⟨hd, tupV vs, run_results k4, vs, O1, O2, rfl, k3.rep, j1, List.nodup_append.2 ⟨k3.nodup, j2, fun b hb c' hc' e => ?_⟩, hc.inv.size, hc.inv.still, fun b hb hb' => hc.inv.kept b hb (fun h => by have h : c.m b := h; rw [hm] at h; exact hb' h), fun b hb => (List.mem_append.1 hb).elim (hO1 b) (hO2 b)⟩
    subst e
    obtain ⟨id, ob, p1, p2, p3⟩ := k3.gone b hb
    obtain ⟨id', ob', _, _, q1, q3⟩ := j3 b hc'
    obtain ⟨ob2, q4, _⟩ := k2 id' ob' q1
    have hne : id ≠ id' := fun e => by rw [e, q1] at p2; simp at p2
    exact hc.inv.disj id id' ob ob2 hne p1 q4 b p3 q3
  cases x with
  | normal => exact fin hx
  | ret => exact fin hx
  | exit id => simp at hx
/-- A call out of a proof about the code, that ends in one state. -/
theorem func_of {E : Env} {i0 : Nat} {f : FuncId} {fn : Func} {code : Code} (hf : E.P.funcs[f]? = some fn) (hb : fn.body = some code) (hn : E.n = fn.ntmps) {as rs as' : List A} (hlen : (enter.enters i0 as).1.length ≤ E.n) {x : Ex} {σ : St}
    {us : List Value} {Ox Rx : List Nat} (hg : Given E.P w as us Ox Rx)
    (hexec : ∀ (c : Ctx) (a : Act) (loc : Nat → Value) (O R : Nat → List Nat) (Q : Exit → Act → World → Prop), Cor E.P w c ⟨tmps0 0 (enter.enters i0 as).1, (enter.enters i0 as).2.2⟩ a w loc O R → a.tmps.size = E.n → (∀ a' w' loc' O' R', Cor E.P w c σ a' w' loc' O' R' → a'.tmps.size = E.n → a'.defers = a.defers → Q (exOf x) a' w') → code.wp E.P Q a w)
    (hx : ansOf E fn i0 as x σ = some (rs, as')) : Calls E.P f us.toArray w (Answers E.P w as us Ox rs as') :=
  func_any hf hb hn hlen hg fun c a loc O R Q hc hn hQ => hexec c a loc O R Q hc hn fun a' w' loc' O' R' h1 h2 h3 => hQ x σ a' w' loc' O' R' hx h1 h2 h3
end Go.Proofs.Ytbdidcfjaohglaa.VM
