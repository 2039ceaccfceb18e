/- A row that is copied: a function that asks whether it is nil. -/
import Derived.Test.YtbdidcfjaohglaaPr2
namespace Go.Proofs.Ytbdidcfjaohglaa.VM
open Go Go.Proofs Go.Proofs.YtbdidcfjaohglaaW.PrintWords
set_option linter.unusedVariables false
set_option linter.unusedSimpArgs false
variable {P : Program} {w w1 w2 w0 : World} {mine : Ctx} {o o1 o2 : OM} {loc loc1 loc2 : Nat → Value} {O R : Nat → List Nat} {σ σ1 σ2 : St} {a : Act}
theorem run_eq_nil {d : Nat} {t e : TypeId} {A : Option Addr} {n c : Nat} (hu : P.underlying t = some (.slice e)) : (Op.equalIn (d + 1) t (.slice A n c) (.slice none 0 0)).run P w = .ok A.isNone w := by
  cases A <;> simp [Op.equalIn, run_underlying hu]
theorem wp_nil {x : Oper} {t t' e : TypeId} {y : Operand} {A : Option Addr} {n c : Nat} (ho : x.op = .binOp .eql t y (.const (.slice none 0 0)) t') (hy : a.eval y = .slice A n c) (hu : P.underlying t = some (.slice e))
    {K : Act → World → Prop} {Q : Exit → Act → World → Prop} (hK : K (a.put x.dst (.bool A.isNone)) w) : x.wp P a w K Q := by
  refine wp_value ?_ hK
  have he : a.eval (.const (.slice none 0 0)) = .slice none 0 0 := rfl
  have hq : (Op.equalIn 10000 t (.slice A n c) (.slice none 0 0)).run P w = .ok A.isNone w := run_eq_nil (d := 9999) hu
  have hg : (eqGuard .eql t y (.const (.slice none 0 0)) (.slice A n c) (.slice none 0 0)).run P w = .ok () w := run_guard (fun cs h => by cases h) (fun h => by cases h)
  unfold execOp
  rw [ho]
  simp only [hy, he, Sem.run_bind, hg, Result.andThen_ok, run_eql_any hq rfl]
  rfl
/-- What a slice that is read only is, as a value. -/
theorem given_row {e : TypeId} {n : Nat} {xs : List T} {us : List Value} {Ox Rx : List Nat} (hg : Given P w [.c (.r e n xs)] us Ox Rx) : ∃ A c, us = [.slice A n c] ∧ (A = none → n = 0 ∧ xs = []) := by
  have h := hg.rep
  rw [RepAs] at h
  obtain ⟨u, us', O1, R1, O2, R2, rfl, h1, h2, _⟩ := h
  rw [RepAs] at h2
  obtain ⟨rfl, _⟩ := h2
  rw [RepA, RepT] at h1
  obtain ⟨_, A, c, vs, R', rfl, hn, _, hA, hl, _, hr, _⟩ := h1
  refine ⟨A, c, rfl, fun hN => ?_⟩
  subst hN
  have hc : c = 0 := by
    rcases Nat.eq_zero_or_pos c with h | h
    · exact h
    · obtain ⟨ad, h, _⟩ := hA h
      cases h
  have hn0 : n = 0 := by omega
  have := RepTs_len hr
  rw [hl, hn0, Nat.zero_mul] at this
  exact ⟨hn0, List.length_eq_zero_iff.1 this.symm⟩
theorem sl_val (h : Cor P w0 mine σ a w loc O R) {id n : Nat} {u : Value} (hr : RepC P w σ.o loc (.sl id [] 0 n) u) {k : Kind} {e : TypeId} {xs : List T} (hl : lk σ.o id = some ⟨k, e, xs⟩) (hs : 0 < P.cellsOf e) : ∃ A c, u = .slice A n c ∧ (A = none → n = 0) := by
  obtain ⟨ob', own', e', xs', m, h', O', R', hl', hk, hd', hh, hrow, _, _, A, m', c, A', c', rfl, rfl, hnc, hcm, hle, hA⟩ := h.inv.sl hr
  rw [hl] at hl'
  injection hl' with hl'
  subst hl'
  rw [down] at hd'
  injection hd' with hd'
  injection hd' with h1 hd'
  injection hd' with h2 h3
  subst h1; subst h2; subst h3
  obtain ⟨A2, c2, us, O2, R2, he, hmc, ⟨hc2, hpos⟩, _⟩ := Row_cells hrow
  injection he with e1 e2 e3
  subst e1; subst e2; subst e3
  refine ⟨A', c', rfl, fun hN => ?_⟩
  rcases Nat.eq_zero_or_pos c' with h0 | h0
  · omega
  · exfalso
    have hc : 0 < c := by
      rcases Nat.eq_zero_or_pos c with h1 | h1
      · subst h1
        have h2 := Nat.mul_pos h0 hs
        have hle' : 0 + c' * P.cellsOf e = 0 * P.cellsOf e := hle
        rw [Nat.zero_mul] at hle'
        omega
      · exact h1
    obtain ⟨ad, rfl, _⟩ := hpos hc
    rw [hA h0] at hN
    simp at hN
/-- A row copied. -/
def cloneG (e : TypeId) : List A → Ans
  | [.c (.r e' n xs)] => if e' = e ∧ allV xs = true ∧ xs.length ≤ most then some ([.c (.s e n xs)], [.c (.r e n xs)]) else none
  | _ => none
/-- The region that asks. -/
theorem nil_region {E : Env} {ops : Array Oper} {x0 x1 : Oper} {t t' e : TypeId} {y : Operand} {d0 d1 : Nat} {A : Option Addr} {n c : Nat} {av : AV} (h0 : x0.op = .move y) (q0 : x0.dst = some d0) (g0 : x0.guard = none)
    (h1 : x1.op = .binOp .eql t (.tmp d0) (.const (.slice none 0 0)) t') (q1 : x1.dst = some d1) (g1 : x1.guard = none) (hd : d0 < E.n ∧ d1 < E.n) (hu : E.P.underlying t = some (.slice e))
    (h : Cor E.P w0 mine σ a w loc O R) (hn : a.tmps.size = E.n) (hy : σ.ev y = some av) (hyv : a.eval y = .slice A n c) {Q : Exit → Act → World → Prop}
    (hQ : ∀ a', Cor E.P w0 mine ⟨ins (ins σ.t d0 av) d1 (.c (.v (.bool A.isNone))), σ.o⟩ a' w loc O R → a'.tmps.size = E.n → a'.defers = a.defers → Q .normal a' w) : wpList E.P ops Q [x0, x1] a w := by
  have wt : ∀ {x : Oper} {t : Array Value}, x.guard = none → Region.wanted x (yielded ops t) = true := fun hg => by unfold Region.wanted; rw [hg]
  rw [wpList, wt g0, if_pos rfl]
  refine .inl (wp_mv (.inl h0) ?_)
  rw [q0]
  have c0 := h.put (d := d0) (by rw [hn]; exact hd.1) (rep_ev h.tm hy)
  have n0 : (a.put (some d0) (a.eval y)).tmps.size = E.n := by rw [put_size]; exact hn
  have v0 : (a.put (some d0) (a.eval y)).eval (.tmp d0) = .slice A n c := by
    show (a.put (some d0) (a.eval y)).tmps.getD d0 undef = _
    rw [getD_put _ _ _ _ (by rw [hn]; exact hd.1), if_pos rfl]
    exact hyv
  rw [wpList, wt g1, if_pos rfl]
  refine .inl (wp_nil h1 v0 hu ?_)
  rw [q1, wpList]
  exact hQ _ (c0.put (d := d1) (av := .c (.v (.bool A.isNone))) (by rw [n0]; exact hd.2) (rep_v rfl)) (by rw [put_size]; exact n0) rfl
/-- A function that is told by hand. -/
def PrimOk (P : Program) (f : FuncId) (g : List A → Ans) : Prop := ∀ (as rs as' : List A), g as = some (rs, as') → ∀ (w : World) (us : List Value) (Ox Rx : List Nat), Given P w as us Ox Rx →
    (callFunc f us.toArray).run P w = .ok (.enter f us.toArray) w ∧ Calls P f us.toArray w (Answers P w as us Ox rs as')
theorem prim_enter {f : FuncId} {fn : Func} {c : Code} {us : List Value} (hf : P.funcs[f]? = some fn) (hn : (fn.name == "runtime.NumGoroutine") = false) (hb : fn.body = some c) : (callFunc f us.toArray).run P w = .ok (.enter f us.toArray) w := by
  have hn' : ¬ fn.name = "runtime.NumGoroutine" := by simpa using hn
  simp [callFunc, go_sem, hf, hn', hb]
/-- A machine that is told of some functions by hand. -/
def machP (M0 : Mach) (ps : List (FuncId × (List A → Ans))) : Mach := ⟨M0.P, M0.own, M0.hint, fun f => match lk ps f with | some g => some g | none => M0.prim f, M0.far⟩
theorem machP_ok {M0 : Mach} (h : MachOk M0) {ps : List (FuncId × (List A → Ans))} (hp : ∀ x ∈ ps, PrimOk M0.P x.1 x.2) : MachOk (machP M0 ps) := by
  refine ⟨h.name, fun f g hg xs rs ys hx w us Ox Rx hgv => ?_, fun f fn c hn hf hb => ?_, h.mixed⟩
  · have hg : (match lk ps f with | some g => some g | none => M0.prim f) = some g := hg
    split at hg
    · rename_i g' hl
      injection hg with hg
      subst hg
      exact hp (f, g') (lk_mem hl) xs rs ys hx w us Ox Rx hgv
    · exact h.prim f g hg xs rs ys hx w us Ox Rx hgv
  · have hn : (match lk ps f with | some g => some g | none => M0.prim f) = none := hn
    split at hn
    · simp at hn
    · exact h.code f fn c hn hf hb
end Go.Proofs.Ytbdidcfjaohglaa.VM
