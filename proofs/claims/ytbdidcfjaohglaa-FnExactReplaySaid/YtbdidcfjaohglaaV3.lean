/- The machine on trees: calls, regions that draw their order, laws, reckoning. -/
import Derived.Test.YtbdidcfjaohglaaV2
import Derived.Deep.RegionHeld3
import Derived.Deep.Slices
import Derived.ChangeArms
import Derived.WideShapes
import Derived.Below
/- Behind a call: an own row is as the callee left it. -/
namespace Go.Proofs.Ytbdidcfjaohglaa.VM
open Go Go.Proofs.YtbdidcfjaohglaaW.PrintWords
set_option linter.unusedVariables false
set_option linter.unusedSimpArgs false
variable {P : Program} {w w1 w2 w0 W W' : World} {mine : Ctx} {o o1 o2 : OM} {loc loc1 loc2 : Nat → Value} {O R : Nat → List Nat} {σ σ1 σ2 σ' : St} {a : Act} {c : Ctx}

/-- Fewer links. -/
def ScrL : List T → List T → Prop
  | [], [] => True
  | x :: l, y :: m => (y = x ∨ y = .h) ∧ ScrL l m
  | _, _ => False
theorem ScrL.refl : ∀ {l : List T}, ScrL l l
  | [] => trivial
  | x :: l => ⟨.inl rfl, ScrL.refl⟩
theorem ScrL.scr {f : Nat → List Nat → Bool} : ∀ {l m : List T}, ScrL l m → ScrL l (m.map (T.scr f))
  | [], [], _ => trivial
  | x :: l, y :: m, h => by
    rw [List.map_cons]
    refine ⟨?_, ScrL.scr h.2⟩
    rcases h.1 with h | h
    · subst h
      cases y with
      | l i p o n =>
        rw [T.scr]
        split
        · exact .inr rfl
        · exact .inl rfl
      | _ => exact .inl rfl
    · subst h
      exact .inr rfl
  | [], _ :: _, h => h.elim
  | _ :: _, [], h => h.elim
/-- What awaits its turn behind a call. -/
inductive Item where
  | row (id : Nat) (p : List Nat) (n : Nat) (e : TypeId) (xs : List T) (v : Value) (B : List Nat)
  | box (id : Nat) (e : TypeId) (xs : List T) (g : Nat)
def Item.foot : Item → Foot
  | .row id p _ _ _ _ _ => (true, id, p)
  | .box id _ _ _ => (true, id, [])
def Item.B : Item → List Nat
  | .row _ _ _ _ _ _ B => B
  | .box _ _ _ g => [g]
def ItemOk (P : Program) (W : World) (o : OM) (loc : Nat → Value) : Item → Prop
  | .row id p n e xs v B => p.length ≤ 1 ∧ 0 < P.cellsOf e ∧ ∃ ob h, lk o id = some ob ∧ ob.k = .own ∧ down (true, ob.e, ob.xs) p = some (true, e, xs) ∧ HdrAt W (loc id) p h ∧ SubHdr (P.cellsOf e) h 0 n v ∧ RepT P W (.s e n xs) h B []
  | .box id e xs g => ∃ ob, lk o id = some ob ∧ ob.k = .box ∧ ob.e = e ∧ ScrL xs ob.xs ∧ loc id = .slice (some ⟨g, 0, none⟩) 1 1
/-- One step behind a call: one row or variable turns. -/
structure Turn (W W' : World) (σ σ' : St) (loc : Nat → Value) (O : Nat → List Nat) (id : Nat) (p : List Nat) (B : List Nat) : Prop where
  other : ∀ j ob, j ≠ id → lk σ.o j = some ob → ∃ ob', lk σ'.o j = some ob' ∧ ob'.k = ob.k ∧ ob'.e = ob.e ∧ (ob.k ≠ .box → ob' = ob) ∧ (ob.k = .box → ∀ xs, ScrL xs ob.xs → ScrL xs ob'.xs)
  same : ∀ i, p = [i] → ∃ ob ob' y, lk σ.o id = some ob ∧ lk σ'.o id = some ob' ∧ ob'.k = ob.k ∧ ob'.e = ob.e ∧ ob'.xs = ob.xs.set i y ∧ ∀ b ∈ oblk (loc id), b ∉ B
  keep : ∀ b, b ∉ B → W'.heap[b]? = W.heap[b]?
  sub : ∀ b ∈ B, b ∈ O id
  obj : ∃ ob, lk σ.o id = some ob
theorem ItemOk.stay (h : Cor P w0 mine σ a W loc O R) {id : Nat} {p B : List Nat} (hs : Turn W W' σ σ' loc O id p B) {q : Item} (hq : ItemOk P W σ.o loc q) (hap : apart1 q.foot (true, id, p) = true) (hd : ∀ b ∈ q.B, b ∉ B) : ItemOk P W' σ'.o loc q := by
  obtain ⟨ob0, hl0⟩ := hs.obj
  have far : ∀ {j : Nat} {x : Obj}, j ≠ id → lk σ.o j = some x → ∀ b, b ∈ O j ∨ b ∈ R j → W'.heap[b]? = W.heap[b]? := fun {j x} hne hl b hb => hs.keep b fun hb' => by
    rcases hb with hb | hb
    · exact h.inv.disj j id x ob0 hne hl hl0 b hb (hs.sub b hb')
    · exact h.ro_own hl0 hl b hb (hs.sub b hb')
  cases q with
  | box j e xs g =>
    obtain ⟨ob, hl, hk, he, hsc, hloc⟩ := hq
    have hne : j ≠ id := fun e => by
      subst e
      simp only [apart1, Item.foot, Bool.not_true, Bool.and_false, Bool.false_or, bne_self_eq_false] at hap
      simp at hap
    obtain ⟨ob', k1, k2, k3, k4, k5⟩ := hs.other j ob hne hl
    exact ⟨ob', k1, k2.trans hk, k3.trans he, k5 hk _ hsc, hloc⟩
  | row j pj n e xs v Bj =>
    obtain ⟨hp, hpos, ob, h', hl, hk, hdn, hh, hsub, hrep⟩ := hq
    have hrep' : RepT P W' (.s e n xs) h' Bj [] := RepT_move _ (fun b hb => hs.keep b (hd b (hb.resolve_right (by simp)))) hrep
    by_cases hne : j = id
    · subst hne
      simp only [apart1, Item.foot, Bool.not_true, Bool.and_false, Bool.false_or, bne_self_eq_false] at hap
      split at hap
      · rename_i _ _ k i
        obtain ⟨ob1, ob', z1, q1, q2, q3, q4, q5, q6⟩ := hs.same i rfl
        rw [hl] at q1
        injection q1 with q1
        subst q1
        refine ⟨hp, hpos, ob', h', q2, q3.trans hk, ?_, ?_, hsub, hrep'⟩
        · rw [q5, q4]
          rw [down] at hdn ⊢
          rw [List.getElem?_set_ne (by simp at hap; omega)]
          exact hdn
        · rw [HdrAt] at hh ⊢
          obtain ⟨ad, m, cc, u, he, hc, hh⟩ := hh
          rw [HdrAt] at hh
          subst hh
          refine ⟨ad, m, cc, h', he, ?_, by rw [HdrAt]⟩
          have hob := h.inv.obj j ob hl
          unfold RepO at hob
          rw [hk] at hob
          obtain ⟨n0, hob⟩ := hob
          have hob : RepT P W (.s ob.e n0 ob.xs) (loc j) (O j) (R j) := hob
          rw [RepT] at hob
          obtain ⟨us, O3, hq, hts, _, _⟩ := hob
          have hn : 0 < n0 := by
            rcases Nat.eq_zero_or_pos n0 with rfl | h0
            · have h1 := hq.1
              have h2 := RepTs_len hts
              rw [down] at hdn
              cases hx : ob.xs[k]? with
              | none => rw [hx] at hdn; simp at hdn
              | some x =>
                have := (List.getElem?_eq_some_iff.1 hx).1
                omega
            · exact h0
          obtain ⟨g, off, c1, he1, hb, _⟩ := o_cells hq hn
          rw [he] at he1
          injection he1 with he1 _ _
          injection he1 with he1
          subst he1
          rw [World.cell?_of_block (w' := W') (w := W) (by
            have hg : g ∉ B := q6 g (by rw [hb]; simp)
            rw [add_at]
            exact hs.keep g hg)]
          exact hc
      · simp at hap
    · obtain ⟨ob', k1, k2, k3, k4, k5⟩ := hs.other j ob hne hl
      have := k4 (by rw [hk]; simp)
      subst this
      have hob := h.inv.obj j ob' hl
      unfold RepO at hob
      rw [hk] at hob
      obtain ⟨n0, hob⟩ := hob
      exact ⟨hp, hpos, ob', h', k1, hk, hdn, HdrAt_move (far hne hl) (own := true) hob hdn hh, hsub, hrep'⟩
theorem scrub_other {f : Nat → List Nat → Bool} {id : Nat} {ob' : Obj} {t : List (Nat × AV)} {j : Nat} {ob : Obj} (hne : j ≠ id) (hl : lk o j = some ob) : ∃ ob1, lk ((⟨t, ins o id ob'⟩ : St).scrub f).o j = some ob1 ∧ ob1.k = ob.k ∧ ob1.e = ob.e ∧ (ob.k ≠ .box → ob1 = ob) ∧ (ob.k = .box → ∀ xs, ScrL xs ob.xs → ScrL xs ob1.xs) := by
  refine ⟨scrOb f ob, ?_, ?_⟩
  · rw [scrub_eq]
    show lk (scrO f (ins o id ob')) j = _
    rw [lk_scrO, lk_ins, if_neg (fun e => hne e.symm), hl]
    rfl
  · by_cases hb : ob.k = .box
    · rw [scrOb_box hb]
      exact ⟨rfl, rfl, fun h => absurd hb h, fun _ xs h => h.scr⟩
    · rw [scrOb_not hb]
      exact ⟨rfl, rfl, fun _ => rfl, fun h => absurd h hb⟩
/-- The header of the whole row. -/
theorem RepT_hdr {e : TypeId} {n : Nat} {xs : List T} {h v : Value} {B R1 : List Nat} {zs : List T} {B1 R2 : List Nat} (hs : SubHdr (P.cellsOf e) h 0 n v) (hpos : 0 < P.cellsOf e) (hh : RepT P W (.s e n zs) h B1 R2) (hr : RepT P W' (.s e n xs) v B R1) : RepT P W' (.s e n xs) h B R1 := by
  obtain ⟨A, m', cc, A', c', rfl, rfl, hnc, hcm, hle, hA⟩ := hs
  have hcc : c' = cc := Nat.eq_of_mul_eq_mul_right hpos (by omega)
  subst hcc
  rw [RepT] at hh hr ⊢
  obtain ⟨us0, Oc, qq, qs, _, _⟩ := hh
  obtain ⟨us, Od, q1, q2, rfl, rfl⟩ := hr
  have hm' : m' = n := by
    obtain ⟨A2, c2, he2, _⟩ := o_slice qq
    injection he2
  subst hm'
  by_cases h0 : c' = 0
  · subst h0
    have ob0 : ∀ (B : Option Addr) (k : Nat), oblk (.slice B k 0) = [] := fun B k => by cases B <;> rfl
    refine ⟨us, Od, ⟨q1.1, A, 0, rfl, by omega, by simp [maxLen], .inl rfl⟩, q2, by rw [ob0, ob0], rfl⟩
  · have hAA : A' = A := by
      rw [hA (by omega)]
      cases A with
      | none => rfl
      | some ad => simp [Addr.add]
    subst hAA
    exact ⟨us, Od, q1, q2, rfl, rfl⟩
theorem below_nil {q : List Nat} : below [] q = !q.isEmpty := rfl
/-- Places that are not behind a row lead where they led. -/
theorem set_tr {id : Nat} {p q : List Nat} {ob : Obj} {xs' ys zs : List T} {n : Nat} {e : TypeId} {Oh Rh : List Nat} {B : List Nat} {h : Value} {d : Bool × TypeId × List T} (hp : p.length ≤ 1) (hf : below p q = false) (hr : RepT P W (.s ob.e n ob.xs) (loc id) Oh Rh) (hn : Oh.Nodup) (hdn : down (true, ob.e, ob.xs) p = some (true, e, zs)) (hset : setAt ob.xs p ys = some xs')
    (hB : ∃ h' n', HdrAt W (loc id) p h' ∧ RepT P W (.s e n' zs) h' B []) (hk : ∀ b, b ∉ B → W'.heap[b]? = W.heap[b]?) (hd : down (true, ob.e, ob.xs) q = some d) (hh : HdrAt W (loc id) q h) :
    ∃ d', down (true, ob.e, xs') q = some d' ∧ d'.2.1 = d.2.1 ∧ HdrAt W' (loc id) q h := by
  match p with
  | [] =>
    rw [below_nil] at hf
    have : q = [] := by simpa using hf
    subst this
    rw [down] at hd ⊢
    injection hd with hd
    subst hd
    rw [HdrAt] at hh ⊢
    exact ⟨_, rfl, rfl, hh⟩
  | [i] =>
    match q with
    | [] =>
      rw [down] at hd ⊢
      injection hd with hd
      subst hd
      rw [HdrAt] at hh ⊢
      exact ⟨_, rfl, rfl, hh⟩
    | j :: q =>
      rw [setAt] at hset
      split at hset
      · rename_i e2 n2 zs2 hx
        rw [setAt] at hset
        simp only [Option.bind_some, Option.some.injEq] at hset
        subst hset
        rw [down, hx] at hdn
        simp only [down, Option.some.injEq, Prod.mk.injEq, true_and] at hdn
        obtain ⟨rfl, rfl⟩ := hdn
        have hr2 := hr
        rw [RepT] at hr2
        obtain ⟨us, O3, hq, hts, rfl, rfl⟩ := hr2
        have hnd := List.nodup_append.1 hn
        have hn0 : 0 < n := by
          rcases Nat.eq_zero_or_pos n with rfl | h0
          · have h1 := hq.1
            have h2 := RepTs_len hts
            have := (List.getElem?_eq_some_iff.1 hx).1
            omega
          · exact h0
        obtain ⟨g, off, cc, he, hb, hcell⟩ := o_cells hq hn0
        obtain ⟨u, O1, R1, Oa, Ob, Ra, Rb, k1, k2, k3, _⟩ := RepTs_get hts hx
        have hBO : B = O1 := by
          obtain ⟨h', n', g1, g2⟩ := hB
          rw [HdrAt] at g1
          obtain ⟨ad, m, c3, u3, e3, hc3, g1⟩ := g1
          rw [HdrAt] at g1
          subst g1
          rw [he] at e3
          injection e3 with e3 _ _
          injection e3 with e3
          subst e3
          rw [add_at, hcell i u k1] at hc3
          injection hc3 with hc3
          subst hc3
          have := row_n k2 g2
          subst this
          exact (RepT_fun g2 k2).1
        have hgB : g ∉ B := fun hgB => by
          rw [hBO] at hgB
          exact hnd.2.2 g (by rw [hb]; simp) g (by rw [k3]; exact List.mem_append_left _ (List.mem_append_right _ hgB)) rfl
        rw [HdrAt] at hh
        obtain ⟨ad, m, c3, u3, e3, hc3, hh⟩ := hh
        rw [he] at e3
        injection e3 with e3 e4 e5
        injection e3 with e3
        subst e3
        have hc4 : W'.cell? ((⟨g, off, none⟩ : Addr).add j) = some u3 := by
          rw [World.cell?_of_block (w' := W') (w := W) (by rw [add_at]; exact hk g hgB)]
          exact hc3
        by_cases hij : i = j
        · subst hij
          have hq0 : q = [] := by
            simp only [below, BEq.rfl, Bool.true_and] at hf
            simpa using hf
          subst hq0
          rw [down, hx] at hd
          simp only [down, Option.some.injEq] at hd
          subst hd
          refine ⟨(true, e2, ys), ?_, rfl, ?_⟩
          · rw [down, List.getElem?_set_self (by exact (List.getElem?_eq_some_iff.1 hx).1)]
            rfl
          · rw [HdrAt]
            exact ⟨_, m, c3, u3, by rw [he, e4, e5], hc4, by rw [HdrAt] at hh ⊢; exact hh⟩
        · have hd' : down (true, ob.e, ob.xs.set i (.s e2 n2 ys)) (j :: q) = some d := by
            rw [down] at hd ⊢
            rw [List.getElem?_set_ne hij]
            exact hd
          refine ⟨d, hd', rfl, ?_⟩
          rw [HdrAt]
          refine ⟨_, m, c3, u3, by rw [he, e4, e5], hc4, ?_⟩
          rw [down] at hd
          have mv : ∀ {y : T} {own : Bool} {e4 : TypeId} {n4 : Nat} {ys4 : List T}, ob.xs[j]? = some y → (y = .s e4 n4 ys4 ∨ y = .r e4 n4 ys4) → down (own, e4, ys4) q = some d → (∀ O5 R5, RepT P W y u3 O5 R5 → Row P W own e4 n4 ys4 u3 O5 R5) → HdrAt W' u3 q h := by
            intro y own e4 n4 ys4 hy _ hdq hrow
            obtain ⟨u4, O5, R5, Oc, Od, Rc, Rd, j1, j2, j3, j4⟩ := RepTs_get hts hy
            rw [add_at, hcell j u4 j1] at hc3
            injection hc3 with hc3
            subst hc3
            have hR5 := (nil3 j4.symm).2.1
            refine HdrAt_move (w1 := W') (fun b hb => hk b fun hbB => ?_) (hrow O5 R5 j2) hdq hh
            rw [hR5] at hb
            have hb := hb.resolve_right (by simp)
            rw [hBO] at hbB
            exact RepTs_two hts hnd.2.1 hij hx hy k1 j1 k2 j2 b hbB hb
          split at hd
          · rename_i e4 n4 ys4 hy
            exact mv hy (.inl rfl) hd (fun O5 R5 hr => hr)
          · rename_i e4 n4 ys4 hy
            exact mv hy (.inr rfl) hd (fun O5 R5 hr => hr)
          · simp at hd
      · simp at hset
  | _ :: _ :: _ => simp at hp
end Go.Proofs.Ytbdidcfjaohglaa.VM

/- Behind a call: one row. -/
namespace Go.Proofs.Ytbdidcfjaohglaa.VM
open Go Go.Proofs.YtbdidcfjaohglaaW.PrintWords
set_option linter.unusedVariables false
set_option linter.unusedSimpArgs false
variable {P : Program} {w w1 w2 w0 W W' : World} {mine : Ctx} {o o1 o2 : OM} {loc loc1 loc2 : Nat → Value} {O R : Nat → List Nat} {σ σ1 σ2 σ' : St} {a : Act} {c : Ctx}

/-- What a turn leaves: the relation, and where the objects' blocks come from. -/
def Turned (P : Program) (w0 : World) (mine : Ctx) (W W' : World) (σ σ' : St) (a : Act) (loc : Nat → Value) (O : Nat → List Nat) (id : Nat) (p : List Nat) (B O2 : List Nat) : Prop :=
  ∃ O' R', Cor P w0 mine σ' a W' loc O' R' ∧ Turn W W' σ σ' loc O id p B ∧ ∀ j ob, lk σ'.o j = some ob → ∀ b ∈ O' j, b ∈ O2 ∨ (b ∈ O j ∧ b ∉ B ∧ ∃ ob, lk σ.o j = some ob)
theorem row_set (h : Cor P w0 mine σ a W loc O R) (hz : W.heap.size ≤ W'.heap.size) (hst : Still W W') {id n : Nat} {p : List Nat} {e : TypeId} {xs ys : List T} {v : Value} {B O2 : List Nat} (hq : ItemOk P W σ.o loc (.row id p n e xs v B)) (hk : ∀ b, b ∉ B → W'.heap[b]? = W.heap[b]?) (hr : RepT P W' (.s e n ys) v O2 []) (hn2 : O2.Nodup)
    (hO2 : ∀ b ∈ O2, b < W'.heap.size ∧ (b ∈ B ∨ ((∀ j x, lk σ.o j = some x → b ∉ O j) ∧ w0.heap.size ≤ b))) (hset : σ.setRow id p ys = some σ1) :
    Turned P w0 mine W W' σ (σ1.scrub fun i q => i == id && below p q) a loc O id p B O2 := by
  obtain ⟨hp, hpos, ob, h', hl, hkk, hdn, hh, hsub, hrep⟩ := hq
  unfold St.setRow at hset
  rw [hl] at hset
  obtain ⟨xs', hs, hset⟩ := Option.bind_eq_some_iff.1 hset
  injection hset with hset
  subst hset
  have hob := h.inv.obj id ob hl
  unfold RepO at hob
  rw [hkk] at hob
  obtain ⟨n0, hroot⟩ := hob
  have hroot : RepT P W (.s ob.e n0 ob.xs) (loc id) (O id) (R id) := hroot
  have hnd := h.inv.nodup id ob hl
  obtain ⟨h2, n2, Oa, Op, Ob, Ra, Rp, Rb, g1, g2, hO, hR, g3⟩ := setAt_rep p hroot hnd (h.ro_own hl hl) hdn hs
  have := HdrAt_fun hh g1
  subst this
  have hnn := row_n g2 hrep
  subst hnn
  obtain ⟨hBp, _⟩ := RepT_fun hrep g2
  subst hBp
  have hRid := RepT_s hroot
  have hz3 := nil3' (hR.symm.trans hRid)
  have hr2 : RepT P W' (.s e n ys) h' O2 [] := RepT_hdr hsub hpos hrep hr
  have hBO : ∀ b ∈ B, b ∈ O id := fun b hb => by rw [hO]; exact List.mem_append_right _ (List.mem_append_left _ hb)
  have hfin := g3 W' O2 [] (fun b _ hb => hk b hb) hr2
  rw [hz3.1, hz3.2.2] at hfin
  rw [hO] at hnd
  have n1 := List.nodup_append.1 hnd
  have n3 := List.nodup_append.1 n1.2.1
  have hfar : ∀ b, b ∈ Oa ∨ b ∈ Ob → b ∉ O2 := fun b hb hb' => by
    have hbO : b ∈ O id := by
      rw [hO]
      rcases hb with hb | hb
      · exact List.mem_append_left _ hb
      · exact List.mem_append_right _ (List.mem_append_right _ hb)
    rcases (hO2 b hb').2 with h1 | h1
    · rcases hb with hb | hb
      · exact n1.2.2 b hb b (List.mem_append_left _ h1) rfl
      · exact n3.2.2 b h1 b hb rfl
    · exact h1.1 id ob hl hbO
  have hfarB : ∀ b, b ∈ Oa ∨ b ∈ Ob → b ∉ B := fun b hb h1 => by
    rcases hb with hb | hb
    · exact n1.2.2 b hb b (List.mem_append_left _ h1) rfl
    · exact n3.2.2 b h1 b hb rfl
  have hc := h.replace (w1 := W') (ob' := ⟨ob.k, ob.e, xs'⟩) (O' := Oa ++ (O2 ++ Ob)) (R' := []) hl rfl rfl (fun i q => i == id && below p q) hz hst (fun b _ hb => hk b fun hb' => hb (hBO b hb')) (fun _ => by
    rw [scrOb_not (by simp [hkk])]
    unfold RepO
    simp only [hkk]
    exact ⟨n0, hfin⟩) (List.nodup_append.2 ⟨n1.1, List.nodup_append.2 ⟨hn2, n3.2.1, fun b hb c hc e => hfar c (.inr hc) (by rw [← e]; exact hb)⟩, fun b hb c hc e => by
      subst e
      rcases List.mem_append.1 hc with hc | hc
      · exact hfar b (.inl hb) hc
      · exact n1.2.2 b hb b (List.mem_append_right _ hc) rfl⟩) (fun b hb => by
    rcases List.mem_append.1 hb with hb | hb
    · exact .inl (by rw [hO]; exact List.mem_append_left _ hb)
    · rcases List.mem_append.1 hb with hb | hb
      · obtain ⟨k1, k2⟩ := hO2 b hb
        rcases k2 with k2 | k2
        · exact .inl (hBO b k2)
        · exact .inr ⟨k2.1, k1, .inl k2.2⟩
      · exact .inl (by rw [hO]; exact List.mem_append_right _ (List.mem_append_right _ hb))) (fun b hb => by simp at hb) (fun _ b hb => by
    rcases List.mem_append.1 hb with hb | hb
    · exact .inl (by rw [hO]; exact List.mem_append_left _ hb)
    · rcases List.mem_append.1 hb with hb | hb
      · obtain ⟨k1, k2⟩ := hO2 b hb
        rcases k2 with k2 | k2
        · exact .inl (hBO b k2)
        · exact .inr k2.2
      · exact .inl (by rw [hO]; exact List.mem_append_right _ (List.mem_append_right _ hb))) (fun q d hq hf _ hd hh' => by
    rw [hkk] at hd ⊢
    exact set_tr (ob := ob) (Oh := O id) hp (by simpa using hf) hroot (by rw [hO]; exact hnd) hdn hs ⟨h', n, hh, hrep⟩ hk hd hh')
  refine ⟨_, _, hc, ⟨fun j obj hne hlj => scrub_other hne hlj, fun i hi => ?_, hk, hBO, ob, hl⟩, fun j obj hlj b hb => ?_⟩
  · subst hi
    rw [setAt] at hs
    split at hs
    · rename_i e2 n2 zs2 hx
      obtain ⟨zs', _, hs⟩ := Option.bind_eq_some_iff.1 hs
      injection hs with hs
      refine ⟨ob, ⟨ob.k, ob.e, xs'⟩, _, hl, ?_, rfl, rfl, hs.symm, fun b hb hb' => ?_⟩
      · rw [scrub_eq]
        show lk (scrO _ (ins σ.o id _)) id = _
        rw [lk_scrO, lk_ins, if_pos rfl, Option.map_some, scrOb_not (by simp [hkk])]
      · -- the root's block is none of the element's
        rw [RepT] at hroot
        obtain ⟨us, O3, hq, hts, hO3, _⟩ := hroot
        obtain ⟨u, O1, R1, Oc, Od, Rc, Rd, k1, k2, k3, _⟩ := RepTs_get hts hx
        have hx2 := hdn
        rw [down, hx] at hx2
        simp only [down, Option.some.injEq, Prod.mk.injEq, true_and] at hx2
        obtain ⟨rfl, rfl⟩ := hx2
        have hB1 : B = O1 := by
          rw [HdrAt] at hh
          obtain ⟨ad, m, c3, u3, e3, hc3, hh⟩ := hh
          rw [HdrAt] at hh
          subst hh
          have hn0 : 0 < n0 := by
            rcases Nat.eq_zero_or_pos n0 with rfl | h0
            · have h1 := hq.1
              have := (List.getElem?_eq_some_iff.1 k1).1
              omega
            · exact h0
          obtain ⟨g, off, cc, he, _, hcell⟩ := o_cells hq hn0
          rw [he] at e3
          injection e3 with e3 _ _
          injection e3 with e3
          subst e3
          rw [add_at, hcell i u k1] at hc3
          injection hc3 with hc3
          subst hc3
          have := row_n k2 hrep
          subst this
          exact (RepT_fun hrep k2).1
        have hnd2 := h.inv.nodup id ob hl
        rw [hO3] at hnd2
        exact (List.nodup_append.1 hnd2).2.2 b hb b (by rw [k3, ← hB1]; exact List.mem_append_left _ (List.mem_append_right _ hb')) rfl
    · simp at hs
  · rw [scrub_eq] at hlj
    obtain ⟨ob1, hl1, _⟩ := scrO_k hlj
    have hl1 : lk (ins σ.o id ⟨ob.k, ob.e, xs'⟩) j = some ob1 := hl1
    by_cases hj : j = id
    · subst hj
      rw [upd_same] at hb
      rcases List.mem_append.1 hb with hb | hb
      · exact .inr ⟨by rw [hO]; exact List.mem_append_left _ hb, hfarB b (.inl hb), ob, hl⟩
      · rcases List.mem_append.1 hb with hb | hb
        · exact .inl hb
        · exact .inr ⟨by rw [hO]; exact List.mem_append_right _ (List.mem_append_right _ hb), hfarB b (.inr hb), ob, hl⟩
    · rw [upd_other _ _ hj] at hb
      rw [lk_ins, if_neg (fun e => hj e.symm)] at hl1
      exact .inr ⟨hb, fun h1 => h.inv.disj j id ob1 ob hj hl1 hl b hb (hBO b h1), ob1, hl1⟩
/-- A row that the callee has taken. -/
theorem row_kill (h : Cor P w0 mine σ a W loc O R) (hz : W.heap.size ≤ W'.heap.size) (hst : Still W W') {id n : Nat} {e : TypeId} {xs : List T} {v : Value} {B : List Nat} (hq : ItemOk P W σ.o loc (.row id [] n e xs v B)) (hk : ∀ b, b ∉ B → W'.heap[b]? = W.heap[b]?) :
    Turned P w0 mine W W' σ (σ.kill id) a loc O id [] B [] := by
  obtain ⟨hp, hpos, ob, h', hl, hkk, hdn, hh, hsub, hrep⟩ := hq
  have hob := h.inv.obj id ob hl
  unfold RepO at hob
  rw [hkk] at hob
  obtain ⟨n0, hroot⟩ := hob
  have hroot : RepT P W (.s ob.e n0 ob.xs) (loc id) (O id) (R id) := hroot
  rw [HdrAt] at hh
  subst hh
  rw [down] at hdn
  simp only [Option.some.injEq, Prod.mk.injEq, true_and] at hdn
  obtain ⟨rfl, rfl⟩ := hdn
  have := row_n hroot hrep
  subst this
  obtain ⟨hBp, _⟩ := RepT_fun hrep hroot
  subst hBp
  obtain ⟨k1, k2, k3⟩ := h.kill id
  have hc := k1.turn (w1 := W') (fun b => b ∈ O id) (fun j x hlj b hb hb' => by
    obtain ⟨hne, ob0, h0⟩ := k3 j x hlj
    exact h.inv.disj j id ob0 ob hne h0 hl b hb hb') (fun b hb => (h.inv.own_ id ob hl b hb).2) hz hst (fun b _ hb => hk b hb)
  refine ⟨O, R, hc, ⟨fun j obj hne hlj => ?_, fun i hi => by simp at hi, hk, fun b hb => hb, ob, hl⟩, fun j obj hlj b hb => ?_⟩
  · have e : σ.kill id = (⟨σ.t, del σ.o id⟩ : St).scrub fun i _ => i == id := by unfold St.kill; rw [hl]
    rw [e, scrub_eq]
    have hd : lk (del σ.o id) j = some obj := by rw [lk_del _ _ _ h.so, if_neg (fun e => hne e.symm)]; exact hlj
    refine ⟨scrOb _ obj, by show lk (scrO _ (del σ.o id)) j = _; rw [lk_scrO, hd]; rfl, ?_⟩
    by_cases hb : obj.k = .box
    · rw [scrOb_box hb]
      exact ⟨rfl, rfl, fun h => absurd hb h, fun _ xs h => h.scr⟩
    · rw [scrOb_not hb]
      exact ⟨rfl, rfl, fun _ => rfl, fun h => absurd h hb⟩
  · obtain ⟨hne, ob0, h0⟩ := k3 j obj hlj
    exact .inr ⟨hb, fun h1 => h.inv.disj j id ob0 ob hne h0 hl b hb h1, ob0, h0⟩
/-- An element's row that the callee has taken. -/
theorem row_hole (h : Cor P w0 mine σ a W loc O R) (hz : W.heap.size ≤ W'.heap.size) (hst : Still W W') {id i n : Nat} {e : TypeId} {xs : List T} {v : Value} {B : List Nat} (hq : ItemOk P W σ.o loc (.row id [i] n e xs v B)) (hk : ∀ b, b ∉ B → W'.heap[b]? = W.heap[b]?) (hs : σ.hole id i = some σ1) :
    Turned P w0 mine W W' σ σ1 a loc O id [i] B [] := by
  obtain ⟨hp, hpos, ob, h', hl, hkk, hdn, hh, hsub, hrep⟩ := hq
  have hob := h.inv.obj id ob hl
  unfold RepO at hob
  rw [hkk] at hob
  obtain ⟨n0, hroot⟩ := hob
  have hroot : RepT P W (.s ob.e n0 ob.xs) (loc id) (O id) (R id) := hroot
  rw [down] at hdn
  split at hdn
  · rename_i e2 n2 ys hx
    simp only [down, Option.some.injEq, Prod.mk.injEq, true_and] at hdn
    obtain ⟨rfl, rfl⟩ := hdn
    obtain ⟨u, O1, R1, O2, R2, c1, c2, ⟨ad, m, cc, e3, hc3⟩, c5, c6, c7, c8, c9⟩ := hole_sound h hl hkk hx hs
    rw [HdrAt] at hh
    obtain ⟨ad', m', cc', u', e4, hc4, hh⟩ := hh
    rw [HdrAt] at hh
    subst hh
    rw [e3] at e4
    injection e4 with e4 _ _
    injection e4 with e4
    subst e4
    rw [hc3] at hc4
    injection hc4 with hc4
    subst hc4
    have := row_n c2 hrep
    subst this
    obtain ⟨hB, _⟩ := RepT_fun hrep c2
    subst hB
    have hs2 := hs
    unfold St.hole at hs2
    rw [hl] at hs2
    simp only [Option.some.injEq] at hs2
    have hcase : ∀ j x, lk σ1.o j = some x → ∃ y, lk σ.o j = some y := fun j x hj => c9 j ⟨x, hj⟩
    have hc := c1.turn (w1 := W') (fun b => b ∈ B) (fun j x hlj b hb hb' => by
      obtain ⟨y, hy⟩ := hcase j x hlj
      by_cases hj : j = id
      · subst hj
        rw [upd_same] at hb
        exact (c6 b hb').2 hb
      · rw [upd_other _ _ hj] at hb
        exact h.inv.disj j id y ob hj hy hl b hb (c6 b hb').1) (fun b hb => (h.inv.own_ id ob hl b (c6 b hb).1).2) hz hst (fun b _ hb => hk b hb)
    refine ⟨_, _, hc, ⟨fun j obj hne hlj => ?_, fun i' hi => ?_, hk, fun b hb => (c6 b hb).1, ob, hl⟩, fun j obj hlj b hb => ?_⟩
    · rw [← hs2]
      exact scrub_other hne hlj
    · injection hi with hi _
      subst hi
      refine ⟨ob, ⟨ob.k, ob.e, ob.xs.set i .h⟩, .h, hl, ?_, rfl, rfl, rfl, fun b hb hb' => ?_⟩
      · rw [← hs2, scrub_eq]
        show lk (scrO _ (ins σ.o id _)) id = _
        rw [lk_scrO, lk_ins, if_pos rfl, Option.map_some, scrOb_not (by simp [hkk])]
      · have hnd2 := h.inv.nodup id ob hl
        rw [RepT] at hroot
        obtain ⟨us, O3, hq, hts, hO3, _⟩ := hroot
        obtain ⟨u2, O5, R5, Oc, Od, Rc, Rd, k1, k2, k3, _⟩ := RepTs_get hts hx
        have hn0 : 0 < n0 := by
          rcases Nat.eq_zero_or_pos n0 with rfl | h0
          · have h1 := hq.1
            have := (List.getElem?_eq_some_iff.1 k1).1
            omega
          · exact h0
        obtain ⟨g, off, cc5, he, _, hcell⟩ := o_cells hq hn0
        rw [e3] at he
        injection he with he _ _
        injection he with he
        subst he
        rw [add_at, hcell i u2 k1] at hc3
        injection hc3 with hc3
        subst hc3
        rw [hO3] at hnd2
        exact (List.nodup_append.1 hnd2).2.2 b hb b (by rw [k3, ← (RepT_fun c2 k2).1]; exact List.mem_append_left _ (List.mem_append_right _ hb')) rfl
    · obtain ⟨y, hy⟩ := hcase j obj hlj
      by_cases hj : j = id
      · subst hj
        rw [upd_same] at hb
        exact .inr ⟨c8 b hb, fun h1 => (c6 b h1).2 hb, ob, hl⟩
      · rw [upd_other _ _ hj] at hb
        exact .inr ⟨hb, fun h1 => h.inv.disj j id y ob hj hy hl b hb (c6 b h1).1, y, hy⟩
  · simp [down] at hdn
  · simp at hdn
/-- A row of an argument, behind the call. -/
theorem backC_sound (h : Cor P w0 mine σ a W loc O R) (hz : W.heap.size ≤ W'.heap.size) (hst : Still W W') {id n : Nat} {p : List Nat} {e : TypeId} {xs : List T} {y : T} {v : Value} {B O2 : List Nat} (hq : ItemOk P W σ.o loc (.row id p n e xs v B)) (hk : ∀ b, b ∉ B → W'.heap[b]? = W.heap[b]?)
    (ha : (∃ ys, y = .s e n ys ∧ RepT P W' (.s e n ys) v O2 []) ∨ ((∀ e n ys, y ≠ .s e n ys) ∧ O2 = [])) (hn2 : O2.Nodup) (hO2 : ∀ b ∈ O2, b < W'.heap.size ∧ (b ∈ B ∨ ((∀ j x, lk σ.o j = some x → b ∉ O j) ∧ w0.heap.size ≤ b))) (hb : σ.backC (.sl id p 0 n) y = some σ') :
    Turned P w0 mine W W' σ σ' a loc O id p B O2 := by
  rcases ha with ⟨ys, rfl, hr⟩ | ⟨hy, rfl⟩
  · simp only [St.backC] at hb
    obtain ⟨σ1, h1, rfl⟩ := Option.map_eq_some_iff.1 hb
    exact row_set h hz hst hq hk hr hn2 hO2 h1
  · have hp := hq.1
    match p with
    | [] =>
      have : σ.kill id = σ' := by
        cases y with
        | s e' n' ys => exact absurd rfl (hy e' n' ys)
        | _ => simpa [St.backC] using hb
      subst this
      exact row_kill h hz hst hq hk
    | [i] =>
      have : σ.hole id i = some σ' := by
        cases y with
        | s e' n' ys => exact absurd rfl (hy e' n' ys)
        | _ => simpa [St.backC] using hb
      exact row_hole h hz hst hq hk this
    | _ :: _ :: _ => simp at hp
end Go.Proofs.Ytbdidcfjaohglaa.VM

/- Behind a call: the memory turns one item at a time. -/
namespace Go.Proofs.Ytbdidcfjaohglaa.VM
open Go Go.Proofs.YtbdidcfjaohglaaW.PrintWords
set_option linter.unusedVariables false
set_option linter.unusedSimpArgs false
variable {P : Program} {w w1 w2 w0 W W' : World} {mine : Ctx} {o o1 o2 : OM} {loc loc1 loc2 : Nat → Value} {O R : Nat → List Nat} {σ σ1 σ2 σ' : St} {a : Act} {c : Ctx}

/-- As it is behind the call, but for some blocks. -/
def mix (w w1 : World) (S : List Nat) : World := { w1 with heap := Array.ofFn (n := w1.heap.size) fun i => if i.1 ∈ S then (w.heap[i.1]?).getD w1.heap[i.1] else w1.heap[i.1] }
theorem mix_size (S : List Nat) : (mix w w1 S).heap.size = w1.heap.size := by simp [mix]
theorem mix_out {S : List Nat} {b : Nat} (hb : b ∉ S) : (mix w w1 S).heap[b]? = w1.heap[b]? := by
  unfold mix
  by_cases h : b < w1.heap.size
  · rw [Array.getElem?_eq_getElem (by simpa using h), Array.getElem?_eq_getElem h]
    simp [hb]
  · rw [Array.getElem?_eq_none (by simpa using h), Array.getElem?_eq_none (by omega)]
theorem mix_in {S : List Nat} {b : Nat} (hb : b ∈ S) (h0 : b < w.heap.size) (h1 : w.heap.size ≤ w1.heap.size) : (mix w w1 S).heap[b]? = w.heap[b]? := by
  unfold mix
  rw [Array.getElem?_eq_getElem (by simp; omega), Array.getElem?_eq_getElem h0]
  simp [hb, h0]
theorem mix_step {B S : List Nat} {b : Nat} (hb : b ∉ B) (h0 : ∀ b ∈ B ++ S, b < w.heap.size) (h1 : w.heap.size ≤ w1.heap.size) : (mix w w1 S).heap[b]? = (mix w w1 (B ++ S)).heap[b]? := by
  by_cases hs : b ∈ S
  · rw [mix_in hs (h0 b (List.mem_append_right _ hs)) h1, mix_in (List.mem_append_right _ hs) (h0 b (List.mem_append_right _ hs)) h1]
  · rw [mix_out hs, mix_out (by simp [hb, hs])]
def pend (Q : List Item) : List Nat := (Q.map Item.B).flatten
theorem pend_cons {q : Item} {Q : List Item} : pend (q :: Q) = q.B ++ pend Q := rfl
/-- In the midst of it. D: blocks that were handed over, and are done; B: those that are held of these, and new ones. -/
structure Mid (P : Program) (w0 : World) (mine : Ctx) (a : Act) (w w1 : World) (loc : Nat → Value) (σ : St) (O R : Nat → List Nat) (Q : List Item) (D B : List Nat) : Prop where
  cor : Cor P w0 mine σ a (mix w w1 (pend Q)) loc O R
  items : ∀ q ∈ Q, ItemOk P (mix w w1 (pend Q)) σ.o loc q
  apart : (Q.map Item.foot).Pairwise fun x y => apart1 x y = true
  nodup : (pend Q).Nodup
  below : ∀ b ∈ pend Q, b < w.heap.size
  size : w.heap.size ≤ w1.heap.size
  start : w0.heap.size ≤ w.heap.size
  fresh : ∀ j ob, lk σ.o j = some ob → ∀ b ∈ O j, (b ∈ D ∨ w.heap.size ≤ b) → b ∈ B
theorem Mid.turned {q : Item} {Q : List Item} {D B O2 : List Nat} (h : Mid P w0 mine a w w1 loc σ O R (q :: Q) D B) (ht : Turned P w0 mine (mix w w1 (pend (q :: Q))) (mix w w1 (pend Q)) σ σ' a loc O q.foot.2.1 q.foot.2.2 q.B O2) (hq : q.foot.1 = true) : ∃ O' R', Mid P w0 mine a w w1 loc σ' O' R' Q (D ++ q.B) (B ++ O2) := by
  obtain ⟨O', R', k1, k2, k3⟩ := ht
  have hn := h.nodup
  rw [pend_cons] at hn
  have hn := List.nodup_append.1 hn
  have hp := h.apart
  rw [List.map_cons] at hp
  have hp := List.pairwise_cons.1 hp
  refine ⟨O', R', k1, fun q' hq' => ?_, hp.2, hn.2.1, fun b hb => h.below b (by rw [pend_cons]; exact List.mem_append_right _ hb), h.size, h.start, fun j ob hl b hb hc => ?_⟩
  · refine ItemOk.stay h.cor k2 (h.items q' (List.mem_cons_of_mem _ hq')) ?_ (fun b hb hb' => hn.2.2 b hb' b (List.mem_flatten.2 ⟨_, List.mem_map_of_mem hq', hb⟩) rfl)
    have := apart1_symm (hp.1 _ (List.mem_map_of_mem hq'))
    have e : q.foot = (true, q.foot.2.1, q.foot.2.2) := by rw [← hq]
    rw [← e]
    exact this
  · rcases k3 j ob hl b hb with h1 | ⟨h1, h2, ob0, h3⟩
    · exact List.mem_append_right _ h1
    · refine List.mem_append_left _ (h.fresh j ob0 h3 b h1 ?_)
      rcases hc with hc | hc
      · exact .inl ((List.mem_append.1 hc).resolve_right h2)
      · exact .inr hc
theorem Mid.row {id n : Nat} {p : List Nat} {e : TypeId} {xs xs0 : List T} {v : Value} {B1 : List Nat} {Q : List Item} {D B O2 : List Nat} {y : T} (h : Mid P w0 mine a w w1 loc σ O R (.row id p n e xs v B1 :: Q) D B) (ha : AfterT P w w1 (.s e n xs0) y v B1 O2) (hn2 : O2.Nodup) (hlt : ∀ b ∈ O2, b < w1.heap.size) (hB : ∀ b ∈ O2, b ∉ B) (hb : σ.backC (.sl id p 0 n) y = some σ') :
    ∃ O' R', Mid P w0 mine a w w1 loc σ' O' R' Q (D ++ B1) (B ++ O2) := by
  have hnd := h.nodup
  rw [pend_cons] at hnd
  have hnd := List.nodup_append.1 hnd
  have hbel := h.below
  rw [pend_cons] at hbel
  have hcases : (∀ b ∈ O2, b ∈ B1 ∨ w.heap.size ≤ b) ∧ ((∃ ys, y = .s e n ys ∧ RepT P w1 (.s e n ys) v O2 []) ∨ ((∀ e n ys, y ≠ .s e n ys) ∧ O2 = [])) := by
    cases y with
    | s e' n' ys =>
      rw [AfterT] at ha
      obtain ⟨rfl, rfl, k1, k2⟩ := ha
      exact ⟨k2, .inl ⟨ys, rfl, k1⟩⟩
    | _ =>
      have : O2 = [] := by simpa [AfterT] using ha
      subst this
      exact ⟨fun b hb => by simp at hb, .inr ⟨fun e n ys h => by simp at h, rfl⟩⟩
  refine Mid.turned h ?_ rfl
  refine backC_sound (W' := mix w w1 (pend Q)) (v := v) (B := B1) (O2 := O2) h.cor (by rw [mix_size, mix_size]; exact Nat.le_refl _) ⟨rfl, rfl, rfl⟩ (h.items _ (List.mem_cons_self)) (fun b hb' => mix_step hb' hbel h.size) ?_ hn2 (fun b hb' => ?_) hb
  · rcases hcases.2 with ⟨ys, rfl, k1⟩ | k1
    · refine .inl ⟨ys, rfl, RepT_move _ (fun b hb' => mix_out fun hS => ?_) k1⟩
      have hb' := hb'.resolve_right (by simp)
      rcases hcases.1 b hb' with h1 | h1
      · exact hnd.2.2 b h1 b hS rfl
      · have := hbel b (List.mem_append_right _ hS)
        omega
    · exact .inr k1
  · rw [mix_size]
    refine ⟨hlt b hb', ?_⟩
    rcases hcases.1 b hb' with h1 | h1
    · exact .inl h1
    · exact .inr ⟨fun j x hl hbj => hB b hb' (h.fresh j x hl b hbj (.inr h1)), Nat.le_trans h.start h1⟩
/-! ### a variable -/
theorem sub_comp {s1 s2 : Nat} {h u u' : Value} {off n : Nat} (h1 : SubHdr s1 h off n u) (h2 : SubHdr s2 u 0 n u') (hpos : 0 < s2) : SubHdr s1 h off n u' := by
  obtain ⟨A, m, cc, A', c', rfl, rfl, hnc, hcm, hle, hA⟩ := h1
  obtain ⟨A2, m2, c2, A3, c3, he, rfl, hnc3, hcm3, hle3, hA3⟩ := h2
  injection he with e1 e2 e3
  subst e1; subst e2; subst e3
  have hcc : c3 = c' := Nat.eq_of_mul_eq_mul_right hpos (by omega)
  subst hcc
  refine ⟨A, m, cc, A3, c3, rfl, rfl, hnc3, hcm3, hle, fun h0 => ?_⟩
  rw [hA3 h0, hA h0]
  cases A with
  | none => rfl
  | some ad => simp [Addr.add]
/-- The elements of a tree's row have cells. -/
def posT (P : Program) : T → Prop
  | .s e _ _ => 0 < P.cellsOf e
  | .r e _ _ => 0 < P.cellsOf e
  | _ => True
theorem link_n {x : T} {u : Value} {O1 R1 : List Nat} {s off : Nat} {h : Value} {n m : Nat} {e : TypeId} {xs : List T} (hx : x = .s e m xs ∨ x = .r e m xs) (hr : RepT P w x u O1 R1) (hs : SubHdr s h off n u) : m = n := by
  obtain ⟨A, m', cc, A', c', rfl, rfl, _⟩ := hs
  rcases hx with rfl | rfl
  · rw [RepT] at hr
    obtain ⟨_, _, q, _⟩ := hr
    obtain ⟨A2, c2, he, _⟩ := o_slice q
    injection he with _ he _
    exact he.symm
  · rw [RepT] at hr
    obtain ⟨_, A2, c2, _, _, he, _⟩ := hr
    injection he with _ he _
    exact he.symm
theorem backBox_rep : ∀ {xs ys : List T} {us us' : List Value} {ts ts' : List T} {B1 O2 : List Nat}, AfterLs P w w1 xs ys us us' B1 O2 → (∀ x ∈ xs, posT P x) → RepLs P W o loc ts us → backBox ts ys = some ts' → RepLs P W o loc ts' us'
  | [], [], us, us', ts, ts', B1, O2, ha, hp, hr, hb => by
    rw [AfterLs] at ha
    obtain ⟨rfl, rfl, _, _⟩ := ha
    cases ts with
    | nil =>
      simp only [backBox, Option.some.injEq] at hb
      subst hb
      rw [RepLs]
    | cons t ts => cases t <;> simp [backBox] at hb
  | x :: xs, y :: ys, us, us', ts, ts', B1, O2, ha, hp, hr, hb => by
    rw [AfterLs] at ha
    obtain ⟨u, us1, u', us1', O1, R1, O', Oa, Ob, rfl, rfl, h0, h1, h2, rfl, rfl⟩ := ha
    cases ts with
    | nil => cases y <;> simp [backBox] at hb
    | cons t ts =>
      rw [RepLs] at hr
      obtain ⟨u2, us2, he, hr1, hr2⟩ := hr
      injection he with e1 e2
      subst e1; subst e2
      have hpx := hp x (by simp)
      have fin : ∀ {t' : T} {l : List T}, RepL P W o loc t' u' → backBox ts ys = some l → ts' = t' :: l → RepLs P W o loc ts' (u' :: us1') := by
        intro t' l k1 k2 e
        subst e
        rw [RepLs]
        exact ⟨u', us1', rfl, k1, backBox_rep h2 (fun x hx => hp x (by simp [hx])) hr2 k2⟩
      -- a slice's link
      have sub : ∀ {e : TypeId} {m : Nat} {zs : List T}, (x = .s e m zs ∨ x = .r e m zs) → SubHdr (P.cellsOf e) u 0 m u' → 0 < P.cellsOf e → (t = .h ∨ ∃ i p off n, t = .l i p off n) → RepL P W o loc t u' := by
        intro e m zs hx hs hpos ht
        rcases ht with rfl | ⟨i, p, off, n, rfl⟩
        · rw [RepL]
          obtain ⟨A, m', cc, A', c', _, rfl, _⟩ := hs
          rfl
        · rw [RepL] at hr1 ⊢
          rw [RepC] at hr1 ⊢
          obtain ⟨ob, d, hh, q1, q2, q3, q4, q5⟩ := hr1
          have := link_n hx h0 q5
          subst this
          exact ⟨ob, d, hh, q1, q2, q3, q4, sub_comp q5 hs hpos⟩
      cases y with
      | v z =>
        rw [AfterL] at h1
        cases t with
        | v q =>
          simp only [backBox] at hb
          obtain ⟨l, k1, k2⟩ := Option.map_eq_some_iff.1 hb
          exact fin (t' := .v z) (by rw [RepL]; exact ⟨h1.1, h1.2.1⟩) k1 k2.symm
        | _ => simp [backBox] at hb
      | z =>
        rw [AfterL] at h1
        cases t with
        | z =>
          simp only [backBox] at hb
          obtain ⟨l, k1, k2⟩ := Option.map_eq_some_iff.1 hb
          exact fin (t' := .z) (by rw [RepL]; exact h1.1) k1 k2.symm
        | _ => simp [backBox] at hb
      | r e' n' zs =>
        cases x with
        | r e n zs0 =>
          rw [AfterL] at h1
          obtain ⟨rfl, rfl, k, _⟩ := h1
          cases t with
          | l i p off m =>
            simp only [backBox] at hb
            obtain ⟨l, k1, k2⟩ := Option.map_eq_some_iff.1 hb
            exact fin (sub (.inr rfl) k hpx (.inr ⟨i, p, off, m, rfl⟩)) k1 k2.symm
          | h =>
            simp only [backBox] at hb
            obtain ⟨l, k1, k2⟩ := Option.map_eq_some_iff.1 hb
            exact fin (sub (.inr rfl) k hpx (.inl rfl)) k1 k2.symm
          | _ => simp [backBox] at hb
        | _ => simp [AfterL] at h1
      | s e' n' zs =>
        cases x with
        | s e n zs0 =>
          rw [AfterL] at h1
          obtain ⟨rfl, rfl, k, _⟩ := h1
          cases t with
          | l i p off m =>
            simp only [backBox] at hb
            obtain ⟨l, k1, k2⟩ := Option.map_eq_some_iff.1 hb
            exact fin (sub (.inl rfl) k hpx (.inr ⟨i, p, off, m, rfl⟩)) k1 k2.symm
          | h =>
            simp only [backBox] at hb
            obtain ⟨l, k1, k2⟩ := Option.map_eq_some_iff.1 hb
            exact fin (sub (.inl rfl) k hpx (.inl rfl)) k1 k2.symm
          | _ => simp [backBox] at hb
        | _ => simp [AfterL] at h1
      | l _ _ _ _ => cases x <;> simp [AfterL] at h1
      | h => cases x <;> simp [AfterL] at h1
  | [], _ :: _, us, us', ts, ts', B1, O2, ha, hp, hr, hb => by rw [AfterLs] at ha; exact ha.elim; all_goals simp
  | _ :: _, [], us, us', ts, ts', B1, O2, ha, hp, hr, hb => by rw [AfterLs] at ha; exact ha.elim; all_goals simp
theorem RepO_box {ob : Obj} {hd : Value} {Ox Rx : List Nat} (hk : ob.k = .box) (h : ∃ g cs, hd = .slice (some ⟨g, 0, none⟩) 1 1 ∧ W.heap[g]? = some (.cells cs ob.e (0, 0)) ∧ Ox = [g] ∧ Rx = [] ∧ RepLs P W o loc ob.xs cs.toList) : RepO P W o loc ob hd Ox Rx := by
  unfold RepO
  rw [hk]
  exact h
theorem Mid.box {id g : Nat} {e : TypeId} {xs ys xs0 : List T} {cs cs' : Array Value} {B1 : List Nat} {Q : List Item} {D B O2 : List Nat} {ob : Obj} {ts' : List T} (h : Mid P w0 mine a w w1 loc σ O R (.box id e xs g :: Q) D B) (hw : w.heap[g]? = some (.cells cs e (0, 0))) (hw1 : w1.heap[g]? = some (.cells cs' e (0, 0))) (ha : AfterLs P w w1 xs0 ys cs.toList cs'.toList B1 O2) (hp : ∀ x ∈ xs0, posT P x) (hg : g ∉ B)
    (hl : lk σ.o id = some ob) (hb : backBox ob.xs ys = some ts') :
    ∃ O' R', Mid P w0 mine a w w1 loc ⟨σ.t, ins σ.o id ⟨ob.k, ob.e, ts'⟩⟩ O' R' Q (D ++ [g]) (B ++ [g]) := by
  obtain ⟨ob', hl', hk, he, hsc, hloc⟩ := h.items _ (List.mem_cons_self)
  rw [hl] at hl'
  injection hl' with hl'
  subst hl'
  have hnd := h.nodup
  rw [pend_cons] at hnd
  have hnd := List.nodup_append.1 hnd
  have hbel := h.below
  rw [pend_cons] at hbel
  have hob := h.cor.inv.obj id ob hl
  unfold RepO at hob
  rw [hk] at hob
  obtain ⟨g', cs0, e1, e2, e3, e4, e5⟩ := hob
  rw [hloc] at e1
  injection e1 with e1
  injection e1 with e1
  injection e1 with e1
  subst e1
  have hcs : cs0 = cs := by
    rw [mix_in (by rw [pend_cons]; simp [Item.B]) (hbel g (by simp [Item.B])) h.size, hw] at e2
    injection e2 with e2
    injection e2 with e2
    exact e2.symm
  subst hcs
  have hgS : g ∉ pend Q := fun hS => hnd.2.2 g (by simp [Item.B]) g hS rfl
  have hrep := backBox_rep ha hp e5 hb
  refine Mid.turned h (σ' := ⟨σ.t, ins σ.o id ⟨ob.k, ob.e, ts'⟩⟩) ?_ rfl
  have hkeep : ∀ b, b ∉ [g] → (mix w w1 (pend Q)).heap[b]? = (mix w w1 (pend (.box id e xs g :: Q))).heap[b]? := fun b hb' => mix_step hb' hbel h.size
  have hc := h.cor.replace (w1 := mix w w1 (pend Q)) (ob' := ⟨ob.k, ob.e, ts'⟩) (O' := [g]) (R' := []) hl rfl rfl (fun _ _ => false) (by rw [mix_size, mix_size]; exact Nat.le_refl _) ⟨rfl, rfl, rfl⟩ (fun b _ hb' => hkeep b (by rw [e3] at hb'; exact hb')) (fun hT => by
    rw [scrOb_box (by exact hk)]
    refine RepO_box hk ?_
    refine ⟨g, cs', hloc, ?_, rfl, rfl, RepLs_tr (fun j p hf => (hT j p hf).trans (Tr_scrO j p)) hrep⟩
    rw [mix_out hgS, he]
    exact hw1) (by simp) (fun b hb' => .inl (by rw [e3]; exact hb')) (fun b hb' => by simp at hb') (fun _ b hb' => .inl (by rw [e3]; exact hb')) (fun p d h0 _ hbx hd hh => by
    have := hbx hk
    subst this
    rw [down] at hd ⊢
    injection hd with hd
    subst hd
    rw [HdrAt] at hh ⊢
    exact ⟨_, rfl, rfl, hh⟩)
  rw [scrub_none] at hc
  refine ⟨_, _, hc, ⟨fun j obj hne hlj => ⟨obj, by show lk (ins σ.o id _) j = _; rw [lk_ins, if_neg (fun e => hne e.symm)]; exact hlj, rfl, rfl, fun _ => rfl, fun _ _ h => h⟩, fun i hi => by simp [Item.foot] at hi, hkeep, fun b hb' => by
    show b ∈ O id
    rw [e3]
    exact hb', ob, hl⟩, fun j obj hlj b hb' => ?_⟩
  have hlj : lk (ins σ.o id ⟨ob.k, ob.e, ts'⟩) j = some obj := hlj
  by_cases hj : j = id
  · subst hj
    rw [upd_same] at hb'
    exact .inl hb'
  · rw [upd_other _ _ hj] at hb'
    rw [lk_ins, if_neg (fun e => hj e.symm)] at hlj
    exact .inr ⟨hb', fun h1 => h.cor.inv.disj j id obj ob hj hlj hl b hb' (by rw [e3]; exact h1), obj, hlj⟩
end Go.Proofs.Ytbdidcfjaohglaa.VM

/- Behind a call: all arguments. -/
namespace Go.Proofs.Ytbdidcfjaohglaa.VM
open Go Go.Proofs.YtbdidcfjaohglaaW.PrintWords
set_option linter.unusedVariables false
set_option linter.unusedSimpArgs false
variable {P : Program} {w w1 w2 w0 W W' : World} {mine : Ctx} {o o1 o2 : OM} {loc loc1 loc2 : Nat → Value} {O R : Nat → List Nat} {σ σ1 σ2 σ' : St} {a : Act} {c : Ctx}

abbrev Lnk := Option (Nat × List Nat × Nat × Nat)
def C.at : C → Lnk
  | .sl id p off n => some (id, p, off, n)
  | _ => none
def T.at : T → Lnk
  | .l id p off n => some (id, p, off, n)
  | _ => none
/-- What awaits its turn of a cell of an argument. -/
def PndT (P : Program) (own : Bool) (s : Lnk) (x : T) (v : Value) (B : List Nat) (L : List Item) : Prop :=
  match own, s with
  | true, some (id, p, off, n) => off = 0 ∧ ∃ e xs, x = .s e n xs ∧ L = [.row id p n e xs v B]
  | _, _ => (∀ e n xs, x ≠ .s e n xs) ∧ B = [] ∧ L = []
def PndTs (P : Program) (w : World) (own : Bool) : List Lnk → List T → List Value → List Nat → List Item → Prop
  | [], [], us, B, L => us = [] ∧ B = [] ∧ L = []
  | s :: ss, x :: xs, us, B, L => ∃ u us' B1 R1 B' L1 L', us = u :: us' ∧ RepT P w x u B1 R1 ∧ PndT P own s x u B1 L1 ∧ PndTs P w own ss xs us' B' L' ∧ B = B1 ++ B' ∧ L = L1 ++ L'
  | _, _, _, _, _ => False
def PndB (P : Program) (w : World) (own : Bool) (y : AV) (x : A) (v : Value) (B : List Nat) (L : List Item) : Prop :=
  ∃ id g e ts xs B' L' cs, y = .ptr id [] 0 ∧ x = .box e xs ∧ v = .pointer (some ⟨g, 0, none⟩) ∧ w.heap[g]? = some (.cells cs e (0, 0)) ∧ PndTs P w own (ts.map T.at) xs cs.toList B' L' ∧ (∀ x ∈ xs, posT P x) ∧ B = B' ++ [g] ∧ L = L' ++ [.box id e ts g]
def PndBs (P : Program) (w : World) (own : Bool) : List AV → List A → List Value → List Nat → List Item → Prop
  | [], [], us, B, L => us = [] ∧ B = [] ∧ L = []
  | y :: ys, x :: xs, us, B, L => ∃ u us' B1 R1 B' L1 L', us = u :: us' ∧ RepA P w x u B1 R1 ∧ PndB P w own y x u B1 L1 ∧ PndBs P w own ys xs us' B' L' ∧ B = B1 ++ B' ∧ L = L1 ++ L'
  | _, _, _, _, _ => False
def Pnd (P : Program) (w : World) (own : Bool) : AV → A → Value → List Nat → List Item → Prop
  | .c y, x, v, B, L => ∃ x', x = .c x' ∧ PndT P own y.at x' v B L
  | .agg ys, x, v, B, L => ∃ (xs : List T) (us : List Value), x = .agg xs ∧ v = .agg us.toArray ∧ PndTs P w own (ys.map C.at) xs us B L
  | .fn f ys, x, v, B, L => ∃ (as : List A) (us : List Value), x = .fn f as ∧ v = .func (.func f) #[] us.toArray ∧ PndBs P w own ys as us B L
  | y, x, v, B, L => PndB P w own y x v B L
def Pnds (P : Program) (w : World) (own : Nat → Bool) : Nat → List AV → List A → List Value → List Nat → List Item → Prop
  | _, [], [], us, B, L => us = [] ∧ B = [] ∧ L = []
  | i, y :: ys, x :: xs, us, B, L => ∃ u us' B1 R1 B' L1 L', us = u :: us' ∧ RepA P w x u B1 R1 ∧ Pnd P w (own i) y x u B1 L1 ∧ Pnds P w own (i + 1) ys xs us' B' L' ∧ B = B1 ++ B' ∧ L = L1 ++ L'
  | _, _, _, _, _, _ => False
/-- The items, and what they lead to. -/
def Pds (P : Program) (w : World) (o : OM) (loc : Nat → Value) (L : List Item) (B : List Nat) (F : List Foot) : Prop :=
  (∀ q ∈ L, ItemOk P w o loc q) ∧ (L.map Item.foot).Sublist F ∧ pend L = B
theorem Pds.nil {F : List Foot} : Pds P w o loc [] [] F := ⟨fun q hq => by simp at hq, List.nil_sublist _, rfl⟩
theorem pend_append {L1 L2 : List Item} : pend (L1 ++ L2) = pend L1 ++ pend L2 := by simp [pend]
theorem Pds.append {L1 L2 : List Item} {B1 B2 : List Nat} {F1 F2 : List Foot} (h1 : Pds P w o loc L1 B1 F1) (h2 : Pds P w o loc L2 B2 F2) : Pds P w o loc (L1 ++ L2) (B1 ++ B2) (F1 ++ F2) := by
  refine ⟨fun q hq => (List.mem_append.1 hq).elim (h1.1 q) (h2.1 q), ?_, ?_⟩
  · rw [List.map_append]
    exact List.Sublist.append h1.2.1 h2.2.1
  · rw [pend_append, h1.2.2, h2.2.2]
theorem rowE_pend (h : Cor P w0 mine σ a w loc O R) {own : Bool} {e : TypeId} {id off n : Nat} {p : List Nat} {v : Value} (hv : RepC P w σ.o loc (.sl id p off n) v) {x : T} (hx : σ.rowE P own e id p off n = some x) {B R1 : List Nat} (hr : RepT P w x v B R1) :
    ∃ L, PndT P own (some (id, p, off, n)) x v B L ∧ Pds P w σ.o loc L B [(own, id, p)] ∧ posT P x := by
  unfold St.rowE at hx
  cases own with
  | true =>
    obtain ⟨O1, k1, k2, k3, rfl, k5, ob, xs, rfl, k6, k7, k8, h', k9, k10, k11, k12⟩ := ownE_sound h hv hx
    obtain ⟨rfl, _⟩ := RepT_fun hr k1
    exact ⟨_, ⟨rfl, e, xs, rfl, rfl⟩, ⟨fun q hq => by
      simp at hq
      subst hq
      exact ⟨k5, k12, ob, h', k6, k7, k8, k9, k11, k10⟩, by simp [Item.foot], by simp [pend, Item.B]⟩, k12⟩
  | false =>
    have hx2 : σ.argE P e id p off n = some x := hx
    obtain ⟨R2, k1, k2, k3, xs, rfl⟩ := argE_sound h hv hx2
    obtain ⟨rfl, _⟩ := RepT_fun hr k1
    have hpos : 0 < P.cellsOf e := by
      unfold St.argE at hx2
      obtain ⟨⟨own, ys⟩, hc, _⟩ := Option.map_eq_some_iff.1 hx2
      obtain ⟨xs, _, hok, _, _⟩ := cellsOf_some hc
      obtain ⟨i, z, _, _, hsz, _, _, hce⟩ := elemOk_some hok
      omega
    exact ⟨[], ⟨fun e n xs h => by simp at h, rfl, rfl⟩, Pds.nil, hpos⟩
theorem none_pend {own : Bool} {x : T} {v : Value} (hx : ∀ e n xs, x ≠ .s e n xs) : PndT P own none x v [] [] := by
  cases own <;> exact ⟨hx, rfl, rfl⟩
theorem argC_pend (h : Cor P w0 mine σ a w loc O R) {own : Bool} {t : TypeId} {y : C} {v : Value} (hv : RepC P w σ.o loc y v) {x : T} (hx : σ.argC P own t y = some x) {B R1 : List Nat} (hr : RepT P w x v B R1) :
    ∃ L, PndT P own y.at x v B L ∧ Pds P w σ.o loc L B (y.feet own) := by
  cases y with
  | v q =>
    simp only [St.argC, Option.some.injEq] at hx
    subst hx
    rw [RepT] at hr
    obtain ⟨_, _, rfl, _⟩ := hr
    exact ⟨[], none_pend (fun e n xs h => by simp at h), Pds.nil⟩
  | z =>
    simp only [St.argC, Option.some.injEq] at hx
    subst hx
    rw [RepT] at hr
    obtain ⟨rfl, _⟩ := hr
    exact ⟨[], none_pend (fun e n xs h => by simp at h), Pds.nil⟩
  | sl id p off n =>
    obtain ⟨L, k1, k2, _⟩ := rowE_pend h hv hx hr
    exact ⟨L, k1, k2⟩
theorem argCs_pend (h : Cor P w0 mine σ a w loc O R) {own : Bool} : ∀ {ts : List TypeId} {ys : List C} {us : List Value} {xs : List T} {B R1 : List Nat}, RepCs P w σ.o loc ys us → σ.argCs P own ts ys = some xs → RepTs P w xs us B R1 →
    ∃ L, PndTs P w own (ys.map C.at) xs us B L ∧ Pds P w σ.o loc L B (csFeet own ys)
  | [], [], us, xs, B, R1, hv, hx, hr => by
    simp only [St.argCs, Option.some.injEq] at hx
    subst hx
    rw [RepTs] at hr
    obtain ⟨rfl, rfl, _⟩ := hr
    exact ⟨[], by rw [List.map_nil, PndTs]; exact ⟨rfl, rfl, rfl⟩, Pds.nil⟩
  | t :: ts, y :: ys, us, xs, B, R1, hv, hx, hr => by
    simp only [St.argCs] at hx
    obtain ⟨x, h1, hx⟩ := Option.bind_eq_some_iff.1 hx
    obtain ⟨xs', h2, hx⟩ := Option.bind_eq_some_iff.1 hx
    injection hx with hx
    subst hx
    rw [RepCs] at hv
    obtain ⟨u, us', rfl, hv1, hv2⟩ := hv
    rw [RepTs] at hr
    obtain ⟨u2, us2, O1, Ra, O2, Rb, he, r1, r2, rfl, rfl⟩ := hr
    injection he with e1 e2
    subst e1; subst e2
    obtain ⟨L1, k1, k2⟩ := argC_pend h hv1 h1 r1
    obtain ⟨L2, j1, j2⟩ := argCs_pend h hv2 h2 r2
    exact ⟨L1 ++ L2, by rw [List.map_cons, PndTs]; exact ⟨u, us', O1, Ra, O2, L1, L2, rfl, r1, k1, j1, rfl, rfl⟩, k2.append j2⟩
  | [], _ :: _, us, xs, B, R1, hv, hx, hr => by simp [St.argCs] at hx
  | _ :: _, [], us, xs, B, R1, hv, hx, hr => by simp [St.argCs] at hx
theorem boxT_pend (h : Cor P w0 mine σ a w loc O R) {own : Bool} : ∀ {ys : List T} {us : List Value} {xs : List T} {B R1 : List Nat}, RepLs P w σ.o loc ys us → σ.boxT P own ys = some xs → RepTs P w xs us B R1 →
    ∃ L, PndTs P w own (ys.map T.at) xs us B L ∧ Pds P w σ.o loc L B (tsFeet own ys) ∧ ∀ x ∈ xs, posT P x
  | [], us, xs, B, R1, hv, hx, hr => by
    simp only [St.boxT, Option.some.injEq] at hx
    subst hx
    rw [RepTs] at hr
    obtain ⟨rfl, rfl, _⟩ := hr
    exact ⟨[], by rw [List.map_nil, PndTs]; exact ⟨rfl, rfl, rfl⟩, Pds.nil, fun x hx => by simp at hx⟩
  | y :: ys, us, xs, B, R1, hv, hx, hr => by
    rw [RepLs] at hv
    obtain ⟨u, us', rfl, hv1, hv2⟩ := hv
    have fin : ∀ {x : T} {xs' : List T}, σ.boxT P own ys = some xs' → xs = x :: xs' → posT P x → (∀ O1 Ra, RepT P w x u O1 Ra → ∃ L1, PndT P own y.at x u O1 L1 ∧ Pds P w σ.o loc L1 O1 (y.feet own)) →
        ∃ L, PndTs P w own ((y :: ys).map T.at) xs (u :: us') B L ∧ Pds P w σ.o loc L B (tsFeet own (y :: ys)) ∧ ∀ x ∈ xs, posT P x := by
      intro x xs' h2 e hp hk
      subst e
      rw [RepTs] at hr
      obtain ⟨u2, us2, O1, Ra, O2, Rb, he, r1, r2, rfl, rfl⟩ := hr
      injection he with e1 e2
      subst e1; subst e2
      obtain ⟨L1, k1, k2⟩ := hk O1 Ra r1
      obtain ⟨L2, j1, j2, j3⟩ := boxT_pend h hv2 h2 r2
      exact ⟨L1 ++ L2, by rw [List.map_cons, PndTs]; exact ⟨u, us', O1, Ra, O2, L1, L2, rfl, r1, k1, j1, rfl, rfl⟩, k2.append j2, fun q hq => (List.mem_cons.1 hq).elim (fun e => by rw [e]; exact hp) (j3 q)⟩
    cases y with
    | v q =>
      simp only [St.boxT] at hx
      obtain ⟨xs', h2, e⟩ := Option.map_eq_some_iff.1 hx
      refine fin h2 e.symm trivial fun O1 Ra r => ?_
      rw [RepT] at r
      obtain ⟨_, _, rfl, _⟩ := r
      exact ⟨[], none_pend (fun e n xs h => by simp at h), Pds.nil⟩
    | z =>
      simp only [St.boxT] at hx
      obtain ⟨xs', h2, e⟩ := Option.map_eq_some_iff.1 hx
      refine fin h2 e.symm trivial fun O1 Ra r => ?_
      rw [RepT] at r
      obtain ⟨_, rfl, _⟩ := r
      exact ⟨[], none_pend (fun e n xs h => by simp at h), Pds.nil⟩
    | l id p off n =>
      simp only [St.boxT] at hx
      obtain ⟨⟨_, e, _⟩, h1, hx⟩ := Option.bind_eq_some_iff.1 hx
      obtain ⟨x, h2, hx⟩ := Option.bind_eq_some_iff.1 hx
      obtain ⟨xs', h3, e'⟩ := Option.map_eq_some_iff.1 hx
      rw [RepL] at hv1
      obtain ⟨O1, R2, q1, _, _⟩ := rowE_sound h hv1 h2
      obtain ⟨_, _, _, q2⟩ := rowE_pend h hv1 h2 q1
      refine fin h3 e'.symm q2 fun O1 Ra r => ?_
      obtain ⟨L, k1, k2, _⟩ := rowE_pend h hv1 h2 r
      exact ⟨L, k1, k2⟩
    | s _ _ _ => simp [St.boxT] at hx
    | r _ _ _ => simp [St.boxT] at hx
    | h => simp [St.boxT] at hx
theorem argBox_pend (h : Cor P w0 mine σ a w loc O R) {own : Bool} {y : AV} {v : Value} (hv : RepAV P w σ.o loc y v) {x : A} (hx : σ.argBox P own y = some x) {B R1 : List Nat} (hr : RepA P w x v B R1) :
    ∃ L, PndB P w own y x v B L ∧ Pds P w σ.o loc L B (σ.boxFeet own y) := by
  unfold St.argBox at hx
  split at hx
  · rename_i id
    split at hx
    · rename_i e ys hl
      obtain ⟨xs, h1, rfl⟩ := Option.map_eq_some_iff.1 hx
      obtain ⟨g, cs, rfl, k1, k2, k3, k4, k5⟩ := box_at h hv hl
      rw [RepA] at hr
      obtain ⟨g', cs', O', he, hg, r1, rfl⟩ := hr
      injection he with he
      injection he with he
      injection he with he
      subst he
      rw [k1] at hg
      injection hg with hg
      injection hg with hg
      subst hg
      obtain ⟨L, j1, j2, j3⟩ := boxT_pend h k4 h1 r1
      refine ⟨L ++ [.box id e ys g], ⟨id, g, e, ys, xs, O', L, cs, rfl, rfl, rfl, k1, j1, j3, rfl, rfl⟩, ?_⟩
      simp only [St.boxFeet, hl]
      refine j2.append (B2 := [g]) ⟨fun q hq => ?_, by simp [Item.foot], by simp [pend, Item.B]⟩
      simp at hq
      subst hq
      exact ⟨_, hl, rfl, rfl, ScrL.refl, k5⟩
    · simp at hx
  · simp at hx
theorem argBoxes_pend (h : Cor P w0 mine σ a w loc O R) {own : Bool} : ∀ {ys : List AV} {us : List Value} {xs : List A} {B R1 : List Nat}, RepAVs P w σ.o loc ys us → σ.argBoxes P own ys = some xs → RepAs P w xs us B R1 →
    ∃ L, PndBs P w own ys xs us B L ∧ Pds P w σ.o loc L B (σ.boxesFeet own ys)
  | [], us, xs, B, R1, hv, hx, hr => by
    simp only [St.argBoxes, Option.some.injEq] at hx
    subst hx
    rw [RepAs] at hr
    obtain ⟨rfl, rfl, _⟩ := hr
    exact ⟨[], by rw [PndBs]; exact ⟨rfl, rfl, rfl⟩, Pds.nil⟩
  | y :: ys, us, xs, B, R1, hv, hx, hr => by
    simp only [St.argBoxes] at hx
    obtain ⟨x, h1, hx⟩ := Option.bind_eq_some_iff.1 hx
    obtain ⟨xs', h2, hx⟩ := Option.map_eq_some_iff.1 hx
    subst hx
    rw [RepAVs] at hv
    obtain ⟨u, us', rfl, hv1, hv2⟩ := hv
    rw [RepAs] at hr
    obtain ⟨u2, us2, O1, Ra, O2, Rb, he, r1, r2, rfl, rfl⟩ := hr
    injection he with e1 e2
    subst e1; subst e2
    obtain ⟨L1, k1, k2⟩ := argBox_pend h hv1 h1 r1
    obtain ⟨L2, j1, j2⟩ := argBoxes_pend h hv2 h2 r2
    exact ⟨L1 ++ L2, by rw [PndBs]; exact ⟨u, us', O1, Ra, O2, L1, L2, rfl, r1, k1, j1, rfl, rfl⟩, k2.append j2⟩
theorem arg_pend (h : Cor P w0 mine σ a w loc O R) {own : Bool} {t : TypeId} {y : AV} {v : Value} (hv : RepAV P w σ.o loc y v) {x : A} (hx : σ.arg P own t y = some x) {B R1 : List Nat} (hr : RepA P w x v B R1) :
    ∃ L, Pnd P w own y x v B L ∧ Pds P w σ.o loc L B (σ.feet own y) := by
  cases y with
  | c y =>
    simp only [St.arg] at hx
    obtain ⟨q, h1, rfl⟩ := Option.map_eq_some_iff.1 hx
    rw [RepA] at hr
    obtain ⟨L, k1, k2⟩ := argC_pend h (c_rep hv) h1 hr
    exact ⟨L, ⟨q, rfl, k1⟩, k2⟩
  | agg ys =>
    simp only [St.arg] at hx
    obtain ⟨q, h1, rfl⟩ := Option.map_eq_some_iff.1 hx
    rw [RepAV] at hv
    obtain ⟨us, rfl, hv⟩ := hv
    rw [RepA] at hr
    obtain ⟨us', he, hr⟩ := hr
    have e : us = us' := by
      injection he with he
      simpa using he
    subst e
    obtain ⟨L, k1, k2⟩ := argCs_pend h hv h1 hr
    exact ⟨L, ⟨q, us, rfl, rfl, k1⟩, k2⟩
  | fn f ys =>
    simp only [St.arg] at hx
    obtain ⟨q, h1, rfl⟩ := Option.map_eq_some_iff.1 hx
    rw [RepAV] at hv
    obtain ⟨us, rfl, hv⟩ := hv
    rw [RepA] at hr
    obtain ⟨us', he, hr⟩ := hr
    have e : us = us' := by
      injection he with _ _ he
      simpa using he
    subst e
    obtain ⟨L, k1, k2⟩ := argBoxes_pend h hv h1 hr
    exact ⟨L, ⟨q, us, rfl, rfl, k1⟩, k2⟩
  | ptr id p off => exact argBox_pend (own := own) h hv hx hr
  | tup ys => exact argBox_pend (own := own) h hv hx hr
  | u => exact argBox_pend (own := own) h hv hx hr
theorem args_pend (h : Cor P w0 mine σ a w loc O R) {own : Nat → Bool} : ∀ {i : Nat} {ts : List TypeId} {ys : List AV} {us : List Value} {xs : List A} {B R1 : List Nat}, RepAVs P w σ.o loc ys us → σ.args P own i ts ys = some xs → RepAs P w xs us B R1 →
    ∃ L, Pnds P w own i ys xs us B L ∧ Pds P w σ.o loc L B (σ.feets own i ys)
  | i, [], [], us, xs, B, R1, hv, hx, hr => by
    simp only [St.args, Option.some.injEq] at hx
    subst hx
    rw [RepAs] at hr
    obtain ⟨rfl, rfl, _⟩ := hr
    exact ⟨[], by rw [Pnds]; exact ⟨rfl, rfl, rfl⟩, Pds.nil⟩
  | i, t :: ts, y :: ys, us, xs, B, R1, hv, hx, hr => by
    simp only [St.args] at hx
    obtain ⟨x, h1, hx⟩ := Option.bind_eq_some_iff.1 hx
    obtain ⟨xs', h2, hx⟩ := Option.bind_eq_some_iff.1 hx
    injection hx with hx
    subst hx
    rw [RepAVs] at hv
    obtain ⟨u, us', rfl, hv1, hv2⟩ := hv
    rw [RepAs] at hr
    obtain ⟨u2, us2, O1, Ra, O2, Rb, he, r1, r2, rfl, rfl⟩ := hr
    injection he with e1 e2
    subst e1; subst e2
    obtain ⟨L1, k1, k2⟩ := arg_pend h hv1 h1 r1
    obtain ⟨L2, j1, j2⟩ := args_pend h hv2 h2 r2
    exact ⟨L1 ++ L2, by rw [Pnds]; exact ⟨u, us', O1, Ra, O2, L1, L2, rfl, r1, k1, j1, rfl, rfl⟩, k2.append j2⟩
  | i, [], _ :: _, us, xs, B, R1, hv, hx, hr => by simp [St.args] at hx
  | i, _ :: _, [], us, xs, B, R1, hv, hx, hr => by simp [St.args] at hx
theorem aparts_pairwise : ∀ {l : List Foot}, aparts l = true → l.Pairwise fun x y => apart1 x y = true
  | [], _ => List.Pairwise.nil
  | x :: l, h => by
    rw [aparts, Bool.and_eq_true] at h
    exact List.pairwise_cons.2 ⟨fun y hy => List.all_eq_true.1 h.1 y hy, aparts_pairwise h.2⟩
/-- In the beginning. -/
theorem mid_start (h : Cor P w0 mine σ a w loc O R) {own : Nat → Bool} {i : Nat} {ts : List TypeId} {ys : List AV} {us : List Value} {xs : List A} (hv : RepAVs P w σ.o loc ys us) (hx : σ.args P own i ts ys = some xs) (hap : aparts (σ.feets own i ys) = true) {Ox Rx : List Nat} (hg : Given P w xs us Ox Rx) (hz : w.heap.size ≤ w1.heap.size) (hst : Still w w1) (hk : ∀ b, b < w.heap.size → b ∉ Ox → w1.heap[b]? = w.heap[b]?) :
    ∃ L, Pnds P w own i ys xs us Ox L ∧ Mid P w0 mine a w w1 loc σ O R L [] [] := by
  obtain ⟨L, k1, k2, k3, k4⟩ := args_pend h hv hx hg.rep
  have hmix : ∀ b, b < w.heap.size → (mix w w1 (pend L)).heap[b]? = w.heap[b]? := fun b hb => by
    by_cases hS : b ∈ pend L
    · exact mix_in hS hb hz
    · rw [mix_out hS]
      exact hk b hb (by rw [← k4]; exact hS)
  refine ⟨L, k1, ⟨h.grow (by rw [mix_size]; exact hz) ⟨hst.os, hst.tape, hst.output⟩ hmix, fun q hq => ?_, (aparts_pairwise hap).sublist k3, by rw [k4]; exact hg.nodup, fun b hb => hg.own b (by rw [← k4]; exact hb), hz, h.inv.size, fun j ob hl b hb hc => ?_⟩⟩
  · have := k2 q hq
    cases q with
    | box id e ts g => exact this
    | row id p n e zs v B =>
      obtain ⟨q1, q2, ob, h', q3, q4, q5, q6, q7, q8⟩ := this
      have hob := h.inv.obj id ob q3
      unfold RepO at hob
      rw [q4] at hob
      obtain ⟨n0, hob⟩ := hob
      have hB : ∀ b ∈ B, b ∈ pend L := fun b hb => List.mem_flatten.2 ⟨B, List.mem_map.2 ⟨_, hq, rfl⟩, hb⟩
      refine ⟨q1, q2, ob, h', q3, q4, q5, HdrAt_move (own := true) (fun b hb => hmix b ?_) hob q5 q6, q7, RepT_move _ (fun b hb => hmix b (hg.own b (by rw [← k4]; exact hB b (hb.resolve_right (by simp))))) q8⟩
      rcases hb with hb | hb
      · exact (h.inv.own_ id ob q3 b hb).1
      · exact Nat.lt_of_lt_of_le (h.inv.ro id ob q3 b hb).1 h.inv.size
  · rcases hc with hc | hc
    · simp at hc
    · have := (h.inv.own_ j ob hl b hb).1
      omega
end Go.Proofs.Ytbdidcfjaohglaa.VM

/- Behind a call: all arguments have their turn. -/
namespace Go.Proofs.Ytbdidcfjaohglaa.VM
open Go Go.Proofs.YtbdidcfjaohglaaW.PrintWords
set_option linter.unusedVariables false
set_option linter.unusedSimpArgs false
variable {P : Program} {w w1 w2 w0 W W' : World} {mine : Ctx} {o o1 o2 : OM} {loc loc1 loc2 : Nat → Value} {O R : Nat → List Nat} {σ σ1 σ2 σ' : St} {a : Act} {c : Ctx}

/-- New blocks: what is held behind the call. -/
structure New (w1 : World) (O2 B0 : List Nat) : Prop where
  nodup : O2.Nodup
  lt : ∀ b ∈ O2, b < w1.heap.size
  far : ∀ b ∈ O2, b ∉ B0
theorem New.left {Oa Ob B0 : List Nat} (h : New w1 (Oa ++ Ob) B0) : New w1 Oa B0 := ⟨(List.nodup_append.1 h.nodup).1, fun b hb => h.lt b (List.mem_append_left _ hb), fun b hb => h.far b (List.mem_append_left _ hb)⟩
theorem New.right {Oa Ob B0 : List Nat} (h : New w1 (Oa ++ Ob) B0) : New w1 Ob (B0 ++ Oa) := by
  have hn := List.nodup_append.1 h.nodup
  refine ⟨hn.2.1, fun b hb => h.lt b (List.mem_append_right _ hb), fun b hb hb' => ?_⟩
  rcases List.mem_append.1 hb' with hb' | hb'
  · exact h.far b (List.mem_append_right _ hb) hb'
  · exact hn.2.2 b hb' b hb rfl
/-- Some of it has had its turn. -/
def Done (P : Program) (w0 : World) (mine : Ctx) (a : Act) (w w1 : World) (loc : Nat → Value) (σ' : St) (Q : List Item) (D B : List Nat) : Prop := ∃ O' R', Mid P w0 mine a w w1 loc σ' O' R' Q D B
theorem pndT_none {own : Bool} {s : Lnk} {x : T} {v : Value} {B : List Nat} {L : List Item} (h : PndT P own s x v B L) (hs : own = false ∨ s = none ∨ ∀ e n xs, x ≠ .s e n xs) : (∀ e n xs, x ≠ .s e n xs) ∧ B = [] ∧ L = [] := by
  unfold PndT at h
  split at h
  · rename_i id p off n
    obtain ⟨_, e, xs, rfl, _⟩ := h
    rcases hs with hs | hs | hs
    · simp at hs
    · simp at hs
    · exact absurd rfl (hs e n xs)
  · exact h
theorem afterT_none {x y : T} {v : Value} {B O2 : List Nat} (hx : ∀ e n xs, x ≠ .s e n xs) (h : AfterT P w w1 x y v B O2) : O2 = [] := by
  cases x with
  | s e n xs => exact absurd rfl (hx e n xs)
  | _ => cases y <;> simpa [AfterT] using h
theorem stay {L Q : List Item} {D B0 : List Nat} (h : Mid P w0 mine a w w1 loc σ O R (L ++ Q) D B0) {B O2 : List Nat} (hL : L = []) (hB : B = []) (hO : O2 = []) : Done P w0 mine a w w1 loc σ Q (D ++ B) (B0 ++ O2) := by
  subst hL; subst hB; subst hO
  rw [List.append_nil, List.append_nil]
  exact ⟨O, R, h⟩
theorem backC_done {own : Bool} {y : C} {x t : T} {v : Value} {B O2 D B0 : List Nat} {L Q : List Item} (h : Mid P w0 mine a w w1 loc σ O R (L ++ Q) D B0) (hp : PndT P own y.at x v B L) (ha : AfterT P w w1 x t v B O2) (hn : New w1 O2 B0) (hb : (if own = true then σ.backC y t else some σ) = some σ') : Done P w0 mine a w w1 loc σ' Q (D ++ B) (B0 ++ O2) := by
  cases own with
  | false =>
    obtain ⟨h1, h2, h3⟩ := pndT_none hp (.inl rfl)
    simp only [Bool.false_eq_true, if_false, Option.some.injEq] at hb
    subst hb
    exact stay h h3 h2 (afterT_none h1 ha)
  | true =>
    simp only [if_true] at hb
    cases y with
    | v q =>
      obtain ⟨h1, h2, h3⟩ := pndT_none hp (.inr (.inl rfl))
      have hb : some σ = some σ' := by cases t <;> exact hb
      injection hb with hb
      subst hb
      exact stay h h3 h2 (afterT_none h1 ha)
    | z =>
      obtain ⟨h1, h2, h3⟩ := pndT_none hp (.inr (.inl rfl))
      have hb : some σ = some σ' := by cases t <;> exact hb
      injection hb with hb
      subst hb
      exact stay h h3 h2 (afterT_none h1 ha)
    | sl id p off n =>
      obtain ⟨rfl, e, xs, rfl, rfl⟩ := hp
      exact Mid.row h ha hn.nodup hn.lt hn.far hb
theorem backCs_done {own : Bool} : ∀ {ys : List C} {xs ts : List T} {us : List Value} {B O2 D B0 : List Nat} {L Q : List Item} {σ σ' : St} {O R : Nat → List Nat}, Mid P w0 mine a w w1 loc σ O R (L ++ Q) D B0 → PndTs P w own (ys.map C.at) xs us B L → AfterTs P w w1 xs ts us B O2 → New w1 O2 B0 → (if own = true then σ.backCs ys ts else some σ) = some σ' → Done P w0 mine a w w1 loc σ' Q (D ++ B) (B0 ++ O2)
  | [], [], ts, us, B, O2, D, B0, L, Q, σ, σ', O, R, h, hp, ha, hn, hb => by
    rw [List.map_nil, PndTs] at hp
    obtain ⟨_, rfl, rfl⟩ := hp
    cases ts with
    | nil =>
      rw [AfterTs] at ha
      have hb : some σ = some σ' := by cases own <;> exact hb
      injection hb with hb
      subst hb
      exact stay h rfl rfl ha.2.2
    | cons t ts => rw [AfterTs] at ha; exact ha.elim; all_goals simp
  | y :: ys, x :: xs, ts, us, B, O2, D, B0, L, Q, σ, σ', O, R, h, hp, ha, hn, hb => by
    rw [List.map_cons, PndTs] at hp
    obtain ⟨u, us', B1, R1, B', L1, L', rfl, p1, p2, p3, rfl, rfl⟩ := hp
    cases ts with
    | nil => rw [AfterTs] at ha; exact ha.elim; all_goals simp
    | cons t ts =>
      rw [AfterTs] at ha
      obtain ⟨u2, us2, O1, R2, O', Oa, Ob, he, a1, a2, a3, e3, rfl⟩ := ha
      injection he with e1 e2
      subst e1; subst e2
      obtain ⟨rfl, _⟩ := RepT_fun p1 a1
      have e3 := List.append_cancel_left e3
      subst e3
      rw [List.append_assoc] at h
      cases own with
      | false =>
        obtain ⟨O5, R5, k⟩ := backC_done (y := y) h p2 a2 hn.left (σ' := σ) rfl
        have := backCs_done (own := false) (ys := ys) k p3 a3 hn.right (σ' := σ') hb
        rw [List.append_assoc, List.append_assoc] at this
        exact this
      | true =>
        simp only [if_true, St.backCs] at hb
        obtain ⟨σ1, h1, hb⟩ := Option.bind_eq_some_iff.1 hb
        obtain ⟨O5, R5, k⟩ := backC_done (y := y) h p2 a2 hn.left (σ' := σ1) h1
        have := backCs_done (own := true) (ys := ys) k p3 a3 hn.right (σ' := σ') hb
        rw [List.append_assoc, List.append_assoc] at this
        exact this
  | [], _ :: _, ts, us, B, O2, D, B0, L, Q, σ, σ', O, R, h, hp, ha, hn, hb => by rw [List.map_nil, PndTs] at hp; exact hp.elim; all_goals simp
  | _ :: _, [], ts, us, B, O2, D, B0, L, Q, σ, σ', O, R, h, hp, ha, hn, hb => by rw [List.map_cons, PndTs] at hp; exact hp.elim; all_goals simp
theorem backRows_done {own : Bool} : ∀ {ls : List T} {l : List T} {xs ts : List T} {us us' : List Value} {B O2 D B0 : List Nat} {L Q : List Item} {σ σ' : St} {O R : Nat → List Nat}, Mid P w0 mine a w w1 loc σ O R (L ++ Q) D B0 → PndTs P w own (ls.map T.at) xs us B L → ScrL ls l → AfterLs P w w1 xs ts us us' B O2 → New w1 O2 B0 → σ.backRows l ts = some σ' → Done P w0 mine a w w1 loc σ' Q (D ++ B) (B0 ++ O2)
  | [], l, [], ts, us, us', B, O2, D, B0, L, Q, σ, σ', O, R, h, hp, hsc, ha, hn, hb => by
    rw [List.map_nil, PndTs] at hp
    obtain ⟨_, rfl, rfl⟩ := hp
    cases l with
    | cons _ _ => exact hsc.elim
    | nil =>
      cases ts with
      | nil =>
        rw [AfterLs] at ha
        simp only [St.backRows, Option.some.injEq] at hb
        subst hb
        exact stay h rfl rfl ha.2.2.2
      | cons t ts => rw [AfterLs] at ha; exact ha.elim; all_goals simp
  | l0 :: ls, l, x :: xs, ts, us, us', B, O2, D, B0, L, Q, σ, σ', O, R, h, hp, hsc, ha, hn, hb => by
    rw [List.map_cons, PndTs] at hp
    obtain ⟨u, us1, B1, R1, B', L1, L', rfl, p1, p2, p3, rfl, rfl⟩ := hp
    cases l with
    | nil => exact hsc.elim
    | cons y l =>
    cases ts with
    | nil => rw [AfterLs] at ha; exact ha.elim; all_goals simp
    | cons t ts =>
      rw [AfterLs] at ha
      obtain ⟨u2, us2, u', us1', O1, R2, O', Oa, Ob, he, rfl, a1, a2, a3, e3, rfl⟩ := ha
      injection he with e1 e2
      subst e1; subst e2
      obtain ⟨rfl, _⟩ := RepT_fun p1 a1
      have e3 := List.append_cancel_left e3
      subst e3
      rw [List.append_assoc] at h
      obtain ⟨hs1, hs2⟩ := hsc
      have next : ∀ {σ1 : St}, Done P w0 mine a w w1 loc σ1 (L' ++ Q) (D ++ B1) (B0 ++ Oa) → σ1.backRows l ts = some σ' → Done P w0 mine a w w1 loc σ' Q (D ++ (B1 ++ B')) (B0 ++ (Oa ++ Ob)) := by
        intro σ1 k hb
        obtain ⟨O5, R5, k⟩ := k
        have := backRows_done k p3 hs2 a3 hn.right hb
        rw [List.append_assoc, List.append_assoc] at this
        exact this
      -- a cell that is no own row
      have skip : (∀ e n xs, x ≠ .s e n xs) → Oa = [] → σ.backRows l ts = some σ' → Done P w0 mine a w w1 loc σ' Q (D ++ (B1 ++ B')) (B0 ++ (Oa ++ Ob)) := by
        intro hx hO hb
        obtain ⟨_, h2, h3⟩ := pndT_none p2 (.inr (.inr hx))
        exact next (stay h h3 h2 hO) hb
      cases y with
      | l i p off n =>
        cases t with
        | s e m zs =>
          simp only [St.backRows] at hb
          obtain ⟨σ1, h1, hb2⟩ := Option.bind_eq_some_iff.1 hb
          rcases hs1 with hs1 | hs1
          · subst hs1
            cases x with
            | s e0 m0 zs0 =>
              rw [AfterL] at a2
              obtain ⟨rfl, rfl, q1, q2, q3⟩ := a2
              have hat : AfterT P w w1 (.s e m zs0) (.s e m zs) u B1 Oa := ⟨rfl, rfl, q2, q3⟩
              unfold PndT at p2
              cases own with
              | false => exact absurd rfl (p2.1 e m zs0)
              | true =>
                obtain ⟨rfl, e5, xs5, hx5, rfl⟩ := p2
                injection hx5 with h5 h6 h7
                subst h5; subst h6; subst h7
                exact next (Mid.row h hat hn.left.nodup hn.left.lt hn.left.far h1) hb2
            | _ => simp [AfterL] at a2
          · simp at hs1
        | r e m zs =>
          simp only [St.backRows] at hb
          cases x with
          | r e0 m0 zs0 =>
            rw [AfterL] at a2
            exact skip (fun e n xs h => by simp at h) a2.2.2.2 hb
          | _ => simp [AfterL] at a2
        | _ => simp [St.backRows] at hb
      | h =>
        cases t with
        | r e m zs =>
          simp only [St.backRows] at hb
          cases x with
          | r e0 m0 zs0 =>
            rw [AfterL] at a2
            exact skip (fun e n xs h => by simp at h) a2.2.2.2 hb
          | _ => simp [AfterL] at a2
        | _ => simp [St.backRows] at hb
      | v q =>
        cases t with
        | v q' =>
          simp only [St.backRows] at hb
          have hl0 : l0 = .v q := by
            rcases hs1 with hs1 | hs1
            · exact hs1.symm
            · simp at hs1
          subst hl0
          obtain ⟨h1, h2, h3⟩ := pndT_none p2 (.inr (.inl rfl))
          have hO : Oa = [] := by rw [AfterL] at a2; exact a2.2.2
          exact skip h1 hO hb
        | _ => simp [St.backRows] at hb
      | z =>
        cases t with
        | z =>
          simp only [St.backRows] at hb
          have hl0 : l0 = .z := by
            rcases hs1 with hs1 | hs1
            · exact hs1.symm
            · simp at hs1
          subst hl0
          obtain ⟨h1, h2, h3⟩ := pndT_none p2 (.inr (.inl rfl))
          have hO : Oa = [] := by rw [AfterL] at a2; exact a2.2
          exact skip h1 hO hb
        | _ => simp [St.backRows] at hb
      | s _ _ _ => cases t <;> simp [St.backRows] at hb
      | r _ _ _ => cases t <;> simp [St.backRows] at hb
  | [], _, _ :: _, ts, us, us', B, O2, D, B0, L, Q, σ, σ', O, R, h, hp, hsc, ha, hn, hb => by rw [List.map_nil, PndTs] at hp; exact hp.elim; all_goals simp
  | _ :: _, _, [], ts, us, us', B, O2, D, B0, L, Q, σ, σ', O, R, h, hp, hsc, ha, hn, hb => by rw [List.map_cons, PndTs] at hp; exact hp.elim; all_goals simp
theorem backB_done {own : Bool} {y : AV} {x t : A} {v : Value} {B O2 D B0 : List Nat} {L Q : List Item} (h : Mid P w0 mine a w w1 loc σ O R (L ++ Q) D B0) (hp : PndB P w own y x v B L) (ha : AfterA P w w1 x t v B O2) (hn : New w1 O2 B0) (hb : σ.backB y t = some σ') : Done P w0 mine a w w1 loc σ' Q (D ++ B) (B0 ++ O2) := by
  obtain ⟨id, g, e, ts, xs, B', L', cs, rfl, rfl, rfl, hg, p1, p2, rfl, rfl⟩ := hp
  cases t with
  | box e' zs =>
    rw [AfterA] at ha
    obtain ⟨g', cs1, cs', O', O2', rfl, he, w1', w2', a1, e3, rfl⟩ := ha
    injection he with he
    injection he with he
    injection he with he
    subst he
    rw [hg] at w1'
    injection w1' with w1'
    injection w1' with w1'
    subst w1'
    have e3 := List.append_cancel_right e3
    subst e3
    simp only [St.backB] at hb
    split at hb
    · rename_i ob hl
      obtain ⟨σ1, h1, hb⟩ := Option.bind_eq_some_iff.1 hb
      split at hb
      · rename_i ob1 hl1
        obtain ⟨ts', h2, rfl⟩ := Option.map_eq_some_iff.1 hb
        rw [List.append_assoc] at h
        obtain ⟨ob', q1, q2, q3, q4, q5⟩ := h.items (.box id e' ts g) (by simp)
        rw [hl] at q1
        injection q1 with q1
        subst q1
        obtain ⟨O5, R5, k⟩ := backRows_done h p1 q4 a1 hn.left h1
        have hgB : g ∉ B0 ++ O2' := hn.right.far g (by simp)
        obtain ⟨O6, R6, k⟩ := Mid.box k hg w2' a1 p2 hgB hl1 h2
        rw [List.append_assoc, List.append_assoc] at k
        exact ⟨O6, R6, k⟩
      · simp at hb
    · simp at hb
  | _ => simp [St.backB] at hb
theorem backBs_done {own : Bool} : ∀ {ys : List AV} {xs ts : List A} {us : List Value} {B O2 D B0 : List Nat} {L Q : List Item} {σ σ' : St} {O R : Nat → List Nat}, Mid P w0 mine a w w1 loc σ O R (L ++ Q) D B0 → PndBs P w own ys xs us B L → AfterAs P w w1 xs ts us B O2 → New w1 O2 B0 → σ.backBs ys ts = some σ' → Done P w0 mine a w w1 loc σ' Q (D ++ B) (B0 ++ O2)
  | [], [], ts, us, B, O2, D, B0, L, Q, σ, σ', O, R, h, hp, ha, hn, hb => by
    rw [PndBs] at hp
    obtain ⟨_, rfl, rfl⟩ := hp
    cases ts with
    | nil =>
      rw [AfterAs] at ha
      simp only [St.backBs, Option.some.injEq] at hb
      subst hb
      exact stay h rfl rfl ha.2.2
    | cons t ts => rw [AfterAs] at ha; exact ha.elim; all_goals simp
  | y :: ys, x :: xs, ts, us, B, O2, D, B0, L, Q, σ, σ', O, R, h, hp, ha, hn, hb => by
    rw [PndBs] at hp
    obtain ⟨u, us', B1, R1, B', L1, L', rfl, p1, p2, p3, rfl, rfl⟩ := hp
    cases ts with
    | nil => rw [AfterAs] at ha; exact ha.elim; all_goals simp
    | cons t ts =>
      rw [AfterAs] at ha
      obtain ⟨u2, us2, O1, R2, O', Oa, Ob, he, a1, a2, a3, e3, rfl⟩ := ha
      injection he with e1 e2
      subst e1; subst e2
      obtain ⟨rfl, _⟩ := RepA_fun p1 a1
      have e3 := List.append_cancel_left e3
      subst e3
      rw [List.append_assoc] at h
      simp only [St.backBs] at hb
      obtain ⟨σ1, h1, hb⟩ := Option.bind_eq_some_iff.1 hb
      obtain ⟨O5, R5, k⟩ := backB_done h p2 a2 hn.left h1
      have := backBs_done k p3 a3 hn.right hb
      rw [List.append_assoc, List.append_assoc] at this
      exact this
  | [], _ :: _, ts, us, B, O2, D, B0, L, Q, σ, σ', O, R, h, hp, ha, hn, hb => by rw [PndBs] at hp; exact hp.elim; all_goals simp
  | _ :: _, [], ts, us, B, O2, D, B0, L, Q, σ, σ', O, R, h, hp, ha, hn, hb => by rw [PndBs] at hp; exact hp.elim; all_goals simp
theorem back_done {own : Bool} {y : AV} {x t : A} {v : Value} {B O2 D B0 : List Nat} {L Q : List Item} (h : Mid P w0 mine a w w1 loc σ O R (L ++ Q) D B0) (hp : Pnd P w own y x v B L) (ha : AfterA P w w1 x t v B O2) (hn : New w1 O2 B0) (hb : σ.back own y t = some σ') : Done P w0 mine a w w1 loc σ' Q (D ++ B) (B0 ++ O2) := by
  cases y with
  | c y =>
    obtain ⟨x', rfl, hp⟩ := hp
    cases t with
    | c t =>
      simp only [AfterA] at ha
      exact backC_done h hp ha hn hb
    | _ => simp [St.back] at hb
  | agg ys =>
    obtain ⟨xs, us, rfl, rfl, hp⟩ := hp
    cases t with
    | agg ts =>
      simp only [AfterA] at ha
      obtain ⟨us', he, ha⟩ := ha
      have e : us = us' := by
        injection he with he
        simpa using he
      subst e
      exact backCs_done h hp ha hn hb
    | _ => simp [St.back] at hb
  | fn f ys =>
    obtain ⟨xs, us, rfl, rfl, hp⟩ := hp
    cases t with
    | fn g ts =>
      simp only [AfterA] at ha
      obtain ⟨us', he, ha⟩ := ha
      have e : us = us' := by
        injection he with _ _ he
        simpa using he
      subst e
      exact backBs_done h hp ha hn hb
    | _ => simp [St.back] at hb
  | ptr id p off =>
    have hb : σ.backB (.ptr id p off) t = some σ' := by cases t <;> exact hb
    exact backB_done h hp ha hn hb
  | tup ys =>
    obtain ⟨id, g, e, ts, xs, B', L', cs, hy, _⟩ := hp
    simp at hy
  | u =>
    obtain ⟨id, g, e, ts, xs, B', L', cs, hy, _⟩ := hp
    simp at hy
theorem backs_done {own : Nat → Bool} : ∀ {i : Nat} {ys : List AV} {xs ts : List A} {us : List Value} {B O2 D B0 : List Nat} {L Q : List Item} {σ σ' : St} {O R : Nat → List Nat}, Mid P w0 mine a w w1 loc σ O R (L ++ Q) D B0 → Pnds P w own i ys xs us B L → AfterAs P w w1 xs ts us B O2 → New w1 O2 B0 → σ.backs own i ys ts = some σ' → Done P w0 mine a w w1 loc σ' Q (D ++ B) (B0 ++ O2)
  | i, [], [], ts, us, B, O2, D, B0, L, Q, σ, σ', O, R, h, hp, ha, hn, hb => by
    rw [Pnds] at hp
    obtain ⟨_, rfl, rfl⟩ := hp
    cases ts with
    | nil =>
      rw [AfterAs] at ha
      simp only [St.backs, Option.some.injEq] at hb
      subst hb
      exact stay h rfl rfl ha.2.2
    | cons t ts => rw [AfterAs] at ha; exact ha.elim; all_goals simp
  | i, y :: ys, x :: xs, ts, us, B, O2, D, B0, L, Q, σ, σ', O, R, h, hp, ha, hn, hb => by
    rw [Pnds] at hp
    obtain ⟨u, us', B1, R1, B', L1, L', rfl, p1, p2, p3, rfl, rfl⟩ := hp
    cases ts with
    | nil => rw [AfterAs] at ha; exact ha.elim; all_goals simp
    | cons t ts =>
      rw [AfterAs] at ha
      obtain ⟨u2, us2, O1, R2, O', Oa, Ob, he, a1, a2, a3, e3, rfl⟩ := ha
      injection he with e1 e2
      subst e1; subst e2
      obtain ⟨rfl, _⟩ := RepA_fun p1 a1
      have e3 := List.append_cancel_left e3
      subst e3
      rw [List.append_assoc] at h
      simp only [St.backs] at hb
      obtain ⟨σ1, h1, hb⟩ := Option.bind_eq_some_iff.1 hb
      obtain ⟨O5, R5, k⟩ := back_done h p2 a2 hn.left h1
      have := backs_done k p3 a3 hn.right hb
      rw [List.append_assoc, List.append_assoc] at this
      exact this
  | i, [], _ :: _, ts, us, B, O2, D, B0, L, Q, σ, σ', O, R, h, hp, ha, hn, hb => by rw [Pnds] at hp; exact hp.elim; all_goals simp
  | i, _ :: _, [], ts, us, B, O2, D, B0, L, Q, σ, σ', O, R, h, hp, ha, hn, hb => by rw [Pnds] at hp; exact hp.elim; all_goals simp
end Go.Proofs.Ytbdidcfjaohglaa.VM

/- A call's results are new objects. -/
namespace Go.Proofs.Ytbdidcfjaohglaa.VM
open Go Go.Proofs.YtbdidcfjaohglaaW.PrintWords
set_option linter.unusedVariables false
set_option linter.unusedSimpArgs false
variable {P : Program} {w w1 w2 w0 W W' : World} {mine : Ctx} {o o1 o2 : OM} {loc loc1 loc2 loc' : Nat → Value} {O R O' R' : Nat → List Nat} {σ σ1 σ2 σ' : St} {a : Act} {c : Ctx}

variable {f g : Nat → List Nat → Bool}
theorem C_mono (hfg : ∀ i p, f i p = true → g i p = true) : ∀ {x : C}, x.mem g = false → x.mem f = false
  | .v x, _ => rfl
  | .z, _ => rfl
  | .sl id p off n, h => by
    rw [C.mem] at h ⊢
    cases hf : f id p with
    | false => rfl
    | true => rw [hfg id p hf] at h; simp at h
theorem Cs_mono (hfg : ∀ i p, f i p = true → g i p = true) : ∀ {x : List C}, x.any (·.mem g) = false → x.any (·.mem f) = false
  | [], _ => rfl
  | x :: l, h => by
    simp only [List.any_cons, Bool.or_eq_false_iff] at h ⊢
    exact ⟨C_mono hfg h.1, Cs_mono hfg h.2⟩
/-- No object from here on. -/
def from_ (n : Nat) : Nat → List Nat → Bool := fun i _ => decide (n ≤ i)
theorem from_mono {n m : Nat} (h : n ≤ m) : ∀ i p, from_ m i p = true → from_ n i p = true := fun i p hi => by
  unfold from_ at hi ⊢
  simp at hi ⊢
  omega
/-- Blocks of a result: nobody else's. -/
structure Bl (P : Program) (w0 : World) (mine : Ctx) (w : World) (σ : St) (O : Nat → List Nat) (B : List Nat) : Prop where
  nodup : B.Nodup
  free : ∀ j ob, lk σ.o j = some ob → ∀ b ∈ O j, b ∉ B
  own : ∀ b ∈ B, b < w.heap.size ∧ (w0.heap.size ≤ b ∨ mine b)
/-- More objects. -/
structure More (P : Program) (w0 : World) (mine : Ctx) (a : Act) (w : World) (lo hi : Nat) (σ : St) (loc : Nat → Value) (O : Nat → List Nat) (σ' : St) (loc' : Nat → Value) (O' R' : Nat → List Nat) (B : List Nat) : Prop where
  cor : Cor P w0 mine σ' a w loc' O' R'
  tr : ∀ i p, i < lo → Tr w σ.o loc w σ'.o loc' i p
  blocks : ∀ j ob, lk σ'.o j = some ob → ∀ b ∈ O' j, b ∈ B ∨ ∃ ob0, lk σ.o j = some ob0 ∧ b ∈ O j
  le : lo ≤ hi
theorem More.refl (h : Cor P w0 mine σ a w loc O R) {lo hi : Nat} (hl : lo ≤ hi) : More P w0 mine a w lo hi σ loc O σ loc O R [] := ⟨h, fun i p _ => Tr.refl, fun j ob hl b hb => .inr ⟨ob, hl, hb⟩, hl⟩
theorem More.trans {lo mid hi : Nat} {O2 R2 : Nat → List Nat} {B1 B2 : List Nat} (h1 : More P w0 mine a w lo mid σ loc O σ1 loc1 O' R' B1) (h2 : More P w0 mine a w mid hi σ1 loc1 O' σ2 loc2 O2 R2 B2) : More P w0 mine a w lo hi σ loc O σ2 loc2 O2 R2 (B1 ++ B2) := by
  refine ⟨h2.cor, fun i p hi => (h1.tr i p hi).trans (h2.tr i p (Nat.lt_of_lt_of_le hi h1.le)), fun j ob hl b hb => ?_, Nat.le_trans h1.le h2.le⟩
  rcases h2.blocks j ob hl b hb with hb | ⟨ob0, hl0, hb0⟩
  · exact .inl (List.mem_append_right _ hb)
  · rcases h1.blocks j ob0 hl0 b hb0 with hb | h
    · exact .inl (List.mem_append_left _ hb)
    · exact .inr h
theorem Bl.left {B1 B2 : List Nat} (h : Bl P w0 mine w σ O (B1 ++ B2)) : Bl P w0 mine w σ O B1 := ⟨(List.nodup_append.1 h.nodup).1, fun j ob hl b hb hb' => h.free j ob hl b hb (List.mem_append_left _ hb'), fun b hb => h.own b (List.mem_append_left _ hb)⟩
theorem Bl.right {B1 B2 : List Nat} {lo hi : Nat} (h : Bl P w0 mine w σ O (B1 ++ B2)) (hm : More P w0 mine a w lo hi σ loc O σ1 loc1 O' R' B1) : Bl P w0 mine w σ1 O' B2 := by
  have hn := List.nodup_append.1 h.nodup
  refine ⟨hn.2.1, fun j ob hl b hb hb' => ?_, fun b hb => h.own b (List.mem_append_right _ hb)⟩
  rcases hm.blocks j ob hl b hb with hb | ⟨ob0, hl0, hb⟩
  · exact hn.2.2 b hb b hb' rfl
  · exact h.free j ob0 hl0 b hb (List.mem_append_right _ hb')
theorem kill_tr (hs : Srt σ.o) {k i : Nat} {p : List Nat} (hne : i ≠ k) : Tr w σ.o loc w (σ.kill k).o loc i p := by
  unfold St.kill
  split
  · exact Tr.refl
  · exact Tr_del hs (by simpa using hne)
/-- A new object. -/
theorem new_obj (h : Cor P w0 mine σ a w loc O R) {k : Nat} (hk : 64 ≤ k) {ob : Obj} {v : Value} {B : List Nat} (hr : RepO P w (σ.kill k).o loc ob v B []) (hb : Bl P w0 mine w σ O B) :
    More P w0 mine a w k (k + 1) σ loc O (σ.new k ob) (upd loc k v) (upd O k B) (upd R k []) B ∧ lk (σ.new k ob).o k = some ob := by
  obtain ⟨k1, k2, k3⟩ := h.kill k
  have k5 := k1.add (ob := ob) k2 hr hb.nodup (fun id ob hl b hb' => by
    obtain ⟨_, ob0, hl0⟩ := k3 id ob hl
    exact hb.free id ob0 hl0 b hb') hb.own (fun b hb => by simp at hb) (fun h => by omega)
  have e : (σ.new k ob) = ⟨(σ.kill k).t, ins (σ.kill k).o k ob⟩ := rfl
  refine ⟨⟨by rw [e]; exact k5, fun i p hi => ?_, fun j ob' hl b hb' => ?_, Nat.le_succ _⟩, ?_⟩
  · rw [e]
    exact (kill_tr h.so (by omega)).trans (Tr_ins k2 ob v)
  · rw [e] at hl
    have hl : lk (ins (σ.kill k).o k ob) j = some ob' := hl
    by_cases hj : j = k
    · subst hj
      rw [upd_same] at hb'
      exact .inl hb'
    · rw [lk_ins, if_neg (fun e => hj e.symm)] at hl
      rw [upd_other _ _ hj] at hb'
      obtain ⟨_, ob0, hl0⟩ := k3 j ob' hl
      exact .inr ⟨ob0, hl0, hb'⟩
  · rw [e]
    show lk (ins _ k _) k = _
    rw [lk_ins, if_pos rfl]
theorem res1_sound (h : Cor P w0 mine σ a w loc O R) {id : Nat} (hid : 64 ≤ id) {x : T} {v : Value} {B : List Nat} (hr : RepT P w x v B []) (hb : Bl P w0 mine w σ O B) {y : C} (hx : σ.res1 id x = some (y, σ')) :
    ∃ loc' O' R', More P w0 mine a w id (id + 1) σ loc O σ' loc' O' R' B ∧ RepC P w σ'.o loc' y v ∧ y.mem (from_ (id + 1)) = false := by
  cases x with
  | v q =>
    simp only [St.res1, Option.some.injEq, Prod.mk.injEq] at hx
    obtain ⟨rfl, rfl⟩ := hx
    rw [RepT] at hr
    obtain ⟨rfl, h1, rfl, _⟩ := hr
    exact ⟨loc, O, R, More.refl h (Nat.le_succ _), by rw [RepC]; exact ⟨rfl, h1⟩, rfl⟩
  | s e n xs =>
    simp only [St.res1, Option.some.injEq, Prod.mk.injEq] at hx
    obtain ⟨rfl, rfl⟩ := hx
    obtain ⟨k1, k2⟩ := new_obj h hid (ob := ⟨.own, e, xs⟩) (v := v) (B := B) ⟨n, hr⟩ hb
    refine ⟨_, _, _, k1, ?_, by simp [C.mem, from_]⟩
    obtain ⟨A, cc, us, O3, R3, hv, hnc, hcm, _⟩ := Row_cells (own := true) (show Row P w true e n xs v B [] from hr)
    rw [RepC]
    exact ⟨⟨.own, e, xs⟩, (true, e, xs), v, k2, by simp, by rw [down]; rfl, by rw [HdrAt, upd_same], by rw [hv]; exact SubHdr_self hnc hcm.1 hcm.2⟩
  | _ => simp [St.res1] at hx
theorem RepC_more {lo hi : Nat} {B : List Nat} (hm : More P w0 mine a w lo hi σ loc O σ' loc' O' R' B) {y : C} {v : Value} (hf : y.mem (from_ lo) = false) (h : RepC P w σ.o loc y v) : RepC P w σ'.o loc' y v :=
  RepC_tr (f := from_ lo) (fun i p hi => hm.tr i p (by unfold from_ at hi; simp at hi; exact hi)) hf h
theorem resCs_sound : ∀ {xs : List T} {id id' : Nat} {vs : List Value} {B : List Nat} {ys : List C} {σ σ' : St} {loc : Nat → Value} {O R : Nat → List Nat}, Cor P w0 mine σ a w loc O R → 64 ≤ id → RepTs P w xs vs B [] → Bl P w0 mine w σ O B → σ.resCs id xs = some (ys, id', σ') →
    ∃ loc' O' R', More P w0 mine a w id id' σ loc O σ' loc' O' R' B ∧ RepCs P w σ'.o loc' ys vs ∧ ys.any (·.mem (from_ id')) = false
  | [], id, id', vs, B, ys, σ, σ', loc, O, R, h, hid, hr, hb, hx => by
    simp only [St.resCs, Option.some.injEq, Prod.mk.injEq] at hx
    obtain ⟨rfl, rfl, rfl⟩ := hx
    rw [RepTs] at hr
    obtain ⟨rfl, rfl, _⟩ := hr
    exact ⟨loc, O, R, More.refl h (Nat.le_refl _), by rw [RepCs], rfl⟩
  | x :: xs, id, id', vs, B, ys, σ, σ', loc, O, R, h, hid, hr, hb, hx => by
    simp only [St.resCs] at hx
    obtain ⟨⟨y, σ1⟩, h1, hx⟩ := Option.bind_eq_some_iff.1 hx
    obtain ⟨⟨ys', j, σ2⟩, h2, hx⟩ := Option.bind_eq_some_iff.1 hx
    simp only [Option.some.injEq, Prod.mk.injEq] at hx
    obtain ⟨rfl, rfl, rfl⟩ := hx
    rw [RepTs] at hr
    obtain ⟨u, us, O1, R1, O2, R2, rfl, r1, r2, rfl, e⟩ := hr
    obtain ⟨rfl, rfl⟩ := List.append_eq_nil_iff.1 e.symm
    obtain ⟨loc1, Oa, Ra, k1, k2, k3⟩ := res1_sound h hid r1 hb.left h1
    obtain ⟨loc2, Ob, Rb, j1, j2, j3⟩ := resCs_sound k1.cor (Nat.le_succ_of_le hid) r2 (hb.right k1) h2
    refine ⟨loc2, Ob, Rb, k1.trans j1, by rw [RepCs]; exact ⟨u, us, rfl, RepC_more j1 k3 k2, j2⟩, ?_⟩
    simp only [List.any_cons, Bool.or_eq_false_iff]
    exact ⟨C_mono (from_mono j1.le) k3, j3⟩
theorem RepLs_allV : ∀ {xs : List T} {us : List Value} {O1 R1 : List Nat}, allV xs = true → RepTs P w xs us O1 R1 → RepLs P w o loc xs us
  | [], us, _, _, _, h => by rw [RepTs] at h; rw [RepLs]; exact h.1
  | .v x :: l, us, O1, R1, hv, h => by
    rw [RepTs] at h
    obtain ⟨u, us', Oa, Ra, Ob, Rb, rfl, h1, h2, _⟩ := h
    rw [RepT] at h1
    rw [allV] at hv
    rw [RepLs]
    exact ⟨u, us', rfl, by rw [RepL]; exact ⟨h1.1, h1.2.1⟩, RepLs_allV hv h2⟩
  | .s _ _ _ :: l, us, _, _, hv, h => by simp [allV] at hv
  | .r _ _ _ :: l, us, _, _, hv, h => by simp [allV] at hv
  | .z :: l, us, _, _, hv, h => by simp [allV] at hv
  | .l _ _ _ _ :: l, us, _, _, hv, h => by simp [allV] at hv
  | .h :: l, us, _, _, hv, h => by simp [allV] at hv
theorem res_sound (h : Cor P w0 mine σ a w loc O R) {id id' : Nat} (hid : 64 ≤ id) {x : A} {v : Value} {B : List Nat} (hr : RepA P w x v B []) (hb : Bl P w0 mine w σ O B) {y : AV} (hx : σ.res id x = some (y, id', σ')) :
    ∃ loc' O' R', More P w0 mine a w id id' σ loc O σ' loc' O' R' B ∧ RepAV P w σ'.o loc' y v ∧ y.mem (from_ id') = false := by
  cases x with
  | c x =>
    simp only [St.res] at hx
    obtain ⟨⟨y', σ1⟩, h1, hx⟩ := Option.map_eq_some_iff.1 hx
    simp only [Prod.mk.injEq] at hx
    obtain ⟨rfl, rfl, rfl⟩ := hx
    rw [RepA] at hr
    obtain ⟨loc1, Oa, Ra, k1, k2, k3⟩ := res1_sound h hid hr hb h1
    exact ⟨loc1, Oa, Ra, k1, rep_c k2, by rw [AV.mem]; exact k3⟩
  | agg xs =>
    simp only [St.res] at hx
    obtain ⟨⟨ys, j, σ1⟩, h1, hx⟩ := Option.map_eq_some_iff.1 hx
    simp only [Prod.mk.injEq] at hx
    obtain ⟨rfl, rfl, rfl⟩ := hx
    rw [RepA] at hr
    obtain ⟨us, rfl, hr⟩ := hr
    obtain ⟨loc1, Oa, Ra, k1, k2, k3⟩ := resCs_sound h hid hr hb h1
    exact ⟨loc1, Oa, Ra, k1, by rw [RepAV]; exact ⟨us, rfl, k2⟩, by rw [AV.mem]; exact k3⟩
  | box e xs =>
    simp only [St.res] at hx
    split at hx
    · rename_i hall
      simp only [Option.some.injEq, Prod.mk.injEq] at hx
      obtain ⟨rfl, rfl, rfl⟩ := hx
      rw [RepA] at hr
      obtain ⟨g, cs, B', rfl, hg, hr, rfl⟩ := hr
      obtain ⟨rfl, _⟩ := allV_rep hall hr
      obtain ⟨k1, k2⟩ := new_obj h hid (ob := ⟨.box, e, xs⟩) (v := .slice (some ⟨g, 0, none⟩) 1 1) (B := [] ++ [g]) ⟨g, cs, rfl, hg, rfl, rfl, RepLs_allV hall hr⟩ hb
      refine ⟨_, _, _, k1, ?_, by simp [AV.mem, from_]⟩
      rw [RepAV]
      exact ⟨⟨.box, e, xs⟩, (true, e, xs), ⟨g, 0, none⟩, 1, 1, k2, fun _ => rfl, by rw [down]; rfl, by rw [HdrAt, upd_same], rfl, by simp [Addr.add]⟩
    · simp at hx
  | fn f as => simp [St.res] at hx
  | gone => simp [St.res] at hx
theorem AV_mono (hfg : ∀ i p, f i p = true → g i p = true) (x : AV) : x.mem g = false → x.mem f = false := by
  induction x using AV.rec (motive_2 := fun l => AV.mem.mems g l = false → AV.mem.mems f l = false) with
  | c x => intro h; rw [AV.mem] at h ⊢; exact C_mono hfg h
  | agg xs => intro h; rw [AV.mem] at h ⊢; exact Cs_mono hfg h
  | ptr id p off => intro h; rw [AV.mem] at h ⊢; exact C_mono (x := .sl id p 0 0) hfg h
  | tup xs h => intro h'; rw [AV.mem] at h' ⊢; exact h h'
  | fn f xs h => intro h'; rw [AV.mem] at h' ⊢; exact h h'
  | u => intro _; rfl
  | nil => rfl
  | cons x l h1 h2 =>
    rename_i h
    rw [AV.mem.mems, Bool.or_eq_false_iff] at h ⊢
    exact ⟨h1 h.1, h2 h.2⟩
theorem ress_sound : ∀ {xs : List A} {id : Nat} {vs : List Value} {B : List Nat} {ys : List AV} {σ σ' : St} {loc : Nat → Value} {O R : Nat → List Nat}, Cor P w0 mine σ a w loc O R → 64 ≤ id → RepAs P w xs vs B [] → Bl P w0 mine w σ O B → σ.ress id xs = some (ys, σ') →
    ∃ loc' O' R' id', More P w0 mine a w id id' σ loc O σ' loc' O' R' B ∧ RepAVs P w σ'.o loc' ys vs
  | [], id, vs, B, ys, σ, σ', loc, O, R, h, hid, hr, hb, hx => by
    simp only [St.ress, Option.some.injEq, Prod.mk.injEq] at hx
    obtain ⟨rfl, rfl⟩ := hx
    rw [RepAs] at hr
    obtain ⟨rfl, rfl, _⟩ := hr
    exact ⟨loc, O, R, id, More.refl h (Nat.le_refl _), by rw [RepAVs]⟩
  | x :: xs, id, vs, B, ys, σ, σ', loc, O, R, h, hid, hr, hb, hx => by
    simp only [St.ress] at hx
    obtain ⟨⟨y, j, σ1⟩, h1, hx⟩ := Option.bind_eq_some_iff.1 hx
    obtain ⟨⟨ys', σ2⟩, h2, hx⟩ := Option.bind_eq_some_iff.1 hx
    simp only [Option.some.injEq, Prod.mk.injEq] at hx
    obtain ⟨rfl, rfl⟩ := hx
    rw [RepAs] at hr
    obtain ⟨u, us, O1, R1, O2, R2, rfl, r1, r2, rfl, e⟩ := hr
    obtain ⟨rfl, rfl⟩ := List.append_eq_nil_iff.1 e.symm
    obtain ⟨loc1, Oa, Ra, k1, k2, k3⟩ := res_sound h hid r1 hb.left h1
    obtain ⟨loc2, Ob, Rb, id', j1, j2⟩ := ress_sound k1.cor (Nat.le_trans hid k1.le) r2 (hb.right k1) h2
    have hy := RepAV_tr (f := from_ j) (fun i p hi => j1.tr i p (by unfold from_ at hi; simp at hi; exact hi)) k3 k2
    exact ⟨loc2, Ob, Rb, id', k1.trans j1, by rw [RepAVs]; exact ⟨u, us, rfl, hy, j2⟩⟩
theorem RepAVs_n : ∀ {xs : List AV} {us : List Value}, RepAVs P w o loc xs us → us.length = xs.length := RepAVs_len
/-- What a machine's run tells is so. -/
def Sound (P : Program) (run : FuncId → List A → Ans) : Prop :=
  ∀ (f : FuncId) (as rs as' : List A), run f as = some (rs, as') → ∀ (w : World) (us : List Value) (Ox Rx : List Nat), Given P w as us Ox Rx →
    (callFunc f us.toArray).run P w = .ok (.enter f us.toArray) w ∧ Calls P f us.toArray w (Answers P w as us Ox rs as')
theorem call_sound {run : FuncId → List A → Ans} (hrun : Sound P run) {own : FuncId → Nat → Bool} (h : Cor P w0 mine σ a w loc O R) {d : Nat} {fn : FuncId} {ts : List TypeId} {ys : List AV} {us : List Value} (hv : RepAVs P w σ.o loc ys us) {av : AV} (hc : σ.call P run own d fn ts ys = some (av, σ')) :
    (callFunc fn us.toArray).run P w = .ok (.enter fn us.toArray) w ∧ Calls P fn us.toArray w fun
      | .returned v, w' => ∃ loc' O' R', Cor P w0 mine σ' a w' loc' O' R' ∧ RepAV P w' σ'.o loc' av v
      | _, _ => False := by
  unfold St.call at hc
  split at hc
  · simp at hc
  · rename_i hap
    have hap : aparts (σ.feets (own fn) 0 ys) = true := by simpa using hap
    obtain ⟨as, h1, hc⟩ := Option.bind_eq_some_iff.1 hc
    obtain ⟨⟨rs, as'⟩, h2, hc⟩ := Option.bind_eq_some_iff.1 hc
    simp only at hc
    split at hc
    · simp at hc
    obtain ⟨σ1, h3, hc⟩ := Option.bind_eq_some_iff.1 hc
    obtain ⟨⟨ws, σ2⟩, h4, hc⟩ := Option.bind_eq_some_iff.1 hc
    obtain ⟨Ox, Rx, hg, hleds⟩ := given_sound h hv h1 hap
    obtain ⟨k1, k2⟩ := hrun fn as rs as' h2 w us Ox Rx hg
    refine ⟨k1, k2.mono fun e w' he => ?_⟩
    cases e with
    | returned v =>
      obtain ⟨vs, O1, O2, rfl, hl⟩ := he
      obtain ⟨L, p1, p2⟩ := mid_start h hv h1 hap hg hl.size hl.still hl.kept
      have hn := List.nodup_append.1 hl.nodup
      obtain ⟨O3, R3, m⟩ := backs_done (Q := []) (L := L) (by rw [List.append_nil]; exact p2) p1 hl.after ⟨hn.2.1, fun b hb => (hl.from_ b (List.mem_append_right _ hb)).1, fun b _ => by simp⟩ h3
      rw [List.nil_append, List.nil_append] at m
      have hcor : Cor P w0 mine σ1 a w' loc O3 R3 := m.cor.grow (by rw [mix_size]; exact Nat.le_refl _) ⟨rfl, rfl, rfl⟩ (fun b _ => (mix_out (by simp [pend])).symm)
      have hbl : Bl P w0 mine w' σ1 O3 O1 := by
        refine ⟨hn.1, fun j ob hlk b hb hb' => ?_, fun b hb => ?_⟩
        · have := m.fresh j ob hlk b hb ((hl.from_ b (List.mem_append_left _ hb')).2.symm)
          exact hn.2.2 b hb' b this rfl
        · obtain ⟨q1, q2⟩ := hl.from_ b (List.mem_append_left _ hb)
          refine ⟨q1, ?_⟩
          rcases q2 with q2 | q2
          · exact .inl (Nat.le_trans h.inv.size q2)
          · obtain ⟨x, Oa, Ra, c1, c2, c3, c4⟩ := hleds.mem.1 b q2
            obtain ⟨c5, ob, c6, c7⟩ := c2.2.2.2.1 b c3
            exact (h.inv.own_ _ ob c6 b c5).2
      obtain ⟨loc', O4, R4, id', q1, q2⟩ := ress_sound hcor (site_ge d 0) hl.rep hbl h4
      have hlen := RepAVs_len q2
      refine ⟨loc', O4, R4, ?_⟩
      match ws, vs, hlen with
      | [y], [v], _ =>
        simp only [Option.some.injEq, Prod.mk.injEq] at hc
        obtain ⟨rfl, rfl⟩ := hc
        refine ⟨q1.cor, ?_⟩
        rw [RepAVs] at q2
        obtain ⟨u, us', he, q3, _⟩ := q2
        injection he with he _
        subst he
        exact q3
      | [], [], _ =>
        simp only [Option.some.injEq, Prod.mk.injEq] at hc
        obtain ⟨rfl, rfl⟩ := hc
        exact ⟨q1.cor, by rw [RepAV]; exact ⟨[], rfl, q2⟩⟩
      | y1 :: y2 :: ys', v1 :: v2 :: vs', _ =>
        simp only [Option.some.injEq, Prod.mk.injEq] at hc
        obtain ⟨rfl, rfl⟩ := hc
        exact ⟨q1.cor, by rw [RepAV]; exact ⟨v1 :: v2 :: vs', rfl, q2⟩⟩
      | [], _ :: _, hl => simp at hl
      | [_], [], hl => simp at hl
      | [_], _ :: _ :: _, hl => simp at hl
      | _ :: _ :: _, [], hl => simp at hl
      | _ :: _ :: _, [_], hl => simp at hl
    | panicked chain => exact he.elim
    | outgrown => exact he.elim
theorem RepAVs_append : ∀ {xs ys : List AV} {us vs : List Value}, RepAVs P w o loc xs us → RepAVs P w o loc ys vs → RepAVs P w o loc (xs ++ ys) (us ++ vs)
  | [], ys, us, vs, h1, h2 => by rw [RepAVs] at h1; subst h1; exact h2
  | x :: xs, ys, us, vs, h1, h2 => by
    rw [RepAVs] at h1
    obtain ⟨u, us', rfl, h3, h4⟩ := h1
    rw [List.cons_append, List.cons_append, RepAVs]
    exact ⟨u, us' ++ vs, rfl, h3, RepAVs_append h4 h2⟩
/-- Calls go as the machine tells. -/
theorem callsOk_of {E : Env} (hrun : Sound E.P E.run) (w0 : World) (mine : Ctx) : CallsOk E w0 mine := by
  intro σ σ1 a w loc O R op d r hc h hop
  cases ho : op.op with
  | call cl =>
    rw [ho] at hc hop
    simp only [Env.op] at hop
    obtain ⟨vs, hvs, hop⟩ := Option.bind_eq_some_iff.1 hop
    obtain ⟨us, hus, hr⟩ := evs_map h.tm hvs
    unfold isCall at hc
    simp only at hc
    split at hc
    · rename_i x hx
      rw [hx] at hop
      simp only at hop
      split at hop
      · rename_i f cs hf
        obtain ⟨⟨v, σ2⟩, h1, hop⟩ := Option.bind_eq_some_iff.1 hop
        simp only [Option.some.injEq, Prod.mk.injEq] at hop
        obtain ⟨rfl, rfl⟩ := hop
        have hfr := rep_ev h.tm hf
        rw [RepAV] at hfr
        obtain ⟨caps, hfe, hcaps⟩ := hfr
        obtain ⟨k1, k2⟩ := call_sound hrun h (RepAVs_append hr hcaps) h1
        intro K Q hK
        unfold Oper.wp
        have he : (execOp a.eval op).run E.P w = .ok (.enter f (us ++ caps).toArray) w := by
          unfold execOp
          rw [ho]
          simp only [resolve, hx, hfe, Deferred.ofValue, Sem.run_bind, Sem.run_pure, Result.andThen_ok, invoke, hus]
          have : (#[] ++ us.toArray ++ caps.toArray) = (us ++ caps).toArray := by simp
          rw [this]
          exact k1
        rw [he]
        show Calls E.P f (us ++ caps).toArray w _
        refine k2.mono fun e w' he => ?_
        cases e with
        | returned v' =>
          obtain ⟨loc', O', R', q1, q2⟩ := he
          exact hK v' w' loc' O' R' q1 q2
        | panicked chain => exact he.elim
        | outgrown => exact he.elim
      · simp at hop
    · simp at hc
  | _ => rw [ho] at hc; simp [isCall] at hc
end Go.Proofs.Ytbdidcfjaohglaa.VM

/- The machine. -/
namespace Go.Proofs.Ytbdidcfjaohglaa.VM
open Go Go.Proofs.YtbdidcfjaohglaaW.PrintWords
set_option linter.unusedVariables false
set_option linter.unusedSimpArgs false

/-- What the machine's tables are asked for. -/
structure MachOk (M : Mach) : Prop where
  name : ∀ (f : FuncId) (fn : Func), M.P.funcs[f]? = some fn → (fn.name == "runtime.NumGoroutine") = false
  prim : ∀ (f : FuncId) (g : List A → Ans), M.prim f = some g → ∀ (as rs as' : List A), g as = some (rs, as') → ∀ (w : World) (us : List Value) (Ox Rx : List Nat), Given M.P w as us Ox Rx →
    (callFunc f us.toArray).run M.P w = .ok (.enter f us.toArray) w ∧ Calls M.P f us.toArray w (Answers M.P w as us Ox rs as')
  code : ∀ (f : FuncId) (fn : Func) (c : Code), M.prim f = none → M.P.funcs[f]? = some fn → fn.body = some c → codeOk c = true
  mixed : M.P.follows .mixedOrders = true
theorem mach_sound {M : Mach} (hM : MachOk M) (hdraws : ∀ (n : Nat) (run : FuncId → List A → Ans), Sound M.P run → ∀ w0 mine, DrawsOk ⟨M.P, n, run, M.own⟩ w0 mine) : ∀ k, Sound M.P (M.run k)
  | 0 => fun f as rs as' h => by simp [Mach.run] at h
  | k + 1 => fun f as rs as' h w us Ox Rx hg => by
    rw [Mach.run] at h
    split at h
    · rename_i g hp
      exact hM.prim f g hp as rs as' h w us Ox Rx hg
    · rename_i hpn
      split at h
      · rename_i fn hf
        have ih := mach_sound hM hdraws k
        have hbody : ∃ c, fn.body = some c := by
          unfold Env.func at h
          cases hb : fn.body with
          | some c => exact ⟨c, rfl⟩
          | none => rw [hb] at h; simp at h
        obtain ⟨c, hb⟩ := hbody
        refine ⟨?_, func_sound (E := ⟨M.P, fn.ntmps, M.run k, M.own⟩) (fun w0 mine => callsOk_of ih w0 mine) (fun w0 mine => hdraws _ _ ih w0 mine) hf (fun c hc => hM.code f fn c hpn hf hc) rfl h hg⟩
        have hn := hM.name f fn hf
        have hn' : ¬ fn.name = "runtime.NumGoroutine" := by simpa using hn
        simp [callFunc, go_sem, hf, hn', hb]
      · simp at h
end Go.Proofs.Ytbdidcfjaohglaa.VM

/- An operation looks at what it looks at: its value in another state that is alike there. -/
namespace Go.Proofs.Ytbdidcfjaohglaa.VM
open Go Go.Proofs.YtbdidcfjaohglaaW.PrintWords
set_option linter.unusedVariables false
set_option linter.unusedSimpArgs false
variable {P : Program} {w w1 w2 w0 : World} {mine : Ctx} {o o1 o2 : OM} {loc loc1 loc2 : Nat → Value} {O R : Nat → List Nat} {σ σ1 σ2 τ : St} {a : Act} {E : Env}

/-- Does a value mention an object. -/
def C.ment (x : C) (id : Nat) : Prop := x.mem (fun i _ => i == id) = true
def AV.ment (x : AV) (id : Nat) : Prop := x.mem (fun i _ => i == id) = true
/-- Two states are alike at what an operand leads to. -/
def Alike (σ τ : St) (x : Operand) : Prop := σ.ev x = τ.ev x ∧ ∀ v, σ.ev x = some v → ∀ id, v.ment id → lk σ.o id = lk τ.o id
theorem row_alike {id : Nat} (h : lk σ.o id = lk τ.o id) (p : List Nat) : σ.row id p = τ.row id p := by unfold St.row; rw [h]
theorem cells_alike {id : Nat} (h : lk σ.o id = lk τ.o id) (e : TypeId) (p : List Nat) (off n : Nat) : σ.cellsOf P e id p off n = τ.cellsOf P e id p off n := by unfold St.cellsOf; rw [row_alike h]
theorem ment_sl {id : Nat} {p : List Nat} {off n : Nat} : (AV.c (.sl id p off n)).ment id := by simp [AV.ment, AV.mem, C.mem]
theorem ment_ptr {id : Nat} {p : List Nat} {off : Nat} : (AV.ptr id p off).ment id := by simp [AV.ment, AV.mem]
theorem evs_alike : ∀ {l : List Operand}, (∀ x ∈ l, Alike σ τ x) → σ.evs l = τ.evs l
  | [], _ => rfl
  | x :: l, h => by rw [St.evs, St.evs, (h x (by simp)).1, evs_alike fun y hy => h y (by simp [hy])]
theorem evp_alike : ∀ {l : List (Nat × Operand)}, (∀ x ∈ l, Alike σ τ x.2) → σ.evp l = τ.evp l
  | [], _ => rfl
  | (i, x) :: l, h => by rw [St.evp, St.evp, (h (i, x) (by simp)).1, evp_alike fun y hy => h y (by simp [hy])]
theorem intOr_alike {d : Nat} {x : Option Operand} (h : ∀ y, x = some y → Alike σ τ y) : intOr σ d x = intOr τ d x := by
  cases x with
  | none => rfl
  | some y => rw [intOr, intOr, (h y rfl).1]
theorem bltin_alike {d : Nat} {b : Builtin} {ts : List TypeId} {vs : List AV} (hv : isVal (.call ⟨.builtin b, #[], #[]⟩) = true) {r : AV} (h : E.builtin σ d b ts vs = some (r, σ1)) : E.builtin τ d b ts vs = some (r, τ) ∧ σ1 = σ := by
  unfold Env.builtin at h ⊢
  split at h
  · split at h <;> first
      | (simp only [Option.some.injEq, Prod.mk.injEq] at h; obtain ⟨h5, h6⟩ := h; subst h6; subst h5; refine ⟨?_, rfl⟩; simp only [*])
      | simp at h
  · split at h <;> first
      | (simp only [Option.some.injEq, Prod.mk.injEq] at h; obtain ⟨h5, h6⟩ := h; subst h6; subst h5; refine ⟨?_, rfl⟩; simp only [*])
      | simp at h
  · simp [isVal] at hv
  · split at h <;> first
      | (simp only [Option.some.injEq, Prod.mk.injEq] at h; obtain ⟨h5, h6⟩ := h; subst h6; subst h5; refine ⟨?_, rfl⟩; simp only [*, if_true])
      | simp at h
  · split at h <;> first
      | (simp only [Option.some.injEq, Prod.mk.injEq] at h; obtain ⟨h5, h6⟩ := h; subst h6; subst h5; refine ⟨?_, rfl⟩; simp only [*, if_true])
      | simp at h
  · simp at h
theorem val_alike {d : Nat} {op : Op} (hv : isVal op = true) {r : Option AV} (h : E.op σ d op = some (r, σ1)) (hx : ∀ x ∈ op.operands.toList, Alike σ τ x) : E.op τ d op = some (r, τ) ∧ σ1 = σ := by
  cases op with
  | move x =>
    simp only [Env.op] at h ⊢
    rw [← (hx x (by simp [Op.operands])).1]
    obtain ⟨v, h1, h⟩ := Option.bind_eq_some_iff.1 h
    injection h with h
    injection h with h2 h3
    rw [h1]
    exact ⟨by rw [← h2]; rfl, h3.symm⟩
  | assign x =>
    simp only [Env.op] at h ⊢
    rw [← (hx x (by simp [Op.operands])).1]
    obtain ⟨v, h1, h⟩ := Option.bind_eq_some_iff.1 h
    injection h with h
    injection h with h2 h3
    rw [h1]
    exact ⟨by rw [← h2]; rfl, h3.symm⟩
  | binOp b t x y t' =>
    simp only [Env.op] at h ⊢
    rw [← (hx x (by simp [Op.operands])).1, ← (hx y (by simp [Op.operands])).1]
    obtain ⟨v, h1, h⟩ := Option.bind_eq_some_iff.1 h
    obtain ⟨u2, h2, h⟩ := Option.bind_eq_some_iff.1 h
    obtain ⟨q, h3, h⟩ := Option.bind_eq_some_iff.1 h
    injection h with h
    injection h with h4 h5
    rw [h1, h2]
    simp only [Option.bind_some, h3]
    exact ⟨by rw [← h4], h5.symm⟩
  | unOp b t x =>
    simp only [Env.op] at h ⊢
    rw [← (hx x (by simp [Op.operands])).1]
    split at h
    · rename_i v h1
      obtain ⟨q, h3, h⟩ := Option.bind_eq_some_iff.1 h
      injection h with h
      injection h with h4 h5
      simp only [h1, h3, Option.bind_some]
      exact ⟨by rw [← h4], h5.symm⟩
    · simp at h
  | pick c x y =>
    simp only [Env.op] at h ⊢
    rw [← (hx c (by simp [Op.operands])).1, ← (hx x (by simp [Op.operands])).1, ← (hx y (by simp [Op.operands])).1]
    split at h
    · rename_i t h0
      obtain ⟨v, h1, h⟩ := Option.bind_eq_some_iff.1 h
      obtain ⟨u2, h2, h⟩ := Option.bind_eq_some_iff.1 h
      injection h with h
      injection h with h4 h5
      simp only [h0, h1, h2, Option.bind_some]
      exact ⟨by rw [← h4], h5.symm⟩
    · simp at h
  | extract x i =>
    simp only [Env.op] at h ⊢
    rw [← (hx x (by simp [Op.operands])).1]
    split at h
    · rename_i v h1
      obtain ⟨q, h3, h⟩ := Option.bind_eq_some_iff.1 h
      injection h with h
      injection h with h4 h5
      simp only [h1, h3, Option.bind_some]
      exact ⟨by rw [← h4], h5.symm⟩
    · simp at h
  | nilCheck x =>
    simp only [Env.op] at h ⊢
    rw [← (hx x (by simp [Op.operands])).1]
    split at h
    · rename_i id p off h1
      injection h with h
      injection h with h4 h5
      try simp only [h1]
      exact ⟨by rw [← h4], h5.symm⟩
    · simp at h
  | fieldAddr t x f =>
    simp only [Env.op] at h ⊢
    rw [← (hx x (by simp [Op.operands])).1]
    split at h
    · rename_i id p off fs h1 h2
      obtain ⟨q, h3, h⟩ := Option.bind_eq_some_iff.1 h
      split at h
      · rename_i h6
        injection h with h
        injection h with h4 h5
        simp only [h1, h2, h3, Option.bind_some, h6, if_true]
        exact ⟨by rw [← h4], h5.symm⟩
      · simp at h
    · simp at h
  | indexAddr t x i =>
    simp only [Env.op] at h ⊢
    have hxx := hx x (by simp [Op.operands])
    rw [← hxx.1, ← (hx i (by simp [Op.operands])).1]
    split at h
    · rename_i id p off n k j e h1 h2 h3
      rw [row_alike (hxx.2 _ h1 id ment_sl)] at h
      obtain ⟨⟨w1, e', xs⟩, h4, h⟩ := Option.bind_eq_some_iff.1 h
      simp only at h
      split at h
      · rename_i h6
        injection h with h
        injection h with h7 h8
        simp only [h1, h2, h3, h4, Option.bind_some]
        rw [if_pos h6]
        exact ⟨by rw [← h7], h8.symm⟩
      · simp at h
    · simp at h
  | load t x =>
    simp only [Env.op] at h ⊢
    have hxx := hx x (by simp [Op.operands])
    rw [← hxx.1]
    split at h
    · rename_i id p off h1
      obtain ⟨q, h3, h⟩ := Option.bind_eq_some_iff.1 h
      have e : σ.load E.P t id p off = τ.load E.P t id p off := by unfold St.load; rw [row_alike (hxx.2 _ h1 id ment_ptr)]
      rw [e] at h3
      injection h with h
      injection h with h4 h5
      simp only [h1, h3, Option.bind_some]
      exact ⟨by rw [← h4], h5.symm⟩
    · simp at h
  | build t ps =>
    simp only [Env.op] at h ⊢
    split at h
    · rename_i z fs h1 h2
      split at h
      · simp at h
      · rename_i h0
        rw [evp_alike (τ := τ) (fun x hx' => hx x.2 (by simp only [Op.operands]; exact List.mem_map_of_mem hx'))] at h
        obtain ⟨vs, h3, h⟩ := Option.bind_eq_some_iff.1 h
        obtain ⟨cs, h4, h⟩ := Option.bind_eq_some_iff.1 h
        injection h with h
        injection h with h5 h6
        simp only [h1, h2, h0, h3, h4, Option.bind_some]
        exact ⟨by rw [← h5]; rfl, h6.symm⟩
    · simp at h
  | slice t x lo hi mx =>
    simp only [Env.op] at h ⊢
    have hxx := hx x (by simp [Op.operands])
    have e1 : ∀ d, intOr σ d lo = intOr τ d lo := fun d => intOr_alike fun y hy => hx y (by simp [Op.operands, hy])
    have e2 : ∀ d, intOr σ d hi = intOr τ d hi := fun d => intOr_alike fun y hy => hx y (by simp [Op.operands, hy])
    have e3 : ∀ d, intOr σ d mx = intOr τ d mx := fun d => intOr_alike fun y hy => hx y (by simp [Op.operands, hy])
    rw [← hxx.1]
    split at h
    · rename_i e id p off n h1 h2
      rw [e1] at h
      simp only [e2, e3] at h
      rw [row_alike (hxx.2 _ h2 id ment_sl)] at h
      obtain ⟨l, g1, h⟩ := Option.bind_eq_some_iff.1 h
      obtain ⟨hh, g2, h⟩ := Option.bind_eq_some_iff.1 h
      obtain ⟨m, g3, h⟩ := Option.bind_eq_some_iff.1 h
      obtain ⟨⟨w1, e', xs⟩, g4, h⟩ := Option.bind_eq_some_iff.1 h
      simp only at h
      split at h
      · rename_i h6
        injection h with h
        injection h with h7 h8
        simp only [h1, h2, g1, g2, g3, g4, Option.bind_some]
        rw [if_pos h6]
        exact ⟨by rw [← h7], h8.symm⟩
      · simp at h
    · rename_i e h1 h2
      rw [e1] at h
      simp only [e2] at h
      obtain ⟨l, g1, h⟩ := Option.bind_eq_some_iff.1 h
      obtain ⟨hh, g2, h⟩ := Option.bind_eq_some_iff.1 h
      split at h
      · rename_i h6
        injection h with h
        injection h with h7 h8
        simp only [h1, h2, g1, g2, Option.bind_some]
        rw [if_pos h6]
        exact ⟨by rw [← h7], h8.symm⟩
      · simp at h
    · rename_i s h1 h2
      rw [e1] at h
      simp only [e2] at h
      obtain ⟨l, g1, h⟩ := Option.bind_eq_some_iff.1 h
      obtain ⟨hh, g2, h⟩ := Option.bind_eq_some_iff.1 h
      split at h
      · rename_i h6
        injection h with h
        injection h with h7 h8
        simp only [h1, h2, g1, g2, Option.bind_some]
        rw [if_pos h6]
        exact ⟨by rw [← h7], h8.symm⟩
      · simp at h
    · simp at h
  | index t x i =>
    simp only [Env.op] at h ⊢
    rw [← (hx x (by simp [Op.operands])).1, ← (hx i (by simp [Op.operands])).1]
    split at h
    · rename_i s k j h1 h2 h3
      split at h
      · rename_i h6
        injection h with h
        injection h with h7 h8
        try simp only [h1, h2, h3]
        rw [dif_pos h6]
        exact ⟨by rw [← h7], h8.symm⟩
      · simp at h
    · simp at h
  | makeFunc fn first cap =>
    cases fn with
    | func f =>
      simp only [Env.op] at h ⊢
      split at h
      · rename_i hf
        rw [evs_alike (τ := τ) (fun x hx' => hx x (by simp [Op.operands]; exact .inr (by simpa using hx')))] at h
        obtain ⟨vs, h3, h⟩ := Option.bind_eq_some_iff.1 h
        injection h with h
        injection h with h5 h6
        rw [if_pos hf, h3]
        exact ⟨by rw [← h5]; rfl, h6.symm⟩
      · simp at h
    | _ => simp [Env.op] at h
  | call c =>
    obtain ⟨callee, args, argTypes⟩ := c
    cases callee with
    | builtin b =>
      simp only [Env.op] at h ⊢
      rw [← evs_alike (σ := σ) (τ := τ) (fun x hx' => hx x (by simp [Op.operands, Call.operands]; simpa using hx'))]
      obtain ⟨vs, h3, h⟩ := Option.bind_eq_some_iff.1 h
      obtain ⟨⟨v, σ2⟩, h4, h⟩ := Option.bind_eq_some_iff.1 h
      injection h with h
      injection h with h5 h6
      obtain ⟨k1, k2⟩ := bltin_alike (τ := τ) (by simpa [isVal] using hv) h4
      rw [h3]
      simp only [Option.bind_some, k1]
      exact ⟨by rw [← h5], h6.symm.trans k2⟩
    | value x => simp [isVal] at hv
    | invoke x n => simp [isVal] at hv
  | _ => simp [isVal] at hv
end Go.Proofs.Ytbdidcfjaohglaa.VM

/- A call that writes nothing of ours: in another state that is alike where it looks. -/
namespace Go.Proofs.Ytbdidcfjaohglaa.VM
open Go Go.Proofs.YtbdidcfjaohglaaW.PrintWords
set_option linter.unusedVariables false
set_option linter.unusedSimpArgs false
set_option linter.constructorNameAsVariable false
variable {P : Program} {w w1 w2 w0 : World} {mine : Ctx} {o o1 o2 : OM} {loc loc1 loc2 : Nat → Value} {O R : Nat → List Nat} {σ σ1 σ2 σ' τ : St} {a : Act} {E : Env}

/-- Several new objects. -/
def insN (o N : OM) : OM := N.foldl (fun o x => ins o x.1 x.2) o
theorem insN_cons {x : Nat × Obj} {N : OM} : insN o (x :: N) = insN (ins o x.1 x.2) N := rfl
theorem insN_append {N1 N2 : OM} : insN o (N1 ++ N2) = insN (insN o N1) N2 := by unfold insN; rw [List.foldl_append]
theorem insN_out : ∀ {N : OM} {o : OM} {id : Nat}, (∀ x ∈ N, x.1 ≠ id) → lk (insN o N) id = lk o id
  | [], o, id, _ => rfl
  | x :: N, o, id, h => by
    rw [insN_cons, insN_out fun y hy => h y (by simp [hy]), lk_ins, if_neg (h x (by simp))]
theorem insN_in : ∀ {N : OM} {o : OM}, Srt N → ∀ x ∈ N, lk (insN o N) x.1 = some x.2
  | [], o, _, x, hx => by simp at hx
  | y :: N, o, hs, x, hx => by
    obtain ⟨h1, h2⟩ := List.pairwise_cons.1 hs
    rw [insN_cons]
    rcases List.mem_cons.1 hx with hx | hx
    · subst hx
      rw [insN_out fun z hz e => by have := h1 z hz; omega, lk_ins, if_pos rfl]
    · exact insN_in h2 x hx
theorem insN_srt : ∀ {N : OM} {o : OM}, Srt o → Srt (insN o N)
  | [], o, h => h
  | x :: N, o, h => insN_srt (N := N) (srt_ins o x.1 x.2 h)
/-- No objects from lo up to hi. -/
def Gap (σ : St) (lo hi : Nat) : Prop := ∀ j, lo ≤ j → j < hi → lk σ.o j = none
theorem new_gap {id : Nat} {ob : Obj} (h : lk σ.o id = none) : σ.new id ob = ⟨σ.t, ins σ.o id ob⟩ := by
  unfold St.new St.kill
  rw [h]
/-- What makes only new objects, from lo up to hi. -/
def Fresh {α : Type} (f : St → Option (α × St)) (lo hi : Nat) (x : α) (N : OM) : Prop := Srt N ∧ (∀ y ∈ N, lo ≤ y.1 ∧ y.1 < hi) ∧ ∀ τ, Gap τ lo hi → f τ = some (x, ⟨τ.t, insN τ.o N⟩)
theorem res1_fresh {id : Nat} {x : T} {y : C} (h : σ.res1 id x = some (y, σ')) : ∃ N, Fresh (fun τ => τ.res1 id x) id (id + 1) y N := by
  cases x with
  | v q =>
    simp only [St.res1, Option.some.injEq, Prod.mk.injEq] at h
    obtain ⟨rfl, rfl⟩ := h
    exact ⟨[], List.Pairwise.nil, fun y hy => by simp at hy, fun τ _ => rfl⟩
  | s e n xs =>
    simp only [St.res1, Option.some.injEq, Prod.mk.injEq] at h
    obtain ⟨rfl, rfl⟩ := h
    refine ⟨[(id, ⟨.own, e, xs⟩)], by simp [Srt], fun y hy => ?_, fun τ hτ => ?_⟩
    · simp at hy
      subst hy
      exact ⟨Nat.le_refl _, Nat.lt_succ_self _⟩
    · simp only [St.res1]
      rw [new_gap (hτ id (Nat.le_refl _) (Nat.lt_succ_self _))]
      rfl
  | _ => simp [St.res1] at h
theorem gap_more {N : OM} {lo mid hi : Nat} (hg : Gap τ lo hi) (hl : lo ≤ mid) (hN : ∀ y ∈ N, lo ≤ y.1 ∧ y.1 < mid) : Gap ⟨τ.t, insN τ.o N⟩ mid hi := fun j h1 h2 => by
  show lk (insN τ.o N) j = none
  rw [insN_out fun y hy e => by have := (hN y hy).2; omega]
  exact hg j (by omega) h2
theorem gap_left {lo mid hi : Nat} (hg : Gap τ lo hi) (hm : mid ≤ hi) : Gap τ lo mid := fun j h1 h2 => hg j h1 (by omega)
theorem srt_append {N1 N2 : OM} {lo mid hi : Nat} (h1 : Srt N1) (h2 : Srt N2) (k1 : ∀ y ∈ N1, lo ≤ y.1 ∧ y.1 < mid) (k2 : ∀ y ∈ N2, mid ≤ y.1 ∧ y.1 < hi) : Srt (N1 ++ N2) :=
  List.pairwise_append.2 ⟨h1, h2, fun a ha b hb => by have := (k1 a ha).2; have := (k2 b hb).1; omega⟩
theorem resCs_fresh : ∀ {xs : List T} {id id' : Nat} {ys : List C} {σ σ' : St}, σ.resCs id xs = some (ys, id', σ') → id' = id + xs.length ∧ ∃ N, Srt N ∧ (∀ y ∈ N, id ≤ y.1 ∧ y.1 < id') ∧ ∀ τ, Gap τ id id' → τ.resCs id xs = some (ys, id', ⟨τ.t, insN τ.o N⟩)
  | [], id, id', ys, σ, σ', h => by
    simp only [St.resCs, Option.some.injEq, Prod.mk.injEq] at h
    obtain ⟨rfl, rfl, rfl⟩ := h
    exact ⟨rfl, [], List.Pairwise.nil, fun y hy => by simp at hy, fun τ _ => rfl⟩
  | x :: xs, id, id', ys, σ, σ', h => by
    simp only [St.resCs] at h
    obtain ⟨⟨y, σ1⟩, h1, h⟩ := Option.bind_eq_some_iff.1 h
    obtain ⟨⟨ys', j, σ2⟩, h2, h⟩ := Option.bind_eq_some_iff.1 h
    simp only [Option.some.injEq, Prod.mk.injEq] at h
    obtain ⟨rfl, rfl, rfl⟩ := h
    obtain ⟨N1, n1, n2, n3⟩ := res1_fresh h1
    obtain ⟨rfl, N2, m1, m2, m3⟩ := resCs_fresh h2
    refine ⟨by simp; omega, N1 ++ N2, srt_append n1 m1 n2 m2, fun y hy => ?_, fun τ hτ => ?_⟩
    · rcases List.mem_append.1 hy with hy | hy
      · have := n2 y hy; omega
      · have := m2 y hy; omega
    · have g1 := n3 τ (gap_left hτ (by omega))
      have g2 := m3 ⟨τ.t, insN τ.o N1⟩ (gap_more hτ (Nat.le_succ _) n2)
      simp only at g1
      simp only [St.resCs, g1, Option.bind_some, g2]
      rw [insN_append]
theorem res_fresh {id id' : Nat} {x : A} {y : AV} (h : σ.res id x = some (y, id', σ')) : id' = id + x.cnt ∧ ∃ N, Srt N ∧ (∀ y ∈ N, id ≤ y.1 ∧ y.1 < id') ∧ ∀ τ, Gap τ id id' → τ.res id x = some (y, id', ⟨τ.t, insN τ.o N⟩) := by
  cases x with
  | c x =>
    simp only [St.res] at h
    obtain ⟨⟨y', σ1⟩, h1, h⟩ := Option.map_eq_some_iff.1 h
    simp only [Prod.mk.injEq] at h
    obtain ⟨rfl, rfl, rfl⟩ := h
    obtain ⟨N, n1, n2, n3⟩ := res1_fresh h1
    exact ⟨rfl, N, n1, n2, fun τ hτ => by have := n3 τ hτ; simp only at this; simp only [St.res, this, Option.map_some]⟩
  | agg xs =>
    simp only [St.res] at h
    obtain ⟨⟨ys, j, σ1⟩, h1, h⟩ := Option.map_eq_some_iff.1 h
    simp only [Prod.mk.injEq] at h
    obtain ⟨rfl, rfl, rfl⟩ := h
    obtain ⟨e, N, n1, n2, n3⟩ := resCs_fresh h1
    exact ⟨e, N, n1, n2, fun τ hτ => by have := n3 τ hτ; simp only [St.res, this, Option.map_some]⟩
  | box e xs =>
    simp only [St.res] at h
    split at h
    · rename_i hall
      simp only [Option.some.injEq, Prod.mk.injEq] at h
      obtain ⟨rfl, rfl, rfl⟩ := h
      refine ⟨rfl, [(id, ⟨.box, e, xs⟩)], by simp [Srt], fun y hy => ?_, fun τ hτ => ?_⟩
      · simp at hy
        subst hy
        exact ⟨Nat.le_refl _, Nat.lt_succ_self _⟩
      · simp only [St.res, hall, if_true]
        rw [new_gap (hτ id (Nat.le_refl _) (Nat.lt_succ_self _))]
        rfl
    · simp at h
  | fn f as => simp [St.res] at h
  | gone => simp [St.res] at h
theorem ress_fresh : ∀ {xs : List A} {id : Nat} {ys : List AV} {σ σ' : St}, σ.ress id xs = some (ys, σ') → ∃ N, Srt N ∧ (∀ y ∈ N, id ≤ y.1 ∧ y.1 < id + cnts xs) ∧ ∀ τ, Gap τ id (id + cnts xs) → τ.ress id xs = some (ys, ⟨τ.t, insN τ.o N⟩)
  | [], id, ys, σ, σ', h => by
    simp only [St.ress, Option.some.injEq, Prod.mk.injEq] at h
    obtain ⟨rfl, rfl⟩ := h
    exact ⟨[], List.Pairwise.nil, fun y hy => by simp at hy, fun τ _ => rfl⟩
  | x :: xs, id, ys, σ, σ', h => by
    simp only [St.ress] at h
    obtain ⟨⟨y, j, σ1⟩, h1, h⟩ := Option.bind_eq_some_iff.1 h
    obtain ⟨⟨ys', σ2⟩, h2, h⟩ := Option.bind_eq_some_iff.1 h
    simp only [Option.some.injEq, Prod.mk.injEq] at h
    obtain ⟨rfl, rfl⟩ := h
    obtain ⟨rfl, N1, n1, n2, n3⟩ := res_fresh h1
    obtain ⟨N2, m1, m2, m3⟩ := ress_fresh h2
    refine ⟨N1 ++ N2, srt_append n1 m1 n2 m2, fun y hy => ?_, fun τ hτ => ?_⟩
    · rw [cnts]
      rcases List.mem_append.1 hy with hy | hy
      · have := n2 y hy; omega
      · have := m2 y hy; simp only at this; omega
    · rw [cnts] at hτ
      have g1 := n3 τ (gap_left hτ (by omega))
      have g2 := m3 ⟨τ.t, insN τ.o N1⟩ (gap_more (mid := id + x.cnt) (by rw [Nat.add_assoc]; exact hτ) (Nat.le_add_right _ _) n2)
      simp only [St.ress, g1, Option.bind_some, g2]
      rw [insN_append]
/-! ### arguments -/
def roF (l : List Foot) : Prop := l.all (fun x => !x.1) = true
theorem roF_append {l m : List Foot} (h : roF (l ++ m)) : roF l ∧ roF m := by
  unfold roF at h ⊢
  rwa [List.all_append, Bool.and_eq_true] at h
/-- Two states are alike at what a value leads to. -/
def AlikeV (σ τ : St) (v : AV) : Prop := ∀ id, v.ment id → lk σ.o id = lk τ.o id
def AlikeC (σ τ : St) (v : C) : Prop := ∀ id, v.ment id → lk σ.o id = lk τ.o id
theorem argC_alike {own : Bool} {t : TypeId} {y : C} {x : T} (hf : roF (y.feet own)) (ha : AlikeC σ τ y) (h : σ.argC P own t y = some x) : τ.argC P own t y = some x ∧ ∀ z, (if own = true then σ.backC y z else some σ) = some σ ∧ (if own = true then τ.backC y z else some τ) = some τ := by
  cases y with
  | v q =>
    refine ⟨h, fun z => ?_⟩
    cases own <;> exact ⟨rfl, rfl⟩
  | z =>
    refine ⟨h, fun z => ?_⟩
    cases own <;> exact ⟨rfl, rfl⟩
  | sl id p off n =>
    cases own with
    | true => simp [roF, C.feet] at hf
    | false =>
      refine ⟨?_, fun z => ⟨rfl, rfl⟩⟩
      simp only [St.argC, St.rowE, St.argE, Bool.false_eq_true, if_false] at h ⊢
      rw [cells_alike (ha id (by simp [C.ment, C.mem]))] at h
      exact h
theorem argCs_alike {own : Bool} : ∀ {ts : List TypeId} {ys : List C} {xs : List T}, roF (csFeet own ys) → (∀ y ∈ ys, AlikeC σ τ y) → σ.argCs P own ts ys = some xs → τ.argCs P own ts ys = some xs ∧ ∀ zs σ1, (if own = true then σ.backCs ys zs else some σ) = some σ1 → σ1 = σ ∧ (if own = true then τ.backCs ys zs else some τ) = some τ
  | [], [], xs, hf, ha, h => by
    refine ⟨h, fun zs σ1 hb => ?_⟩
    cases own with
    | false => exact ⟨by simpa using hb.symm, rfl⟩
    | true =>
      cases zs with
      | nil =>
        simp only [if_true, St.backCs, Option.some.injEq] at hb
        exact ⟨hb.symm, rfl⟩
      | cons z zs => simp [St.backCs] at hb
  | t :: ts, y :: ys, xs, hf, ha, h => by
    simp only [St.argCs] at h ⊢
    obtain ⟨x, h1, h⟩ := Option.bind_eq_some_iff.1 h
    obtain ⟨xs', h2, h⟩ := Option.bind_eq_some_iff.1 h
    obtain ⟨f1, f2⟩ := roF_append hf
    obtain ⟨k1, k2⟩ := argC_alike f1 (ha y (by simp)) h1
    obtain ⟨j1, j2⟩ := argCs_alike f2 (fun z hz => ha z (by simp [hz])) h2
    refine ⟨by rw [k1, Option.bind_some, j1, Option.bind_some]; exact h, fun zs σ1 hb => ?_⟩
    cases own with
    | false => exact ⟨by simpa using hb.symm, rfl⟩
    | true =>
      cases zs with
      | nil => simp [St.backCs] at hb
      | cons z zs =>
        have q := k2 z
        simp only [if_true] at q hb ⊢
        simp only [St.backCs, q.1, q.2, Option.bind_some] at hb ⊢
        have := j2 zs σ1
        simp only [if_true] at this
        exact this hb
  | [], _ :: _, xs, hf, ha, h => by simp [St.argCs] at h
  | _ :: _, [], xs, hf, ha, h => by simp [St.argCs] at h
theorem argBox_none {own : Bool} {y : AV} {x : A} (hf : roF (σ.boxFeet own y)) (h : σ.argBox P own y = some x) : False := by
  unfold St.argBox at h
  split at h
  · rename_i id
    split at h
    · rename_i e xs hl
      simp [roF, St.boxFeet, hl] at hf
    · simp at h
  · simp at h
theorem arg_alike {own : Bool} {t : TypeId} {y : AV} {x : A} (hf : roF (σ.feet own y)) (ha : AlikeV σ τ y) (h : σ.arg P own t y = some x) : τ.arg P own t y = some x ∧ τ.feet own y = σ.feet own y ∧ ∀ z σ1, σ.back own y z = some σ1 → σ1 = σ ∧ τ.back own y z = some τ := by
  cases y with
  | c y =>
    simp only [St.arg] at h ⊢
    obtain ⟨q, h1, h⟩ := Option.map_eq_some_iff.1 h
    obtain ⟨k1, k2⟩ := argC_alike hf (fun id hm => ha id (by simpa [AV.ment, AV.mem, C.ment] using hm)) h1
    refine ⟨by rw [k1]; simpa using h, rfl, fun z σ1 hb => ?_⟩
    cases z with
    | c z =>
      have q := k2 z
      simp only [St.back] at hb ⊢
      rw [q.1] at hb
      injection hb with hb
      exact ⟨hb.symm, q.2⟩
    | _ => simp [St.back] at hb
  | agg ys =>
    simp only [St.arg] at h ⊢
    obtain ⟨q, h1, h⟩ := Option.map_eq_some_iff.1 h
    obtain ⟨k1, k2⟩ := argCs_alike hf (fun y hy id hm => ha id (by
      simp only [AV.ment, AV.mem, List.any_eq_true]
      exact ⟨y, hy, hm⟩)) h1
    refine ⟨by rw [k1]; simpa using h, rfl, fun z σ1 hb => ?_⟩
    cases z with
    | agg zs =>
      simp only [St.back] at hb ⊢
      exact k2 zs σ1 hb
    | _ => simp [St.back] at hb
  | fn f cs =>
    simp only [St.arg] at h ⊢
    obtain ⟨q, h1, h⟩ := Option.map_eq_some_iff.1 h
    cases cs with
    | nil =>
      refine ⟨by
        have hq : q = [] := by simpa [St.argBoxes] using h1.symm
        subst hq
        rw [← h]
        rfl, rfl, fun z σ1 hb => ?_⟩
      cases z with
      | fn g zs =>
        simp only [St.back] at hb ⊢
        cases zs with
        | nil =>
          simp only [St.backBs, Option.some.injEq] at hb ⊢
          exact ⟨hb.symm, trivial⟩
        | cons _ _ => simp [St.backBs] at hb
      | _ => simp [St.back] at hb
    | cons c cs =>
      simp only [St.argBoxes] at h1
      obtain ⟨x1, h2, h1⟩ := Option.bind_eq_some_iff.1 h1
      exact (argBox_none (roF_append hf).1 h2).elim
  | ptr id p off => exact (argBox_none (P := P) (σ := σ) (own := own) (y := .ptr id p off) hf h).elim
  | tup ys => exact (argBox_none (P := P) (σ := σ) (own := own) (y := .tup ys) hf h).elim
  | u => exact (argBox_none (P := P) (σ := σ) (own := own) (y := .u) hf h).elim
theorem args_alike {own : Nat → Bool} : ∀ {i : Nat} {ts : List TypeId} {ys : List AV} {xs : List A}, roF (σ.feets own i ys) → (∀ y ∈ ys, AlikeV σ τ y) → σ.args P own i ts ys = some xs → τ.args P own i ts ys = some xs ∧ τ.feets own i ys = σ.feets own i ys ∧ ∀ zs σ1, σ.backs own i ys zs = some σ1 → σ1 = σ ∧ τ.backs own i ys zs = some τ
  | i, [], [], xs, hf, ha, h => by
    refine ⟨h, rfl, fun zs σ1 hb => ?_⟩
    cases zs with
    | nil =>
      simp only [St.backs, Option.some.injEq] at hb ⊢
      exact ⟨hb.symm, trivial⟩
    | cons _ _ => simp [St.backs] at hb
  | i, t :: ts, y :: ys, xs, hf, ha, h => by
    simp only [St.args] at h ⊢
    obtain ⟨x, h1, h⟩ := Option.bind_eq_some_iff.1 h
    obtain ⟨xs', h2, h⟩ := Option.bind_eq_some_iff.1 h
    obtain ⟨f1, f2⟩ := roF_append hf
    obtain ⟨k1, k2, k3⟩ := arg_alike f1 (ha y (by simp)) h1
    obtain ⟨j1, j2, j3⟩ := args_alike f2 (fun z hz => ha z (by simp [hz])) h2
    refine ⟨by rw [k1, Option.bind_some, j1, Option.bind_some]; exact h, by rw [St.feets, St.feets, k2, j2], fun zs σ1 hb => ?_⟩
    cases zs with
    | nil => simp [St.backs] at hb
    | cons z zs =>
      simp only [St.backs] at hb ⊢
      obtain ⟨σ2, hb1, hb2⟩ := Option.bind_eq_some_iff.1 hb
      clear hb
      obtain ⟨rfl, g2⟩ := k3 z σ2 hb1
      rw [g2, Option.bind_some]
      exact j3 zs σ1 hb2
  | i, [], _ :: _, xs, hf, ha, h => by simp [St.args] at h
  | i, _ :: _, [], xs, hf, ha, h => by simp [St.args] at h
theorem gap_absent {d : Nat} (h : σ.absent d = true) : Gap σ (site d 0) (site (d + 1) 0) := fun j h1 h2 => by
  unfold St.absent at h
  cases hl : lk σ.o j with
  | none => rfl
  | some x =>
    have := List.all_eq_true.1 h _ (lk_mem hl)
    simp only [Bool.or_eq_true, decide_eq_true_eq] at this
    omega
theorem call_alike {run : FuncId → List A → Ans} {own : FuncId → Nat → Bool} {d : Nat} {f : FuncId} {ts : List TypeId} {vs : List AV} {av : AV} (h : σ.call P run own d f ts vs = some (av, σ')) (hf : roF (σ.feets (own f) 0 vs)) (hab : σ.absent d = true) :
    ∃ N, Srt N ∧ (∀ y ∈ N, site d 0 ≤ y.1 ∧ y.1 < site (d + 1) 0) ∧ σ' = ⟨σ.t, insN σ.o N⟩ ∧ ∀ τ, (∀ v ∈ vs, AlikeV σ τ v) → Gap τ (site d 0) (site (d + 1) 0) → τ.call P run own d f ts vs = some (av, ⟨τ.t, insN τ.o N⟩) := by
  unfold St.call at h
  split at h
  · simp at h
  · rename_i hap
    obtain ⟨as, h1, h⟩ := Option.bind_eq_some_iff.1 h
    obtain ⟨⟨rs, as'⟩, h2, h⟩ := Option.bind_eq_some_iff.1 h
    simp only at h
    split at h
    · simp at h
    · rename_i hcnt
      obtain ⟨σ1, h3, h⟩ := Option.bind_eq_some_iff.1 h
      obtain ⟨⟨ws, σ2⟩, h4, h⟩ := Option.bind_eq_some_iff.1 h
      have hlim : site d 0 + cnts rs ≤ site (d + 1) 0 := by unfold site; omega
      obtain ⟨_, _, k3⟩ := args_alike (τ := σ) hf (fun v _ id _ => rfl) h1
      obtain ⟨rfl, _⟩ := k3 as' σ1 h3
      obtain ⟨N, n1, n2, n3⟩ := ress_fresh h4
      have g := n3 σ1 (gap_left (gap_absent hab) hlim)
      rw [h4] at g
      simp only [Option.some.injEq, Prod.mk.injEq, true_and] at g
      subst g
      refine ⟨N, n1, fun y hy => by have := n2 y hy; omega, ?_, fun τ ha hg => ?_⟩
      · match ws, h with
        | [], h => simp only [Option.some.injEq, Prod.mk.injEq] at h; exact h.2.symm
        | [w], h => simp only [Option.some.injEq, Prod.mk.injEq] at h; exact h.2.symm
        | _ :: _ :: _, h => simp only [Option.some.injEq, Prod.mk.injEq] at h; exact h.2.symm
      · obtain ⟨j1, j2, j3⟩ := args_alike hf ha h1
        obtain ⟨_, j4⟩ := j3 as' _ h3
        unfold St.call
        rw [j2, if_neg hap, j1, Option.bind_some, h2, Option.bind_some]
        simp only
        rw [if_neg hcnt, j4, Option.bind_some, n3 τ (gap_left hg hlim), Option.bind_some]
        match ws, h with
        | [], h => simp only [Option.some.injEq, Prod.mk.injEq] at h ⊢; exact ⟨h.1, trivial⟩
        | [w], h => simp only [Option.some.injEq, Prod.mk.injEq] at h ⊢; exact ⟨h.1, trivial⟩
        | _ :: _ :: _, h => simp only [Option.some.injEq, Prod.mk.injEq] at h ⊢; exact ⟨h.1, trivial⟩
/-- An operation that is free: its value and its new objects, in every state that is alike where it looks. -/
theorem free_alike {d : Nat} {op : Op} (hfr : freeB op = true) (hf : E.free σ d op = true) {r : Option AV} (h : E.op σ d op = some (r, σ1)) :
    ∃ N, Srt N ∧ (∀ y ∈ N, (isVal op = false) ∧ site d 0 ≤ y.1 ∧ y.1 < site (d + 1) 0) ∧ σ1 = ⟨σ.t, insN σ.o N⟩ ∧ ∀ τ, (∀ x ∈ op.operands.toList, Alike σ τ x) → (isVal op = false → Gap τ (site d 0) (site (d + 1) 0)) → E.op τ d op = some (r, ⟨τ.t, insN τ.o N⟩) := by
  by_cases hv : isVal op = true
  · obtain ⟨_, rfl⟩ := val_alike (τ := σ) hv h (fun x _ => ⟨rfl, fun _ _ _ _ => rfl⟩)
    exact ⟨[], List.Pairwise.nil, fun y hy => by simp at hy, rfl, fun τ hx _ => (val_alike hv h hx).1⟩
  · have hv : isVal op = false := by simpa using hv
    cases op with
    | alloc t =>
      simp only [Env.op] at h
      obtain ⟨xs, h1, h⟩ := Option.bind_eq_some_iff.1 h
      simp only [Option.some.injEq, Prod.mk.injEq] at h
      obtain ⟨rfl, rfl⟩ := h
      have hg := gap_absent (show σ.absent d = true from hf)
      have hs : site d 0 < site (d + 1) 0 := by unfold site; omega
      refine ⟨[(site d 0, ⟨.box, t, xs⟩)], by simp [Srt], fun y hy => ?_, ?_, fun τ _ hgτ => ?_⟩
      · simp at hy
        subst hy
        exact ⟨rfl, Nat.le_refl _, hs⟩
      · rw [new_gap (hg _ (Nat.le_refl _) hs)]
        rfl
      · simp only [Env.op, h1, Option.bind_some]
        rw [new_gap (hgτ hv _ (Nat.le_refl _) hs)]
        rfl
    | call c =>
      obtain ⟨callee, args, argTypes⟩ := c
      cases callee with
      | builtin b =>
        simp only [freeB] at hfr
        have : isVal (.call ⟨.builtin b, args, argTypes⟩) = true := hfr
        rw [hv] at this
        simp at this
      | invoke x n => simp [freeB] at hfr
      | value x =>
        simp only [Env.op] at h
        obtain ⟨vs, h1, h⟩ := Option.bind_eq_some_iff.1 h
        split at h
        · rename_i f cs h2
          obtain ⟨⟨v, σ2⟩, h3, h⟩ := Option.bind_eq_some_iff.1 h
          simp only [Option.some.injEq, Prod.mk.injEq] at h
          obtain ⟨rfl, rfl⟩ := h
          simp only [Env.free, h1, h2, Bool.and_eq_true] at hf
          obtain ⟨N, n1, n2, n3, n4⟩ := call_alike h3 hf.2 hf.1
          refine ⟨N, n1, fun y hy => ⟨rfl, n2 y hy⟩, n3, fun τ hx hg => ?_⟩
          have e1 := evs_alike (σ := σ) (τ := τ) (l := args.toList) (fun y hy => hx y (by simp [Op.operands, Call.operands]; exact .inr (by simpa using hy)))
          have hxx := hx x (by simp [Op.operands, Call.operands])
          have hall : ∀ v ∈ vs ++ cs, AlikeV σ τ v := by
            intro v hv' id hm
            rcases List.mem_append.1 hv' with hv' | hv'
            · have key : ∀ {l : List Operand} {us : List AV}, σ.evs l = some us → v ∈ us → ∃ x ∈ l, σ.ev x = some v := by
                intro l
                induction l with
                | nil =>
                  intro us h hu
                  simp only [St.evs, Option.some.injEq] at h
                  subst h
                  simp at hu
                | cons x l ih =>
                  intro us h hu
                  simp only [St.evs] at h
                  obtain ⟨q, q1, h⟩ := Option.bind_eq_some_iff.1 h
                  obtain ⟨qs, q2, h⟩ := Option.bind_eq_some_iff.1 h
                  injection h with h
                  subst h
                  rcases List.mem_cons.1 hu with hu | hu
                  · subst hu
                    exact ⟨x, by simp, q1⟩
                  · obtain ⟨y, y1, y2⟩ := ih q2 hu
                    exact ⟨y, by simp [y1], y2⟩
              obtain ⟨y, y1, y2⟩ := key h1 hv'
              exact (hx y (by simp [Op.operands, Call.operands]; exact .inr (by simpa using y1))).2 v y2 id hm
            · refine hxx.2 _ h2 id ?_
              have : ∀ {l : List AV}, v ∈ l → AV.mem.mems (fun i _ => i == id) l = true := by
                intro l
                induction l with
                | nil => intro h; simp at h
                | cons x l ih =>
                  intro h
                  rw [AV.mem.mems, Bool.or_eq_true]
                  rcases List.mem_cons.1 h with h | h
                  · subst h; exact .inl hm
                  · exact .inr (ih h)
              show AV.mem _ (.fn f cs) = true
              rw [AV.mem]
              exact this hv'
          have g := n4 τ hall (hg hv)
          simp only [Env.op, ← e1, h1, Option.bind_some, ← hxx.1, h2]
          rw [g]
          rfl
        · simp at h
    | _ => simp [freeB, isVal] at hfr hv
end Go.Proofs.Ytbdidcfjaohglaa.VM

/- A region whose order is drawn goes as in order. -/
namespace Go.Proofs.Ytbdidcfjaohglaa.VM
open Go Go.Proofs.YtbdidcfjaohglaaW.PrintWords
set_option linter.unusedVariables false
set_option linter.unusedSimpArgs false
set_option linter.constructorNameAsVariable false
variable {P : Program} {w w1 w2 w0 : World} {mine : Ctx} {o o1 o2 : OM} {loc loc1 loc2 : Nat → Value} {O R : Nat → List Nat} {σ σ1 σ2 σ' τ : St} {a : Act} {E : Env}

/-! ### what a temporary mentions is there -/
theorem ment_C {x : C} {v : Value} {id : Nat} (h : RepC P w o loc x v) (hm : x.mem (fun i _ => i == id) = true) : ∃ ob, lk o id = some ob := by
  cases x with
  | sl i p off n =>
    simp [C.mem] at hm
    subst hm
    rw [RepC] at h
    obtain ⟨ob, _, _, hl, _⟩ := h
    exact ⟨ob, hl⟩
  | _ => simp [C.mem] at hm
theorem ment_Cs : ∀ {xs : List C} {vs : List Value} {id : Nat}, RepCs P w o loc xs vs → xs.any (·.mem fun i _ => i == id) = true → ∃ ob, lk o id = some ob
  | [], vs, id, h, hm => by simp at hm
  | x :: xs, vs, id, h, hm => by
    rw [RepCs] at h
    obtain ⟨u, us, rfl, h1, h2⟩ := h
    rw [List.any_cons, Bool.or_eq_true] at hm
    rcases hm with hm | hm
    · exact ment_C h1 hm
    · exact ment_Cs h2 hm
mutual
theorem ment_rep : ∀ {x : AV} {v : Value} {id : Nat}, RepAV P w o loc x v → x.ment id → ∃ ob, lk o id = some ob
  | .c x, v, id, h, hm => by rw [RepAV] at h; simp only [AV.ment, AV.mem] at hm; exact ment_C h hm
  | .agg xs, v, id, h, hm => by
    rw [RepAV] at h
    obtain ⟨us, rfl, h⟩ := h
    simp only [AV.ment, AV.mem] at hm
    exact ment_Cs h hm
  | .ptr i p off, v, id, h, hm => by
    simp [AV.ment, AV.mem] at hm
    subst hm
    rw [RepAV] at h
    obtain ⟨ob, _, _, _, _, hl, _⟩ := h
    exact ⟨ob, hl⟩
  | .tup xs, v, id, h, hm => by
    rw [RepAV] at h
    obtain ⟨us, rfl, h⟩ := h
    simp only [AV.ment, AV.mem] at hm
    exact ment_reps h hm
  | .fn f xs, v, id, h, hm => by
    rw [RepAV] at h
    obtain ⟨us, rfl, h⟩ := h
    simp only [AV.ment, AV.mem] at hm
    exact ment_reps h hm
  | .u, v, id, h, hm => by simp [AV.ment, AV.mem] at hm
theorem ment_reps : ∀ {xs : List AV} {vs : List Value} {id : Nat}, RepAVs P w o loc xs vs → AV.mem.mems (fun i _ => i == id) xs = true → ∃ ob, lk o id = some ob
  | [], vs, id, h, hm => by simp [AV.mem.mems] at hm
  | x :: xs, vs, id, h, hm => by
    rw [RepAVs] at h
    obtain ⟨u, us, rfl, h1, h2⟩ := h
    rw [AV.mem.mems, Bool.or_eq_true] at hm
    rcases hm with hm | hm
    · exact ment_rep h1 hm
    · exact ment_reps h2 hm
end
/-- Nothing that a temporary mentions is gone. -/
def Whole (σ : St) : Prop := ∀ t v, lk σ.t t = some v → ∀ id, v.ment id → ∃ ob, lk σ.o id = some ob
theorem Cor.whole (h : Cor P w0 mine σ a w loc O R) : Whole σ := fun t v hl id hm => ment_rep (h.tm t v hl) hm
/-! ### in order -/
theorem wp_some {x : Oper} {K : Act → World → Prop} (h : x.wp P a w K (fun _ _ _ => False)) : ∃ a' w', K a' w' := by
  unfold Oper.wp at h
  generalize (execOp a.eval x).run P w = r at h
  cases r with
  | ok n w' =>
    cases n with
    | value v => exact ⟨_, _, h⟩
    | skip => exact ⟨_, _, h⟩
    | defer d => exact ⟨_, _, h⟩
    | enter f args =>
      obtain ⟨e, w2, fr, hR, _⟩ := h []
      cases e with
      | returned v => exact ⟨_, _, hR⟩
      | panicked c => exact hR.elim
      | outgrown =>
        obtain ⟨_, _, hq⟩ := hR
        exact hq.elim
    | row r args =>
      obtain ⟨v, w2, hR, _⟩ := h default []
      exact ⟨_, _, hR⟩
    | _ => exact h.elim
  | halt x w' => cases x <;> exact h.elim
theorem oper_cor (hcalls : CallsOk E w0 mine) (h : Cor E.P w0 mine σ a w loc O R) (hn : a.tmps.size = E.n) {ops : Array Oper} {x : Oper} (ho : E.oper ops σ x = some σ1) : ∃ a' w' loc' O' R', Cor E.P w0 mine σ1 a' w' loc' O' R' ∧ a'.tmps.size = E.n := by
  have hs := oper_step hcalls h hn ho (K := fun a' w' => ∃ loc' O' R', Cor E.P w0 mine σ1 a' w' loc' O' R' ∧ a'.tmps.size = E.n) (Q := fun _ _ _ => False) (fun a' w' loc' O' R' hc hn' _ => ⟨loc', O', R', hc, hn'⟩)
  split at hs
  · rcases hs with hs | ⟨_, a1, w1, hq⟩
    · obtain ⟨a', w', loc', O', R', k⟩ := wp_some hs
      exact ⟨a', w', loc', O', R', k⟩
    · exact hq.elim
  · obtain ⟨loc', O', R', k⟩ := hs
    exact ⟨_, _, loc', O', R', k⟩
theorem operD_oper {ops : Array Oper} {x : Oper} (h : E.operD ops σ x = some σ1) : E.oper ops σ x = some σ1 := by
  unfold Env.operD at h
  split at h
  · obtain ⟨b, hb, h⟩ := Option.bind_eq_some_iff.1 h
    split at h
    · split at h
      · exact h
      · simp at h
    · exact h
  · exact h
theorem opersD_states {ops : Array Oper} : ∀ {l : List Oper} {σ σ1 : St}, E.opersD ops l σ = some σ1 → ∃ S : Nat → St, S 0 = σ ∧ S l.length = σ1 ∧ ∀ k x, l[k]? = some x → E.operD ops (S k) x = some (S (k + 1))
  | [], σ, σ1, h => by
    simp only [Env.opersD, Option.some.injEq] at h
    exact ⟨fun _ => σ, rfl, h, fun k x hx => by simp at hx⟩
  | x :: l, σ, σ1, h => by
    simp only [Env.opersD] at h
    obtain ⟨σ2, h1, h⟩ := Option.bind_eq_some_iff.1 h
    obtain ⟨S, s0, s1, s2⟩ := opersD_states h
    refine ⟨fun k => match k with | 0 => σ | k + 1 => S k, rfl, s1, fun k y hy => ?_⟩
    cases k with
    | zero =>
      simp at hy
      subst hy
      show E.operD ops σ x = some (S 0)
      rw [s0]
      exact h1
    | succ k => exact s2 k y (by simpa using hy)
theorem states_whole (hcalls : CallsOk E w0 mine) {ops : Array Oper} {S : Nat → St} (h : Cor E.P w0 mine (S 0) a w loc O R) (hn : a.tmps.size = E.n) (hS : ∀ k x, ops[k]? = some x → E.operD ops (S k) x = some (S (k + 1))) : ∀ k, k ≤ ops.size → ∃ a' w' loc' O' R', Cor E.P w0 mine (S k) a' w' loc' O' R' ∧ a'.tmps.size = E.n
  | 0, _ => ⟨a, w, loc, O, R, h, hn⟩
  | k + 1, hk => by
    obtain ⟨a', w', loc', O', R', h1, h2⟩ := states_whole hcalls h hn hS k (by omega)
    exact oper_cor hcalls h1 h2 (operD_oper (hS k _ (Array.getElem?_eq_getElem (by omega))))
/-! ### what one operation adds -/
/-- Alike where an operation of a region looks. -/
def AlikeO (ops : Array Oper) (σ τ : St) (x : Oper) : Prop := ∀ t ∈ x.looksAt ops, lk σ.t t = lk τ.t t ∧ ∀ v, lk σ.t t = some v → AlikeV σ τ v
theorem cOf_ment (v : Value) (id : Nat) : ¬ (cOf v).mem (fun i _ => i == id) = true := by
  unfold cOf
  split <;> simp [C.mem]
theorem AlikeO.operand {ops : Array Oper} {x : Oper} (h : AlikeO ops σ τ x) {y : Operand} (hy : y ∈ x.op.operands.toList) : Alike σ τ y := by
  cases y with
  | tmp t =>
    obtain ⟨h1, h2⟩ := h t (by
      unfold Oper.looksAt
      exact List.mem_append_left _ (List.mem_filterMap.2 ⟨_, hy, rfl⟩))
    exact ⟨h1, h2⟩
  | const v =>
    refine ⟨by cases v <;> rfl, fun u hu id hm => ?_⟩
    exfalso
    cases v with
    | agg cs =>
      simp only [St.ev] at hu
      split at hu
      · injection hu with hu
        subst hu
        simp only [AV.ment, AV.mem, List.any_eq_true] at hm
        obtain ⟨q, hq, hm⟩ := hm
        obtain ⟨v, _, rfl⟩ := List.mem_map.1 hq
        exact cOf_ment v id hm
      · simp at hu
    | tuple _ => simp [St.ev] at hu
    | _ =>
      simp only [St.ev, Option.some.injEq] at hu
      subst hu
      simp only [AV.ment, AV.mem] at hm
      exact cOf_ment _ id hm
  | func f =>
    refine ⟨rfl, fun u hu id hm => ?_⟩
    simp only [St.ev, Option.some.injEq] at hu
    subst hu
    simp [AV.ment, AV.mem, AV.mem.mems] at hm
  | global g => exact ⟨rfl, fun u hu => by simp [St.ev] at hu⟩
theorem want_alike {ops : Array Oper} {x : Oper} (h : AlikeO ops σ τ x) : σ.want ops x.guard = τ.want ops x.guard := by
  cases hg : x.guard with
  | none => rfl
  | some gb =>
    obtain ⟨g, b⟩ := gb
    unfold St.want
    simp only
    cases hd : (ops[g]?).bind (·.dst) with
    | none => rfl
    | some d =>
      have := (h d (by
        unfold Oper.looksAt
        refine List.mem_append_right _ ?_
        rw [hg]
        simp [hd])).1
      simp only [this]
/-- What an operation that is free adds: a value at its destination, new objects. -/
structure Adds (E : Env) (ops : Array Oper) (x : Oper) (σ σ1 : St) (v : AV) (N : OM) (g : Bool) : Prop where
  srt : Srt N
  keys : ∀ y ∈ N, g = true ∧ site (x.dst.getD 0) 0 ≤ y.1 ∧ y.1 < site (x.dst.getD 0 + 1) 0
  gap : g = true → Gap σ (site (x.dst.getD 0) 0) (site (x.dst.getD 0 + 1) 0) ∧ isVal x.op = false
  here : σ1 = (⟨σ.t, insN σ.o N⟩ : St).put x.dst v
  there : ∀ τ, AlikeO ops σ τ x → (g = true → Gap τ (site (x.dst.getD 0) 0) (site (x.dst.getD 0 + 1) 0)) → E.oper ops τ x = some ((⟨τ.t, insN τ.o N⟩ : St).put x.dst v)
theorem adds {ops : Array Oper} {x : Oper} (hf : freeB x.op = true) (h : E.operD ops σ x = some σ1) : ∃ v N g, Adds E ops x σ σ1 v N g := by
  unfold Env.operD at h
  rw [if_pos hf] at h
  obtain ⟨b, hb, h⟩ := Option.bind_eq_some_iff.1 h
  cases b with
  | false =>
    simp only [Bool.false_eq_true, if_false] at h
    unfold Env.oper at h
    split at h
    · rename_i hn
      rw [hb] at h
      simp only [Option.bind_some, Bool.false_eq_true, if_false, Option.some.injEq] at h
      refine ⟨.u, [], false, List.Pairwise.nil, fun y hy => by simp at hy, fun h => by simp at h, h.symm, fun τ ha _ => ?_⟩
      unfold Env.oper
      rw [if_pos hn, ← want_alike ha, hb]
      rfl
    · simp at h
  | true =>
    simp only [if_true] at h
    split at h
    · rename_i hfr
      unfold Env.oper at h
      split at h
      · rename_i hn
        rw [hb] at h
        simp only [Option.bind_some, if_true] at h
        obtain ⟨⟨r, σ2⟩, h1, h⟩ := Option.bind_eq_some_iff.1 h
        injection h with h
        obtain ⟨N, n1, n2, n3, n4⟩ := free_alike hf hfr h1
        refine ⟨r.getD .u, N, !isVal x.op, n1, fun y hy => by have := n2 y hy; simp [this.1]; omega, fun hg => ?_, by rw [← h, n3], fun τ ha hg => ?_⟩
        · have hv : isVal x.op = false := by simpa using hg
          refine ⟨?_, hv⟩
          have hab : σ.absent (x.dst.getD 0) = true := by
            cases hop : x.op with
            | alloc t => rw [hop] at hfr; exact hfr
            | call c =>
              rw [hop] at hfr hf hv
              obtain ⟨callee, args, argTypes⟩ := c
              cases callee with
              | value y =>
                simp only [Env.free, Bool.and_eq_true] at hfr
                exact hfr.1
              | builtin b =>
                have hf' : isVal (.call ⟨.builtin b, args, argTypes⟩) = true := hf
                rw [hv] at hf'
                simp at hf'
              | invoke y n => simp [freeB] at hf
            | _ => rw [hop] at hf hv; simp [freeB, isVal] at hf hv
          exact gap_absent hab
        · unfold Env.oper
          rw [if_pos hn, ← want_alike ha, hb]
          simp only [Option.bind_some, if_true]
          rw [n4 τ (fun y hy => ha.operand hy) (fun hv => hg (by simp [hv]))]
          rfl
      · simp at h
    · simp at h
theorem put_lk {d : Option Nat} {v : AV} {t : Nat} : lk (σ.put d v).t t = if d = some t then some v else lk σ.t t := by
  cases d with
  | none => rfl
  | some d =>
    show lk (ins σ.t d v) t = _
    rw [lk_ins]
    by_cases h : d = t
    · subst h; simp
    · rw [if_neg h, if_neg (fun e => h (by injection e))]
theorem put_o {d : Option Nat} {v : AV} : (σ.put d v).o = σ.o := by cases d <;> rfl
theorem srt_ext {α : Type} : ∀ {l m : List (Nat × α)}, Srt l → Srt m → (∀ k, lk l k = lk m k) → l = m
  | [], [], _, _, _ => rfl
  | [], (k, x) :: m, _, _, h => by have := h k; simp [lk] at this
  | (k, x) :: l, [], _, _, h => by have := h k; simp [lk] at this
  | (k, x) :: l, (j, y) :: m, h1, h2, h => by
    obtain ⟨a1, a2⟩ := List.pairwise_cons.1 h1
    obtain ⟨b1, b2⟩ := List.pairwise_cons.1 h2
    have hkj : k = j := by
      rcases Nat.lt_trichotomy k j with hlt | he | hlt
      · have hk := h k
        simp only [lk, if_true] at hk
        rw [if_neg (by omega)] at hk
        have := b1 _ (lk_mem hk.symm)
        simp at this
        omega
      · exact he
      · have hj := h j
        simp only [lk, if_true] at hj
        rw [if_neg (by omega)] at hj
        have := a1 _ (lk_mem hj)
        simp at this
        omega
    subst hkj
    have hx := h k
    simp only [lk, if_true, Option.some.injEq] at hx
    subst hx
    congr 1
    refine srt_ext a2 b2 fun i => ?_
    by_cases hi : k = i
    · subst hi
      have e1 : lk l k = none := by
        cases hl : lk l k with
        | none => rfl
        | some q => have := a1 _ (lk_mem hl); simp at this
      have e2 : lk m k = none := by
        cases hl : lk m k with
        | none => rfl
        | some q => have := b1 _ (lk_mem hl); simp at this
      rw [e1, e2]
    · have := h i
      simp only [lk] at this
      rwa [if_neg hi, if_neg hi] at this
end Go.Proofs.Ytbdidcfjaohglaa.VM

/- A region whose order is drawn goes as in order: all orders. -/
namespace Go.Proofs.Ytbdidcfjaohglaa.VM
open Go Go.Proofs.YtbdidcfjaohglaaW.PrintWords
set_option linter.unusedVariables false
set_option linter.unusedSimpArgs false
set_option linter.constructorNameAsVariable false
set_option linter.unusedSectionVars false
variable {P : Program} {w w1 w2 w0 : World} {mine : Ctx} {o o1 o2 : OM} {loc loc1 loc2 : Nat → Value} {O R : Nat → List Nat} {σ σ1 σ2 σ' τ : St} {a : Act} {E : Env}

def dstOf (ops : Array Oper) (k : Nat) : Option Nat := (ops[k]?).bind (·.dst)
theorem dstOf_of {ops : Array Oper} {k : Nat} {x : Oper} (h : ops[k]? = some x) : dstOf ops k = x.dst := by unfold dstOf; rw [h]; rfl
theorem lt_of {ops : Array Oper} {k : Nat} {x : Oper} (h : ops[k]? = some x) : k < ops.size := (Array.getElem?_eq_some_iff.1 h).1
/-! ### the static check -/
theorem ok_at {ops : Array Oper} (hok : regionOk ops = true) {y : Nat} {p : Oper} (hy : ops[y]? = some p) :
    (∀ e ∈ p.after, Region.binds .any e = true → e.on < y) ∧ (freeB p.op = true → (isVal p.op = true ∨ p.dst.isSome = true) ∧ ∀ x, x < y → isFree ops x = true → noBar ops x y = true → pairOk ops x y = true) ∧
    (freeB p.op = false → (∀ x, x < y → hasAfter p x = true ∨ (lateAt ops x = true ∧ covers ops p x = true)) ∧ ∀ z q, y < z → ops[z]? = some q → hasAfter q y = true) := by
  unfold regionOk at hok
  have h := List.all_eq_true.1 hok y (List.mem_range.2 (lt_of hy))
  rw [hy] at h
  simp only [Bool.and_eq_true] at h
  obtain ⟨⟨h1, _⟩, h3⟩ := h
  refine ⟨fun e he hb => ?_, fun hf => ?_, fun hf => ?_⟩
  · have := Array.all_eq_true_iff_forall_mem.1 h1 e he
    rw [hb] at this
    simpa using this
  · rw [if_pos hf] at h3
    simp only [Bool.and_eq_true, Bool.or_eq_true, List.all_eq_true, List.mem_range, Bool.not_eq_true'] at h3
    refine ⟨h3.1, fun x hx hx1 hx2 => ?_⟩
    have := h3.2 x hx
    rw [hx1, hx2] at this
    simpa using this
  · rw [if_neg (by rw [hf]; simp)] at h3
    simp only [Bool.and_eq_true, List.all_eq_true, List.mem_range, Bool.or_eq_true, Bool.not_eq_true', decide_eq_false_iff_not] at h3
    refine ⟨h3.1, fun z q hz hq => ?_⟩
    have := h3.2 z (lt_of hq)
    rw [hq] at this
    rcases this with this | this
    · exact absurd hz this
    · exact this
theorem no_select {ops : Array Oper} (hok : regionOk ops = true) (j : Nat) (o : Oper) (cs : Array SelectCase) (b : Bool) (ho : ops[j]? = some o) : o.op ≠ .select cs b := by
  intro e
  unfold regionOk at hok
  have h := List.all_eq_true.1 hok j (List.mem_range.2 (lt_of ho))
  rw [ho] at h
  simp [e] at h
theorem late_at {ops : Array Oper} {x : Nat} {o : Oper} (hx : ops[x]? = some o) (h : lateAt ops x = true) : isLate o = true ∧ ∀ (j : Nat) (q : Oper), ops[j]? = some q → j ≠ x → hasAfter o j = false → (∀ e ∈ q.after, Region.binds .any e = true → e.on ≠ x) → o.apart ops q = true := by
  unfold lateAt at h
  rw [hx] at h
  simp only [Bool.and_eq_true] at h
  refine ⟨h.1, fun j q hj hne hna hno => ?_⟩
  have := List.all_eq_true.1 h.2 j (List.mem_range.2 (lt_of hj))
  rw [hj, hna] at this
  simp only [Bool.or_eq_true, beq_iff_eq, hne, false_or, Bool.false_eq_true] at this
  rcases this with h1 | h1
  · unfold hasAfter at h1
    obtain ⟨e, he, hb⟩ := Array.any_eq_true'.1 h1
    simp only [Bool.and_eq_true, beq_iff_eq] at hb
    exact absurd hb.2 (hno e he hb.1)
  · exact h1
/-- Its value, in every memory. -/
theorem late_yields (h : Cor E.P w0 mine τ a w loc O R) (hn : a.tmps.size = E.n) {ops : Array Oper} {x : Oper} (hl : isLate x = true) (ho : E.oper ops τ x = some σ') : ∃ v, Yields E.P ops x v a ∧ Cor E.P w0 mine σ' (a.put x.dst v) w loc O R := by
  unfold isLate at hl
  rw [Bool.and_eq_true] at hl
  obtain ⟨hg, hop⟩ := hl
  split at hop
  · rename_i t i hxo
    have hg : x.guard = none := by simpa using hg
    unfold Env.oper at ho
    split at ho
    · rename_i hd
      rw [show τ.want ops x.guard = some true by rw [hg]; rfl] at ho
      simp only [Option.bind_some, if_pos] at ho
      rw [hxo] at ho
      simp only [Env.op] at ho
      cases hv : τ.ev (.tmp t) with
      | none => rw [hv] at ho; simp at ho
      | some av =>
        rw [hv] at ho
        cases av with
        | tup vs =>
          simp only at ho
          cases hp : vs[i]? with
          | none => rw [hp] at ho; simp at ho
          | some p =>
            rw [hp] at ho
            simp only [Option.bind_some, Option.some.injEq, Option.getD_some] at ho
            subst ho
            have hr := rep_ev h.tm hv
            rw [RepAV] at hr
            obtain ⟨us, he, hr⟩ := hr
            obtain ⟨u, hu, hrep⟩ := repAVs_get hr hp
            refine ⟨u, .inl ⟨by unfold Region.wanted; rw [hg], fun w => ?_⟩, ?_⟩
            · unfold execOp
              rw [hxo]
              simp [he, Instr.extract, hu]
            · cases hdst : x.dst with
              | none => exact h
              | some d =>
                rw [hdst] at hd
                exact h.put (by rw [hn]; exact hd) hrep
        | _ => simp at ho
    · simp at ho
  · simp at hop
theorem free_of {ops : Array Oper} {k : Nat} {x : Oper} (h : ops[k]? = some x) : isFree ops k = freeB x.op := by unfold isFree; rw [h]
theorem noBar_of {ops : Array Oper} {x y : Nat} (h : ∀ z, x < z → z < y → isFree ops z = true) : noBar ops x y = true := by
  unfold noBar
  rw [List.all_eq_true]
  intro z hz
  rw [List.mem_range] at hz
  by_cases hxz : x < z
  · simp [h z hxz hz]
  · simp [hxz]
theorem pair_of {ops : Array Oper} (hok : regionOk ops = true) {x y : Nat} {o p : Oper} (hx : ops[x]? = some o) (hy : ops[y]? = some p) (hlt : x < y) (hf : ∀ z, x ≤ z → z ≤ y → isFree ops z = true) :
    (∀ d, o.dst = some d → p.dst ≠ some d) ∧ (hasAfter p x = true ∨ o.apart ops p = true) := by
  have hfy := hf y (by omega) (Nat.le_refl _)
  rw [free_of hy] at hfy
  have := ((ok_at hok hy).2.1 hfy).2 x hlt (hf x (Nat.le_refl _) (by omega)) (noBar_of fun z h1 h2 => hf z (by omega) (by omega))
  unfold pairOk at this
  rw [hx, hy] at this
  simp only [Bool.and_eq_true, Bool.or_eq_true] at this
  refine ⟨fun d hd hd' => ?_, this.2⟩
  rw [hd, hd'] at this
  simp at this
/-! ### some of a region is done -/
section
variable {ops : Array Oper} {S : Nat → St} {v : Nat → AV} {N : Nat → OM} {g : Nat → Bool}
/-- From b on, what of D is done has added its own. -/
structure Some (ops : Array Oper) (S : Nat → St) (v : Nat → AV) (N : Nat → OM) (b : Nat) (D : Nat → Prop) (τ : St) : Prop where
  t1 : ∀ k, b ≤ k → D k → ∀ d, dstOf ops k = some d → lk τ.t d = some (v k)
  t2 : ∀ t, (∀ k, b ≤ k → D k → dstOf ops k ≠ some t) → lk τ.t t = lk (S b).t t
  o1 : ∀ k, b ≤ k → D k → ∀ y ∈ N k, lk τ.o y.1 = some y.2
  o2 : ∀ id, (∀ k, b ≤ k → D k → ∀ y ∈ N k, y.1 ≠ id) → lk τ.o id = lk (S b).o id
theorem site_apart {d e i : Nat} (hne : d ≠ e) (h1 : site d 0 ≤ i ∧ i < site (d + 1) 0) (h2 : site e 0 ≤ i ∧ i < site (e + 1) 0) : False := by
  unfold site at h1 h2
  omega
variable (hok : regionOk ops = true) (hA : ∀ k x, ops[k]? = some x → freeB x.op = true → Adds E ops x (S k) (S (k + 1)) (v k) (N k) (g k))
include hok hA
theorem keys_apart {x y : Nat} {o p : Oper} (hx : ops[x]? = some o) (hy : ops[y]? = some p) (hfx : freeB o.op = true) (hfy : freeB p.op = true) (hd : ∀ d, o.dst = some d → p.dst ≠ some d) {i : Nat} {z : Nat × Obj} (hz : z ∈ N x) (hi : z.1 = i) (h2 : site (p.dst.getD 0) 0 ≤ i ∧ i < site (p.dst.getD 0 + 1) 0) (hv : isVal p.op = false) : False := by
  have k1 := (hA x o hx hfx).keys z hz
  have hvx := ((hA x o hx hfx).gap k1.1).2
  have d1 := ((ok_at hok hx).2.1 hfx).1
  have d2 := ((ok_at hok hy).2.1 hfy).1
  rw [hvx] at d1
  rw [hv] at d2
  simp only [Bool.false_eq_true, false_or] at d1 d2
  obtain ⟨d, hd1⟩ := Option.isSome_iff_exists.1 d1
  obtain ⟨e, he⟩ := Option.isSome_iff_exists.1 d2
  rw [hd1] at k1
  rw [he] at h2
  simp only [Option.getD_some] at k1 h2
  exact site_apart (fun e' : d = e => hd d hd1 (by rw [he, e'])) (by omega) h2
/-- Two of a segment. -/
theorem two {x y : Nat} {o p : Oper} (hx : ops[x]? = some o) (hy : ops[y]? = some p) (hne : x ≠ y) (hf : ∀ z, min x y ≤ z → z ≤ max x y → isFree ops z = true) : ∀ d, o.dst = some d → p.dst ≠ some d := by
  rcases Nat.lt_or_ge x y with h | h
  · exact (pair_of hok hx hy h fun z h1 h2 => hf z (by omega) (by omega)).1
  · intro d h1 h2
    exact (pair_of hok hy hx (by omega) fun z h1 h2 => hf z (by omega) (by omega)).1 d h2 h1
theorem Some.step {b x : Nat} {D : Nat → Prop} {o : Oper} (h : Some ops S v N b D τ) (hx : ops[x]? = some o) (hb : b ≤ x) (hfx : freeB o.op = true) (hD : ¬ D x) (hlt : ∀ k, D k → k < ops.size) (hseg : ∀ k, b ≤ k → D k → ∀ z, min k x ≤ z → z ≤ max k x → isFree ops z = true) :
    Some ops S v N b (fun k => D k ∨ k = x) ((⟨τ.t, insN τ.o (N x)⟩ : St).put o.dst (v x)) := by
  have hop : ∀ k, D k → ∃ p, ops[k]? = some p := fun k hk => ⟨ops[k]'(hlt k hk), Array.getElem?_eq_getElem (hlt k hk)⟩
  have hdd : ∀ k, b ≤ k → D k → ∀ d, dstOf ops k = some d → o.dst ≠ some d := fun k hb hk d h1 h2 => by
    obtain ⟨p, hp⟩ := hop k hk
    rw [dstOf_of hp] at h1
    exact two hok hA hp hx (fun e => hD (e ▸ hk)) (hseg k hb hk) d h1 h2
  have hap : ∀ k, b ≤ k → D k → ∀ y ∈ N k, ∀ z ∈ N x, z.1 ≠ y.1 := fun k hb hk y hy z hz e => by
    obtain ⟨p, hp⟩ := hop k hk
    have hfk : freeB p.op = true := by
      have := hseg k hb hk k (by omega) (by omega)
      rwa [free_of hp] at this
    have kz := (hA x o hx hfx).keys z hz
    exact keys_apart hok hA hp hx hfk hfx (two hok hA hp hx (fun e => hD (e ▸ hk)) (hseg k hb hk)) hy e.symm kz.2 ((hA x o hx hfx).gap kz.1).2
  refine ⟨fun k hbk hk d hd => ?_, fun t ht => ?_, fun k hbk hk y hy => ?_, fun id hid => ?_⟩
  · rw [put_lk]
    rcases hk with hk | rfl
    · rw [if_neg (hdd k hbk hk d hd)]
      exact h.t1 k hbk hk d hd
    · rw [dstOf_of hx] at hd
      rw [if_pos hd]
  · rw [put_lk, if_neg (by have := ht x hb (.inr rfl); rwa [dstOf_of hx] at this)]
    exact h.t2 t fun k hbk hk => ht k hbk (.inl hk)
  · rw [put_o]
    show lk (insN τ.o (N x)) y.1 = some y.2
    rcases hk with hk | rfl
    · rw [insN_out fun z hz => hap k hbk hk y hy z hz]
      exact h.o1 k hbk hk y hy
    · exact insN_in (hA k o hx hfx).srt y hy
  · rw [put_o]
    show lk (insN τ.o (N x)) id = _
    rw [insN_out fun z hz => hid x hb (.inr rfl) z hz]
    exact h.o2 id fun k hbk hk => hid k hbk (.inl hk)
/-- In order. -/
theorem some_order {b : Nat} : ∀ {k : Nat}, b ≤ k → k ≤ ops.size → (∀ z, b ≤ z → z < k → isFree ops z = true) → Some ops S v N b (fun j => j < k) (S k) := by
  intro k hbk
  induction k with
  | zero =>
    intro _ _
    have : b = 0 := by omega
    subst this
    exact ⟨fun k _ hk => by omega, fun _ _ => rfl, fun k _ hk => by omega, fun _ _ => rfl⟩
  | succ k ih =>
    intro hk hf
    by_cases hb : b = k + 1
    · subst hb
      exact ⟨fun j hj hj' => by omega, fun _ _ => rfl, fun j hj hj' => by omega, fun _ _ => rfl⟩
    · have hb' : b ≤ k := by omega
      have h1 := ih hb' (by omega) (fun z h1 h2 => hf z h1 (by omega))
      have hx : ops[k]? = some ops[k] := Array.getElem?_eq_getElem (by omega)
      have hfx : freeB ops[k].op = true := by have := hf k hb' (by omega); rwa [free_of hx] at this
      have h2 := h1.step hok hA hx hb' hfx (by omega) (fun j hj => by omega) (fun j hbj hj z h1 h2 => hf z (by omega) (by omega))
      rw [← (hA k _ hx hfx).here] at h2
      have e : (fun j => j < k ∨ j = k) = fun j => j < k + 1 := by funext j; exact propext ⟨fun h => by omega, fun h => by omega⟩
      rw [e] at h2
      exact h2
/-- An operation that is ready finds what it looks at as in order. -/
theorem some_alike {b x : Nat} {D : Nat → Prop} {o : Oper} (h : Some ops S v N b D τ) (hx : ops[x]? = some o) (hb : b ≤ x) (hfx : freeB o.op = true) (hD : ¬ D x) (hlt : ∀ k, D k → k < ops.size) (hseg : ∀ k, b ≤ k → D k → ∀ z, min k x ≤ z → z ≤ max k x → isFree ops z = true) (hsx : ∀ z, b ≤ z → z < x → isFree ops z = true)
    (hready : ∀ k, hasAfter o k = true → D k) (hclosed : ∀ k p, D k → ops[k]? = some p → ∀ j, hasAfter p j = true → D j) (hw : Whole (S x)) (hwτ : Whole τ) :
    AlikeO ops (S x) τ o ∧ (g x = true → Gap τ (site (o.dst.getD 0) 0) (site (o.dst.getD 0 + 1) 0)) := by
  have hs := some_order hok hA hb (by have := lt_of hx; omega) hsx
  have hop : ∀ k, k < ops.size → ∃ p, ops[k]? = some p := fun k hk => ⟨ops[k], Array.getElem?_eq_getElem hk⟩
  -- an operation that is done, or comes ahead, at one looked at
  have look : ∀ k, b ≤ k → (D k ∨ k < x) → ∀ t, t ∈ o.looksAt ops → dstOf ops k = some t → D k ∧ k < x := by
    intro k hbk hk t ht hd
    have hkn : k < ops.size := by
      rcases hk with hk | hk
      · exact hlt k hk
      · have := lt_of hx; omega
    obtain ⟨p, hp⟩ := hop k hkn
    rw [dstOf_of hp] at hd
    have hne : k ≠ x := fun e => by
      subst e
      rcases hk with hk | hk
      · exact hD hk
      · omega
    rcases Nat.lt_or_ge k x with hlt' | hge
    · rcases (pair_of hok hp hx hlt' (fun z h1 h2 => by
        rcases Nat.lt_or_ge z x with h3 | h3
        · exact hsx z (by omega) h3
        · have : z = x := by omega
          subst this
          rw [free_of hx]
          exact hfx)).2 with h1 | h1
      · exact ⟨hready k h1, hlt'⟩
      · exact absurd ht ((Oper.apart_spec h1).1 t hd)
    · have hDk : D k := hk.resolve_right (by omega)
      rcases (pair_of hok hx hp (by omega) (fun z h1 h2 => hseg k hbk hDk z (by omega) (by omega))).2 with h1 | h1
      · exact absurd (hclosed k p hDk hp x h1) hD
      · exact absurd ht ((Oper.apart_spec h1).2.2 t hd)
  -- new objects' keys
  have nokey : ∀ k p, b ≤ k → (∀ z, b ≤ z → z ≤ k → isFree ops z = true) → ops[k]? = some p → ∀ y ∈ N k, lk (S b).o y.1 = none := by
    intro k p hbk hfk hp y hy
    have hfp : freeB p.op = true := by have := hfk k hbk (Nat.le_refl _); rwa [free_of hp] at this
    have ky := (hA k p hp hfp).keys y hy
    have hg := (hA k p hp hfp).gap ky.1
    have hsk := some_order hok hA hbk (by have := lt_of hp; omega) (fun z h1 h2 => hfk z h1 (by omega))
    rw [← hsk.o2 y.1 fun j hbj hj z hz e => ?_]
    · exact hg.1 y.1 ky.2.1 ky.2.2
    · obtain ⟨q, hq⟩ := hop j (by have := lt_of hp; omega)
      have hfq : freeB q.op = true := by have := hfk j hbj (by omega); rwa [free_of hq] at this
      exact keys_apart hok hA hq hp hfq hfp (two hok hA hq hp (by omega) (fun z h1 h2 => hfk z (by omega) (by omega))) hz e ky.2 hg.2
  have hobj : ∀ id, (∃ ob, lk (S x).o id = some ob) → (∃ ob, lk τ.o id = some ob) → lk (S x).o id = lk τ.o id := by
    intro id h1 h2
    by_cases hk : ∃ k, b ≤ k ∧ k < x ∧ ∃ y ∈ N k, y.1 = id
    · obtain ⟨k, hbk, hkx, y, hy, rfl⟩ := hk
      rw [hs.o1 k hbk hkx y hy]
      by_cases hDk : D k
      · rw [h.o1 k hbk hDk y hy]
      · exfalso
        obtain ⟨p, hp⟩ := hop k (by have := lt_of hx; omega)
        have hn := nokey k p hbk (fun z h1 h2 => hsx z h1 (by omega)) hp y hy
        by_cases hj : ∃ j, b ≤ j ∧ D j ∧ ∃ z ∈ N j, z.1 = y.1
        · obtain ⟨j, hbj, hDj, z, hz, e⟩ := hj
          obtain ⟨q, hq⟩ := hop j (hlt j hDj)
          have hfq : freeB q.op = true := by have := hseg j hbj hDj j (by omega) (by omega); rwa [free_of hq] at this
          have hfp : freeB p.op = true := by have := hsx k hbk hkx; rwa [free_of hp] at this
          have ky := (hA k p hp hfp).keys y hy
          refine keys_apart hok hA hq hp hfq hfp (two hok hA hq hp (fun e => hDk (e ▸ hDj)) fun z h1 h2 => ?_) hz e ky.2 ((hA k p hp hfp).gap ky.1).2
          rcases Nat.lt_or_ge z x with h3 | h3
          · exact hsx z (by omega) h3
          · exact hseg j hbj hDj z (by omega) (by omega)
        · obtain ⟨ob, h2⟩ := h2
          rw [h.o2 y.1 fun j hbj hDj z hz e => hj ⟨j, hbj, hDj, z, hz, e⟩, hn] at h2
          simp at h2
    · have e1 := hs.o2 id fun k hbk hkx y hy e => hk ⟨k, hbk, hkx, y, hy, e⟩
      rw [e1]
      by_cases hj : ∃ j, b ≤ j ∧ D j ∧ ∃ z ∈ N j, z.1 = id
      · exfalso
        obtain ⟨j, hbj, hDj, z, hz, rfl⟩ := hj
        obtain ⟨q, hq⟩ := hop j (hlt j hDj)
        obtain ⟨ob, h1⟩ := h1
        rw [e1, nokey j q hbj (fun z h1 h2 => by
          rcases Nat.lt_or_ge z x with h3 | h3
          · exact hsx z h1 h3
          · exact hseg j hbj hDj z (by omega) (by omega)) hq z hz] at h1
        simp at h1
      · rw [h.o2 id fun j hbj hDj z hz e => hj ⟨j, hbj, hDj, z, hz, e⟩]
  refine ⟨fun t ht => ?_, fun hg => ?_⟩
  · have et : lk (S x).t t = lk τ.t t := by
      by_cases hk : ∃ k, b ≤ k ∧ D k ∧ k < x ∧ dstOf ops k = some t
      · obtain ⟨k, hbk, hDk, hkx, hd⟩ := hk
        rw [hs.t1 k hbk hkx t hd, h.t1 k hbk hDk t hd]
      · rw [hs.t2 t fun k hbk hkx hd => hk ⟨k, hbk, (look k hbk (.inr hkx) t ht hd).1, hkx, hd⟩, h.t2 t fun k hbk hDk hd => hk ⟨k, hbk, hDk, (look k hbk (.inl hDk) t ht hd).2, hd⟩]
    exact ⟨et, fun u hu id hm => hobj id (hw t u hu id hm) (hwτ t u (by rw [← et]; exact hu) id hm)⟩
  · have ha := (hA x o hx hfx).gap hg
    intro i h1 h2
    have e0 := ha.1 i h1 h2
    have e1 : lk (S b).o i = none := by
      rw [← hs.o2 i fun k hbk hkx y hy e => ?_]
      · exact e0
      · obtain ⟨q, hq⟩ := hop k (by have := lt_of hx; omega)
        have hfq : freeB q.op = true := by have := hsx k hbk hkx; rwa [free_of hq] at this
        exact keys_apart hok hA hq hx hfq hfx (two hok hA hq hx (by omega) (fun z h1 h2 => by
          rcases Nat.lt_or_ge z x with h3 | h3
          · exact hsx z (by omega) h3
          · have : z = x := by omega
            subst this
            rw [free_of hx]; exact hfx)) hy e ⟨h1, h2⟩ ha.2
    rw [h.o2 i fun k hbk hDk y hy e => ?_]
    · exact e1
    · obtain ⟨q, hq⟩ := hop k (hlt k hDk)
      have hfq : freeB q.op = true := by have := hseg k hbk hDk k (by omega) (by omega); rwa [free_of hq] at this
      exact keys_apart hok hA hq hx hfq hfx (two hok hA hq hx (fun e => hD (e ▸ hDk)) (hseg k hbk hDk)) hy e ⟨h1, h2⟩ ha.2
end
end Go.Proofs.Ytbdidcfjaohglaa.VM

/- A region whose order is drawn: the machine's word. -/
namespace Go.Proofs.Ytbdidcfjaohglaa.VM
open Go Go.Proofs.YtbdidcfjaohglaaW.PrintWords
set_option linter.unusedVariables false
set_option linter.unusedSimpArgs false
set_option linter.constructorNameAsVariable false
variable {P : Program} {w w1 w2 w0 : World} {mine : Ctx} {o o1 o2 : OM} {loc loc1 loc2 : Nat → Value} {O R : Nat → List Nat} {σ σ1 σ2 σ' τ : St} {a : Act} {E : Env}

/-- What is listed. -/
def Lst (listed : Array Bool) (k : Nat) : Prop := listed.getD k false = true
theorem lst_lt {listed : Array Bool} {k : Nat} (h : Lst listed k) : k < listed.size := by
  unfold Lst at h
  rcases Nat.lt_or_ge k listed.size with h' | h'
  · exact h'
  · simp [Array.getElem?_eq_none h'] at h
theorem lst_not {listed : Array Bool} {k : Nat} (hk : k < listed.size) (h : ¬ Lst listed k) : listed.getD k true = false := by
  unfold Lst at h
  simp [hk] at h ⊢
  exact h
theorem not_lst {listed : Array Bool} {k : Nat} (h : listed.getD k true = false) : ¬ Lst listed k := by
  intro h'
  have hk := lst_lt h'
  unfold Lst at h'
  simp [hk] at h h'
  rw [h] at h'
  simp at h'
theorem lst_set {listed : Array Bool} {i k : Nat} (hi : i < listed.size) : Lst (listed.setIfInBounds i true) k ↔ Lst listed k ∨ k = i := by
  unfold Lst
  by_cases h : i = k
  · subst h
    simp [hi]
  · rw [getD_set_ne false h]
    exact ⟨.inl, fun h' => h'.resolve_right (fun e => h e.symm)⟩
theorem after_of {p : Oper} {j : Nat} (h : hasAfter p j = true) : ∃ e ∈ p.after, Region.binds .any e = true ∧ e.on = j := by
  unfold hasAfter at h
  obtain ⟨e, he, hb⟩ := Array.any_eq_true'.1 h
  simp only [Bool.and_eq_true, beq_iff_eq] at hb
  exact ⟨e, he, hb.1, hb.2⟩
theorem draws_sound (hcalls : CallsOk E w0 mine) (hm : E.P.follows .mixedOrders = true) : DrawsOk E w0 mine := by
  intro rid ops σ σ1 a w loc O R Q h hn hok ho hQ
  obtain ⟨S, s0, s1, hS'⟩ := opersD_states ho
  have hS : ∀ k x, ops[k]? = some x → E.operD ops (S k) x = some (S (k + 1)) := fun k x hx => hS' k x (by simpa using hx)
  rw [Array.length_toList] at s1
  have hst : ∀ k, k ≤ ops.size → ∃ a' w' loc' O' R', Cor E.P w0 mine (S k) a' w' loc' O' R' ∧ a'.tmps.size = E.n := states_whole hcalls (by rw [s0]; exact h) hn hS
  -- what each adds
  have hex : ∀ k, ∃ c : AV × OM × Bool, ∀ x, ops[k]? = some x → freeB x.op = true → Adds E ops x (S k) (S (k + 1)) c.1 c.2.1 c.2.2 := by
    intro k
    by_cases hk : ∃ x, ops[k]? = some x ∧ freeB x.op = true
    · obtain ⟨x, hx, hf⟩ := hk
      obtain ⟨v, N, g, hA⟩ := adds hf (hS k x hx)
      refine ⟨(v, N, g), fun y hy _ => ?_⟩
      rw [hx] at hy
      injection hy with hy
      subst hy
      exact hA
    · exact ⟨(.u, [], false), fun x hx hf => absurd ⟨x, hx, hf⟩ hk⟩
  obtain ⟨v, N, g, hA⟩ : ∃ (v : Nat → AV) (N : Nat → OM) (g : Nat → Bool), ∀ k x, ops[k]? = some x → freeB x.op = true → Adds E ops x (S k) (S (k + 1)) (v k) (N k) (g k) :=
    ⟨fun k => (Classical.choose (hex k)).1, fun k => (Classical.choose (hex k)).2.1, fun k => (Classical.choose (hex k)).2.2, fun k => Classical.choose_spec (hex k)⟩
  clear hex
  have hop : ∀ k, k < ops.size → ∃ p, ops[k]? = some p := fun k hk => ⟨ops[k], Array.getElem?_eq_getElem hk⟩
  -- what is done up to k is in order
  have settle : ∀ {b k : Nat} {τ : St} {D : Nat → Prop}, b ≤ k → k ≤ ops.size → (∀ z, b ≤ z → z < k → isFree ops z = true) → Some ops S v N b D τ → (∀ j, b ≤ j → (D j ↔ j < k)) → Srt τ.t → Srt τ.o → τ = S k := by
    intro b k τ D hbk hk hf hs hD ht ho
    have h2 := some_order hok hA hbk hk hf
    obtain ⟨a', w', loc', O', R', hc, _⟩ := hst k hk
    have e1 : τ.t = (S k).t := srt_ext ht hc.st fun t => by
      by_cases hx : ∃ j, b ≤ j ∧ j < k ∧ dstOf ops j = some t
      · obtain ⟨j, hbj, hj, hd⟩ := hx
        rw [hs.t1 j hbj ((hD j hbj).2 hj) t hd, h2.t1 j hbj hj t hd]
      · rw [hs.t2 t fun j hbj hDj hd => hx ⟨j, hbj, (hD j hbj).1 hDj, hd⟩, h2.t2 t fun j hbj hj hd => hx ⟨j, hbj, hj, hd⟩]
    have e2 : τ.o = (S k).o := srt_ext ho hc.so fun id => by
      by_cases hx : ∃ j, b ≤ j ∧ j < k ∧ ∃ y ∈ N j, y.1 = id
      · obtain ⟨j, hbj, hj, y, hy, rfl⟩ := hx
        rw [hs.o1 j hbj ((hD j hbj).2 hj) y hy, h2.o1 j hbj hj y hy]
      · rw [hs.o2 id fun j hbj hDj y hy e => hx ⟨j, hbj, (hD j hbj).1 hDj, y, hy, e⟩, h2.o2 id fun j hbj hj y hy e => hx ⟨j, hbj, hj, y, hy, e⟩]
    cases τ
    cases hSk : S k
    rw [hSk] at e1 e2
    simp only at e1 e2
    rw [e1, e2]
  refine wp_region_noPanic (wp_region_any hm ?_)
  have main : ∀ (fuel : Nat) (listed : Array Bool) (b : Nat) (τ : St) (a' : Act) (w' : World) (loc' : Nat → Value) (O' R' : Nat → List Nat) (rest : List Nat), listed.size = ops.size → (∀ k, k < ops.size → ¬ Lst listed k → k ∈ rest) → rest.length ≤ fuel → (∀ k p, Lst listed k → ops[k]? = some p → ∀ j, hasAfter p j = true → Lst listed j) → b ≤ ops.size → (∀ k, k < b → Lst listed k) → (∀ k, b ≤ k → Lst listed k → isFree ops k = true) → Some ops S v N b (Lst listed) τ →
      Cor E.P w0 mine τ a' w' loc' O' R' → a'.tmps.size = E.n → a'.defers = a.defers → wpAny E.P .any ops (NoPanic Q) fuel listed a' w' := by
    intro fuel
    induction fuel with
    | zero =>
      intro listed b τ a' w' loc' O' R' rest hsz hrest hf hcl hb hLb hfree hs hc hn' hd
      have hall : ∀ k, k < ops.size → Lst listed k := fun k hk => Classical.byContradiction fun hL => by
        have := hrest k hk hL
        have : rest = [] := List.eq_nil_of_length_eq_zero (by omega)
        subst this
        contradiction
      have hτ := settle hb (Nat.le_refl _) (fun z h1 h2 => hfree z h1 (hall z h2)) hs (fun j _ => ⟨fun hL => by have := lst_lt hL; omega, fun hj => hall j hj⟩) hc.st hc.so
      rw [hτ, s1] at hc
      refine ⟨?_, NoPanic.normal (hQ a' w' loc' O' R' hc hn' hd)⟩
      cases hr : Region.ready .any ops listed with
      | nil => rfl
      | cons i l =>
        have hi : i ∈ Region.ready .any ops listed := by rw [hr]; simp
        obtain ⟨h1, p, hp, _⟩ := mem_ready.1 hi
        exact absurd (hall i (lt_of hp)) (not_lst h1)
    | succ fuel ih =>
      intro listed b τ a' w' loc' O' R' rest hsz hrest hf hcl hb hLb hfree hs hc hn' hd
      -- what is ready and free
      have free : ∀ i, i ∈ Region.ready .any ops listed → ∀ x, ops[i]? = some x → freeB x.op = true → ∃ τ', E.oper ops τ x = some τ' ∧ Some ops S v N b (Lst (listed.setIfInBounds i true)) τ' ∧ (∀ k, k < ops.size → ¬ Lst (listed.setIfInBounds i true) k → k ∈ rest.erase i) ∧ (rest.erase i).length ≤ fuel ∧ (∀ k p, Lst (listed.setIfInBounds i true) k → ops[k]? = some p → ∀ j, hasAfter p j = true → Lst (listed.setIfInBounds i true) j) ∧ (∀ k, k < b → Lst (listed.setIfInBounds i true) k) ∧ (∀ k, b ≤ k → Lst (listed.setIfInBounds i true) k → isFree ops k = true) := by
        intro i hi x hx hfx
        obtain ⟨h1, x0, hx0, haft⟩ := mem_ready.1 hi
        rw [hx] at hx0
        injection hx0 with hx0
        subst hx0
        have hD := not_lst h1
        have hin := lt_of hx
        have hready : ∀ k, hasAfter x k = true → Lst listed k := fun k hk => by
          obtain ⟨e, he, hbd, rfl⟩ := after_of hk
          exact haft e he hbd
        have hbi : b ≤ i := by
          rcases Nat.lt_or_ge i b with h' | h'
          · exact absurd (hLb i h') hD
          · exact h'
        have hrest' : ∀ k, k < ops.size → ¬ Lst (listed.setIfInBounds i true) k → k ∈ rest.erase i := fun k hk hL => by
          rw [lst_set (by omega)] at hL
          have hki : k ≠ i := fun e => hL (.inr e)
          exact (List.mem_erase_of_ne hki).2 (hrest k hk fun h' => hL (.inl h'))
        have hlen : (rest.erase i).length ≤ fuel := by
          have := hrest i hin hD
          rw [List.length_erase_of_mem this]
          omega
        have hcl' : ∀ k p, Lst (listed.setIfInBounds i true) k → ops[k]? = some p → ∀ j, hasAfter p j = true → Lst (listed.setIfInBounds i true) j := fun k p hk hp j hj => by
          rw [lst_set (by omega)] at hk ⊢
          rcases hk with hk | rfl
          · exact .inl (hcl k p hk hp j hj)
          · rw [hx] at hp
            injection hp with hp
            subst hp
            exact .inl (hready j hj)
        have bar : ∀ z, b ≤ z → ∀ p, ops[z]? = some p → freeB p.op = false → ∀ k, (Lst listed k ∨ k = i) → k < ops.size → k ≤ z := by
          intro z hbz p hp hfp k hk hkn
          rcases Nat.lt_or_ge z k with hlt | hge
          · exfalso
            obtain ⟨q, hq⟩ := hop k hkn
            have haz := ((ok_at hok hp).2.2 hfp).2 k q hlt hq
            have hLz : Lst listed z := by
              rcases hk with hk | rfl
              · exact hcl k q hk hq z haz
              · rw [hx] at hq
                injection hq with hq
                subst hq
                exact hready z haz
            have := hfree z hbz hLz
            rw [free_of hp, hfp] at this
            simp at this
          · exact hge
        have hfr : ∀ z, b ≤ z → z ≤ ops.size → (∃ k, (Lst listed k ∨ k = i) ∧ k < ops.size ∧ z ≤ k) → isFree ops z = true := by
          intro z hbz hz ⟨k, hk, hkn, hzk⟩
          obtain ⟨p, hp⟩ := hop z (by omega)
          cases hfp : freeB p.op with
          | true => rw [free_of hp]; exact hfp
          | false =>
            have hle := bar z hbz p hp hfp k hk hkn
            have : z = k := by omega
            subst this
            rcases hk with hk | rfl
            · exact hfree z hbz hk
            · rw [free_of hx]
              exact hfx
        have hseg : ∀ k, b ≤ k → Lst listed k → ∀ z, min k i ≤ z → z ≤ max k i → isFree ops z = true := fun k hbk hk z h1 h2 => by
          have hkn := lst_lt hk
          rcases Nat.lt_or_ge k i with h' | h'
          · exact hfr z (by omega) (by omega) ⟨i, .inr rfl, hin, by omega⟩
          · exact hfr z (by omega) (by omega) ⟨k, .inl hk, by omega, by omega⟩
        have hlt : ∀ k, Lst listed k → k < ops.size := fun k hk => by have := lst_lt hk; omega
        obtain ⟨aw, ww, lw, Ow, Rw, hcw, _⟩ := hst i (by omega)
        obtain ⟨hal, hgap⟩ := some_alike hok hA hs hx hbi hfx hD hlt hseg (fun z h1 h2 => hfr z h1 (by omega) ⟨i, .inr rfl, hin, by omega⟩) hready hcl hcw.whole hc.whole
        have hstep := (hA i x hx hfx).there τ hal hgap
        have hs2 := hs.step hok hA hx hbi hfx hD hlt hseg
        have eL : (fun k => Lst listed k ∨ k = i) = Lst (listed.setIfInBounds i true) := by
          funext k
          exact propext (lst_set (by omega)).symm
        rw [eL] at hs2
        exact ⟨_, hstep, hs2, hrest', hlen, hcl', fun k hk => (lst_set (by omega)).2 (.inl (hLb k hk)), fun k hbk hk => by
          rcases (lst_set (by omega)).1 hk with hk | rfl
          · exact hfree k hbk hk
          · rw [free_of hx]; exact hfx⟩
      by_cases hlate : ∃ i, i ∈ Region.ready .any ops listed ∧ lateAt ops i = true
      · obtain ⟨i, hi, hl⟩ := hlate
        obtain ⟨h1, x, hx, haft⟩ := mem_ready.1 hi
        obtain ⟨hil, hap⟩ := late_at hx hl
        have hfx : freeB x.op = true := by
          unfold isLate at hil
          rw [Bool.and_eq_true] at hil
          have hop := hil.2
          split at hop
          · rename_i t i' hxo
            rw [hxo]
            rfl
          · simp at hop
        obtain ⟨τ', k1, k2, k3, k4, k5, k6, k7⟩ := free i hi x hx hfx
        obtain ⟨u, hy, hc2⟩ := late_yields hc hn' hil k1
        exact wpAny_first hx (no_select hok) (fun c a w h => h) fuel listed a' w' (fun j q hj hne hun hno => hap j q hj hne (by
          cases hja : hasAfter x j with
          | false => rfl
          | true =>
            obtain ⟨e, he, hbd, rfl⟩ := after_of hja
            exact absurd (haft e he hbd) (not_lst hun)) hno) hi hy (ih (listed.setIfInBounds i true) b _ _ w' loc' O' R' (rest.erase i) (by simpa using hsz) k3 k4 k5 hb k6 k7 k2 hc2 (by rw [put_size]; exact hn') ((put_defers _ _ _).trans hd))
      refine ⟨fun hr => ?_, fun i hi => ?_⟩
      · have hall : ∀ k, k < ops.size → Lst listed k := by
          intro k
          induction k using Nat.strongRecOn with
          | ind k ihk =>
            intro hk
            refine Classical.byContradiction fun hL => ?_
            obtain ⟨p, hp⟩ := hop k hk
            have hmem : k ∈ Region.ready .any ops listed := mem_ready.2 ⟨lst_not (by omega) hL, p, hp, fun e he hbd => ihk e.on ((ok_at hok hp).1 e he hbd) (by have := (ok_at hok hp).1 e he hbd; omega)⟩
            rw [hr] at hmem
            simp at hmem
        have hτ := settle hb (Nat.le_refl _) (fun z h1 h2 => hfree z h1 (hall z h2)) hs (fun j _ => ⟨fun hL => by have := lst_lt hL; omega, fun hj => hall j hj⟩) hc.st hc.so
        rw [hτ, s1] at hc
        exact NoPanic.normal (hQ a' w' loc' O' R' hc hn' hd)
      · obtain ⟨h1, x, hx, haft⟩ := mem_ready.1 hi
        have hD := not_lst h1
        have hin := lt_of hx
        have hready : ∀ k, hasAfter x k = true → Lst listed k := fun k hk => by
          obtain ⟨e, he, hbd, rfl⟩ := after_of hk
          exact haft e he hbd
        have hbi : b ≤ i := by
          rcases Nat.lt_or_ge i b with h' | h'
          · exact absurd (hLb i h') hD
          · exact h'
        have hrest' : ∀ k, k < ops.size → ¬ Lst (listed.setIfInBounds i true) k → k ∈ rest.erase i := fun k hk hL => by
          rw [lst_set (by omega)] at hL
          have hki : k ≠ i := fun e => hL (.inr e)
          exact (List.mem_erase_of_ne hki).2 (hrest k hk fun h' => hL (.inl h'))
        have hlen : (rest.erase i).length ≤ fuel := by
          have := hrest i hin hD
          rw [List.length_erase_of_mem this]
          omega
        have hcl' : ∀ k p, Lst (listed.setIfInBounds i true) k → ops[k]? = some p → ∀ j, hasAfter p j = true → Lst (listed.setIfInBounds i true) j := fun k p hk hp j hj => by
          rw [lst_set (by omega)] at hk ⊢
          rcases hk with hk | rfl
          · exact .inl (hcl k p hk hp j hj)
          · rw [hx] at hp
            injection hp with hp
            subst hp
            exact .inl (hready j hj)
        by_cases hfx : freeB x.op = true
        · -- it is free
          obtain ⟨τ', k1, k2, k3, k4, k5, k6, k7⟩ := free i hi x hx hfx
          show wpOp E.P ops (NoPanic Q) i _ a' w'
          unfold wpOp
          rw [hx]
          exact oper_step hcalls hc hn' k1 fun a2 w2 loc2 O2 R2 hc2 hn2 hd2 =>
            ih (listed.setIfInBounds i true) b _ a2 w2 loc2 O2 R2 (rest.erase i) (by simpa using hsz) k3 k4 k5 hb k6 k7 k2 hc2 hn2 (hd2.trans hd)
        · -- all else is ahead of it, or behind it
          have hfx : freeB x.op = false := by simpa using hfx
          obtain ⟨c1, c2⟩ := (ok_at hok hx).2.2 hfx
          have hLi : ∀ j, Lst listed j ↔ j < i := fun j => by
            refine ⟨fun hj => ?_, fun hj => (c1 j hj).elim (hready j) fun hl => Classical.byContradiction fun hnj => hlate (by
              obtain ⟨q, hq⟩ := hop j (by omega)
              refine ⟨j, mem_ready.2 ⟨lst_not (by omega) hnj, q, hq, fun e he hbd => ?_⟩, hl.1⟩
              have hcv := hl.2
              unfold covers at hcv
              rw [hq] at hcv
              have := Array.all_eq_true_iff_forall_mem.1 hcv e he
              rw [hbd] at this
              exact hready e.on (by simpa using this))⟩
            rcases Nat.lt_or_ge j i with h' | h'
            · exact h'
            · exfalso
              have hjn : j < ops.size := by have := lst_lt hj; omega
              obtain ⟨q, hq⟩ := hop j hjn
              by_cases e : j = i
              · exact hD (e ▸ hj)
              · exact hD (hcl j q hj hq i (c2 j q (by omega) hq))
          have hτ := settle hbi (by omega) (fun z h1 h2 => hfree z h1 ((hLi z).2 h2)) hs (fun j _ => hLi j) hc.st hc.so
          subst hτ
          show wpOp E.P ops (NoPanic Q) i _ a' w'
          unfold wpOp
          rw [hx]
          exact oper_step hcalls hc hn' (operD_oper (hS i x hx)) fun a2 w2 loc2 O2 R2 hc2 hn2 hd2 =>
            ih (listed.setIfInBounds i true) (i + 1) _ a2 w2 loc2 O2 R2 (rest.erase i) (by simpa using hsz) hrest' hlen hcl' (by omega) (fun k hk => (lst_set (by omega)).2 (by
              by_cases e : k = i
              · exact .inr e
              · exact .inl ((hLi k).2 (by omega)))) (fun k hbk hk => by
              rcases (lst_set (by omega)).1 hk with hk | rfl
              · have := (hLi k).1 hk; omega
              · omega) ⟨fun k hbk hk => by
                rcases (lst_set (by omega)).1 hk with hk | rfl
                · have := (hLi k).1 hk; omega
                · omega, fun _ _ => rfl, fun k hbk hk => by
                rcases (lst_set (by omega)).1 hk with hk | rfl
                · have := (hLi k).1 hk; omega
                · omega, fun _ _ => rfl⟩ hc2 hn2 (hd2.trans hd)
  have hno : ∀ k, ¬ Lst (Array.replicate ops.size false) k := fun k hk => by
    have := lst_lt hk
    unfold Lst at hk
    simp at this
    simp [this] at hk
  refine main ops.size (Array.replicate ops.size false) 0 σ a _ loc O R (List.range ops.size) (by simp) (fun k hk _ => List.mem_range.2 hk) (by simp) (fun k p hk => absurd hk (hno k)) (Nat.zero_le _) (fun k hk => by omega) (fun k _ hk => absurd hk (hno k)) ⟨fun k _ hk => absurd hk (hno k), fun t _ => by rw [s0], fun k _ hk => absurd hk (hno k), fun id _ => by rw [s0]⟩ ?_ hn rfl
  exact h.grow (Nat.le_refl _) ⟨rfl, rfl, rfl⟩ (fun _ _ => rfl)
theorem sound {M : Mach} (hM : MachOk M) (k : Nat) : Sound M.P (M.run k) :=
  mach_sound hM (fun n run hs w0 mine => draws_sound (E := ⟨M.P, n, run, M.own⟩) (callsOk_of hs w0 mine) hM.mixed) k
end Go.Proofs.Ytbdidcfjaohglaa.VM

/- A law: its arguments as trees; what the machine's word is worth for it. -/
namespace Go.Proofs.Ytbdidcfjaohglaa.VM
open Go Go.Proofs.YtbdidcfjaohglaaW.PrintWords Go.ChangeShapes Go.WideShapes Go.Deep Go.RowKit
set_option linter.unusedVariables false
set_option linter.unusedSimpArgs false

/-- A law that the machine answers true. -/
theorem law_calls {M : Mach} (hM : MachOk M) {k : Nat} {f : FuncId} {as as' : List A} {w : World} {us : List Value} {R : List Nat} (hrun : M.run k f as = some ([.c (.v (.bool true))], as')) (hr : RepAs M.P w as us [] R) (hk : knowns as = true) (hR : ∀ b ∈ R, b < w.heap.size) :
    Calls M.P f us.toArray w fun e w' => e = .returned (.bool true) ∧ Below w.heap.size w w' := by
  have h := (sound hM k f as _ as' hrun w us [] R ⟨hr, hk, List.nodup_nil, fun b hb => by simp at hb, fun b hb => ⟨hR b hb, by simp⟩⟩).2
  refine h.mono fun e w' he => ?_
  cases e with
  | returned v =>
    obtain ⟨vs, O1, O2, rfl, hl⟩ := he
    have hrep := hl.rep
    rw [RepAs] at hrep
    obtain ⟨u, us', Oa, Ra, Ob, Rb, rfl, h1, h2, _⟩ := hrep
    rw [RepAs] at h2
    obtain ⟨rfl, _⟩ := h2
    rw [RepA, RepT] at h1
    obtain ⟨rfl, _⟩ := h1
    exact ⟨rfl, ⟨hl.still.os, hl.still.tape, hl.still.output, hl.size, fun b hb => hl.kept b hb (by simp)⟩⟩
  | panicked c => exact he.elim
  | outgrown => exact he.elim
/-! ### arguments -/
/-- What a value of type t reads as: cells. -/
structure OpT {α : Type} (P : Program) (t : TypeId) (tr : α → List T) (ok : α → Prop) : Prop where
  op : ∀ {H : Type} {enc : TypeId × Value → H} {w : World} {hd : Bool} {fuel : Nat} {cs : List Value} {x : DataW H × List MemPlace},
    DataW.trod enc P w 0 (fun _ => true) hd fuel t cs = some x → ∃ a R, RepTs P w (tr a) cs [] R ∧ (∀ b ∈ R, b < w.heap.size) ∧ ok a
/-- The fields from place i on, at the cells from off on. -/
structure OpTF {α : Type} (P : Program) (fs : Array Field) (i off sz : Nat) (tr : α → List T) (ok : α → Prop) : Prop where
  op : ∀ {H : Type} {enc : TypeId × Value → H} {w : World} {hd : Bool} {n : Nat} {cs : List Value} {xs : List (DataW H × List MemPlace)},
    cs.length = off + sz → xs.length = fs.size →
    (∀ (j : Nat) (f : Field), fs[j]? = some f → DataW.trod enc P w 0 (fun _ => true) hd n f.type ((cs.drop f.offset).take (P.cellsOf f.type)) = xs[j]?) →
    ∃ a R, RepTs P w (tr a) (cs.drop off) [] R ∧ (∀ b ∈ R, b < w.heap.size) ∧ ok a
theorem reps_v {P : Program} {w : World} {v : Value} (h : v.oneCell' = true) : RepTs P w [.v v] [v] [] [] := by
  rw [RepTs]
  exact ⟨v, [], [], [], [], [], rfl, by rw [RepT]; exact ⟨rfl, h, rfl, rfl⟩, by rw [RepTs]; exact ⟨rfl, rfl, rfl⟩, rfl, rfl⟩
theorem opT_int {P : Program} {t : TypeId} (ht : P.underlying t = some (.int .i64)) : OpT P t (fun n : Int => [.v (.int .i64 n)]) (fun n => -9223372036854775808 ≤ n ∧ n ≤ 9223372036854775807) := ⟨fun h => by
  obtain ⟨n, rfl, _, hw⟩ := DataW.trod_int ht h
  refine ⟨n, [], reps_v rfl, fun b hb => by simp at hb, ?_⟩
  simp only [Lit.wf, Bool.and_eq_true, decide_eq_true_eq] at hw
  exact hw⟩
theorem opT_u8 {P : Program} {t : TypeId} (ht : P.underlying t = some (.int .u8)) : OpT P t (fun n : Int => [.v (.int .u8 n)]) (fun n => 0 ≤ n ∧ n ≤ 255) := ⟨fun h => by
  obtain ⟨n, rfl, _, hw⟩ := DataW.trod_int ht h
  refine ⟨n, [], reps_v rfl, fun b hb => by simp at hb, ?_⟩
  simp only [Lit.wf, Bool.and_eq_true, decide_eq_true_eq] at hw
  exact hw⟩
theorem opT_bool {P : Program} {t : TypeId} (ht : P.underlying t = some .bool) : OpT P t (fun b : Bool => [.v (.bool b)]) (fun _ => True) := ⟨fun h => by
  obtain ⟨n, rfl, _⟩ := DataW.trod_bool ht h
  exact ⟨n, [], reps_v rfl, fun b hb => by simp at hb, trivial⟩⟩
theorem opT_last {α : Type} {P : Program} {fs : Array Field} {i off sz : Nat} {f : Field} {tr : α → List T} {ok : α → Prop} (hf : fs[i]? = some f) (ho : f.offset = off) (hc : P.cellsOf f.type = sz) (h : OpT P f.type tr ok) : OpTF P fs i off sz tr ok := ⟨fun hl hx ht => by
  have h1 := ht i f hf
  have hi : i < fs.size := (Array.getElem?_eq_some_iff.1 hf).1
  rw [List.getElem?_eq_getElem (by omega), ho, hc, List.take_of_length_le (by rw [List.length_drop]; omega)] at h1
  exact h.op h1⟩
theorem opT_cons {α β : Type} {P : Program} {fs : Array Field} {i off sz sz' : Nat} {f : Field} {tr : α → List T} {ok : α → Prop} {tr' : β → List T} {ok' : β → Prop} (hf : fs[i]? = some f) (ho : f.offset = off) (hc : P.cellsOf f.type = sz) (h : OpT P f.type tr ok)
    (h' : OpTF P fs (i + 1) (off + sz) sz' tr' ok') : OpTF P fs i off (sz + sz') (fun x : α × β => tr x.1 ++ tr' x.2) (fun x => ok x.1 ∧ ok' x.2) := ⟨fun {H enc w hd n cs xs} hl hx ht => by
  have h1 := ht i f hf
  have hi : i < fs.size := (Array.getElem?_eq_some_iff.1 hf).1
  rw [List.getElem?_eq_getElem (by omega), ho, hc] at h1
  obtain ⟨a, R, ha, hR, hok⟩ := h.op h1
  obtain ⟨b, R', hb, hR', hok'⟩ := h'.op (by omega) hx ht
  refine ⟨(a, b), R ++ R', ?_, fun x hx => (List.mem_append.1 hx).elim (hR x) (hR' x), hok, hok'⟩
  have e : cs.drop off = (cs.drop off).take sz ++ cs.drop (off + sz) := by rw [← List.drop_drop, List.take_append_drop]
  rw [e]
  exact RepTs_append ha hb⟩
theorem opT_struct {α β : Type} {P : Program} {t : TypeId} {fs : Array Field} (ht : P.underlying t = some (.struct fs)) {sz : Nat} {tr : α → List T} {ok : α → Prop} (hc : P.cellsOf t = sz) (g : α → β) (tr' : β → List T) (ok' : β → Prop) (htr : ∀ a, tr' (g a) = tr a) (hok : ∀ a, ok a → ok' (g a))
    (h : OpTF P fs 0 0 sz tr ok) : OpT P t tr' ok' := ⟨fun {H enc w hd fuel cs x} hx => by
  obtain ⟨xs, n, _, _, hl, hxs, hf⟩ := DataW.trod_struct ht hx
  obtain ⟨a, R, ha, hR, ho⟩ := h.op (by rw [hl, hc]; omega) hxs hf
  exact ⟨g a, R, by rw [htr]; exact ha, hR, hok a ho⟩⟩
theorem opT_slice {α : Type} {P : Program} {t e : TypeId} (ht : P.underlying t = some (.slice e)) {tr : α → List T} {ok : α → Prop} (hpos : 0 < P.cellsOf e) (h : OpT P e tr ok) : OpT P t (fun xs : List α => [.r e xs.length (xs.flatMap tr)]) (fun xs => (∀ y ∈ xs, ok y) ∧ xs.length ≤ maxLen) := ⟨fun {H enc w hd fuel cs x} hx => by
  rcases open_slice ht hx with ⟨rfl, _⟩ | ⟨a, len, cap, m, n, D, Pl, rfl, hb, hl, hm, hmm, rfl, hq⟩
  · refine ⟨[], [], ?_, fun b hb => by simp at hb, fun y hy => by simp at hy, by simp⟩
    rw [RepTs]
    refine ⟨_, [], [], [], [], [], rfl, ?_, by rw [RepTs]; exact ⟨rfl, rfl, rfl⟩, rfl, rfl⟩
    rw [RepT]
    exact ⟨rfl, none, 0, [], [], rfl, Nat.le_refl _, by simp [maxLen], fun h => by omega, by simp, fun j x hj => by simp at hj, by rw [List.flatMap_nil, RepTs]; exact ⟨rfl, rfl, rfl⟩, rfl⟩
  · simp only [if_true] at hmm
    subst hmm
    have hspot : 0 < m → a.spot = none := fun h0 => by
      obtain ⟨cs', h1, _⟩ := hq 0 h0
      obtain ⟨_, h2, h3⟩ := World.cells?_some h1
      have := h3 0 hpos
      rw [Nat.zero_mul] at this
      have hz : (a.add 0).add 0 = a := by simp [Addr.add]
      rw [hz] at this
      have hv : cs'[0]? = some (cs'[0]'(by omega)) := List.getElem?_eq_getElem _
      rw [hv] at this
      unfold World.cell? at this
      split at this
      · cases hsp : a.spot with
        | none => rfl
        | some s => rw [hsp] at this; simp at this
      · simp at this
    -- the elements, one by one
    have key : ∀ i, i ≤ len → ∃ (xs : List α) (us : List Value) (R : List Nat), xs.length = i ∧ us.length = i * P.cellsOf e ∧ RepTs P w (xs.flatMap tr) us [] R ∧ (∀ b ∈ R, b < w.heap.size) ∧ (∀ y ∈ xs, ok y) ∧ ∀ j x, us[j]? = some x → w.cell? (a.add j) = some x := by
      intro i
      induction i with
      | zero => exact fun _ => ⟨[], [], [], rfl, by simp, by rw [List.flatMap_nil, RepTs]; exact ⟨rfl, rfl, rfl⟩, fun b hb => by simp at hb, fun y hy => by simp at hy, fun j x hj => by simp at hj⟩
      | succ i ih =>
        intro hi
        obtain ⟨xs, us, R, k1, k2, k3, k4, k5, k6⟩ := ih (by omega)
        obtain ⟨cs', h1, h2⟩ := hq i (by omega)
        obtain ⟨_, h3, h4⟩ := World.cells?_some h1
        obtain ⟨y, R', j1, j2, j3⟩ := h.op h2
        refine ⟨xs ++ [y], us ++ cs', R ++ R', by simp [k1], by rw [List.length_append, k2, h3, Nat.succ_mul], ?_, fun b hb => (List.mem_append.1 hb).elim (k4 b) (j2 b), fun z hz => (List.mem_append.1 hz).elim (k5 z) (fun hz => by simp at hz; subst hz; exact j3), fun j x hj => ?_⟩
        · rw [List.flatMap_append, List.flatMap_singleton]
          exact RepTs_append k3 j1
        · rcases Nat.lt_or_ge j us.length with hlt | hge
          · rw [List.getElem?_append_left hlt] at hj
            exact k6 j x hj
          · rw [List.getElem?_append_right hge, k2] at hj
            have hjl := (List.getElem?_eq_some_iff.1 hj).1
            have := h4 (j - i * P.cellsOf e) (by omega)
            rw [Go.Deep.add_add, show i * P.cellsOf e + (j - i * P.cellsOf e) = j by omega] at this
            rw [this, hj]
    obtain ⟨xs, us, R, k1, k2, k3, k4, k5, k6⟩ := key len (Nat.le_refl _)
    have hlt : 0 < len → a.block < w.heap.size := fun h0 => by
      have hu : us[0]? = some (us[0]'(by rw [k2]; exact Nat.mul_pos h0 hpos)) := List.getElem?_eq_getElem _
      have := k6 0 _ hu
      have hz : a.add 0 = a := by simp [Addr.add]
      rw [hz] at this
      unfold World.cell? at this
      split at this
      · rename_i hcells
        exact (Array.getElem?_eq_some_iff.1 hcells).1
      · simp at this
    refine ⟨xs, hdrB (some a) len ++ R, ?_, fun b hb => ?_, k5, by omega⟩
    · rw [RepTs]
      refine ⟨_, [], [], hdrB (some a) len ++ R, [], [], rfl, ?_, by rw [RepTs]; exact ⟨rfl, rfl, rfl⟩, rfl, by simp⟩
      rw [RepT, k1]
      exact ⟨rfl, some a, m, us, R, rfl, hl, hm, fun h0 => ⟨a, rfl, hspot h0⟩, k2, fun j x hj => ⟨a, rfl, k6 j x hj⟩, k3, rfl⟩
    · rcases List.mem_append.1 hb with hb | hb
      · simp only [hdrB] at hb
        split at hb
        · simp at hb
        · simp at hb
          subst hb
          exact hlt (by omega)
      · exact k4 b hb⟩
/-- An argument of a slice's type. -/
theorem arg_sliceT {α : Type} {P : Program} {t e : TypeId} (ht : P.underlying t = some (.slice e)) {tr : α → T} {ok : α → Prop} (h : OpT P t (fun x => [tr x]) ok) {H : Type} {enc : TypeId × Value → H} {w : World} {hd : Bool} {v : Value} {dd : DataW H} {ps : List MemPlace} {r : Reach} {b0 : Nat}
    (hval : Value.okWide P w r b0 t v) (hx : DataW.Trod enc P w 0 (fun _ => true) hd t v dd ps) : ∃ (x : α) (R : List Nat), RepA P w (.c (tr x)) v [] R ∧ (∀ b ∈ R, b < w.heap.size) ∧ ok x := by
  obtain ⟨A, n, c, rfl⟩ := okWide_slice ht hval
  obtain ⟨fuel, hf⟩ := hx
  obtain ⟨x, R, h1, h2, h3⟩ := h.op hf
  exact ⟨x, R, by rw [RepA]; exact RepTs_one' h1, h2, h3⟩
/-- An argument of a struct's type. -/
theorem arg_structT {α : Type} {P : Program} {t : TypeId} {fs : Array Field} (ht : P.underlying t = some (.struct fs)) {tr : α → List T} {ok : α → Prop} (h : OpT P t tr ok) {H : Type} {enc : TypeId × Value → H} {w : World} {hd : Bool} {v : Value} {dd : DataW H} {ps : List MemPlace} {r : Reach} {b0 : Nat}
    (hval : Value.okWide P w r b0 t v) (hx : DataW.Trod enc P w 0 (fun _ => true) hd t v dd ps) : ∃ (x : α) (R : List Nat), RepA P w (.agg (tr x)) v [] R ∧ (∀ b ∈ R, b < w.heap.size) ∧ ok x := by
  obtain ⟨cs, rfl, _⟩ := okWide_struct ht hval
  obtain ⟨fuel, hf⟩ := hx
  obtain ⟨x, R, h1, h2, h3⟩ := h.op hf
  exact ⟨x, R, by rw [RepA]; exact ⟨cs.toList, by simp, h1⟩, h2, h3⟩
theorem arg_cell {P : Program} {w : World} {v : Value} (h : v.oneCell' = true) : RepA P w (.c (.v v)) v [] [] := by
  rw [RepA, RepT]
  exact ⟨rfl, h, rfl, rfl⟩
theorem args_nil {P : Program} {w : World} : RepAs P w [] [] [] [] := by rw [RepAs]; exact ⟨rfl, rfl, rfl⟩
theorem args_cons {P : Program} {w : World} {x : A} {v : Value} {R : List Nat} {l : List A} {us : List Value} {R' : List Nat} (h : RepA P w x v [] R) (h' : RepAs P w l us [] R') : RepAs P w (x :: l) (v :: us) [] (R ++ R') := by
  rw [RepAs]
  exact ⟨v, us, [], R, [], R', rfl, h, h', rfl, rfl⟩
end Go.Proofs.Ytbdidcfjaohglaa.VM

/- The machine, step by step: rules by which its answers are reckoned. -/
namespace Go.Proofs.Ytbdidcfjaohglaa.VM
open Go
set_option linter.unusedVariables false
set_option linter.unusedSimpArgs false
set_option linter.constructorNameAsVariable false
variable {E : Env} {σ : St} {P : Program} {k d : Nat} {h : Nat → List Nat × List Nat}

/-! ### code -/
def regC (σ : St) : Option (Ex × St) := some (.normal, σ)
def seqC (E : Env) (k : Nat) (h : Nat → List Nat × List Nat) (b : Code) : Ex × St → Option (Ex × St)
  | (.normal, σ) => E.exec k h b σ
  | (.exit i, σ) => some (.exit i, σ)
  | (.ret, σ) => some (.ret, σ)
def condC (E : Env) (k : Nat) (h : Nat → List Nat × List Nat) (a b : Code) (σ : St) : AV → Option (Ex × St)
  | .c (.v (.bool t)) => if t = true then E.exec k h a σ else E.exec k h b σ
  | _ => none
def blockC (id : Nat) : Ex × St → Option (Ex × St)
  | (.exit i, σ) => some (if i = id then (.normal, σ) else (.exit i, σ))
  | (.normal, σ) => some (.normal, σ)
  | (.ret, σ) => some (.ret, σ)
/-- A loop. -/
def loopE (E : Env) (k : Nat) (h : Nat → List Nat × List Nat) (a : Code) (σ : St) : Option (Ex × St) := iter (E.exec k h a) (h (firstR a)) k σ
theorem x_skip : E.exec k h .skip σ = some (.normal, σ) := (rfl)
theorem x_region {i : Nat} {ops : Array Oper} : E.exec k h (.region i ops false) σ = (E.opers ops ops.toList σ).bind regC := (rfl)
theorem x_draw {i : Nat} {ops : Array Oper} : E.exec k h (.region i ops true) σ = (E.opersD ops ops.toList σ).bind regC := (rfl)
theorem x_seq {a b : Code} : E.exec k h (.seq a b) σ = (E.exec k h a σ).bind (seqC E k h b) := by
  show Option.bind _ _ = _
  congr 1
  funext ⟨x, σ⟩
  cases x <;> rfl
theorem x_cond {c : Operand} {a b : Code} : E.exec k h (.cond c a b) σ = (σ.ev c).bind (condC E k h a b σ) := by
  simp only [Env.exec]
  cases hv : σ.ev c with
  | none => rfl
  | some v =>
    rw [Option.bind_some]
    unfold condC
    cases v with
    | c x => cases x with
      | v y => cases y <;> rfl
      | _ => rfl
    | _ => rfl
theorem x_block {i : Nat} {a : Code} : E.exec k h (.block i a) σ = (E.exec k h a σ).bind (blockC i) := by
  show Option.bind _ _ = _
  congr 1
  funext ⟨x, σ⟩
  cases x <;> rfl
theorem x_exit {i : Nat} : E.exec k h (.exit i) σ = some (.exit i, σ) := (rfl)
theorem x_ret : E.exec k h .ret σ = some (.ret, σ) := (rfl)
theorem x_loop {a : Code} : E.exec k h (.loop a) σ = loopE E k h a σ := (rfl)
/-! ### operations in line -/
def opersC (E : Env) (ops : Array Oper) (l : List Oper) (σ : St) : Option St := E.opers ops l σ
def opersDC (E : Env) (ops : Array Oper) (l : List Oper) (σ : St) : Option St := E.opersD ops l σ
def putC (d : Option Nat) (x : Option AV × St) : Option St := some (x.2.put d (x.1.getD .u))
def operC (E : Env) (σ : St) (o : Oper) (b : Bool) : Option St := if b = true then (E.op σ (o.dst.getD 0) o.op).bind (putC o.dst) else some (σ.put o.dst .u)
def freeC (E : Env) (ops : Array Oper) (σ : St) (o : Oper) (b : Bool) : Option St := if b = true then (if E.free σ (o.dst.getD 0) o.op = true then E.oper ops σ o else none) else E.oper ops σ o
theorem o_nil {ops : Array Oper} : E.opers ops [] σ = some σ := (rfl)
theorem o_cons {ops : Array Oper} {o : Oper} {l : List Oper} : E.opers ops (o :: l) σ = (E.oper ops σ o).bind (opersC E ops l) := (rfl)
theorem o_nilD {ops : Array Oper} : E.opersD ops [] σ = some σ := (rfl)
theorem o_consD {ops : Array Oper} {o : Oper} {l : List Oper} : E.opersD ops (o :: l) σ = (E.operD ops σ o).bind (opersDC E ops l) := (rfl)
theorem o_oper {ops : Array Oper} {o : Oper} : E.oper ops σ o = if o.dst.getD 0 < E.n then (σ.want ops o.guard).bind (operC E σ o) else none := (rfl)
theorem o_operD {ops : Array Oper} {o : Oper} : E.operD ops σ o = if freeB o.op = true then (σ.want ops o.guard).bind (freeC E ops σ o) else E.oper ops σ o := (rfl)
/-! ### operations -/
def valC (σ : St) (v : AV) : Option (Option AV × St) := some (some v, σ)
theorem op_move {x : Operand} : E.op σ d (.move x) = (σ.ev x).bind (valC σ) := (rfl)
theorem op_assign {x : Operand} : E.op σ d (.assign x) = (σ.ev x).bind (valC σ) := (rfl)
theorem op_binOp {b : BinOp} {t t' : TypeId} {x y : Operand} : E.op σ d (.binOp b t x y t') = (σ.ev x).bind fun w => (σ.ev y).bind fun v => (bin E.P b t w v).bind (valC σ) := (rfl)
theorem op_unOp {b : UnOp} {t : TypeId} {x : Operand} : E.op σ d (.unOp b t x) = match σ.ev x with
    | some (.c (.v w)) => (unV b w).bind fun r => some (some (.c (.v r)), σ)
    | _ => none := (rfl)
theorem op_pick {c a b : Operand} : E.op σ d (.pick c a b) = match σ.ev c with
    | some (.c (.v (.bool t))) => (σ.ev a).bind fun w => (σ.ev b).bind fun v => some (some (if t = true then w else v), σ)
    | _ => none := (rfl)
theorem op_extract {x : Operand} {i : Nat} : E.op σ d (.extract x i) = match σ.ev x with
    | some (.tup vs) => (vs[i]?).bind (valC σ)
    | _ => none := (rfl)
theorem op_nilCheck {x : Operand} : E.op σ d (.nilCheck x) = match σ.ev x with
    | some (.ptr id p o) => some (some (.ptr id p o), σ)
    | _ => none := (rfl)
def allocC (σ : St) (d : Nat) (t : TypeId) (xs : List T) : Option (Option AV × St) := some (some (.ptr (site d 0) [] 0), σ.new (site d 0) ⟨.box, t, xs⟩)
theorem op_alloc {t : TypeId} : E.op σ d (.alloc t) = (zeroT E.P t).bind (allocC σ d t) := (rfl)
def boxC (σ : St) (d : Nat) (t : TypeId) (cs : List C) : Option (Option AV × St) := if (cs.any (·.mem fun i _ => i == site d 0)) = true then none else some (some (.ptr (site d 0) [] 0), σ.new (site d 0) ⟨.box, t, cs.map toL⟩)
def boxC1 (σ : St) (d : Nat) (t : TypeId) (v : AV) : Option (Option AV × St) := v.cs.bind (boxC σ d t)
theorem op_box {t : TypeId} {x : Operand} : E.op σ d (.box t x) = (σ.ev x).bind (boxC1 σ d t) := (rfl)
theorem op_fieldAddr {t : TypeId} {x : Operand} {f : Nat} {fs : Array Field} (hu : E.P.underlying t = some (.struct fs)) : E.op σ d (.fieldAddr t x f) = match σ.ev x with
    | some (.ptr id p o) => (fs[f]?).bind fun f => if 0 < E.P.cellsOf f.type then some (some (.ptr id p (o + f.offset)), σ) else none
    | _ => none := by
  simp only [Env.op, hu]
  cases σ.ev x with
  | none => rfl
  | some v => cases v <;> rfl
def idxC (P : Program) (σ : St) (e : TypeId) (id : Nat) (p : List Nat) (o n : Nat) (i : Int) (x : Bool × TypeId × List T) : Option (Option AV × St) := if x.2.1 = e ∧ 0 ≤ i ∧ i < n ∧ 0 < P.cellsOf e then some (some (.ptr id p (o + i.toNat * P.cellsOf e)), σ) else none
theorem op_indexAddr {t e : TypeId} {x i : Operand} (hu : E.P.underlying t = some (.slice e)) : E.op σ d (.indexAddr t x i) = match σ.ev x, σ.ev i with
    | some (.c (.sl id p o n)), some (.c (.v (.int _ i))) => (σ.row id p).bind (idxC E.P σ e id p o n i)
    | _, _ => none := by
  simp only [Env.op, hu]
  cases σ.ev x with
  | none => rfl
  | some v => cases v with
    | c q => cases q with
      | sl id p o n => cases σ.ev i with
        | none => rfl
        | some u => cases u with
          | c r => cases r with
            | v z => cases z <;> rfl
            | _ => rfl
          | _ => rfl
      | _ => rfl
    | _ => rfl
def loadC (σ : St) (P : Program) (t : TypeId) : AV → Option (Option AV × St)
  | .ptr id p o => (σ.load P t id p o).bind (valC σ)
  | _ => none
theorem op_load {t : TypeId} {x : Operand} : E.op σ d (.load t x) = (σ.ev x).bind (loadC σ E.P t) := by
  simp only [Env.op]
  cases σ.ev x with
  | none => rfl
  | some v => cases v <;> rfl
def aggC (σ : St) (cs : List C) : Option (Option AV × St) := some (some (.agg cs), σ)
def fillX (P : Program) (σ : St) (fs : List Field) (z : List T) (vs : List (Nat × AV)) : Option (Option AV × St) := (fillC fs P.cellsOf (z.map zC) vs).bind (aggC σ)
theorem op_build {t : TypeId} {ps : Array (Nat × Operand)} {z : List T} {fs : Array Field} (hz : zeroT E.P t = some z) (hu : E.P.underlying t = some (.struct fs)) (hi : (fs.toList.all fun f => (E.P.info? f.type).isSome) = true) : E.op σ d (.build t ps) = (σ.evp ps.toList).bind (fillX E.P σ fs.toList z) := by
  simp only [Env.op, hu, hz, hi, Bool.true_eq_false, if_false]
  rfl
def makeC (P : Program) (σ : St) (d : Nat) (e : TypeId) (n m : Int) (z : List T) : Option (Option AV × St) := if elemOk P e = true ∧ n = m ∧ 0 ≤ n ∧ n ≤ most then some (some (.c (.sl (site d 0) [] 0 n.toNat)), σ.new (site d 0) ⟨.own, e, (List.replicate n.toNat z).flatten⟩) else none
theorem op_make {t e : TypeId} {x y : Operand} (hu : E.P.underlying t = some (.slice e)) : E.op σ d (.makeSlice t x y) = match σ.ev x, σ.ev y with
    | some (.c (.v (.int _ n))), some (.c (.v (.int _ m))) => (zeroT E.P e).bind (makeC E.P σ d e n m)
    | _, _ => none := by
  simp only [Env.op, hu]
  cases σ.ev x with
  | none => rfl
  | some v => cases v with
    | c q => cases q with
      | v z => cases z with
        | int k n => cases σ.ev y with
          | none => rfl
          | some u => cases u with
            | c r => cases r with
              | v z => cases z <;> rfl
              | _ => rfl
            | _ => rfl
        | _ => rfl
      | _ => rfl
    | _ => rfl
def sliceC (P : Program) (σ : St) (e : TypeId) (id : Nat) (p : List Nat) (o n : Nat) (l h m : Int) (mx : Bool) (x : Bool × TypeId × List T) : Option (Option AV × St) := if x.2.1 = e ∧ 0 < P.cellsOf e ∧ 0 ≤ l ∧ l ≤ h ∧ h ≤ m ∧ m ≤ n ∧ mx = true then some (some (.c (.sl id p (o + l.toNat * P.cellsOf e) (h - l).toNat)), σ) else none
def sliceK (P : Program) (σ : St) (e : TypeId) (lo hi mx : Option Operand) : AV → Option (Option AV × St)
  | .c (.sl id p o n) => (intOr σ 0 lo).bind fun l => (intOr σ n hi).bind fun h => (intOr σ h.toNat mx).bind fun m => (σ.row id p).bind (sliceC P σ e id p o n l h m mx.isNone)
  | .c .z => (intOr σ 0 lo).bind fun l => (intOr σ 0 hi).bind fun h => if l = 0 ∧ h = 0 ∧ mx.isNone = true ∧ 0 < P.cellsOf e then some (some (.c .z), σ) else none
  | _ => none
theorem op_slice {t e : TypeId} {x : Operand} {lo hi mx : Option Operand} (hu : E.P.underlying t = some (.slice e)) : E.op σ d (.slice t x lo hi mx) = (σ.ev x).bind (sliceK E.P σ e lo hi mx) := by
  simp only [Env.op, hu]
  cases σ.ev x with
  | none => rfl
  | some v => cases v with
    | c q => cases q with
      | v z => cases z <;> rfl
      | _ => rfl
    | _ => rfl
def fnV (σ : St) (f : FuncId) (vs : List AV) : Option (Option AV × St) := some (some (.fn f vs), σ)
theorem op_makeFunc {f : FuncId} {cap : Array Operand} : E.op σ d (.makeFunc (.func f) #[] cap) = (σ.evs cap.toList).bind (fnV σ f) := (rfl)
attribute [simp] valC op_move op_assign op_binOp op_unOp op_pick op_extract op_nilCheck allocC op_alloc boxC boxC1 op_box idxC loadC op_load aggC fillX makeC sliceC sliceK fnV op_makeFunc
/-! ### calls -/
def resC (x : AV × St) : Option (Option AV × St) := some (some x.1, x.2)
def bltC (E : Env) (σ : St) (d : Nat) (b : Builtin) (ts : List TypeId) (vs : List AV) : Option (Option AV × St) := (E.builtin σ d b ts vs).bind resC
def fnC (E : Env) (σ : St) (d : Nat) (ts : List TypeId) (vs : List AV) : AV → Option (Option AV × St)
  | .fn f cs => (σ.call E.P E.run E.own d f (ts ++ cs.map fun _ => 0) (vs ++ cs)).bind resC
  | _ => none
def valueC (E : Env) (σ : St) (d : Nat) (x : Operand) (ts : List TypeId) (vs : List AV) : Option (Option AV × St) := (σ.ev x).bind (fnC E σ d ts vs)
theorem c_blt {b : Builtin} {args : Array Operand} {ts : Array TypeId} : E.op σ d (.call ⟨.builtin b, args, ts⟩) = (σ.evs args.toList).bind (bltC E σ d b ts.toList) := (rfl)
theorem c_val {x : Operand} {args : Array Operand} {ts : Array TypeId} : E.op σ d (.call ⟨.value x, args, ts⟩) = (σ.evs args.toList).bind (valueC E σ d x ts.toList) := by
  show Option.bind _ _ = _
  congr 1
  funext vs
  unfold valueC
  simp only
  cases σ.ev x with
  | none => rfl
  | some v => cases v <;> rfl
def callC4 : List AV × St → Option (AV × St)
  | ([w], σ) => some (w, σ)
  | (ws, σ) => some (.tup ws, σ)
def callC3 (d : Nat) (rs : List A) (σ : St) : Option (AV × St) := (σ.ress (site d 0) rs).bind callC4
def callC2 (σ : St) (own : Nat → Bool) (d : Nat) (vs : List AV) (x : List A × List A) : Option (AV × St) := if 64 < cnts x.1 then none else (σ.backs own 0 vs x.2).bind (callC3 d x.1)
def callC1 (σ : St) (run : List A → Ans) (own : Nat → Bool) (d : Nat) (vs : List AV) (as : List A) : Option (AV × St) := (run as).bind (callC2 σ own d vs)
theorem c_call {run : FuncId → List A → Ans} {own : FuncId → Nat → Bool} {f : FuncId} {ts : List TypeId} {vs : List AV} : σ.call P run own d f ts vs = if aparts (σ.feets (own f) 0 vs) = true then (σ.args P (own f) 0 ts vs).bind (callC1 σ (run f) (own f) d vs) else none := by
  unfold St.call
  cases aparts (σ.feets (own f) 0 vs) with
  | false => rfl
  | true =>
    simp only [Bool.true_eq_false, if_false, if_true]
    congr 1
    funext as
    show Option.bind _ _ = Option.bind _ _
    congr 1
    funext ⟨rs, as'⟩
    show (if _ then _ else _) = if _ then _ else _
    congr 1
    show Option.bind _ _ = Option.bind _ _
    congr 1
    funext σ
    show Option.bind _ _ = Option.bind _ _
    congr 1
    funext ⟨ws, σ⟩
    match ws with
    | [] => rfl
    | [_] => rfl
    | _ :: _ :: _ => rfl
def backsC (own : Nat → Bool) (i : Nat) (vs : List AV) (as : List A) (σ : St) : Option St := σ.backs own i vs as
theorem b_cons {own : Nat → Bool} {i : Nat} {v : AV} {vs : List AV} {a : A} {as : List A} : σ.backs own i (v :: vs) (a :: as) = (σ.back (own i) v a).bind (backsC own (i + 1) vs as) := (rfl)
theorem b_nil {own : Nat → Bool} {i : Nat} : σ.backs own i [] [] = some σ := (rfl)
def backCsC (cs : List C) (xs : List T) (σ : St) : Option St := σ.backCs cs xs
theorem b_cs {c : C} {cs : List C} {x : T} {xs : List T} : σ.backCs (c :: cs) (x :: xs) = (σ.backC c x).bind (backCsC cs xs) := (rfl)
theorem b_cs0 : σ.backCs [] [] = some σ := (rfl)
def ressC2 (v : AV) (x : List AV × St) : Option (List AV × St) := some (v :: x.1, x.2)
def ressC (as : List A) (x : AV × Nat × St) : Option (List AV × St) := (x.2.2.ress x.2.1 as).bind (ressC2 x.1)
theorem r_nil {id : Nat} : σ.ress id [] = some ([], σ) := (rfl)
theorem r_cons {id : Nat} {a : A} {as : List A} : σ.ress id (a :: as) = (σ.res id a).bind (ressC as) := (rfl)
def resCsC2 (c : C) (x : List C × Nat × St) : Option (List C × Nat × St) := some (c :: x.1, x.2)
def resCsC (id : Nat) (l : List T) (x : C × St) : Option (List C × Nat × St) := (x.2.resCs (id + 1) l).bind (resCsC2 x.1)
theorem r_cs0 {id : Nat} : σ.resCs id [] = some ([], id, σ) := (rfl)
theorem r_cs {id : Nat} {x : T} {l : List T} : σ.resCs id (x :: l) = (σ.res1 id x).bind (resCsC id l) := (rfl)
theorem blt_len {t e : TypeId} {id o n : Nat} {p : List Nat} (hu : E.P.underlying t = some (.slice e)) : E.builtin σ d .len [t] [.c (.sl id p o n)] = some (.c (.v (.int .i64 n)), σ) := by simp [Env.builtin, hu]
theorem blt_len0 {t e : TypeId} (hu : E.P.underlying t = some (.slice e)) : E.builtin σ d .len [t] [.c .z] = some (.c (.v (.int .i64 0)), σ) := by simp [Env.builtin, hu]
theorem blt_lenS {t : TypeId} {s : ByteArray} (hu : E.P.underlying t = some .string) : E.builtin σ d .len [t] [.c (.v (.string s))] = some (.c (.v (.int .i64 s.size)), σ) := by simp [Env.builtin, hu]
theorem blt_cap {t e : TypeId} (hu : E.P.underlying t = some (.slice e)) : E.builtin σ d .cap [t] [.c .z] = some (.c (.v (.int .i64 0)), σ) := by simp [Env.builtin, hu]
theorem blt_append {t : TypeId} {x y : C} : E.builtin σ d .append [t, t] [.c x, .c y] = σ.append E.P d t x y := by simp [Env.builtin]
theorem blt_max {ts : List TypeId} {k' : IntKind} {x y : Int} : E.builtin σ d .max ts [.c (.v (.int k' x)), .c (.v (.int k' y))] = some (.c (.v (.int k' (if x < y then y else x))), σ) := by simp [Env.builtin]
theorem blt_min {ts : List TypeId} {k' : IntKind} {x y : Int} : E.builtin σ d .min ts [.c (.v (.int k' x)), .c (.v (.int k' y))] = some (.c (.v (.int k' (if y < x then y else x))), σ) := by simp [Env.builtin]
attribute [simp] blt_append blt_max blt_min
/-! ### rows -/
def movesC2 (x : T) (y : List T × St) : Option (List T × St) := some (x :: y.1, y.2)
def movesC (P : Program) (ts : List TypeId) (cs : List C) (x : T × St) : Option (List T × St) := (x.2.moves P ts cs).bind (movesC2 x.1)
theorem m_nil : σ.moves P [] [] = some ([], σ) := (rfl)
theorem m_cons {t : TypeId} {ts : List TypeId} {c : C} {cs : List C} : σ.moves P (t :: ts) (c :: cs) = (σ.move P t c).bind (movesC P ts cs) := (rfl)
def rowOfC2 (xs : List T) (y : List T × St) : Option (List T × St) := some (xs ++ y.1, y.2)
def rowOfC1 (P : Program) (e : TypeId) (i : Nat) (l : List (Nat × AV)) (x : List T × St) : Option (List T × St) := (x.2.rowOf P e (i + 1) l).bind (rowOfC2 x.1)
def rowOfC (σ : St) (P : Program) (e : TypeId) (i : Nat) (l : List (Nat × AV)) (cs : List C) : Option (List T × St) := if cs.length = P.cellsOf e then (σ.moves P (fieldTypes P e) cs).bind (rowOfC1 P e i l) else none
theorem m_row0 {e : TypeId} {i : Nat} : σ.rowOf P e i [] = some ([], σ) := (rfl)
theorem m_row {e : TypeId} {i j : Nat} {v : AV} {l : List (Nat × AV)} : σ.rowOf P e i ((j, v) :: l) = if i = j then v.cs.bind (rowOfC σ P e i l) else none := by
  rw [St.rowOf]
  split
  · congr 1
    funext cs
    unfold rowOfC
    by_cases hc : cs.length = P.cellsOf e
    · rw [if_neg (by simpa using hc), if_pos hc]
      rfl
    · rw [if_pos (by simpa using hc), if_neg hc]
  · rfl
def buildC2 (d n : Nat) (e : TypeId) (x : List T × St) : Option (Option AV × St) := some (some (.c (.sl (site d 0) [] 0 n)), x.2.new (site d 0) ⟨.own, e, x.1⟩)
def buildC (E : Env) (σ : St) (d n : Nat) (e : TypeId) (vs : List (Nat × AV)) : Option (Option AV × St) := if vs.length = n then (σ.rowOf E.P e 0 vs).bind (buildC2 d n e) else none
theorem m_build {t e : TypeId} {n : Nat} {ps : Array (Nat × Operand)} (hu : E.P.underlying t = some (.slice e)) : E.op σ d (.buildSlice t n ps) = if elemOk E.P e = true ∧ n * E.P.cellsOf e ≤ 16777216 then (σ.evp ps.toList).bind (buildC E σ d n e) else none := by
  simp only [Env.op, hu]
  rfl
def storeC2 (id : Nat) (σ : St) : Option St := some (σ.scrub fun i q => i == id && !q.isEmpty)
def storeC1 (id : Nat) (p : List Nat) (off : Nat) (ts : List T) (σ : St) (x : Bool × TypeId × List T) : Option St := if (decide (x.1 = true) && decide (off + ts.length ≤ x.2.2.length) && (decide (64 ≤ id) || allV ts)) = true then (σ.setRow id p (setCells x.2.2 off ts)).bind (storeC2 id) else none
def storeC (id : Nat) (p : List Nat) (off : Nat) (x : List T × St) : Option St := (x.2.row id p).bind (storeC1 id p off x.1 x.2)
def storeK (σ : St) (P : Program) (t : TypeId) (id : Nat) (p : List Nat) (off : Nat) (cs : List C) (ob : Obj) : Kind → Option St
  | .box => match p with
    | [] => if off + cs.length ≤ ob.xs.length then some ⟨σ.t, ins σ.o id ⟨.box, ob.e, setCells ob.xs off (cs.map toL)⟩⟩ else none
    | _ :: _ => none
  | .own => (σ.moves P (fieldTypes P t) cs).bind (storeC id p off)
  | .ro => none
def storeO (σ : St) (P : Program) (t : TypeId) (id : Nat) (p : List Nat) (off : Nat) (cs : List C) (ob : Obj) : Option St := storeK σ P t id p off cs ob ob.k
def unitC (σ : St) : Option (Option AV × St) := some (none, σ)
def storeA (E : Env) (σ : St) (t : TypeId) (id : Nat) (p : List Nat) (off : Nat) (cs : List C) : Option (Option AV × St) := if cs.length = E.P.cellsOf t ∧ 0 < cs.length then ((lk σ.o id).bind (storeO σ E.P t id p off cs)).bind unitC else none
def storeB (E : Env) (σ : St) (t : TypeId) (v : AV) : AV → Option (Option AV × St)
  | .ptr id p o => v.cs.bind (storeA E σ t id p o)
  | _ => none
def storeX (E : Env) (σ : St) (t : TypeId) (x : Operand) (v : AV) : Option (Option AV × St) := (σ.ev x).bind (storeB E σ t v)
theorem m_store {t : TypeId} {x y : Operand} : E.op σ d (.store t x y) = (σ.ev y).bind (storeX E σ t x) := by
  simp only [Env.op]
  cases hx : σ.ev x with
  | none =>
    cases hy : σ.ev y with
    | none => rfl
    | some v => simp [storeX, hx]
  | some u =>
    cases hy : σ.ev y with
    | none => cases u <;> rfl
    | some v =>
      simp only [storeX, hx, Option.bind_some]
      cases u with
      | ptr id p o =>
        simp only [storeB]
        congr 1
        funext cs
        unfold storeA
        split
        · congr 1
          unfold St.store
          cases hl : lk σ.o id with
          | none => rfl
          | some ob =>
            simp only [Option.bind_some, storeO]
            unfold storeK
            cases ob.k with
            | box => rfl
            | ro => rfl
            | own =>
              show Option.bind _ _ = Option.bind _ _
              congr 1
              funext ⟨ts, σ1⟩
              show Option.bind _ _ = Option.bind _ _
              congr 1
              funext ⟨w, e, xs⟩
              show (if _ then _ else _) = if _ then _ else _
              congr 1
              cases σ1.setRow id p (setCells xs o ts) <;> rfl
        · rfl
      | _ => rfl
/-! ### append -/
def appE2 (d m len : Nat) (e : TypeId) (xs ys : List T) (σ : St) : Option (AV × St) := some (.c (.sl (site d 0) [] 0 (len + m)), σ.new (site d 0) ⟨.own, e, xs ++ ys⟩)
def appX (d m : Nat) (e : TypeId) (ys : List T) (id : Nat) (len : Nat) (σ : St) (xs : List T) : List Nat → Option (AV × St)
  | [] => some (.c (.sl (if id < 64 then site d 0 else id) [] 0 (len + m)), (σ.kill id).new (if id < 64 then site d 0 else id) ⟨.own, e, xs ++ ys⟩)
  | [i] => (σ.hole id i).bind (appE2 d m len e xs ys)
  | _ => none
def appR (d m : Nat) (e : TypeId) (ys : List T) (id : Nat) (p : List Nat) (len : Nat) (σ : St) (x : Bool × List T) : Option (AV × St) := if (decide (x.1 = true) && decide (x.2.length + ys.length ≤ most)) = true then appX d m e ys id len σ x.2 p else none
def appC (P : Program) (d : Nat) (e : TypeId) : C → Nat × List T × St → Option (AV × St)
  | .z, (m, ys, σ) => if elemOk P e = true ∧ ys.length ≤ most then some (.c (.sl (site d 0) [] 0 m), σ.new (site d 0) ⟨.own, e, ys⟩) else none
  | .sl id p 0 len, (m, ys, σ) => (σ.cellsOf P e id p 0 len).bind (appR d m e ys id p len σ)
  | _, _ => none
theorem m_append {t e : TypeId} {x y : C} (hu : P.underlying t = some (.slice e)) : σ.append P d t x y = (σ.taken P e y).bind (appC P d e x) := by
  unfold St.append
  rw [hu]
  show Option.bind _ _ = _
  congr 1
  funext ⟨m, ys, σ⟩
  cases x with
  | v q => rfl
  | z => rfl
  | sl id p off len =>
    cases off with
    | zero =>
      show Option.bind _ _ = Option.bind _ _
      congr 1
    | succ n => rfl
/-! ### functions -/
def resultsC2 (a : A) (x : List A × St) : Option (List A × St) := some (a :: x.1, x.2)
def resultsC1 (P : Program) (ts : List TypeId) (rs : List ResultVar) (x : A × St) : Option (List A × St) := (x.2.results P ts rs).bind (resultsC2 x.1)
def resultsC (σ : St) (P : Program) (t : TypeId) (ts : List TypeId) (rs : List ResultVar) (v : AV) : Option (List A × St) := (σ.result P t v).bind (resultsC1 P ts rs)
theorem f_res0 : σ.results P [] [] = some ([], σ) := (rfl)
theorem f_res {t : TypeId} {ts : List TypeId} {r : ResultVar} {rs : List ResultVar} : σ.results P (t :: ts) (r :: rs) = (σ.resVal P r).bind (resultsC σ P t ts rs) := (rfl)
def agrC (x : List T × St) : Option (A × St) := some (.agg x.1, x.2)
def cellC (x : T × St) : Option (A × St) := some (.c x.1, x.2)
theorem f_agg {t : TypeId} {xs : List C} : σ.result P t (.agg xs) = (σ.moves P (fieldTypes P t) xs).bind agrC := (rfl)
theorem f_cell {t : TypeId} {x : C} : σ.result P t (.c x) = (σ.move P t x).bind cellC := (rfl)
def leaveK (i0 : Nat) (as : List A) (x : List A × St) : Ans := some (x.1, (St.leave.leaves x.2 i0 as).1)
def funcK (P : Program) (i0 : Nat) (f : Func) (as : List A) : Ex × St → Ans
  | (.exit _, _) => none
  | (.normal, σ) => (σ.results P f.resultTypes.toList f.results.toList).bind (leaveK i0 as)
  | (.ret, σ) => (σ.results P f.resultTypes.toList f.results.toList).bind (leaveK i0 as)
/-- A function, with its body. -/
theorem f_func {i0 : Nat} {f : Func} {as : List A} {c : Code} (hb : f.body = some c) (hl : (enter.enters i0 as).1.length ≤ f.ntmps) : Env.func E k h i0 f as = (E.exec k h c ⟨tmps0 0 (enter.enters i0 as).1, (enter.enters i0 as).2.2⟩).bind (funcK E.P i0 f as) := by
  unfold Env.func
  simp only [hb]
  rw [if_neg (by omega)]
  congr 1
  funext ⟨x, σ⟩
  cases x <;> rfl
theorem m_run {M : Mach} {j f : Nat} {as : List A} {fn : Func} (hp : M.prim f = none) (hf : M.P.funcs[f]? = some fn) {c : Code} (hb : fn.body = some c) {i0 : Nat} (hi : (if M.far f = true then 64 * (fn.ntmps + 2) else 0) = i0) (hl : (enter.enters i0 as).1.length ≤ fn.ntmps) :
    M.run (j + 1) f as = (Env.exec ⟨M.P, fn.ntmps, M.run j, M.own⟩ j (M.hint f) c ⟨tmps0 0 (enter.enters i0 as).1, (enter.enters i0 as).2.2⟩).bind (funcK M.P i0 fn as) := by
  rw [Mach.run, hp]
  simp only [hf]
  rw [hi, f_func hb hl]
/-! ### loops -/
def keepC (h : List Nat × List Nat) (r : Ex × St) : Option (Ex × St) := some (r.1, r.2.keep h)
attribute [simp] keepC
theorem iter_up {f : St → Option (Ex × St)} {h : List Nat × List Nat} {H : Nat → St} {n : Nat} {x : Ex} {F : St} (hx : x ≠ .normal) (hstep : ∀ i, i < n → (f (H i)).bind (keepC h) = some (.normal, H (i + 1))) (hend : f (H n) = some (x, F)) {σ : St} {k : Nat} (h0 : σ.keep h = H 0) (hk : n < k) : iter f h k σ = some (x, F) := by
  have key : ∀ m i σ k, i + m = n → σ.keep h = H i → m < k → iter f h k σ = some (x, F) := by
    intro m
    induction m with
    | zero =>
      intro i σ k hi hs hk
      obtain ⟨k, rfl⟩ : ∃ j, k = j + 1 := ⟨k - 1, by omega⟩
      have : i = n := by omega
      subst this
      rw [iter, hs, hend]
      cases x <;> first | rfl | exact absurd rfl hx
    | succ m ih =>
      intro i σ k hi hs hk
      obtain ⟨k, rfl⟩ : ∃ j, k = j + 1 := ⟨k - 1, by omega⟩
      obtain ⟨⟨y, τ⟩, h1, h2⟩ := Option.bind_eq_some_iff.1 (hstep i (by omega))
      simp only [keepC, Option.some.injEq, Prod.mk.injEq] at h2
      obtain ⟨rfl, h2⟩ := h2
      rw [iter, hs, h1]
      exact ih (i + 1) τ k (by omega) h2 (by omega)
  exact key n 0 σ k (by omega) h0 hk
/-- A loop whose n rounds lead from H 0 to H n, and that ends there. -/
theorem loop_up {E : Env} {k : Nat} {h : Nat → List Nat × List Nat} {a : Code} {σ : St} (H : Nat → St) (n : Nat) (x : Ex) (F : St) (hx : x ≠ .normal) (h0 : σ.keep (h (firstR a)) = H 0) (hk : n < k) (hstep : ∀ i, i < n → (E.exec k h a (H i)).bind (keepC (h (firstR a))) = some (.normal, H (i + 1))) (hend : E.exec k h a (H n) = some (x, F)) : loopE E k h a σ = some (x, F) := iter_up hx hstep hend h0 hk
theorem w64 {x : Int} (h : -9223372036854775808 ≤ x ∧ x ≤ 9223372036854775807) : IntKind.i64.wrap x = x := by
  unfold IntKind.wrap
  simp [IntKind.bits, IntKind.signed]
  omega
attribute [simp] x_skip x_region x_draw x_seq x_cond x_block x_exit x_ret x_loop regC seqC condC blockC firstR
attribute [simp] opersC opersDC putC operC freeC o_nil o_cons o_nilD o_consD o_oper o_operD freeB isVal Env.free St.absent
attribute [simp] resC bltC fnC valueC c_blt c_val callC1 callC2 callC3 callC4 c_call backsC b_cons b_nil backCsC b_cs b_cs0 ressC ressC2 r_nil r_cons resCsC resCsC2 r_cs0 r_cs
attribute [simp] movesC movesC2 m_nil m_cons rowOfC rowOfC1 rowOfC2 m_row0 m_row buildC buildC2 storeC storeC1 storeC2 storeK storeO storeA storeB storeX unitC m_store appE2 appX appR appC
attribute [simp] resultsC resultsC1 resultsC2 f_res0 f_res agrC cellC f_agg f_cell leaveK funcK
attribute [simp] enter enter.enters enterC enterCs tmps0 lk ins del St.want St.ev St.evs St.evp St.put site St.new St.kill St.keep St.keep1 St.rens St.ren St.ren2 renO renOb T.ren St.scrub T.scr AV.mem AV.mem.mems C.mem AV.cs cOf toL toC toCs St.load St.row down bin binV cmpI arI unV St.resVal St.move St.res St.res1 cnts A.cnt St.leave St.leave.leaves St.leaveC St.leaveCs St.leaveB St.leaveCells St.leaveL intOr oneOf fillC zC St.setRow setAt setCells allV
attribute [simp] aparts apart1 St.feets St.feet St.boxFeet St.boxesFeet C.feet T.feet csFeet tsFeet St.args St.arg St.argC St.argCs St.rowE St.ownE St.argE St.argBox St.argBoxes St.boxT St.back St.backC St.backB St.backBs St.backRows backBox below St.hole T.ro St.taken St.cellsOf
end Go.Proofs.Ytbdidcfjaohglaa.VM
