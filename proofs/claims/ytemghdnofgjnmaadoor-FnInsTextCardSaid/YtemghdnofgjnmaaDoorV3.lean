/- The machine on trees: calls, regions that draw their order, laws, reckoning. -/
import Derived.Test.YtemghdnofgjnmaaDoorV2
import Derived.Deep.RegionHeld3
import Derived.Deep.Slices
import Derived.ChangeArms
import Derived.WideShapes
import Derived.Below
/- A call's results are new objects. -/
namespace Go.Proofs.YtemghdnofgjnmaaDoor.VM
open Go Go.Proofs.YtemghdnofgjnmaaDoorW.PrintWords
set_option linter.unusedVariables false
set_option linter.unusedSimpArgs false
variable {P : Program} {w w1 w2 w0 W W' : World} {mine : Ctx} {o o1 o2 : OM} {loc loc1 loc2 loc' : Nat → Value} {O R O' R' : Nat → List Nat} {σ σ1 σ2 σ' : St} {a : Act} {c : Ctx}

variable {f g : Nat → List Nat → Bool}
theorem C_mono (hfg : ∀ i p, f i p = true → g i p = true) : ∀ {x : C}, x.mem g = false → x.mem f = false
 | .v x, _ => rfl
 | .z, _ => rfl
 | .sl id p off n, h => by
  rw [C.mem] at h ⊢
  cases hf : f id p with
  | false => rfl
  | true => rw [hfg id p hf] at h; simp at h
theorem Cs_mono (hfg : ∀ i p, f i p = true → g i p = true) : ∀ {x : List C}, x.any (·.mem g) = false → x.any (·.mem f) = false
 | [], _ => rfl
 | x :: l, h => by
  simp only [List.any_cons, Bool.or_eq_false_iff] at h ⊢
  exact ⟨C_mono hfg h.1, Cs_mono hfg h.2⟩
/-- No object from here on. -/
def from_ (n : Nat) : Nat → List Nat → Bool := fun i _ => decide (n ≤ i)
theorem from_mono {n m : Nat} (h : n ≤ m) : ∀ i p, from_ m i p = true → from_ n i p = true := fun i p hi => by
 unfold from_ at hi ⊢
 simp at hi ⊢
 omega
/-- Blocks of a result: nobody else's. -/
structure Bl (P : Program) (w0 : World) (mine : Ctx) (w : World) (σ : St) (O : Nat → List Nat) (B : List Nat) : Prop where
 nodup : B.Nodup
 free : ∀ j ob, lk σ.o j = some ob → ∀ b ∈ O j, b ∉ B
 own : ∀ b ∈ B, b < w.heap.size ∧ (w0.heap.size ≤ b ∨ mine b)
/-- More objects. -/
structure More (P : Program) (w0 : World) (mine : Ctx) (a : Act) (w : World) (lo hi : Nat) (σ : St) (loc : Nat → Value) (O : Nat → List Nat) (σ' : St) (loc' : Nat → Value) (O' R' : Nat → List Nat) (B : List Nat) : Prop where
 cor : Cor P w0 mine σ' a w loc' O' R'
 tr : ∀ i p, i < lo → Tr w σ.o loc w σ'.o loc' i p
 blocks : ∀ j ob, lk σ'.o j = some ob → ∀ b ∈ O' j, b ∈ B ∨ ∃ ob0, lk σ.o j = some ob0 ∧ b ∈ O j
 le : lo ≤ hi
theorem More.refl (h : Cor P w0 mine σ a w loc O R) {lo hi : Nat} (hl : lo ≤ hi) : More P w0 mine a w lo hi σ loc O σ loc O R [] := ⟨h, fun i p _ => Tr.refl, fun j ob hl b hb => .inr ⟨ob, hl, hb⟩, hl⟩
theorem More.trans {lo mid hi : Nat} {O2 R2 : Nat → List Nat} {B1 B2 : List Nat} (h1 : More P w0 mine a w lo mid σ loc O σ1 loc1 O' R' B1) (h2 : More P w0 mine a w mid hi σ1 loc1 O' σ2 loc2 O2 R2 B2) : More P w0 mine a w lo hi σ loc O σ2 loc2 O2 R2 (B1 ++ B2) := by
 refine ⟨h2.cor, fun i p hi => (h1.tr i p hi).trans (h2.tr i p (Nat.lt_of_lt_of_le hi h1.le)), fun j ob hl b hb => ?_, Nat.le_trans h1.le h2.le⟩
 rcases h2.blocks j ob hl b hb with hb | ⟨ob0, hl0, hb0⟩
 ·exact .inl (List.mem_append_right _ hb)
 ·rcases h1.blocks j ob0 hl0 b hb0 with hb | h
  ·exact .inl (List.mem_append_left _ hb)
  ·exact .inr h
theorem Bl.left {B1 B2 : List Nat} (h : Bl P w0 mine w σ O (B1 ++ B2)) : Bl P w0 mine w σ O B1 := ⟨(List.nodup_append.1 h.nodup).1, fun j ob hl b hb hb' => h.free j ob hl b hb (List.mem_append_left _ hb'), fun b hb => h.own b (List.mem_append_left _ hb)⟩
theorem Bl.right {B1 B2 : List Nat} {lo hi : Nat} (h : Bl P w0 mine w σ O (B1 ++ B2)) (hm : More P w0 mine a w lo hi σ loc O σ1 loc1 O' R' B1) : Bl P w0 mine w σ1 O' B2 := by
 have hn := List.nodup_append.1 h.nodup
 refine ⟨hn.2.1, fun j ob hl b hb hb' => ?_, fun b hb => h.own b (List.mem_append_right _ hb)⟩
 rcases hm.blocks j ob hl b hb with hb | ⟨ob0, hl0, hb⟩
 ·exact hn.2.2 b hb b hb' rfl
 ·exact h.free j ob0 hl0 b hb (List.mem_append_right _ hb')
theorem kill_tr (hs : Srt σ.o) {k i : Nat} {p : List Nat} (hne : i ≠ k) : Tr w σ.o loc w (σ.kill k).o loc i p := by
 unfold St.kill
 split
 ·exact Tr.refl
 ·exact Tr_del hs (by simpa using hne)
/-- A new object. -/
theorem new_obj (h : Cor P w0 mine σ a w loc O R) {k : Nat} (hk : 64 ≤ k) {ob : Obj} {v : Value} {B : List Nat} (hr : RepO P w (σ.kill k).o loc ob v B []) (hb : Bl P w0 mine w σ O B) :
  More P w0 mine a w k (k + 1) σ loc O (σ.new k ob) (upd loc k v) (upd O k B) (upd R k []) B ∧ lk (σ.new k ob).o k = some ob := by
 obtain ⟨k1, k2, k3⟩ := h.kill k
 have k5 := k1.add (ob := ob) k2 hr hb.nodup (fun id ob hl b hb' => by
  obtain ⟨_, ob0, hl0⟩ := k3 id ob hl
  exact hb.free id ob0 hl0 b hb') hb.own (fun b hb => by simp at hb) (fun h => by omega)
 have e : (σ.new k ob) = ⟨(σ.kill k).t, ins (σ.kill k).o k ob⟩ := rfl
 refine ⟨⟨by rw [e]; exact k5, fun i p hi => ?_, fun j ob' hl b hb' => ?_, Nat.le_succ _⟩, ?_⟩
 ·rw [e]
  exact (kill_tr h.so (by omega)).trans (Tr_ins k2 ob v)
 ·rw [e] at hl
  have hl : lk (ins (σ.kill k).o k ob) j = some ob' := hl
  by_cases hj : j = k
  ·subst hj
   rw [upd_same] at hb'
   exact .inl hb'
  ·rw [lk_ins, if_neg (fun e => hj e.symm)] at hl
   rw [upd_other _ _ hj] at hb'
   obtain ⟨_, ob0, hl0⟩ := k3 j ob' hl
   exact .inr ⟨ob0, hl0, hb'⟩
 ·rw [e]
  show lk (ins _ k _) k = _
  rw [lk_ins, if_pos rfl]
theorem res1_sound (h : Cor P w0 mine σ a w loc O R) {id : Nat} (hid : 64 ≤ id) {x : T} {v : Value} {B : List Nat} (hr : RepT P w x v B []) (hb : Bl P w0 mine w σ O B) {y : C} (hx : σ.res1 id x = some (y, σ')) :
  ∃ loc' O' R', More P w0 mine a w id (id + 1) σ loc O σ' loc' O' R' B ∧ RepC P w σ'.o loc' y v ∧ y.mem (from_ (id + 1)) = false := by
 cases x with
 | v q =>
  simp only [St.res1, Option.some.injEq, Prod.mk.injEq] at hx
  obtain ⟨rfl, rfl⟩ := hx
  rw [RepT] at hr
  obtain ⟨rfl, h1, rfl, _⟩ := hr
  exact ⟨loc, O, R, More.refl h (Nat.le_succ _), by rw [RepC]; exact ⟨rfl, h1⟩, rfl⟩
 | s e n xs =>
  simp only [St.res1, Option.some.injEq, Prod.mk.injEq] at hx
  obtain ⟨rfl, rfl⟩ := hx
  obtain ⟨k1, k2⟩ := new_obj h hid (ob := ⟨.own, e, xs⟩) (v := v) (B := B) ⟨n, hr⟩ hb
  refine ⟨_, _, _, k1, ?_, by simp [C.mem, from_]⟩
  obtain ⟨A, cc, us, O3, R3, hv, hnc, hcm, _⟩ := Row_cells (own := true) (show Row P w true e n xs v B [] from hr)
  rw [RepC]
  exact ⟨⟨.own, e, xs⟩, (true, e, xs), v, k2, by simp, by rw [down]; rfl, by rw [HdrAt, upd_same], by rw [hv]; exact SubHdr_self hnc hcm.1 hcm.2⟩
 | _ => simp [St.res1] at hx
theorem RepC_more {lo hi : Nat} {B : List Nat} (hm : More P w0 mine a w lo hi σ loc O σ' loc' O' R' B) {y : C} {v : Value} (hf : y.mem (from_ lo) = false) (h : RepC P w σ.o loc y v) : RepC P w σ'.o loc' y v :=
 RepC_tr (f := from_ lo) (fun i p hi => hm.tr i p (by unfold from_ at hi; simp at hi; exact hi)) hf h
theorem resCs_sound : ∀ {xs : List T} {id id' : Nat} {vs : List Value} {B : List Nat} {ys : List C} {σ σ' : St} {loc : Nat → Value} {O R : Nat → List Nat}, Cor P w0 mine σ a w loc O R → 64 ≤ id → RepTs P w xs vs B [] → Bl P w0 mine w σ O B → σ.resCs id xs = some (ys, id', σ') →
  ∃ loc' O' R', More P w0 mine a w id id' σ loc O σ' loc' O' R' B ∧ RepCs P w σ'.o loc' ys vs ∧ ys.any (·.mem (from_ id')) = false
 | [], id, id', vs, B, ys, σ, σ', loc, O, R, h, hid, hr, hb, hx => by
  simp only [St.resCs, Option.some.injEq, Prod.mk.injEq] at hx
  obtain ⟨rfl, rfl, rfl⟩ := hx
  rw [RepTs] at hr
  obtain ⟨rfl, rfl, _⟩ := hr
  exact ⟨loc, O, R, More.refl h (Nat.le_refl _), by rw [RepCs], rfl⟩
 | x :: xs, id, id', vs, B, ys, σ, σ', loc, O, R, h, hid, hr, hb, hx => by
  simp only [St.resCs] at hx
  obtain ⟨⟨y, σ1⟩, h1, hx⟩ := Option.bind_eq_some_iff.1 hx
  obtain ⟨⟨ys', j, σ2⟩, h2, hx⟩ := Option.bind_eq_some_iff.1 hx
  simp only [Option.some.injEq, Prod.mk.injEq] at hx
  obtain ⟨rfl, rfl, rfl⟩ := hx
  rw [RepTs] at hr
  obtain ⟨u, us, O1, R1, O2, R2, rfl, r1, r2, rfl, e⟩ := hr
  obtain ⟨rfl, rfl⟩ := List.append_eq_nil_iff.1 e.symm
  obtain ⟨loc1, Oa, Ra, k1, k2, k3⟩ := res1_sound h hid r1 hb.left h1
  obtain ⟨loc2, Ob, Rb, j1, j2, j3⟩ := resCs_sound k1.cor (Nat.le_succ_of_le hid) r2 (hb.right k1) h2
  refine ⟨loc2, Ob, Rb, k1.trans j1, by rw [RepCs]; exact ⟨u, us, rfl, RepC_more j1 k3 k2, j2⟩, ?_⟩
  simp only [List.any_cons, Bool.or_eq_false_iff]
  exact ⟨C_mono (from_mono j1.le) k3, j3⟩
theorem RepLs_allV : ∀ {xs : List T} {us : List Value} {O1 R1 : List Nat}, allV xs = true → RepTs P w xs us O1 R1 → RepLs P w o loc xs us
 | [], us, _, _, _, h => by rw [RepTs] at h; rw [RepLs]; exact h.1
 | .v x :: l, us, O1, R1, hv, h => by
  rw [RepTs] at h
  obtain ⟨u, us', Oa, Ra, Ob, Rb, rfl, h1, h2, _⟩ := h
  rw [RepT] at h1
  rw [allV] at hv
  rw [RepLs]
  exact ⟨u, us', rfl, by rw [RepL]; exact ⟨h1.1, h1.2.1⟩, RepLs_allV hv h2⟩
 | .s _ _ _ :: l, us, _, _, hv, h => by simp [allV] at hv
 | .r _ _ _ :: l, us, _, _, hv, h => by simp [allV] at hv
 | .z :: l, us, _, _, hv, h => by simp [allV] at hv
 | .l _ _ _ _ :: l, us, _, _, hv, h => by simp [allV] at hv
 | .h :: l, us, _, _, hv, h => by simp [allV] at hv
theorem allH_rep : ∀ {xs : List T} {us : List Value} {O1 R1 : List Nat}, (∀ x ∈ xs, isH x = true) → RepTs P w xs us O1 R1 → O1 = [] ∧ us.length = xs.length ∧ ∀ u ∈ us, u.oneCell' = true
 | [], us, O1, R1, _, h => by
  rw [RepTs] at h
  obtain ⟨rfl, rfl, _⟩ := h
  exact ⟨rfl, rfl, fun u hu => by simp at hu⟩
 | x :: l, us, O1, R1, ha, h => by
  rw [RepTs] at h
  obtain ⟨u, us', Oa, Ra, Ob, Rb, rfl, h1, h2, rfl, rfl⟩ := h
  have hx := ha x (by simp)
  cases x with
  | h =>
   rw [RepT] at h1
   obtain ⟨k1, rfl, rfl⟩ := h1
   obtain ⟨rfl, k2, k3⟩ := allH_rep (fun x hx => ha x (by simp [hx])) h2
   refine ⟨rfl, by simp [k2], fun v hv => ?_⟩
   rcases List.mem_cons.1 hv with rfl | hv
   ·exact k1
   ·exact k3 v hv
  | _ => simp [isH] at hx
theorem res_sound (h : Cor P w0 mine σ a w loc O R) {id id' : Nat} (hid : 64 ≤ id) {x : A} {v : Value} {B : List Nat} (hr : RepA P w x v B []) (hb : Bl P w0 mine w σ O B) {y : AV} (hx : σ.res id x = some (y, id', σ')) :
  ∃ loc' O' R', More P w0 mine a w id id' σ loc O σ' loc' O' R' B ∧ RepAV P w σ'.o loc' y v ∧ y.mem (from_ id') = false := by
 cases x with
 | c x =>
  simp only [St.res] at hx
  obtain ⟨⟨y', σ1⟩, h1, hx⟩ := Option.map_eq_some_iff.1 hx
  simp only [Prod.mk.injEq] at hx
  obtain ⟨rfl, rfl, rfl⟩ := hx
  rw [RepA] at hr
  obtain ⟨loc1, Oa, Ra, k1, k2, k3⟩ := res1_sound h hid hr hb h1
  exact ⟨loc1, Oa, Ra, k1, rep_c k2, by rw [AV.mem]; exact k3⟩
 | agg xs =>
  simp only [St.res] at hx
  rw [RepA] at hr
  obtain ⟨us, rfl, hr⟩ := hr
  rcases Option.or_eq_some_iff.1 hx with hx | ⟨_, hx⟩
  rotate_left
  ·unfold St.resU at hx
   split at hx
   ·rename_i hall
    simp only [Option.some.injEq, Prod.mk.injEq] at hx
    obtain ⟨rfl, rfl, rfl⟩ := hx
    unfold allH at hall
    rw [Bool.and_eq_true] at hall
    obtain ⟨k1, k2, k3⟩ := allH_rep (List.all_eq_true.1 hall.2) hr
    subst k1
    exact ⟨loc, O, R, More.refl h (Nat.le_add_right _ _), by rw [RepAV]; exact ⟨us, rfl, k2, k3⟩, rfl⟩
   ·simp at hx
  obtain ⟨⟨ys, j, σ1⟩, h1, hx⟩ := Option.map_eq_some_iff.1 hx
  simp only [Prod.mk.injEq] at hx
  obtain ⟨rfl, rfl, rfl⟩ := hx
  obtain ⟨loc1, Oa, Ra, k1, k2, k3⟩ := resCs_sound h hid hr hb h1
  exact ⟨loc1, Oa, Ra, k1, by rw [RepAV]; exact ⟨us, rfl, k2⟩, by rw [AV.mem]; exact k3⟩
 | box e xs =>
  simp only [St.res] at hx
  split at hx
  ·rename_i hall
   simp only [Option.some.injEq, Prod.mk.injEq] at hx
   obtain ⟨rfl, rfl, rfl⟩ := hx
   rw [RepA] at hr
   obtain ⟨g, cs, B', rfl, hg, hr, rfl⟩ := hr
   obtain ⟨rfl, _⟩ := allV_rep hall hr
   obtain ⟨k1, k2⟩ := new_obj h hid (ob := ⟨.box, e, xs⟩) (v := .slice (some ⟨g, 0, none⟩) 1 1) (B := [] ++ [g]) ⟨g, cs, rfl, hg, rfl, rfl, RepLs_allV hall hr⟩ hb
   refine ⟨_, _, _, k1, ?_, by simp [AV.mem, from_]⟩
   rw [RepAV]
   exact ⟨⟨.box, e, xs⟩, (true, e, xs), ⟨g, 0, none⟩, 1, 1, k2, fun _ => rfl, by rw [down]; rfl, by rw [HdrAt, upd_same], rfl, by simp [Addr.add]⟩
  ·simp at hx
 | fn f as => simp [St.res] at hx
 | gone => simp [St.res] at hx
 | nn =>
  simp only [St.res, Option.some.injEq, Prod.mk.injEq] at hx
  obtain ⟨rfl, rfl, rfl⟩ := hx
  rw [RepA] at hr
  obtain ⟨hr, rfl, _⟩ := hr
  exact ⟨loc, O, R, More.refl h (Nat.le_succ _), by rw [RepAV]; exact hr, rfl⟩
theorem AV_mono (hfg : ∀ i p, f i p = true → g i p = true) (x : AV) : x.mem g = false → x.mem f = false := by
 induction x using AV.rec (motive_2 := fun l => AV.mem.mems g l = false → AV.mem.mems f l = false) with
 | c x => intro h; rw [AV.mem] at h ⊢; exact C_mono hfg h
 | agg xs => intro h; rw [AV.mem] at h ⊢; exact Cs_mono hfg h
 | ptr id p off => intro h; rw [AV.mem] at h ⊢; exact C_mono (x := .sl id p 0 0) hfg h
 | tup xs h => intro h'; rw [AV.mem] at h' ⊢; exact h h'
 | fn f xs h => intro h'; rw [AV.mem] at h' ⊢; exact h h'
 | u => intro _; rfl
 | unk n => intro _; rfl
 | nn => intro _; rfl
 | nil => rfl
 | cons x l h1 h2 =>
  rename_i h
  rw [AV.mem.mems, Bool.or_eq_false_iff] at h ⊢
  exact ⟨h1 h.1, h2 h.2⟩
theorem ress_sound : ∀ {xs : List A} {id : Nat} {vs : List Value} {B : List Nat} {ys : List AV} {σ σ' : St} {loc : Nat → Value} {O R : Nat → List Nat}, Cor P w0 mine σ a w loc O R → 64 ≤ id → RepAs P w xs vs B [] → Bl P w0 mine w σ O B → σ.ress id xs = some (ys, σ') →
  ∃ loc' O' R' id', More P w0 mine a w id id' σ loc O σ' loc' O' R' B ∧ RepAVs P w σ'.o loc' ys vs
 | [], id, vs, B, ys, σ, σ', loc, O, R, h, hid, hr, hb, hx => by
  simp only [St.ress, Option.some.injEq, Prod.mk.injEq] at hx
  obtain ⟨rfl, rfl⟩ := hx
  rw [RepAs] at hr
  obtain ⟨rfl, rfl, _⟩ := hr
  exact ⟨loc, O, R, id, More.refl h (Nat.le_refl _), by rw [RepAVs]⟩
 | x :: xs, id, vs, B, ys, σ, σ', loc, O, R, h, hid, hr, hb, hx => by
  simp only [St.ress] at hx
  obtain ⟨⟨y, j, σ1⟩, h1, hx⟩ := Option.bind_eq_some_iff.1 hx
  obtain ⟨⟨ys', σ2⟩, h2, hx⟩ := Option.bind_eq_some_iff.1 hx
  simp only [Option.some.injEq, Prod.mk.injEq] at hx
  obtain ⟨rfl, rfl⟩ := hx
  rw [RepAs] at hr
  obtain ⟨u, us, O1, R1, O2, R2, rfl, r1, r2, rfl, e⟩ := hr
  obtain ⟨rfl, rfl⟩ := List.append_eq_nil_iff.1 e.symm
  obtain ⟨loc1, Oa, Ra, k1, k2, k3⟩ := res_sound h hid r1 hb.left h1
  obtain ⟨loc2, Ob, Rb, id', j1, j2⟩ := ress_sound k1.cor (Nat.le_trans hid k1.le) r2 (hb.right k1) h2
  have hy := RepAV_tr (f := from_ j) (fun i p hi => j1.tr i p (by unfold from_ at hi; simp at hi; exact hi)) k3 k2
  exact ⟨loc2, Ob, Rb, id', k1.trans j1, by rw [RepAVs]; exact ⟨u, us, rfl, hy, j2⟩⟩
theorem RepAVs_n : ∀ {xs : List AV} {us : List Value}, RepAVs P w o loc xs us → us.length = xs.length := RepAVs_len
/-- What a call answers that makes a variable. -/
def AnswersX (P : Program) (w : World) (as : List A) (us : List Value) (Ox : List Nat) (rs as' : List A) : Ending → World → Prop := match maker rs with
 | none => Answers P w as us Ox rs as'
 | some (e, xs) => fun E w' => match E with
  | .returned v => ∃ u vs, us = [u] ∧ v = .pointer (some ⟨w.heap.size, 0, none⟩) ∧ w' = w.alloc (.cells (u :: vs).toArray e) ∧ RepTs P w xs vs [] []
  | _ => False
theorem ress_nomk {σ σ' : St} {id : Nat} {rs : List A} {ws : List AV} (h : σ.ress id rs = some (ws, σ')) : maker rs = none := by
 unfold maker
 split
 ·simp [St.ress, St.res, allV] at h
 ·rfl
theorem AnswersX_none {rs : List A} (h : maker rs = none) {as as' : List A} {us : List Value} {Ox : List Nat} : AnswersX P w as us Ox rs as' = Answers P w as us Ox rs as' := by
 unfold AnswersX
 rw [h]
theorem make_sound (h : Cor P w0 mine σ a w loc O R) {d : Nat} {ys : List AV} {us : List Value} (hv : RepAVs P w σ.o loc ys us) {rs as as' : List A} {Ox : List Nat} {av : AV} (hc : σ.make d rs ys = some (av, σ')) {E : Ending} {w' : World} (hx : AnswersX P w as us Ox rs as' E w') :
  match E with
   | .returned v => ∃ loc' O' R', Cor P w0 mine σ' a w' loc' O' R' ∧ RepAV P w' σ'.o loc' av v
   | _ => False := by
 unfold St.make at hc
 split at hc
 ·rename_i i p o n
  obtain ⟨⟨e, xs⟩, h1, hc⟩ := Option.bind_eq_some_iff.1 hc
  simp only at hc
  split at hc
  ·rename_i hm
   simp only [Option.some.injEq, Prod.mk.injEq] at hc
   obtain ⟨rfl, rfl⟩ := hc
   unfold AnswersX at hx
   rw [h1] at hx
   cases E with
   | returned v =>
    obtain ⟨u, vs, rfl, rfl, rfl, hr⟩ := hx
    rw [RepAVs] at hv
    obtain ⟨u', us', he, hu, hus⟩ := hv
    injection he with he1 he2
    subst he1
    rw [RepAV] at hu
    have hcs : RepCs P w σ.o loc [.sl i p o n] [u] := by
     rw [RepCs]
     exact ⟨u, [], rfl, hu, by rw [RepCs]⟩
    have hk := RepLs_toL (C_kill h (site d 0) (by simp [C.mem, hm.2]) hcs)
    exact h.newBox (site d 0) (site_ge d 0) (t := e) (cells := (u :: vs).toArray) (RepLs_append hk (RepLs_allV hm.1 hr))
   | panicked c => exact hx.elim
   | outgrown => exact hx.elim
  ·simp at hc
 ·simp at hc
/-- What a machine's run tells is so. -/
def Sound (gd : Guard) (P : Program) (run : FuncId → List A → Ans) : Prop :=
 ∀ (f : FuncId) (as rs as' : List A), run f as = some (rs, as') → ∀ (w : World) (us : List Value) (Ox Rx : List Nat), Given gd P w as us Ox Rx →
  (callFunc f us.toArray).run P w = .ok (.enter f us.toArray) w ∧ Calls P f us.toArray w (AnswersX P w as us Ox rs as')
theorem call_sound {gd : Guard} {run : FuncId → List A → Ans} (hrun : Sound gd P run) (hgd : gd.on w0 mine.m) {own : FuncId → Nat → Bool} (h : Cor P w0 mine σ a w loc O R) {d : Nat} {fn : FuncId} {ts : List TypeId} {ys : List AV} {us : List Value} (hv : RepAVs P w σ.o loc ys us) {av : AV} (hc : σ.call P run own d fn ts ys = some (av, σ')) :
  (callFunc fn us.toArray).run P w = .ok (.enter fn us.toArray) w ∧ Calls P fn us.toArray w fun
   | .returned v, w' => ∃ loc' O' R', Cor P w0 mine σ' a w' loc' O' R' ∧ RepAV P w' σ'.o loc' av v
   | _, _ => False := by
 unfold St.call at hc
 split at hc
 ·simp at hc
 ·rename_i hap
  have hap : aparts (σ.feets (own fn) 0 ys) = true := by simpa using hap
  obtain ⟨as, h1, hc⟩ := Option.bind_eq_some_iff.1 hc
  obtain ⟨⟨rs, as'⟩, h2, hc⟩ := Option.bind_eq_some_iff.1 hc
  simp only at hc
  obtain ⟨Ox, Rx, hg, hleds⟩ := given_sound hgd h hv h1 hap
  obtain ⟨k1, k2⟩ := hrun fn as rs as' h2 w us Ox Rx hg
  split at hc
  ·refine ⟨k1, k2.mono fun e w' he => ?_⟩
   have := make_sound h hv hc he
   cases e with
   | returned v => exact this
   | panicked chain => exact this.elim
   | outgrown => exact this.elim
  split at hc
  ·simp at hc
  obtain ⟨σ1, h3, hc⟩ := Option.bind_eq_some_iff.1 hc
  obtain ⟨⟨ws, σ2⟩, h4, hc⟩ := Option.bind_eq_some_iff.1 hc
  rw [AnswersX_none (ress_nomk h4)] at k2
  refine ⟨k1, k2.mono fun e w' he => ?_⟩
  cases e with
  | returned v =>
   obtain ⟨vs, O1, O2, rfl, hl⟩ := he
   obtain ⟨L, p1, p2⟩ := mid_start h hv h1 hap hg hl.size hl.still hl.kept
   have hn := List.nodup_append.1 hl.nodup
   obtain ⟨O3, R3, m⟩ := backs_done (Q := []) (L := L) (by rw [List.append_nil]; exact p2) p1 hl.after ⟨hn.2.1, fun b hb => (hl.from_ b (List.mem_append_right _ hb)).1, fun b _ => by simp⟩ h3
   rw [List.nil_append, List.nil_append] at m
   have hcor : Cor P w0 mine σ1 a w' loc O3 R3 := m.cor.grow (by rw [mix_size]; exact Nat.le_refl _) ⟨rfl, rfl, rfl⟩ (fun b _ => (mix_out (by simp [pend])).symm)
   have hbl : Bl P w0 mine w' σ1 O3 O1 := by
    refine ⟨hn.1, fun j ob hlk b hb hb' => ?_, fun b hb => ?_⟩
    ·have := m.fresh j ob hlk b hb ((hl.from_ b (List.mem_append_left _ hb')).2.symm)
     exact hn.2.2 b hb' b this rfl
    ·obtain ⟨q1, q2⟩ := hl.from_ b (List.mem_append_left _ hb)
     refine ⟨q1, ?_⟩
     rcases q2 with q2 | q2
     ·exact .inl (Nat.le_trans h.inv.size q2)
     ·obtain ⟨x, Oa, Ra, c1, c2, c3, c4⟩ := hleds.mem.1 b q2
      obtain ⟨c5, ob, c6, c7⟩ := c2.2.2.2.1 b c3
      exact (h.inv.own_ _ ob c6 b c5).2
   obtain ⟨loc', O4, R4, id', q1, q2⟩ := ress_sound hcor (site_ge d 0) hl.rep hbl h4
   have hlen := RepAVs_len q2
   refine ⟨loc', O4, R4, ?_⟩
   match ws, vs, hlen with
   | [y], [v], _ =>
    simp only [Option.some.injEq, Prod.mk.injEq] at hc
    obtain ⟨rfl, rfl⟩ := hc
    refine ⟨q1.cor, ?_⟩
    rw [RepAVs] at q2
    obtain ⟨u, us', he, q3, _⟩ := q2
    injection he with he _
    subst he
    exact q3
   | [], [], _ =>
    simp only [Option.some.injEq, Prod.mk.injEq] at hc
    obtain ⟨rfl, rfl⟩ := hc
    exact ⟨q1.cor, by rw [RepAV]; exact ⟨[], rfl, q2⟩⟩
   | y1 :: y2 :: ys', v1 :: v2 :: vs', _ =>
    simp only [Option.some.injEq, Prod.mk.injEq] at hc
    obtain ⟨rfl, rfl⟩ := hc
    exact ⟨q1.cor, by rw [RepAV]; exact ⟨v1 :: v2 :: vs', rfl, q2⟩⟩
   | [], _ :: _, hl => simp at hl
   | [_], [], hl => simp at hl
   | [_], _ :: _ :: _, hl => simp at hl
   | _ :: _ :: _, [], hl => simp at hl
   | _ :: _ :: _, [_], hl => simp at hl
  | panicked chain => exact he.elim
  | outgrown => exact he.elim
theorem RepAVs_append : ∀ {xs ys : List AV} {us vs : List Value}, RepAVs P w o loc xs us → RepAVs P w o loc ys vs → RepAVs P w o loc (xs ++ ys) (us ++ vs)
 | [], ys, us, vs, h1, h2 => by rw [RepAVs] at h1; subst h1; exact h2
 | x :: xs, ys, us, vs, h1, h2 => by
  rw [RepAVs] at h1
  obtain ⟨u, us', rfl, h3, h4⟩ := h1
  rw [List.cons_append, List.cons_append, RepAVs]
  exact ⟨u, us' ++ vs, rfl, h3, RepAVs_append h4 h2⟩
/-- Calls go as the machine tells. -/
theorem callsOk_of {gd : Guard} {E : Env} (hrun : Sound gd E.P E.run) (w0 : World) (mine : Ctx) (hgd : gd.on w0 mine.m) : CallsOk E w0 mine := by
 intro σ σ1 a w loc O R op d r hc h hop
 cases ho : op.op with
 | call cl =>
  rw [ho] at hc hop
  simp only [Env.op] at hop
  obtain ⟨vs, hvs, hop⟩ := Option.bind_eq_some_iff.1 hop
  obtain ⟨us, hus, hr⟩ := evs_map h.tm hvs
  unfold isCall at hc
  simp only at hc
  split at hc
  ·rename_i x hx
   rw [hx] at hop
   simp only at hop
   split at hop
   ·rename_i f cs hf
    obtain ⟨⟨v, σ2⟩, h1, hop⟩ := Option.bind_eq_some_iff.1 hop
    simp only [Option.some.injEq, Prod.mk.injEq] at hop
    obtain ⟨rfl, rfl⟩ := hop
    have hfr := rep_ev h.tm hf
    rw [RepAV] at hfr
    obtain ⟨caps, hfe, hcaps⟩ := hfr
    obtain ⟨k1, k2⟩ := call_sound hrun hgd h (RepAVs_append hr hcaps) h1
    intro K Q hK
    unfold Oper.wp
    have he : (execOp a.eval op).run E.P w = .ok (.enter f (us ++ caps).toArray) w := by
     unfold execOp
     rw [ho]
     simp only [resolve, hx, hfe, Deferred.ofValue, Sem.run_bind, Sem.run_pure, Result.andThen_ok, invoke, hus]
     have : (#[] ++ us.toArray ++ caps.toArray) = (us ++ caps).toArray := by simp
     rw [this]
     exact k1
    rw [he]
    show Calls E.P f (us ++ caps).toArray w _
    refine k2.mono fun e w' he => ?_
    cases e with
    | returned v' =>
     obtain ⟨loc', O', R', q1, q2⟩ := he
     exact hK v' w' loc' O' R' q1 q2
    | panicked chain => exact he.elim
    | outgrown => exact he.elim
   ·simp at hop
  ·simp at hc
 | _ => rw [ho] at hc; simp [isCall] at hc
end Go.Proofs.YtemghdnofgjnmaaDoor.VM

/- The machine. -/
namespace Go.Proofs.YtemghdnofgjnmaaDoor.VM
open Go Go.Proofs.YtemghdnofgjnmaaDoorW.PrintWords
set_option linter.unusedVariables false
set_option linter.unusedSimpArgs false

/-- What the machine's tables are asked for. -/
structure MachOk (gd : Guard) (M : Mach) : Prop where
 name : ∀ (f : FuncId) (fn : Func), M.P.funcs[f]? = some fn → (fn.name == "runtime.NumGoroutine") = false
 prim : ∀ (f : FuncId) (g : List A → Ans), M.prim f = some g → ∀ (as rs as' : List A), g as = some (rs, as') → ∀ (w : World) (us : List Value) (Ox Rx : List Nat), Given gd M.P w as us Ox Rx →
  (callFunc f us.toArray).run M.P w = .ok (.enter f us.toArray) w ∧ Calls M.P f us.toArray w (AnswersX M.P w as us Ox rs as')
 code : ∀ (f : FuncId) (fn : Func) (c : Code), M.prim f = none → M.P.funcs[f]? = some fn → fn.body = some c → codeOk c = true
 mixed : M.P.follows .mixedOrders = true
theorem result_nomk {P : Program} {σ σ' : St} {t : TypeId} {v : AV} {a : A} (h : σ.result P t v = some (a, σ')) : maker [a] = none := by
 unfold St.result at h
 split at h
 ·obtain ⟨⟨y, σ2⟩, _, h⟩ := Option.bind_eq_some_iff.1 h
  simp only [Option.some.injEq, Prod.mk.injEq] at h
  obtain ⟨rfl, _⟩ := h
  rfl
 ·obtain ⟨⟨y, σ2⟩, _, h⟩ := Option.bind_eq_some_iff.1 h
  simp only [Option.some.injEq, Prod.mk.injEq] at h
  obtain ⟨rfl, _⟩ := h
  rfl
 ·split at h
  ·split at h
   ·rename_i hv
    simp only [Option.some.injEq, Prod.mk.injEq] at h
    obtain ⟨rfl, _⟩ := h
    unfold maker
    split
    ·rename_i he
     simp only [List.cons.injEq, A.box.injEq, and_true] at he
     rw [he.2] at hv
     simp [allV] at hv
    ·rfl
   ·simp at h
  ·simp at h
 ·simp at h
theorem results_nomk {P : Program} {σ σ' : St} {ts : List TypeId} {rs : List ResultVar} {as : List A} (h : σ.results P ts rs = some (as, σ')) : maker as = none := by
 cases ts with
 | nil => cases rs with
  | nil =>
   simp only [St.results, Option.some.injEq, Prod.mk.injEq] at h
   obtain ⟨rfl, _⟩ := h
   rfl
  | cons _ _ => simp [St.results] at h
 | cons t ts => cases rs with
  | nil => simp [St.results] at h
  | cons r rs =>
   simp only [St.results] at h
   obtain ⟨v, _, h⟩ := Option.bind_eq_some_iff.1 h
   obtain ⟨⟨a, σ1⟩, h1, h⟩ := Option.bind_eq_some_iff.1 h
   obtain ⟨⟨as', σ2⟩, _, h⟩ := Option.bind_eq_some_iff.1 h
   simp only [Option.some.injEq, Prod.mk.injEq] at h
   obtain ⟨rfl, _⟩ := h
   cases as' with
   | nil => exact result_nomk h1
   | cons _ _ => unfold maker; split <;> simp_all
theorem resultsS_nomk {P : Program} {K : List Nat} {σ0 σ σ' : St} {i : Nat} {ts : List TypeId} {rs : List ResultVar} {as : List A} (h : σ0.resultsS σ P K i ts rs = some (as, σ')) : maker as = none := by
 cases ts with
 | nil => cases rs with
  | nil =>
   simp only [St.resultsS, Option.some.injEq, Prod.mk.injEq] at h
   obtain ⟨rfl, rfl⟩ := h
   rfl
  | cons _ _ => simp [St.resultsS] at h
 | cons t ts => cases rs with
  | nil => simp [St.resultsS] at h
  | cons r rs =>
   simp only [St.resultsS] at h
   split at h
   ·obtain ⟨a0, ha0, h⟩ := Option.bind_eq_some_iff.1 h
    obtain ⟨av, _, ha0⟩ := Option.bind_eq_some_iff.1 ha0
    obtain ⟨⟨as', σ2⟩, _, h⟩ := Option.bind_eq_some_iff.1 h
    simp only [Option.some.injEq, Prod.mk.injEq] at h
    obtain ⟨rfl, _⟩ := h
    cases av with
    | agg xs =>
     simp only [leftA, Option.some.injEq] at ha0
     subst ha0
     cases as' <;> rfl
    | _ => simp [leftA] at ha0
   ·obtain ⟨v, _, h⟩ := Option.bind_eq_some_iff.1 h
    obtain ⟨⟨a, σ1⟩, h1, h⟩ := Option.bind_eq_some_iff.1 h
    obtain ⟨⟨as', σ2⟩, _, h⟩ := Option.bind_eq_some_iff.1 h
    simp only [Option.some.injEq, Prod.mk.injEq] at h
    obtain ⟨rfl, _⟩ := h
    cases as' with
    | nil => exact result_nomk h1
    | cons _ _ => unfold maker; split <;> simp_all
theorem resultsK_nomk {P : Program} {K : List Nat} {σ σ' : St} {ts : List TypeId} {rs : List ResultVar} {as : List A} (h : σ.resultsK P K ts rs = some (as, σ')) : maker as = none := by
 unfold St.resultsK at h
 split at h
 ·exact results_nomk h
 ·split at h
  ·exact resultsS_nomk h
  ·simp at h
theorem func_nomk {E : Env} {k : Nat} {h : Nat → List Nat × List Nat} {sk : List A → List Nat} {i0 : Nat} {f : Func} {as rs as' : List A} (hf : E.func k h sk i0 f as = some (rs, as')) : maker rs = none := by
 unfold Env.func at hf
 split at hf
 split at hf
 ·simp at hf
 ·split at hf
  ·simp at hf
  ·obtain ⟨⟨x, σ⟩, _, hf⟩ := Option.bind_eq_some_iff.1 hf
   simp only at hf
   split at hf
   ·simp at hf
   ·obtain ⟨⟨rs', σ'⟩, h1, hf⟩ := Option.bind_eq_some_iff.1 hf
    simp only [Option.some.injEq, Prod.mk.injEq] at hf
    obtain ⟨rfl, _⟩ := hf
    exact resultsK_nomk h1
theorem mach_sound {gd : Guard} {M : Mach} (hM : MachOk gd M) (hdraws : ∀ (n : Nat) (run : FuncId → List A → Ans), Sound gd M.P run → ∀ (w0 : World) (mine : Ctx), gd.on w0 mine.m → DrawsOk ⟨M.P, n, run, M.own⟩ w0 mine) : ∀ k, Sound gd M.P (M.run k)
 | 0 => fun f as rs as' h => by simp [Mach.run] at h
 | k + 1 => fun f as rs as' h w us Ox Rx hg => by
  rw [Mach.run] at h
  split at h
  ·rename_i g hp
   exact hM.prim f g hp as rs as' h w us Ox Rx hg
  ·rename_i hpn
   split at h
   ·rename_i fn hf
    have ih := mach_sound hM hdraws k
    have hbody : ∃ c, fn.body = some c := by
     unfold Env.func at h
     cases hb : fn.body with
     | some c => exact ⟨c, rfl⟩
     | none => rw [hb] at h; simp at h
    obtain ⟨c, hb⟩ := hbody
    rw [AnswersX_none (func_nomk h)]
    refine ⟨?_, func_sound (E := ⟨M.P, fn.ntmps, M.run k, M.own⟩) (fun w0 mine hgd => callsOk_of ih w0 mine hgd) (fun w0 mine hgd => hdraws _ _ ih w0 mine hgd) hf (fun c hc => hM.code f fn c hpn hf hc) rfl h hg⟩
    have hn := hM.name f fn hf
    have hn' : ¬ fn.name = "runtime.NumGoroutine" := by simpa using hn
    simp [callFunc, go_sem, hf, hn', hb]
   ·simp at h
end Go.Proofs.YtemghdnofgjnmaaDoor.VM

/- An operation looks at what it looks at: its value in another state that is alike there. -/
namespace Go.Proofs.YtemghdnofgjnmaaDoor.VM
open Go Go.Proofs.YtemghdnofgjnmaaDoorW.PrintWords
set_option linter.unusedVariables false
set_option linter.unusedSimpArgs false
variable {P : Program} {w w1 w2 w0 : World} {mine : Ctx} {o o1 o2 : OM} {loc loc1 loc2 : Nat → Value} {O R : Nat → List Nat} {σ σ1 σ2 τ : St} {a : Act} {E : Env}

/-- Does a value mention an object. -/
def C.ment (x : C) (id : Nat) : Prop := x.mem (fun i _ => i == id) = true
def AV.ment (x : AV) (id : Nat) : Prop := x.mem (fun i _ => i == id) = true
/-- Two states are alike at what an operand leads to. -/
def Alike (σ τ : St) (x : Operand) : Prop := σ.ev x = τ.ev x ∧ ∀ v, σ.ev x = some v → ∀ id, v.ment id → lk σ.o id = lk τ.o id
theorem row_alike {id : Nat} (h : lk σ.o id = lk τ.o id) (p : List Nat) : σ.row id p = τ.row id p := by unfold St.row; rw [h]
theorem cells_alike {id : Nat} (h : lk σ.o id = lk τ.o id) (e : TypeId) (p : List Nat) (off n : Nat) : σ.cellsOf P e id p off n = τ.cellsOf P e id p off n := by unfold St.cellsOf; rw [row_alike h]
theorem ment_sl {id : Nat} {p : List Nat} {off n : Nat} : (AV.c (.sl id p off n)).ment id := by simp [AV.ment, AV.mem, C.mem]
theorem ment_ptr {id : Nat} {p : List Nat} {off : Nat} : (AV.ptr id p off).ment id := by simp [AV.ment, AV.mem]
theorem evs_alike : ∀ {l : List Operand}, (∀ x ∈ l, Alike σ τ x) → σ.evs l = τ.evs l
 | [], _ => rfl
 | x :: l, h => by rw [St.evs, St.evs, (h x (by simp)).1, evs_alike fun y hy => h y (by simp [hy])]
theorem evp_alike : ∀ {l : List (Nat × Operand)}, (∀ x ∈ l, Alike σ τ x.2) → σ.evp l = τ.evp l
 | [], _ => rfl
 | (i, x) :: l, h => by rw [St.evp, St.evp, (h (i, x) (by simp)).1, evp_alike fun y hy => h y (by simp [hy])]
theorem intOr_alike {d : Nat} {x : Option Operand} (h : ∀ y, x = some y → Alike σ τ y) : intOr σ d x = intOr τ d x := by
 cases x with
 | none => rfl
 | some y => rw [intOr, intOr, (h y rfl).1]
theorem bltin_alike {d : Nat} {b : Builtin} {ts : List TypeId} {vs : List AV} (hv : isVal (.call ⟨.builtin b, #[], #[]⟩) = true) {r : AV} (h : E.builtin σ d b ts vs = some (r, σ1)) : E.builtin τ d b ts vs = some (r, τ) ∧ σ1 = σ := by
 unfold Env.builtin at h ⊢
 split at h
 ·split at h <;> first
   | (simp only [Option.some.injEq, Prod.mk.injEq] at h; obtain ⟨h5, h6⟩ := h; subst h6; subst h5; refine ⟨?_, rfl⟩; simp only [*])
   | simp at h
 ·split at h <;> first
   | (simp only [Option.some.injEq, Prod.mk.injEq] at h; obtain ⟨h5, h6⟩ := h; subst h6; subst h5; refine ⟨?_, rfl⟩; simp only [*])
   | simp at h
 ·simp [isVal] at hv
 ·split at h <;> first
   | (simp only [Option.some.injEq, Prod.mk.injEq] at h; obtain ⟨h5, h6⟩ := h; subst h6; subst h5; refine ⟨?_, rfl⟩; simp only [*, if_true])
   | simp at h
 ·split at h <;> first
   | (simp only [Option.some.injEq, Prod.mk.injEq] at h; obtain ⟨h5, h6⟩ := h; subst h6; subst h5; refine ⟨?_, rfl⟩; simp only [*, if_true])
   | simp at h
 ·simp at h
theorem val_alike {d : Nat} {op : Op} (hv : isVal op = true) {r : Option AV} (h : E.op σ d op = some (r, σ1)) (hx : ∀ x ∈ op.operands.toList, Alike σ τ x) : E.op τ d op = some (r, τ) ∧ σ1 = σ := by
 cases op with
 | move x =>
  simp only [Env.op] at h ⊢
  rw [← (hx x (by simp [Op.operands])).1]
  obtain ⟨v, h1, h⟩ := Option.bind_eq_some_iff.1 h
  injection h with h
  injection h with h2 h3
  rw [h1]
  exact ⟨by rw [← h2]; rfl, h3.symm⟩
 | assign x =>
  simp only [Env.op] at h ⊢
  rw [← (hx x (by simp [Op.operands])).1]
  obtain ⟨v, h1, h⟩ := Option.bind_eq_some_iff.1 h
  injection h with h
  injection h with h2 h3
  rw [h1]
  exact ⟨by rw [← h2]; rfl, h3.symm⟩
 | binOp b t x y t' =>
  simp only [Env.op] at h ⊢
  rw [← (hx x (by simp [Op.operands])).1, ← (hx y (by simp [Op.operands])).1]
  obtain ⟨v, h1, h⟩ := Option.bind_eq_some_iff.1 h
  obtain ⟨u2, h2, h⟩ := Option.bind_eq_some_iff.1 h
  obtain ⟨q, h3, h⟩ := Option.bind_eq_some_iff.1 h
  injection h with h
  injection h with h4 h5
  rw [h1, h2]
  simp only [Option.bind_some, h3]
  exact ⟨by rw [← h4], h5.symm⟩
 | convert src dst x =>
  simp only [Env.op] at h ⊢
  have hxx := hx x (by simp [Op.operands])
  rw [← hxx.1]
  split at h
  ·rename_i e id p off hs hd h1
   obtain ⟨n, hb, h⟩ := Option.bind_eq_some_iff.1 h
   have e : σ.byteOf E.P e id p off = τ.byteOf E.P e id p off := by unfold St.byteOf; rw [row_alike (hxx.2 _ h1 id (ment_sl ..))]
   rw [e] at hb
   injection h with h
   injection h with h4 h5
   simp only [hb, Option.bind_some]
   exact ⟨by rw [← h4], h5.symm⟩
  ·injection h with h
   injection h with h4 h5
   exact ⟨by rw [← h4], h5.symm⟩
  ·simp at h
 | unOp b t x =>
  simp only [Env.op] at h ⊢
  rw [← (hx x (by simp [Op.operands])).1]
  split at h
  ·rename_i v h1
   obtain ⟨q, h3, h⟩ := Option.bind_eq_some_iff.1 h
   injection h with h
   injection h with h4 h5
   simp only [h1, h3, Option.bind_some]
   exact ⟨by rw [← h4], h5.symm⟩
  ·simp at h
 | pick c x y =>
  simp only [Env.op] at h ⊢
  rw [← (hx c (by simp [Op.operands])).1, ← (hx x (by simp [Op.operands])).1, ← (hx y (by simp [Op.operands])).1]
  split at h
  ·rename_i t h0
   obtain ⟨v, h1, h⟩ := Option.bind_eq_some_iff.1 h
   obtain ⟨u2, h2, h⟩ := Option.bind_eq_some_iff.1 h
   injection h with h
   injection h with h4 h5
   simp only [h0, h1, h2, Option.bind_some]
   exact ⟨by rw [← h4], h5.symm⟩
  ·simp at h
 | extract x i =>
  simp only [Env.op] at h ⊢
  rw [← (hx x (by simp [Op.operands])).1]
  split at h
  ·rename_i v h1
   obtain ⟨q, h3, h⟩ := Option.bind_eq_some_iff.1 h
   injection h with h
   injection h with h4 h5
   simp only [h1, h3, Option.bind_some]
   exact ⟨by rw [← h4], h5.symm⟩
  ·simp at h
 | nilCheck x =>
  simp only [Env.op] at h ⊢
  rw [← (hx x (by simp [Op.operands])).1]
  split at h
  ·rename_i id p off h1
   injection h with h
   injection h with h4 h5
   try simp only [h1]
   exact ⟨by rw [← h4], h5.symm⟩
  ·simp at h
 | fieldAddr t x f =>
  simp only [Env.op] at h ⊢
  rw [← (hx x (by simp [Op.operands])).1]
  split at h
  ·rename_i id p off fs h1 h2
   obtain ⟨q, h3, h⟩ := Option.bind_eq_some_iff.1 h
   split at h
   ·rename_i h6
    injection h with h
    injection h with h4 h5
    simp only [h1, h2, h3, Option.bind_some, h6, if_true]
    exact ⟨by rw [← h4], h5.symm⟩
   ·simp at h
  ·simp at h
 | indexAddr t x i =>
  simp only [Env.op] at h ⊢
  have hxx := hx x (by simp [Op.operands])
  rw [← hxx.1, ← (hx i (by simp [Op.operands])).1]
  split at h
  ·rename_i id p off n k j e h1 h2 h3
   rw [row_alike (hxx.2 _ h1 id ment_sl)] at h
   obtain ⟨⟨w1, e', xs⟩, h4, h⟩ := Option.bind_eq_some_iff.1 h
   simp only at h
   split at h
   ·rename_i h6
    injection h with h
    injection h with h7 h8
    simp only [h1, h2, h3, h4, Option.bind_some]
    rw [if_pos h6]
    exact ⟨by rw [← h7], h8.symm⟩
   ·simp at h
  ·simp at h
 | load t x =>
  simp only [Env.op] at h ⊢
  have hxx := hx x (by simp [Op.operands])
  rw [← hxx.1]
  split at h
  ·rename_i id p off h1
   obtain ⟨q, h3, h⟩ := Option.bind_eq_some_iff.1 h
   have e : σ.load E.P t id p off = τ.load E.P t id p off := by unfold St.load; rw [row_alike (hxx.2 _ h1 id ment_ptr)]
   rw [e] at h3
   injection h with h
   injection h with h4 h5
   simp only [h1, h3, Option.bind_some]
   exact ⟨by rw [← h4], h5.symm⟩
  ·simp at h
 | build t ps =>
  simp only [Env.op] at h ⊢
  split at h
  ·rename_i z fs h1 h2
   split at h
   ·simp at h
   ·rename_i h0
    rw [evp_alike (τ := τ) (fun x hx' => hx x.2 (by simp only [Op.operands]; exact List.mem_map_of_mem hx'))] at h
    obtain ⟨vs, h3, h⟩ := Option.bind_eq_some_iff.1 h
    obtain ⟨cs, h4, h⟩ := Option.bind_eq_some_iff.1 h
    injection h with h
    injection h with h5 h6
    simp only [h1, h2, h0, h3, h4, Option.bind_some]
    exact ⟨by rw [← h5]; rfl, h6.symm⟩
  ·simp at h
 | slice t x lo hi mx =>
  simp only [Env.op] at h ⊢
  have hxx := hx x (by simp [Op.operands])
  have e1 : ∀ d, intOr σ d lo = intOr τ d lo := fun d => intOr_alike fun y hy => hx y (by simp [Op.operands, hy])
  have e2 : ∀ d, intOr σ d hi = intOr τ d hi := fun d => intOr_alike fun y hy => hx y (by simp [Op.operands, hy])
  have e3 : ∀ d, intOr σ d mx = intOr τ d mx := fun d => intOr_alike fun y hy => hx y (by simp [Op.operands, hy])
  rw [← hxx.1]
  split at h
  ·rename_i e id p off n h1 h2
   rw [e1] at h
   simp only [e2, e3] at h
   rw [row_alike (hxx.2 _ h2 id ment_sl)] at h
   obtain ⟨l, g1, h⟩ := Option.bind_eq_some_iff.1 h
   obtain ⟨hh, g2, h⟩ := Option.bind_eq_some_iff.1 h
   obtain ⟨m, g3, h⟩ := Option.bind_eq_some_iff.1 h
   obtain ⟨⟨w1, e', xs⟩, g4, h⟩ := Option.bind_eq_some_iff.1 h
   simp only at h
   split at h
   ·rename_i h6
    injection h with h
    injection h with h7 h8
    simp only [h1, h2, g1, g2, g3, g4, Option.bind_some]
    rw [if_pos h6]
    exact ⟨by rw [← h7], h8.symm⟩
   ·simp at h
  ·rename_i e h1 h2
   rw [e1] at h
   simp only [e2] at h
   obtain ⟨l, g1, h⟩ := Option.bind_eq_some_iff.1 h
   obtain ⟨hh, g2, h⟩ := Option.bind_eq_some_iff.1 h
   split at h
   ·rename_i h6
    injection h with h
    injection h with h7 h8
    simp only [h1, h2, g1, g2, Option.bind_some]
    rw [if_pos h6]
    exact ⟨by rw [← h7], h8.symm⟩
   ·simp at h
  ·rename_i s h1 h2
   rw [e1] at h
   simp only [e2] at h
   obtain ⟨l, g1, h⟩ := Option.bind_eq_some_iff.1 h
   obtain ⟨hh, g2, h⟩ := Option.bind_eq_some_iff.1 h
   split at h
   ·rename_i h6
    injection h with h
    injection h with h7 h8
    simp only [h1, h2, g1, g2, Option.bind_some]
    rw [if_pos h6]
    exact ⟨by rw [← h7], h8.symm⟩
   ·simp at h
  ·simp at h
 | index t x i =>
  simp only [Env.op] at h ⊢
  rw [← (hx x (by simp [Op.operands])).1, ← (hx i (by simp [Op.operands])).1]
  split at h
  ·rename_i s k j h1 h2 h3
   split at h
   ·rename_i h6
    injection h with h
    injection h with h7 h8
    try simp only [h1, h2, h3]
    rw [dif_pos h6]
    exact ⟨by rw [← h7], h8.symm⟩
   ·simp at h
  ·simp at h
 | makeFunc fn first cap =>
  cases fn with
  | func f =>
   simp only [Env.op] at h ⊢
   split at h
   ·rename_i hf
    rw [evs_alike (τ := τ) (fun x hx' => hx x (by simp [Op.operands]; exact .inr (by simpa using hx')))] at h
    obtain ⟨vs, h3, h⟩ := Option.bind_eq_some_iff.1 h
    injection h with h
    injection h with h5 h6
    rw [if_pos hf, h3]
    exact ⟨by rw [← h5]; rfl, h6.symm⟩
   ·simp at h
  | _ => simp [Env.op] at h
 | call c =>
  obtain ⟨callee, args, argTypes⟩ := c
  cases callee with
  | builtin b =>
   simp only [Env.op] at h ⊢
   rw [← evs_alike (σ := σ) (τ := τ) (fun x hx' => hx x (by simp [Op.operands, Call.operands]; simpa using hx'))]
   obtain ⟨vs, h3, h⟩ := Option.bind_eq_some_iff.1 h
   obtain ⟨⟨v, σ2⟩, h4, h⟩ := Option.bind_eq_some_iff.1 h
   injection h with h
   injection h with h5 h6
   obtain ⟨k1, k2⟩ := bltin_alike (τ := τ) (by simpa [isVal] using hv) h4
   rw [h3]
   simp only [Option.bind_some, k1]
   exact ⟨by rw [← h5], h6.symm.trans k2⟩
  | value x => simp [isVal] at hv
  | invoke x n => simp [isVal] at hv
 | _ => simp [isVal] at hv
end Go.Proofs.YtemghdnofgjnmaaDoor.VM

/- A call that writes nothing of ours: in another state that is alike where it looks. -/
namespace Go.Proofs.YtemghdnofgjnmaaDoor.VM
open Go Go.Proofs.YtemghdnofgjnmaaDoorW.PrintWords
set_option linter.unusedVariables false
set_option linter.unusedSimpArgs false
set_option linter.constructorNameAsVariable false
variable {P : Program} {w w1 w2 w0 : World} {mine : Ctx} {o o1 o2 : OM} {loc loc1 loc2 : Nat → Value} {O R : Nat → List Nat} {σ σ1 σ2 σ' τ : St} {a : Act} {E : Env}

/-- Several new objects. -/
def insN (o N : OM) : OM := N.foldl (fun o x => ins o x.1 x.2) o
theorem insN_cons {x : Nat × Obj} {N : OM} : insN o (x :: N) = insN (ins o x.1 x.2) N := rfl
theorem insN_append {N1 N2 : OM} : insN o (N1 ++ N2) = insN (insN o N1) N2 := by unfold insN; rw [List.foldl_append]
theorem insN_out : ∀ {N : OM} {o : OM} {id : Nat}, (∀ x ∈ N, x.1 ≠ id) → lk (insN o N) id = lk o id
 | [], o, id, _ => rfl
 | x :: N, o, id, h => by
  rw [insN_cons, insN_out fun y hy => h y (by simp [hy]), lk_ins, if_neg (h x (by simp))]
theorem insN_in : ∀ {N : OM} {o : OM}, Srt N → ∀ x ∈ N, lk (insN o N) x.1 = some x.2
 | [], o, _, x, hx => by simp at hx
 | y :: N, o, hs, x, hx => by
  obtain ⟨h1, h2⟩ := List.pairwise_cons.1 hs
  rw [insN_cons]
  rcases List.mem_cons.1 hx with hx | hx
  ·subst hx
   rw [insN_out fun z hz e => by have := h1 z hz; omega, lk_ins, if_pos rfl]
  ·exact insN_in h2 x hx
theorem insN_srt : ∀ {N : OM} {o : OM}, Srt o → Srt (insN o N)
 | [], o, h => h
 | x :: N, o, h => insN_srt (N := N) (srt_ins o x.1 x.2 h)
/-- No objects from lo up to hi. -/
def Gap (σ : St) (lo hi : Nat) : Prop := ∀ j, lo ≤ j → j < hi → lk σ.o j = none
theorem new_gap {id : Nat} {ob : Obj} (h : lk σ.o id = none) : σ.new id ob = ⟨σ.t, ins σ.o id ob⟩ := by
 unfold St.new St.kill
 rw [h]
/-- None of these is a variable that leads anywhere. -/
def NoL (N : OM) : Prop := ∀ y ∈ N, y.2.k = .box → ∀ c ∈ y.2.xs, ∀ i p n k, c ≠ T.l i p n k
theorem nol_nil : NoL [] := fun y hy => by simp at hy
theorem nol_append {N1 N2 : OM} (h1 : NoL N1) (h2 : NoL N2) : NoL (N1 ++ N2) := fun y hy => (List.mem_append.1 hy).elim (h1 y) (h2 y)
theorem nol_own {id : Nat} {e : TypeId} {xs : List T} : NoL [(id, ⟨.own, e, xs⟩)] := fun y hy hk => by
 simp at hy
 subst hy
 simp at hk
theorem allV_nol : ∀ {xs : List T}, allV xs = true → ∀ c ∈ xs, ∀ i p n k, c ≠ T.l i p n k
 | [], _, c, hc, _, _, _, _ => by simp at hc
 | x :: xs, h, c, hc, i, p, n, k => by
  cases x with
  | v q =>
   rcases List.mem_cons.1 hc with rfl | hc
   ·simp
   ·exact allV_nol (by simpa [allV] using h) c hc i p n k
  | _ => simp [allV] at h
theorem nol_box {id : Nat} {e : TypeId} {xs : List T} (h : allV xs = true) : NoL [(id, ⟨.box, e, xs⟩)] := fun y hy hk => by
 simp at hy
 subst hy
 exact allV_nol h
/-- What makes only new objects, from lo up to hi. -/
def Fresh {α : Type} (f : St → Option (α × St)) (lo hi : Nat) (x : α) (N : OM) : Prop := Srt N ∧ NoL N ∧ (∀ y ∈ N, lo ≤ y.1 ∧ y.1 < hi) ∧ ∀ τ, Gap τ lo hi → f τ = some (x, ⟨τ.t, insN τ.o N⟩)
theorem res1_fresh {id : Nat} {x : T} {y : C} (h : σ.res1 id x = some (y, σ')) : ∃ N, Fresh (fun τ => τ.res1 id x) id (id + 1) y N := by
 cases x with
 | v q =>
  simp only [St.res1, Option.some.injEq, Prod.mk.injEq] at h
  obtain ⟨rfl, rfl⟩ := h
  exact ⟨[], List.Pairwise.nil, nol_nil, fun y hy => by simp at hy, fun τ _ => rfl⟩
 | s e n xs =>
  simp only [St.res1, Option.some.injEq, Prod.mk.injEq] at h
  obtain ⟨rfl, rfl⟩ := h
  refine ⟨[(id, ⟨.own, e, xs⟩)], by simp [Srt], nol_own, fun y hy => ?_, fun τ hτ => ?_⟩
  ·simp at hy
   subst hy
   exact ⟨Nat.le_refl _, Nat.lt_succ_self _⟩
  ·simp only [St.res1]
   rw [new_gap (hτ id (Nat.le_refl _) (Nat.lt_succ_self _))]
   rfl
 | _ => simp [St.res1] at h
theorem gap_more {N : OM} {lo mid hi : Nat} (hg : Gap τ lo hi) (hl : lo ≤ mid) (hN : ∀ y ∈ N, lo ≤ y.1 ∧ y.1 < mid) : Gap ⟨τ.t, insN τ.o N⟩ mid hi := fun j h1 h2 => by
 show lk (insN τ.o N) j = none
 rw [insN_out fun y hy e => by have := (hN y hy).2; omega]
 exact hg j (by omega) h2
theorem gap_left {lo mid hi : Nat} (hg : Gap τ lo hi) (hm : mid ≤ hi) : Gap τ lo mid := fun j h1 h2 => hg j h1 (by omega)
theorem srt_append {N1 N2 : OM} {lo mid hi : Nat} (h1 : Srt N1) (h2 : Srt N2) (k1 : ∀ y ∈ N1, lo ≤ y.1 ∧ y.1 < mid) (k2 : ∀ y ∈ N2, mid ≤ y.1 ∧ y.1 < hi) : Srt (N1 ++ N2) :=
 List.pairwise_append.2 ⟨h1, h2, fun a ha b hb => by have := (k1 a ha).2; have := (k2 b hb).1; omega⟩
theorem resCs_fresh : ∀ {xs : List T} {id id' : Nat} {ys : List C} {σ σ' : St}, σ.resCs id xs = some (ys, id', σ') → id' = id + xs.length ∧ ∃ N, Srt N ∧ NoL N ∧ (∀ y ∈ N, id ≤ y.1 ∧ y.1 < id') ∧ ∀ τ, Gap τ id id' → τ.resCs id xs = some (ys, id', ⟨τ.t, insN τ.o N⟩)
 | [], id, id', ys, σ, σ', h => by
  simp only [St.resCs, Option.some.injEq, Prod.mk.injEq] at h
  obtain ⟨rfl, rfl, rfl⟩ := h
  exact ⟨rfl, [], List.Pairwise.nil, nol_nil, fun y hy => by simp at hy, fun τ _ => rfl⟩
 | x :: xs, id, id', ys, σ, σ', h => by
  simp only [St.resCs] at h
  obtain ⟨⟨y, σ1⟩, h1, h⟩ := Option.bind_eq_some_iff.1 h
  obtain ⟨⟨ys', j, σ2⟩, h2, h⟩ := Option.bind_eq_some_iff.1 h
  simp only [Option.some.injEq, Prod.mk.injEq] at h
  obtain ⟨rfl, rfl, rfl⟩ := h
  obtain ⟨N1, n1, nn1, n2, n3⟩ := res1_fresh h1
  obtain ⟨rfl, N2, m1, mm1, m2, m3⟩ := resCs_fresh h2
  refine ⟨by simp; omega, N1 ++ N2, srt_append n1 m1 n2 m2, nol_append nn1 mm1, fun y hy => ?_, fun τ hτ => ?_⟩
  ·rcases List.mem_append.1 hy with hy | hy
   ·have := n2 y hy; omega
   ·have := m2 y hy; omega
  ·have g1 := n3 τ (gap_left hτ (by omega))
   have g2 := m3 ⟨τ.t, insN τ.o N1⟩ (gap_more hτ (Nat.le_succ _) n2)
   simp only at g1
   simp only [St.resCs, g1, Option.bind_some, g2]
   rw [insN_append]
theorem resCs_H {xs : List T} (h : allH xs = true) {id : Nat} : σ.resCs id xs = none := by
 cases xs with
 | nil => simp [allH] at h
 | cons x l =>
  unfold allH at h
  simp only [List.isEmpty_cons, Bool.not_false, Bool.true_and, List.all_cons, Bool.and_eq_true] at h
  cases x with
  | h => rfl
  | _ => simp [isH] at h
theorem res_fresh {id id' : Nat} {x : A} {y : AV} (h : σ.res id x = some (y, id', σ')) : id' = id + x.cnt ∧ ∃ N, Srt N ∧ NoL N ∧ (∀ y ∈ N, id ≤ y.1 ∧ y.1 < id') ∧ ∀ τ, Gap τ id id' → τ.res id x = some (y, id', ⟨τ.t, insN τ.o N⟩) := by
 cases x with
 | c x =>
  simp only [St.res] at h
  obtain ⟨⟨y', σ1⟩, h1, h⟩ := Option.map_eq_some_iff.1 h
  simp only [Prod.mk.injEq] at h
  obtain ⟨rfl, rfl, rfl⟩ := h
  obtain ⟨N, n1, nn1, n2, n3⟩ := res1_fresh h1
  exact ⟨rfl, N, n1, nn1, n2, fun τ hτ => by have := n3 τ hτ; simp only at this; simp only [St.res, this, Option.map_some]⟩
 | agg xs =>
  simp only [St.res] at h
  rcases Option.or_eq_some_iff.1 h with h | ⟨_, h⟩
  rotate_left
  ·unfold St.resU at h
   split at h
   ·rename_i hall
    simp only [Option.some.injEq, Prod.mk.injEq] at h
    obtain ⟨rfl, rfl, rfl⟩ := h
    refine ⟨rfl, [], List.Pairwise.nil, nol_nil, fun y hy => by simp at hy, fun τ hτ => ?_⟩
    simp only [St.res, resCs_H hall, Option.map_none, Option.none_or, St.resU]
    rw [if_pos hall]
    rfl
   ·simp at h
  obtain ⟨⟨ys, j, σ1⟩, h1, h⟩ := Option.map_eq_some_iff.1 h
  simp only [Prod.mk.injEq] at h
  obtain ⟨rfl, rfl, rfl⟩ := h
  obtain ⟨e, N, n1, nn1, n2, n3⟩ := resCs_fresh h1
  exact ⟨e, N, n1, nn1, n2, fun τ hτ => by have := n3 τ hτ; simp only [St.res, this, Option.map_some, Option.some_or]⟩
 | box e xs =>
  simp only [St.res] at h
  split at h
  ·rename_i hall
   simp only [Option.some.injEq, Prod.mk.injEq] at h
   obtain ⟨rfl, rfl, rfl⟩ := h
   refine ⟨rfl, [(id, ⟨.box, e, xs⟩)], by simp [Srt], nol_box hall, fun y hy => ?_, fun τ hτ => ?_⟩
   ·simp at hy
    subst hy
    exact ⟨Nat.le_refl _, Nat.lt_succ_self _⟩
   ·simp only [St.res, hall, if_true]
    rw [new_gap (hτ id (Nat.le_refl _) (Nat.lt_succ_self _))]
    rfl
  ·simp at h
 | fn f as => simp [St.res] at h
 | gone => simp [St.res] at h
 | nn =>
  simp only [St.res, Option.some.injEq, Prod.mk.injEq] at h
  obtain ⟨rfl, rfl, rfl⟩ := h
  exact ⟨rfl, [], List.Pairwise.nil, nol_nil, fun y hy => by simp at hy, fun τ hτ => rfl⟩
theorem ress_fresh : ∀ {xs : List A} {id : Nat} {ys : List AV} {σ σ' : St}, σ.ress id xs = some (ys, σ') → ∃ N, Srt N ∧ NoL N ∧ (∀ y ∈ N, id ≤ y.1 ∧ y.1 < id + cnts xs) ∧ ∀ τ, Gap τ id (id + cnts xs) → τ.ress id xs = some (ys, ⟨τ.t, insN τ.o N⟩)
 | [], id, ys, σ, σ', h => by
  simp only [St.ress, Option.some.injEq, Prod.mk.injEq] at h
  obtain ⟨rfl, rfl⟩ := h
  exact ⟨[], List.Pairwise.nil, nol_nil, fun y hy => by simp at hy, fun τ _ => rfl⟩
 | x :: xs, id, ys, σ, σ', h => by
  simp only [St.ress] at h
  obtain ⟨⟨y, j, σ1⟩, h1, h⟩ := Option.bind_eq_some_iff.1 h
  obtain ⟨⟨ys', σ2⟩, h2, h⟩ := Option.bind_eq_some_iff.1 h
  simp only [Option.some.injEq, Prod.mk.injEq] at h
  obtain ⟨rfl, rfl⟩ := h
  obtain ⟨rfl, N1, n1, nn1, n2, n3⟩ := res_fresh h1
  obtain ⟨N2, m1, mm1, m2, m3⟩ := ress_fresh h2
  refine ⟨N1 ++ N2, srt_append n1 m1 n2 m2, nol_append nn1 mm1, fun y hy => ?_, fun τ hτ => ?_⟩
  ·rw [cnts]
   rcases List.mem_append.1 hy with hy | hy
   ·have := n2 y hy; omega
   ·have := m2 y hy; simp only at this; omega
  ·rw [cnts] at hτ
   have g1 := n3 τ (gap_left hτ (by omega))
   have g2 := m3 ⟨τ.t, insN τ.o N1⟩ (gap_more (mid := id + x.cnt) (by rw [Nat.add_assoc]; exact hτ) (Nat.le_add_right _ _) n2)
   simp only [St.ress, g1, Option.bind_some, g2]
   rw [insN_append]
/-! ### arguments -/
def roF (l : List Foot) : Prop := l.all (fun x => !x.1) = true
theorem roF_append {l m : List Foot} (h : roF (l ++ m)) : roF l ∧ roF m := by
 unfold roF at h ⊢
 rwa [List.all_append, Bool.and_eq_true] at h
/-- Two states are alike at what a value leads to. -/
def AlikeV (σ τ : St) (v : AV) : Prop := ∀ id, v.ment id → lk σ.o id = lk τ.o id
def AlikeC (σ τ : St) (v : C) : Prop := ∀ id, v.ment id → lk σ.o id = lk τ.o id
theorem argC_alike {own : Bool} {t : TypeId} {y : C} {x : T} (hf : roF (y.feet own)) (ha : AlikeC σ τ y) (h : σ.argC P own t y = some x) : τ.argC P own t y = some x ∧ ∀ z, (if own = true then σ.backC y z else some σ) = some σ ∧ (if own = true then τ.backC y z else some τ) = some τ := by
 cases y with
 | v q =>
  refine ⟨h, fun z => ?_⟩
  cases own <;> exact ⟨rfl, rfl⟩
 | z =>
  refine ⟨h, fun z => ?_⟩
  cases own <;> exact ⟨rfl, rfl⟩
 | sl id p off n =>
  cases own with
  | true => simp [roF, C.feet] at hf
  | false =>
   refine ⟨?_, fun z => ⟨rfl, rfl⟩⟩
   simp only [St.argC, St.rowE, St.argE, Bool.false_eq_true, if_false] at h ⊢
   rw [cells_alike (ha id (by simp [C.ment, C.mem]))] at h
   exact h
theorem argCs_alike {own : Bool} : ∀ {ts : List TypeId} {ys : List C} {xs : List T}, roF (csFeet own ys) → (∀ y ∈ ys, AlikeC σ τ y) → σ.argCs P own ts ys = some xs → τ.argCs P own ts ys = some xs ∧ ∀ zs σ1, (if own = true then σ.backCs ys zs else some σ) = some σ1 → σ1 = σ ∧ (if own = true then τ.backCs ys zs else some τ) = some τ
 | [], [], xs, hf, ha, h => by
  refine ⟨h, fun zs σ1 hb => ?_⟩
  cases own with
  | false => exact ⟨by simpa using hb.symm, rfl⟩
  | true =>
   cases zs with
   | nil =>
    simp only [if_true, St.backCs, Option.some.injEq] at hb
    exact ⟨hb.symm, rfl⟩
   | cons z zs => simp [St.backCs] at hb
 | t :: ts, y :: ys, xs, hf, ha, h => by
  simp only [St.argCs] at h ⊢
  obtain ⟨x, h1, h⟩ := Option.bind_eq_some_iff.1 h
  obtain ⟨xs', h2, h⟩ := Option.bind_eq_some_iff.1 h
  obtain ⟨f1, f2⟩ := roF_append hf
  obtain ⟨k1, k2⟩ := argC_alike f1 (ha y (by simp)) h1
  obtain ⟨j1, j2⟩ := argCs_alike f2 (fun z hz => ha z (by simp [hz])) h2
  refine ⟨by rw [k1, Option.bind_some, j1, Option.bind_some]; exact h, fun zs σ1 hb => ?_⟩
  cases own with
  | false => exact ⟨by simpa using hb.symm, rfl⟩
  | true =>
   cases zs with
   | nil => simp [St.backCs] at hb
   | cons z zs =>
    have q := k2 z
    simp only [if_true] at q hb ⊢
    simp only [St.backCs, q.1, q.2, Option.bind_some] at hb ⊢
    have := j2 zs σ1
    simp only [if_true] at this
    exact this hb
 | [], _ :: _, xs, hf, ha, h => by simp [St.argCs] at h
 | _ :: _, [], xs, hf, ha, h => by simp [St.argCs] at h
theorem argBox_none {own : Bool} {y : AV} {x : A} (hf : roF (σ.boxFeet own y)) (h : σ.argBox P own y = some x) : False := by
 unfold St.argBox at h
 split at h
 ·rename_i id
  split at h
  ·rename_i e xs hl
   simp [roF, St.boxFeet, hl] at hf
  ·simp at h
 ·simp at h
theorem arg_alike {own : Bool} {t : TypeId} {y : AV} {x : A} (hf : roF (σ.feet own y)) (ha : AlikeV σ τ y) (h : σ.arg P own t y = some x) : τ.arg P own t y = some x ∧ τ.feet own y = σ.feet own y ∧ ∀ z σ1, σ.back own y z = some σ1 → σ1 = σ ∧ τ.back own y z = some τ := by
 cases y with
 | c y =>
  simp only [St.arg] at h ⊢
  obtain ⟨q, h1, h⟩ := Option.map_eq_some_iff.1 h
  obtain ⟨k1, k2⟩ := argC_alike hf (fun id hm => ha id (by simpa [AV.ment, AV.mem, C.ment] using hm)) h1
  refine ⟨by rw [k1]; simpa using h, rfl, fun z σ1 hb => ?_⟩
  cases z with
  | c z =>
   have q := k2 z
   simp only [St.back] at hb ⊢
   rw [q.1] at hb
   injection hb with hb
   exact ⟨hb.symm, q.2⟩
  | _ => simp [St.back] at hb
 | agg ys =>
  simp only [St.arg] at h ⊢
  obtain ⟨q, h1, h⟩ := Option.map_eq_some_iff.1 h
  obtain ⟨k1, k2⟩ := argCs_alike hf (fun y hy id hm => ha id (by
   simp only [AV.ment, AV.mem, List.any_eq_true]
   exact ⟨y, hy, hm⟩)) h1
  refine ⟨by rw [k1]; simpa using h, rfl, fun z σ1 hb => ?_⟩
  cases z with
  | agg zs =>
   simp only [St.back] at hb ⊢
   exact k2 zs σ1 hb
  | _ => simp [St.back] at hb
 | fn f cs =>
  simp only [St.arg] at h ⊢
  obtain ⟨q, h1, h⟩ := Option.map_eq_some_iff.1 h
  cases cs with
  | nil =>
   refine ⟨by
    have hq : q = [] := by simpa [St.argBoxes] using h1.symm
    subst hq
    rw [← h]
    rfl, rfl, fun z σ1 hb => ?_⟩
   cases z with
   | fn g zs =>
    simp only [St.back] at hb ⊢
    cases zs with
    | nil =>
     simp only [St.backBs, Option.some.injEq] at hb ⊢
     exact ⟨hb.symm, trivial⟩
    | cons _ _ => simp [St.backBs] at hb
   | _ => simp [St.back] at hb
  | cons c cs =>
   simp only [St.argBoxes] at h1
   obtain ⟨x1, h2, h1⟩ := Option.bind_eq_some_iff.1 h1
   exact (argBox_none (roF_append hf).1 h2).elim
 | ptr id p off => exact (argBox_none (P := P) (σ := σ) (own := own) (y := .ptr id p off) hf h).elim
 | tup ys => exact (argBox_none (P := P) (σ := σ) (own := own) (y := .tup ys) hf h).elim
 | u => exact (argBox_none (P := P) (σ := σ) (own := own) (y := .u) hf h).elim
 | unk n => exact (argBox_none (P := P) (σ := σ) (own := own) (y := .unk n) hf h).elim
 | nn => exact (argBox_none (P := P) (σ := σ) (own := own) (y := .nn) hf h).elim
theorem args_alike {own : Nat → Bool} : ∀ {i : Nat} {ts : List TypeId} {ys : List AV} {xs : List A}, roF (σ.feets own i ys) → (∀ y ∈ ys, AlikeV σ τ y) → σ.args P own i ts ys = some xs → τ.args P own i ts ys = some xs ∧ τ.feets own i ys = σ.feets own i ys ∧ ∀ zs σ1, σ.backs own i ys zs = some σ1 → σ1 = σ ∧ τ.backs own i ys zs = some τ
 | i, [], [], xs, hf, ha, h => by
  refine ⟨h, rfl, fun zs σ1 hb => ?_⟩
  cases zs with
  | nil =>
   simp only [St.backs, Option.some.injEq] at hb ⊢
   exact ⟨hb.symm, trivial⟩
  | cons _ _ => simp [St.backs] at hb
 | i, t :: ts, y :: ys, xs, hf, ha, h => by
  simp only [St.args] at h ⊢
  obtain ⟨x, h1, h⟩ := Option.bind_eq_some_iff.1 h
  obtain ⟨xs', h2, h⟩ := Option.bind_eq_some_iff.1 h
  obtain ⟨f1, f2⟩ := roF_append hf
  obtain ⟨k1, k2, k3⟩ := arg_alike f1 (ha y (by simp)) h1
  obtain ⟨j1, j2, j3⟩ := args_alike f2 (fun z hz => ha z (by simp [hz])) h2
  refine ⟨by rw [k1, Option.bind_some, j1, Option.bind_some]; exact h, by rw [St.feets, St.feets, k2, j2], fun zs σ1 hb => ?_⟩
  cases zs with
  | nil => simp [St.backs] at hb
  | cons z zs =>
   simp only [St.backs] at hb ⊢
   obtain ⟨σ2, hb1, hb2⟩ := Option.bind_eq_some_iff.1 hb
   clear hb
   obtain ⟨rfl, g2⟩ := k3 z σ2 hb1
   rw [g2, Option.bind_some]
   exact j3 zs σ1 hb2
 | i, [], _ :: _, xs, hf, ha, h => by simp [St.args] at h
 | i, _ :: _, [], xs, hf, ha, h => by simp [St.args] at h
theorem gap_absent {d : Nat} (h : σ.absent d = true) : Gap σ (site d 0) (site (d + 1) 0) := fun j h1 h2 => by
 unfold St.absent at h
 cases hl : lk σ.o j with
 | none => rfl
 | some x =>
  have := List.all_eq_true.1 h _ (lk_mem hl)
  simp only [Bool.or_eq_true, decide_eq_true_eq] at this
  omega
theorem call_alike {run : FuncId → List A → Ans} {own : FuncId → Nat → Bool} {d : Nat} {f : FuncId} {ts : List TypeId} {vs : List AV} {av : AV} (h : σ.call P run own d f ts vs = some (av, σ')) (hf : roF (σ.feets (own f) 0 vs)) (hab : σ.absent d = true) (hm : own f 99 = false) :
  ∃ N, Srt N ∧ NoL N ∧ (∀ y ∈ N, site d 0 ≤ y.1 ∧ y.1 < site (d + 1) 0) ∧ σ' = ⟨σ.t, insN σ.o N⟩ ∧ ∀ τ, (∀ v ∈ vs, AlikeV σ τ v) → τ.feets (own f) 0 vs = σ.feets (own f) 0 vs ∧ (Gap τ (site d 0) (site (d + 1) 0) → τ.call P run own d f ts vs = some (av, ⟨τ.t, insN τ.o N⟩)) := by
 unfold St.call at h
 split at h
 ·simp at h
 ·rename_i hap
  obtain ⟨as, h1, h⟩ := Option.bind_eq_some_iff.1 h
  obtain ⟨⟨rs, as'⟩, h2, h⟩ := Option.bind_eq_some_iff.1 h
  simp only at h
  rw [if_neg (by rw [hm]; simp)] at h
  split at h
  ·simp at h
  ·rename_i hcnt
   obtain ⟨σ1, h3, h⟩ := Option.bind_eq_some_iff.1 h
   obtain ⟨⟨ws, σ2⟩, h4, h⟩ := Option.bind_eq_some_iff.1 h
   have hlim : site d 0 + cnts rs ≤ site (d + 1) 0 := by unfold site; omega
   obtain ⟨_, _, k3⟩ := args_alike (τ := σ) hf (fun v _ id _ => rfl) h1
   obtain ⟨rfl, _⟩ := k3 as' σ1 h3
   obtain ⟨N, n1, nn1, n2, n3⟩ := ress_fresh h4
   have g := n3 σ1 (gap_left (gap_absent hab) hlim)
   rw [h4] at g
   simp only [Option.some.injEq, Prod.mk.injEq, true_and] at g
   subst g
   refine ⟨N, n1, nn1, fun y hy => by have := n2 y hy; omega, ?_, fun τ ha => ⟨(args_alike hf ha h1).2.1, fun hg => ?_⟩⟩
   ·match ws, h with
    | [], h => simp only [Option.some.injEq, Prod.mk.injEq] at h; exact h.2.symm
    | [w], h => simp only [Option.some.injEq, Prod.mk.injEq] at h; exact h.2.symm
    | _ :: _ :: _, h => simp only [Option.some.injEq, Prod.mk.injEq] at h; exact h.2.symm
   ·obtain ⟨j1, j2, j3⟩ := args_alike hf ha h1
    obtain ⟨_, j4⟩ := j3 as' _ h3
    unfold St.call
    rw [j2, if_neg hap, j1, Option.bind_some, h2, Option.bind_some]
    simp only
    rw [if_neg (show ¬ own f 99 = true by rw [hm]; simp), if_neg hcnt, j4, Option.bind_some, n3 τ (gap_left hg hlim), Option.bind_some]
    match ws, h with
    | [], h => simp only [Option.some.injEq, Prod.mk.injEq] at h ⊢; exact ⟨h.1, trivial⟩
    | [w], h => simp only [Option.some.injEq, Prod.mk.injEq] at h ⊢; exact ⟨h.1, trivial⟩
    | _ :: _ :: _, h => simp only [Option.some.injEq, Prod.mk.injEq] at h ⊢; exact ⟨h.1, trivial⟩
end Go.Proofs.YtemghdnofgjnmaaDoor.VM

/- A region whose order is drawn goes as in order. -/
namespace Go.Proofs.YtemghdnofgjnmaaDoor.VM
open Go Go.Proofs.YtemghdnofgjnmaaDoorW.PrintWords
set_option linter.unusedVariables false
set_option linter.unusedSimpArgs false
set_option linter.constructorNameAsVariable false
variable {P : Program} {w w1 w2 w0 : World} {mine : Ctx} {o o1 o2 : OM} {loc loc1 loc2 : Nat → Value} {O R : Nat → List Nat} {σ σ1 σ2 σ' τ : St} {a : Act} {E : Env}

/-! ### what a temporary mentions is there -/
theorem ment_C {x : C} {v : Value} {id : Nat} (h : RepC P w o loc x v) (hm : x.mem (fun i _ => i == id) = true) : ∃ ob, lk o id = some ob := by
 cases x with
 | sl i p off n =>
  simp [C.mem] at hm
  subst hm
  rw [RepC] at h
  obtain ⟨ob, _, _, hl, _⟩ := h
  exact ⟨ob, hl⟩
 | _ => simp [C.mem] at hm
theorem ment_Cs : ∀ {xs : List C} {vs : List Value} {id : Nat}, RepCs P w o loc xs vs → xs.any (·.mem fun i _ => i == id) = true → ∃ ob, lk o id = some ob
 | [], vs, id, h, hm => by simp at hm
 | x :: xs, vs, id, h, hm => by
  rw [RepCs] at h
  obtain ⟨u, us, rfl, h1, h2⟩ := h
  rw [List.any_cons, Bool.or_eq_true] at hm
  rcases hm with hm | hm
  ·exact ment_C h1 hm
  ·exact ment_Cs h2 hm
mutual
theorem ment_rep : ∀ {x : AV} {v : Value} {id : Nat}, RepAV P w o loc x v → x.ment id → ∃ ob, lk o id = some ob
 | .c x, v, id, h, hm => by rw [RepAV] at h; simp only [AV.ment, AV.mem] at hm; exact ment_C h hm
 | .agg xs, v, id, h, hm => by
  rw [RepAV] at h
  obtain ⟨us, rfl, h⟩ := h
  simp only [AV.ment, AV.mem] at hm
  exact ment_Cs h hm
 | .ptr i p off, v, id, h, hm => by
  simp [AV.ment, AV.mem] at hm
  subst hm
  rw [RepAV] at h
  obtain ⟨ob, _, _, _, _, hl, _⟩ := h
  exact ⟨ob, hl⟩
 | .tup xs, v, id, h, hm => by
  rw [RepAV] at h
  obtain ⟨us, rfl, h⟩ := h
  simp only [AV.ment, AV.mem] at hm
  exact ment_reps h hm
 | .fn f xs, v, id, h, hm => by
  rw [RepAV] at h
  obtain ⟨us, rfl, h⟩ := h
  simp only [AV.ment, AV.mem] at hm
  exact ment_reps h hm
 | .u, v, id, h, hm => by simp [AV.ment, AV.mem] at hm
 | .unk n, v, id, h, hm => by simp [AV.ment, AV.mem] at hm
 | .nn, v, id, h, hm => by simp [AV.ment, AV.mem] at hm
theorem ment_reps : ∀ {xs : List AV} {vs : List Value} {id : Nat}, RepAVs P w o loc xs vs → AV.mem.mems (fun i _ => i == id) xs = true → ∃ ob, lk o id = some ob
 | [], vs, id, h, hm => by simp [AV.mem.mems] at hm
 | x :: xs, vs, id, h, hm => by
  rw [RepAVs] at h
  obtain ⟨u, us, rfl, h1, h2⟩ := h
  rw [AV.mem.mems, Bool.or_eq_true] at hm
  rcases hm with hm | hm
  ·exact ment_rep h1 hm
  ·exact ment_reps h2 hm
end
/-- Nothing that a temporary mentions is gone. -/
def Whole (σ : St) : Prop := ∀ t v, lk σ.t t = some v → ∀ id, v.ment id → ∃ ob, lk σ.o id = some ob
theorem Cor.whole (h : Cor P w0 mine σ a w loc O R) : Whole σ := fun t v hl id hm => ment_rep (h.tm t v hl) hm
/-! ### in order -/
theorem wp_some {x : Oper} {K : Act → World → Prop} (h : x.wp P a w K (fun _ _ _ => False)) : ∃ a' w', K a' w' := by
 unfold Oper.wp at h
 generalize (execOp a.eval x).run P w = r at h
 cases r with
 | ok n w' =>
  cases n with
  | value v => exact ⟨_, _, h⟩
  | skip => exact ⟨_, _, h⟩
  | defer d => exact ⟨_, _, h⟩
  | enter f args =>
   obtain ⟨e, w2, fr, hR, _⟩ := h []
   cases e with
   | returned v => exact ⟨_, _, hR⟩
   | panicked c => exact hR.elim
   | outgrown =>
    obtain ⟨_, _, hq⟩ := hR
    exact hq.elim
  | row r args =>
   obtain ⟨v, w2, hR, _⟩ := h default []
   exact ⟨_, _, hR⟩
  | _ => exact h.elim
 | halt x w' => cases x <;> exact h.elim
theorem oper_cor (hcalls : CallsOk E w0 mine) (h : Cor E.P w0 mine σ a w loc O R) (hn : a.tmps.size = E.n) {ops : Array Oper} {x : Oper} (ho : E.oper ops σ x = some σ1) : ∃ a' w' loc' O' R', Cor E.P w0 mine σ1 a' w' loc' O' R' ∧ a'.tmps.size = E.n := by
 have hs := oper_step hcalls h hn ho (K := fun a' w' => ∃ loc' O' R', Cor E.P w0 mine σ1 a' w' loc' O' R' ∧ a'.tmps.size = E.n) (Q := fun _ _ _ => False) (fun a' w' loc' O' R' hc hn' _ => ⟨loc', O', R', hc, hn'⟩)
 split at hs
 ·rcases hs with hs | ⟨_, a1, w1, hq⟩
  ·obtain ⟨a', w', loc', O', R', k⟩ := wp_some hs
   exact ⟨a', w', loc', O', R', k⟩
  ·exact hq.elim
 ·obtain ⟨loc', O', R', k⟩ := hs
  exact ⟨_, _, loc', O', R', k⟩
theorem operX_eq {ops : Array Oper} {x : Oper} (h : ∀ t n ps, x.op ≠ .buildSlice t n ps) : E.operX ops σ x = E.oper ops σ x := by
 have e : σ.dropFor x.op = σ := by
  unfold St.dropFor
  split
  ·rename_i t n ps hx
   exact absurd hx (h t n ps)
  ·rfl
 unfold Env.operX
 rw [e]
 split <;> rfl
theorem operX_hard {ops : Array Oper} {x : Oper} (h : freeB x.op = false) : E.operX ops σ x = E.oper ops σ x := operX_eq fun t n ps e => by rw [e] at h; simp [freeB] at h
theorem operD_operX {ops : Array Oper} {x : Oper} (h : E.operD ops σ x = some σ1) : E.operX ops σ x = some σ1 := by
 unfold Env.operD at h
 split at h
 ·obtain ⟨b, hb, h⟩ := Option.bind_eq_some_iff.1 h
  unfold Env.operX
  split at h
  ·rename_i hbt
   rw [if_pos (by rw [hb, hbt])]
   split at h
   ·exact h
   ·simp at h
  ·rename_i hbf
   rw [if_neg (by rw [hb]; simpa using hbf)]
   exact h
 ·rename_i hf
  rw [operX_hard (by simpa using hf)]
  obtain ⟨σ', h1, h2⟩ := Option.bind_eq_some_iff.1 h
  unfold Env.staysAll at h2
  split at h2
  ·injection h2 with h2
   subst h2
   exact h1
  ·simp at h2
/-! ### what one operation adds -/
/-- Alike where an operation of a region looks. -/
def AlikeO (ops : Array Oper) (σ τ : St) (x : Oper) : Prop := ∀ t ∈ x.looksAt ops, lk σ.t t = lk τ.t t ∧ ∀ v, lk σ.t t = some v → AlikeV σ τ v
theorem cOf_ment (v : Value) (id : Nat) : ¬ (cOf v).mem (fun i _ => i == id) = true := by
 unfold cOf
 split <;> simp [C.mem]
theorem AlikeO.operand {ops : Array Oper} {x : Oper} (h : AlikeO ops σ τ x) {y : Operand} (hy : y ∈ x.op.operands.toList) : Alike σ τ y := by
 cases y with
 | tmp t =>
  obtain ⟨h1, h2⟩ := h t (by
   unfold Oper.looksAt
   exact List.mem_append_left _ (List.mem_filterMap.2 ⟨_, hy, rfl⟩))
  exact ⟨h1, h2⟩
 | const v =>
  refine ⟨by cases v <;> rfl, fun u hu id hm => ?_⟩
  exfalso
  cases v with
  | agg cs =>
   simp only [St.ev] at hu
   split at hu
   ·injection hu with hu
    subst hu
    simp only [AV.ment, AV.mem, List.any_eq_true] at hm
    obtain ⟨q, hq, hm⟩ := hm
    obtain ⟨v, _, rfl⟩ := List.mem_map.1 hq
    exact cOf_ment v id hm
   ·simp at hu
  | tuple _ => simp [St.ev] at hu
  | _ =>
   simp only [St.ev, Option.some.injEq] at hu
   subst hu
   simp only [AV.ment, AV.mem] at hm
   exact cOf_ment _ id hm
 | func f =>
  refine ⟨rfl, fun u hu id hm => ?_⟩
  simp only [St.ev, Option.some.injEq] at hu
  subst hu
  simp [AV.ment, AV.mem, AV.mem.mems] at hm
 | global g => exact ⟨rfl, fun u hu => by simp [St.ev] at hu⟩
theorem want_alike {ops : Array Oper} {x : Oper} (h : AlikeO ops σ τ x) : σ.want ops x.guard = τ.want ops x.guard := by
 cases hg : x.guard with
 | none => rfl
 | some gb =>
  obtain ⟨g, b⟩ := gb
  unfold St.want
  simp only
  cases hd : (ops[g]?).bind (·.dst) with
  | none => rfl
  | some d =>
   have := (h d (by
    unfold Oper.looksAt
    refine List.mem_append_right _ ?_
    rw [hg]
    simp [hd])).1
   simp only [this]
theorem put_lk {d : Option Nat} {v : AV} {t : Nat} : lk (σ.put d v).t t = if d = some t then some v else lk σ.t t := by
 cases d with
 | none => rfl
 | some d =>
  show lk (ins σ.t d v) t = _
  rw [lk_ins]
  by_cases h : d = t
  ·subst h; simp
  ·rw [if_neg h, if_neg (fun e => h (by injection e))]
theorem put_o {d : Option Nat} {v : AV} : (σ.put d v).o = σ.o := by cases d <;> rfl
theorem srt_ext {α : Type} : ∀ {l m : List (Nat × α)}, Srt l → Srt m → (∀ k, lk l k = lk m k) → l = m
 | [], [], _, _, _ => rfl
 | [], (k, x) :: m, _, _, h => by have := h k; simp [lk] at this
 | (k, x) :: l, [], _, _, h => by have := h k; simp [lk] at this
 | (k, x) :: l, (j, y) :: m, h1, h2, h => by
  obtain ⟨a1, a2⟩ := List.pairwise_cons.1 h1
  obtain ⟨b1, b2⟩ := List.pairwise_cons.1 h2
  have hkj : k = j := by
   rcases Nat.lt_trichotomy k j with hlt | he | hlt
   ·have hk := h k
    simp only [lk, if_true] at hk
    rw [if_neg (by omega)] at hk
    have := b1 _ (lk_mem hk.symm)
    simp at this
    omega
   ·exact he
   ·have hj := h j
    simp only [lk, if_true] at hj
    rw [if_neg (by omega)] at hj
    have := a1 _ (lk_mem hj)
    simp at this
    omega
  subst hkj
  have hx := h k
  simp only [lk, if_true, Option.some.injEq] at hx
  subst hx
  congr 1
  refine srt_ext a2 b2 fun i => ?_
  by_cases hi : k = i
  ·subst hi
   have e1 : lk l k = none := by
    cases hl : lk l k with
    | none => rfl
    | some q => have := a1 _ (lk_mem hl); simp at this
   have e2 : lk m k = none := by
    cases hl : lk m k with
    | none => rfl
    | some q => have := b1 _ (lk_mem hl); simp at this
   rw [e1, e2]
  ·have := h i
   simp only [lk] at this
   rwa [if_neg hi, if_neg hi] at this
end Go.Proofs.YtemghdnofgjnmaaDoor.VM

/- What a free operation does: new objects, rows that are taken away, a value. -/
namespace Go.Proofs.YtemghdnofgjnmaaDoor.VM
open Go Go.Proofs.YtemghdnofgjnmaaDoorW.PrintWords
set_option linter.unusedVariables false
set_option linter.unusedSimpArgs false
set_option linter.constructorNameAsVariable false
variable {P : Program} {w w1 w2 w0 : World} {mine : Ctx} {o o1 o2 : OM} {loc loc1 loc2 : Nat → Value} {O R : Nat → List Nat} {σ σ1 σ2 σ' τ : St} {a : Act} {E : Env}

/-! ### rows that are taken away -/
theorem offK_iff {K : List Nat} {v : AV} : v.offK K = true ↔ ∀ id ∈ K, ¬ v.ment id := by
 unfold AV.offK AV.ment
 rw [List.all_eq_true]
 exact ⟨fun h id hid hm => by have := h id hid; rw [hm] at this; simp at this, fun h id hid => by have := h id hid; simpa using this⟩
theorem lkF {α : Type} {f : Nat × α → Bool} {l : List (Nat × α)} (hs : Srt l) (j : Nat) : lk (l.filter f) j = (lk l j).bind fun v => if f (j, v) = true then some v else none := by
 cases h : lk l j with
 | none =>
  cases h' : lk (l.filter f) j with
  | none => rfl
  | some v => rw [(lk_filter hs h').1] at h; simp at h
 | some v =>
  by_cases hf : f (j, v) = true
  ·rw [filter_lk hs h hf]
   simp [hf]
  ·cases h' : lk (l.filter f) j with
   | none => simp [hf]
   | some u =>
    obtain ⟨h1, h2⟩ := lk_filter hs h'
    rw [h] at h1
    injection h1 with h1
    subst h1
    exact absurd h2 hf
theorem wo_t (hs : Srt σ.t) {K : List Nat} (t : Nat) : lk (σ.without K).t t = (lk σ.t t).bind fun v => if v.offK K = true then some v else none := lkF hs t
theorem wo_o (ho : Srt σ.o) {K : List Nat} (id : Nat) : lk (σ.without K).o id = if id ∈ K then none else lk σ.o id := by
 show lk (σ.o.filter _) id = _
 rw [lkF ho]
 by_cases h : id ∈ K
 ·rw [if_pos h]
  cases lk σ.o id <;> simp [h]
 ·rw [if_neg h]
  cases lk σ.o id <;> simp [h]
theorem wo_nil : σ.without [] = σ := by
 unfold St.without
 have e1 : (σ.t.filter fun x => x.2.offK []) = σ.t := List.filter_eq_self.2 fun x _ => rfl
 have e2 : (σ.o.filter fun x => !([] : List Nat).contains x.1) = σ.o := List.filter_eq_self.2 fun x _ => rfl
 rw [e1, e2]
theorem wo_append {K1 K2 : List Nat} : (σ.without K1).without K2 = σ.without (K1 ++ K2) := by
 unfold St.without
 simp only [List.filter_filter]
 congr 1
 ·congr 1
  funext x
  unfold AV.offK
  rw [List.all_append, Bool.and_comm]
 ·congr 1
  funext x
  rw [Bool.eq_iff_iff]
  simp
  exact ⟨fun h => ⟨h.2, h.1⟩, fun h => ⟨h.2, h.1⟩⟩
theorem wo_st (h : Srt σ.t) {K : List Nat} : Srt (σ.without K).t := srt_filter _ h
theorem wo_so (h : Srt σ.o) {K : List Nat} : Srt (σ.without K).o := srt_filter _ h
/-- No variable leads to one of these. -/
def Unl (o : OM) (K : List Nat) : Prop := ∀ id ob, lk o id = some ob → ob.k = .box → ∀ c ∈ ob.xs, ∀ i p n k, c = T.l i p n k → i ∉ K
theorem unl_nil : Unl o [] := fun _ _ _ _ _ _ _ _ _ _ _ => by simp
theorem Unl.left {K1 K2 : List Nat} (h : Unl o (K1 ++ K2)) : Unl o K1 := fun id ob hl hk c hc i p n k e hm => h id ob hl hk c hc i p n k e (List.mem_append_left _ hm)
theorem Unl.right {K1 K2 : List Nat} (h : Unl o (K1 ++ K2)) : Unl o K2 := fun id ob hl hk c hc i p n k e hm => h id ob hl hk c hc i p n k e (List.mem_append_right _ hm)
theorem Unl.wo {K K1 : List Nat} (ho : Srt σ.o) (h : Unl σ.o K) : Unl (σ.without K1).o K := fun id ob hl => by
 rw [wo_o ho] at hl
 split at hl
 ·simp at hl
 ·exact h id ob hl
theorem offK_nil (x : T) : T.offK [] x = true := by
 cases x <;> simp [T.offK]
theorem lkrs_nil (o : OM) : lkrs o [] = [] := by
 unfold lkrs
 rw [List.map_eq_nil_iff, List.filter_eq_nil_iff]
 intro x _
 have : x.2.xs.all (T.offK []) = true := List.all_eq_true.2 fun c _ => offK_nil c
 rw [this]
 simp
theorem full_nil (o : OM) : full o [] = [] := by
 unfold full
 rw [lkrs_nil]
 rfl
def leads (K : List Nat) (ob : Obj) : Prop := ob.k = .box ∧ ob.xs.all (T.offK K) = false
theorem mem_lkrs {o : OM} (ho : Srt o) {K : List Nat} {id : Nat} : id ∈ lkrs o K ↔ ∃ ob, lk o id = some ob ∧ leads K ob := by
 unfold lkrs
 rw [List.mem_map]
 constructor
 ·rintro ⟨x, hx, rfl⟩
  obtain ⟨h1, h2⟩ := List.mem_filter.1 hx
  simp only [Bool.and_eq_true, decide_eq_true_eq, Bool.not_eq_true'] at h2
  exact ⟨x.2, mem_lk ho h1, h2⟩
 ·rintro ⟨ob, h1, h2, h3⟩
  exact ⟨(id, ob), List.mem_filter.2 ⟨lk_mem h1, by simp [h2, h3]⟩, rfl⟩
theorem unl_drop {K : List Nat} (ho : Srt σ.o) : Unl (σ.without (lkrs σ.o K)).o K := fun id ob hl hk c hc i p n k e hm => by
 rw [wo_o ho] at hl
 split at hl
 ·simp at hl
 ·rename_i hid
  refine hid ((mem_lkrs ho).2 ⟨ob, hl, hk, ?_⟩)
  rw [Bool.eq_false_iff]
  intro hall
  have := List.all_eq_true.1 hall c hc
  subst e
  simp [T.offK, hm] at this
theorem ev_wo {K : List Nat} (hs : Srt σ.t) {x : Operand} {v : AV} (h : (σ.without K).ev x = some v) : σ.ev x = some v := by
 cases x with
 | tmp t =>
  have h : lk (σ.without K).t t = some v := h
  rw [wo_t hs] at h
  obtain ⟨u, h1, h2⟩ := Option.bind_eq_some_iff.1 h
  split at h2
  ·injection h2 with h2
   subst h2
   exact h1
  ·simp at h2
 | const q => cases q <;> exact h
 | func f => exact h
 | global g => exact h
theorem ev_wo' {K : List Nat} (hs : Srt σ.t) {x : Operand} {v : AV} (h : σ.ev x = some v) (hv : v.offK K = true) : (σ.without K).ev x = some v := by
 cases x with
 | tmp t =>
  have h : lk σ.t t = some v := h
  show lk (σ.without K).t t = some v
  rw [wo_t hs, h]
  simp [hv]
 | const q => cases q <;> exact h
 | func f => exact h
 | global g => exact h
theorem evp_wo {K : List Nat} (hs : Srt σ.t) : ∀ {l : List (Nat × Operand)} {vs : List (Nat × AV)}, (σ.without K).evp l = some vs → σ.evp l = some vs
 | [], vs, h => h
 | (i, x) :: l, vs, h => by
  simp only [St.evp] at h ⊢
  obtain ⟨v, h1, h⟩ := Option.bind_eq_some_iff.1 h
  obtain ⟨us, h2, h⟩ := Option.bind_eq_some_iff.1 h
  rw [ev_wo hs h1, evp_wo hs h2]
  exact h
theorem evp_wo' {K : List Nat} (hs : Srt σ.t) : ∀ {l : List (Nat × Operand)} {vs : List (Nat × AV)}, σ.evp l = some vs → (∀ x ∈ l.map (·.2), ∀ v, σ.ev x = some v → v.offK K = true) → (σ.without K).evp l = some vs
 | [], vs, h, _ => h
 | (i, x) :: l, vs, h, hv => by
  simp only [St.evp] at h ⊢
  obtain ⟨v, h1, h⟩ := Option.bind_eq_some_iff.1 h
  obtain ⟨us, h2, h⟩ := Option.bind_eq_some_iff.1 h
  rw [ev_wo' hs h1 (hv x (by simp) v h1), evp_wo' hs h2 fun y hy => hv y (by simp only [List.map_cons]; exact List.mem_cons_of_mem _ hy)]
  exact h
theorem kill_off (hs : Srt σ.t) (ho : Srt σ.o) {id : Nat} {ob : Obj} (hl : lk σ.o id = some ob) (hu : Unl σ.o [id]) : σ.kill id = σ.without [id] := by
 unfold St.kill
 rw [hl]
 simp only
 rw [scrub_eq]
 unfold St.without
 have e1 : (σ.t.filter fun x => !x.2.mem fun i _ => i == id) = σ.t.filter fun x => x.2.offK [id] := by
  congr 1
  funext x
  simp [AV.offK]
 have e2 : scrO (fun i _ => i == id) (del σ.o id) = σ.o.filter fun x => !([id] : List Nat).contains x.1 := by
  have e3 : scrO (fun i _ => i == id) (del σ.o id) = del σ.o id := by
   unfold scrO
   have key : ∀ x ∈ del σ.o id, ((x.1, scrOb (fun i _ => i == id) x.2) : Nat × Obj) = x := by
    intro x hx
    have hlx := mem_lk (srt_del _ id ho) hx
    rw [lk_del _ _ _ ho] at hlx
    split at hlx
    ·simp at hlx
    ·by_cases hk : x.2.k = .box
     ·rw [scrOb_box hk]
      have : x.2.xs.map (T.scr fun i _ => i == id) = x.2.xs := by
       refine (List.map_congr_left fun c hc => ?_).trans (List.map_id _)
       cases c with
       | l i p n k =>
        have := hu x.1 x.2 hlx hk _ hc i p n k rfl
        simp at this
        simp [T.scr, this]
       | _ => rfl
      rw [this]
     ·rw [scrOb_not hk]
   exact (List.map_congr_left key).trans (List.map_id _)
  rw [e3]
  refine srt_ext (srt_del _ _ ho) (srt_filter _ ho) fun j => ?_
  rw [lk_del _ _ _ ho, lkF ho]
  by_cases h : id = j
  ·subst h
   rw [if_pos rfl]
   cases lk σ.o id <;> simp
  ·rw [if_neg h]
   have : ¬ j = id := fun e => h e.symm
   cases lk σ.o j <;> simp [this]
 show (⟨_, _⟩ : St) = _
 rw [← e1, ← e2]
/-- Rows are taken, from here and from there. -/
structure Takes (K : List Nat) (σ σ1 : St) : Prop where
 ex : ∀ id ∈ K, ∃ ob, lk σ.o id = some ob
 here : σ1 = σ.without K
def Like (K : List Nat) (σ τ : St) : Prop := Srt τ.t ∧ Srt τ.o ∧ Unl τ.o K ∧ ∀ id ∈ K, lk σ.o id = lk τ.o id
theorem Like.left {K1 K2 : List Nat} (h : Like (K1 ++ K2) σ τ) : Like K1 σ τ := ⟨h.1, h.2.1, h.2.2.1.left, fun id hid => h.2.2.2 id (List.mem_append_left _ hid)⟩
theorem Like.right {K1 K2 : List Nat} (ho : Srt σ.o) (h : Like (K1 ++ K2) σ τ) : Like K2 (σ.without K1) (τ.without K1) :=
 ⟨wo_st h.1, wo_so h.2.1, h.2.2.1.right.wo h.2.1, fun id hid => by rw [wo_o ho, wo_o h.2.1, h.2.2.2 id (List.mem_append_right _ hid)]⟩
theorem move_wo {t : TypeId} {c : C} {x : T} (h : σ.move P t c = some (x, σ1)) (hl : Like c.ids σ σ) : Takes c.ids σ σ1 ∧ ∀ τ, Like c.ids σ τ → τ.move P t c = some (x, τ.without c.ids) := by
 cases c with
 | v q =>
  simp only [St.move, Option.some.injEq, Prod.mk.injEq] at h
  obtain ⟨rfl, rfl⟩ := h
  exact ⟨⟨fun id h => by simp [C.ids] at h, wo_nil.symm⟩, fun τ _ => by simp only [St.move, C.ids, wo_nil]⟩
 | z =>
  simp only [St.move, Option.some.injEq, Prod.mk.injEq] at h
  obtain ⟨rfl, rfl⟩ := h
  exact ⟨⟨fun id h => by simp [C.ids] at h, wo_nil.symm⟩, fun τ _ => by simp only [St.move, C.ids, wo_nil]⟩
 | sl id p off n =>
  cases p with
  | nil =>
   simp only [St.move] at h
   obtain ⟨⟨b, xs⟩, h1, h⟩ := Option.bind_eq_some_iff.1 h
   simp only at h
   split at h
   ·rename_i hb
    simp only [Option.some.injEq, Prod.mk.injEq] at h
    obtain ⟨rfl, rfl⟩ := h
    have hex : ∃ ob, lk σ.o id = some ob := by
     unfold St.cellsOf St.row at h1
     cases hl : lk σ.o id with
     | none => rw [hl] at h1; simp at h1
     | some ob => exact ⟨ob, rfl⟩
    obtain ⟨ob, hob⟩ := hex
    refine ⟨⟨fun j hj => by simp [C.ids] at hj; subst hj; exact ⟨ob, hob⟩, kill_off hl.1 hl.2.1 hob hl.2.2.1⟩, fun τ hτ => ?_⟩
    have e := hτ.2.2.2 id (by simp [C.ids])
    simp only [St.move]
    rw [← cells_alike e, h1]
    simp only [Option.bind_some, hb, if_true]
    rw [kill_off hτ.1 hτ.2.1 (by rw [← e]; exact hob) hτ.2.2.1]
    rfl
   ·simp at h
  | cons i p => simp [St.move] at h
theorem Like.self {K : List Nat} (hs : Srt σ.t) (ho : Srt σ.o) (hu : Unl σ.o K) : Like K σ σ := ⟨hs, ho, hu, fun _ _ => rfl⟩
theorem Takes.append {K1 K2 : List Nat} (ho : Srt σ.o) (h1 : Takes K1 σ σ1) (h2 : Takes K2 σ1 σ2) : Takes (K1 ++ K2) σ σ2 := by
 refine ⟨fun id hid => ?_, ?_⟩
 ·rcases List.mem_append.1 hid with h | h
  ·exact h1.ex id h
  ·obtain ⟨ob, hob⟩ := h2.ex id h
   rw [h1.here, wo_o ho] at hob
   split at hob
   ·simp at hob
   ·exact ⟨ob, hob⟩
 ·rw [h2.here, h1.here, wo_append]
theorem moves_wo : ∀ {ts : List TypeId} {cs : List C} {xs : List T} {σ σ1 : St}, σ.moves P ts cs = some (xs, σ1) → Like (csIds cs) σ σ → Takes (csIds cs) σ σ1 ∧ ∀ τ, Like (csIds cs) σ τ → τ.moves P ts cs = some (xs, τ.without (csIds cs))
 | [], [], xs, σ, σ1, h, hl => by
  simp only [St.moves, Option.some.injEq, Prod.mk.injEq] at h
  obtain ⟨rfl, rfl⟩ := h
  exact ⟨⟨fun id h => by simp [csIds] at h, wo_nil.symm⟩, fun τ _ => by simp only [St.moves, csIds, wo_nil]⟩
 | t :: ts, c :: cs, xs, σ, σ1, h, hl => by
  simp only [St.moves] at h
  obtain ⟨⟨x, σ2⟩, h1, h⟩ := Option.bind_eq_some_iff.1 h
  obtain ⟨⟨ys, σ3⟩, h2, h⟩ := Option.bind_eq_some_iff.1 h
  simp only [Option.some.injEq, Prod.mk.injEq] at h
  obtain ⟨rfl, rfl⟩ := h
  rw [csIds] at hl
  obtain ⟨k1, k2⟩ := move_wo h1 hl.left
  have hl2 := hl.right hl.2.1
  obtain ⟨j1, j2⟩ := moves_wo h2 (by rw [k1.here]; exact hl2)
  refine ⟨k1.append hl.2.1 j1, fun τ hτ => ?_⟩
  rw [csIds] at hτ
  simp only [St.moves, k2 τ hτ.left, Option.bind_some]
  rw [j2 _ (by rw [k1.here]; exact hτ.right hl.2.1), csIds, wo_append]
  rfl
 | [], _ :: _, xs, σ, σ1, h, hl => by simp [St.moves] at h
 | _ :: _, [], xs, σ, σ1, h, hl => by simp [St.moves] at h
theorem ids_cs {v : AV} {cs : List C} (h : v.cs = some cs) : v.ids = csIds cs := by
 cases v with
 | c x =>
  simp only [AV.cs, Option.some.injEq] at h
  subst h
  simp [AV.ids, csIds]
 | agg xs =>
  simp only [AV.cs, Option.some.injEq] at h
  subst h
  rfl
 | _ => simp [AV.cs] at h
theorem rowOf_wo {e : TypeId} : ∀ {vs : List (Nat × AV)} {i : Nat} {xs : List T} {σ σ1 : St}, σ.rowOf P e i vs = some (xs, σ1) → Like (evpIds vs) σ σ → Takes (evpIds vs) σ σ1 ∧ ∀ τ, Like (evpIds vs) σ τ → τ.rowOf P e i vs = some (xs, τ.without (evpIds vs))
 | [], i, xs, σ, σ1, h, hl => by
  simp only [St.rowOf, Option.some.injEq, Prod.mk.injEq] at h
  obtain ⟨rfl, rfl⟩ := h
  exact ⟨⟨fun id h => by simp [evpIds] at h, wo_nil.symm⟩, fun τ _ => by simp only [St.rowOf, evpIds, wo_nil]⟩
 | (j, v) :: vs, i, xs, σ, σ1, h, hl => by
  simp only [St.rowOf] at h
  split at h
  ·rename_i hij
   subst hij
   obtain ⟨cs, h0, h⟩ := Option.bind_eq_some_iff.1 h
   split at h
   ·simp at h
   ·rename_i hlen
    obtain ⟨⟨x, σ2⟩, h1, h⟩ := Option.bind_eq_some_iff.1 h
    obtain ⟨⟨ys, σ3⟩, h2, h⟩ := Option.bind_eq_some_iff.1 h
    simp only [Option.some.injEq, Prod.mk.injEq] at h
    obtain ⟨rfl, rfl⟩ := h
    rw [evpIds, ids_cs h0] at hl
    obtain ⟨k1, k2⟩ := moves_wo h1 hl.left
    have hl2 := hl.right hl.2.1
    obtain ⟨j1, j2⟩ := rowOf_wo h2 (by rw [k1.here]; exact hl2)
    rw [evpIds, ids_cs h0]
    refine ⟨k1.append hl.2.1 j1, fun τ hτ => ?_⟩
    simp only [St.rowOf, if_true, h0, Option.bind_some]
    rw [if_neg hlen, k2 τ hτ.left]
    simp only [Option.bind_some]
    rw [j2 _ (by rw [k1.here]; exact hτ.right hl.2.1), wo_append]
    rfl
  ·simp at h
/-! ### what is free -/
theorem gap_wo (ho : Srt σ.o) {K : List Nat} {lo hi : Nat} (h : Gap σ lo hi) : Gap (σ.without K) lo hi := fun j h1 h2 => by
 rw [wo_o ho, h j h1 h2]
 split <;> rfl
theorem absent_gap {d : Nat} (ho : Srt σ.o) (h : Gap σ (site d 0) (site (d + 1) 0)) : σ.absent d = true := by
 unfold St.absent
 rw [List.all_eq_true]
 intro x hx
 have hl := mem_lk ho hx
 simp only [Bool.or_eq_true, decide_eq_true_eq]
 rcases Nat.lt_or_ge x.1 (site d 0) with h1 | h1
 ·exact .inl h1
 ·rcases Nat.lt_or_ge x.1 (site (d + 1) 0) with h2 | h2
  ·rw [h x.1 h1 h2] at hl
   simp at hl
  ·exact .inr h2
theorem ids_ment {v : AV} {id : Nat} (h : id ∈ v.ids) : v.ment id := by
 have hC : ∀ c : C, id ∈ c.ids → c.mem (fun i _ => i == id) = true := by
  intro c hc
  cases c with
  | sl i p o n => simp [C.ids] at hc; subst hc; simp [C.mem]
  | _ => simp [C.ids] at hc
 cases v with
 | c x => exact hC x h
 | agg xs =>
  have key : ∀ l : List C, id ∈ csIds l → l.any (·.mem fun i _ => i == id) = true := by
   intro l
   induction l with
   | nil => intro h; simp [csIds] at h
   | cons c l ih =>
    intro h
    rw [csIds] at h
    rw [List.any_cons, Bool.or_eq_true]
    rcases List.mem_append.1 h with h | h
    ·exact .inl (hC c h)
    ·exact .inr (ih h)
  exact key xs h
 | _ => simp [AV.ids] at h
theorem evp_mem : ∀ {l : List (Nat × Operand)} {vs : List (Nat × AV)}, σ.evp l = some vs → ∀ id ∈ evpIds vs, ∃ x ∈ l.map (·.2), ∃ u, σ.ev x = some u ∧ u.ment id
 | [], vs, h, id, hid => by
  simp only [St.evp, Option.some.injEq] at h
  subst h
  simp [evpIds] at hid
 | (i, x) :: l, vs, h, id, hid => by
  simp only [St.evp] at h
  obtain ⟨v, h1, h⟩ := Option.bind_eq_some_iff.1 h
  obtain ⟨us, h2, h⟩ := Option.bind_eq_some_iff.1 h
  simp only [Option.some.injEq] at h
  subst h
  rw [evpIds] at hid
  rcases List.mem_append.1 hid with hid | hid
  ·exact ⟨x, by simp, v, h1, ids_ment hid⟩
  ·obtain ⟨y, hy, u, k1, k2⟩ := evp_mem h2 id hid
   exact ⟨y, by simp only [List.map_cons]; exact List.mem_cons_of_mem _ hy, u, k1, k2⟩
theorem rowOf_cs {e : TypeId} : ∀ {vs : List (Nat × AV)} {i : Nat} {xs : List T} {σ σ1 : St}, σ.rowOf P e i vs = some (xs, σ1) → ∀ x ∈ vs, ∃ cs, x.2.cs = some cs
 | [], i, xs, σ, σ1, h, x, hx => by simp at hx
 | (j, v) :: vs, i, xs, σ, σ1, h, x, hx => by
  simp only [St.rowOf] at h
  split at h
  ·obtain ⟨cs, h0, h⟩ := Option.bind_eq_some_iff.1 h
   split at h
   ·simp at h
   ·obtain ⟨⟨y, σ2⟩, h1, h⟩ := Option.bind_eq_some_iff.1 h
    obtain ⟨⟨ys, σ3⟩, h2, h⟩ := Option.bind_eq_some_iff.1 h
    rcases List.mem_cons.1 hx with rfl | hx
    ·exact ⟨cs, h0⟩
    ·exact rowOf_cs h2 x hx
  ·simp at h
theorem ment_ids {v : AV} {cs : List C} {id : Nat} (h : v.cs = some cs) (hm : v.ment id) : id ∈ v.ids := by
 have hC : ∀ c : C, c.mem (fun i _ => i == id) = true → id ∈ c.ids := by
  intro c hc
  cases c with
  | sl i p o n => simp [C.mem] at hc; simp [C.ids, hc]
  | _ => simp [C.mem] at hc
 cases v with
 | c x => exact hC x hm
 | agg xs =>
  have key : ∀ l : List C, l.any (·.mem fun i _ => i == id) = true → id ∈ csIds l := by
   intro l
   induction l with
   | nil => intro h; simp at h
   | cons c l ih =>
    intro h
    rw [List.any_cons, Bool.or_eq_true] at h
    rw [csIds, List.mem_append]
    exact h.imp (hC c) ih
  exact key xs hm
 | _ => simp [AV.cs] at h
theorem evp_val : ∀ {l : List (Nat × Operand)} {vs : List (Nat × AV)}, σ.evp l = some vs → ∀ x ∈ l.map (·.2), ∀ v, σ.ev x = some v → ∃ y ∈ vs, y.2 = v
 | [], vs, h, x, hx, v, hv => by simp at hx
 | (i, y) :: l, vs, h, x, hx, v, hv => by
  simp only [St.evp] at h
  obtain ⟨u, h1, h⟩ := Option.bind_eq_some_iff.1 h
  obtain ⟨us, h2, h⟩ := Option.bind_eq_some_iff.1 h
  simp only [Option.some.injEq] at h
  subst h
  rw [List.map_cons] at hx
  rcases List.mem_cons.1 hx with rfl | hx
  ·rw [h1] at hv
   injection hv with hv
   exact ⟨(i, u), by simp, hv⟩
  ·obtain ⟨z, hz, e⟩ := evp_val h2 x hx v hv
   exact ⟨z, List.mem_cons_of_mem _ hz, e⟩
theorem evpIds_mem {id : Nat} : ∀ {vs : List (Nat × AV)} {y : Nat × AV}, y ∈ vs → id ∈ y.2.ids → id ∈ evpIds vs
 | [], y, h, _ => by simp at h
 | x :: l, y, h, hid => by
  rw [evpIds, List.mem_append]
  rcases List.mem_cons.1 h with rfl | h
  ·exact .inl hid
  ·exact .inr (evpIds_mem h hid)
theorem evp_in {e : TypeId} {i : Nat} {xs : List T} {l : List (Nat × Operand)} {vs : List (Nat × AV)} (h : σ.evp l = some vs) (hr : σ1.rowOf P e i vs = some (xs, σ2)) {x : Operand} (hx : x ∈ l.map (·.2)) {v : AV} (hv : σ.ev x = some v) {id : Nat} (hm : v.ment id) : id ∈ evpIds vs := by
 obtain ⟨y, hy, rfl⟩ := evp_val h x hx v hv
 obtain ⟨cs, hcs⟩ := rowOf_cs hr y hy
 exact evpIds_mem hy (ment_ids hcs hm)
def opsOf : Op → List Operand
 | .buildSlice _ _ ps => ps.toList.map (·.2)
 | _ => []
theorem ev_tmp {y : Operand} {u : AV} {id : Nat} (h : σ.ev y = some u) (hm : u.ment id) : ∃ t, y = .tmp t := by
 cases y with
 | tmp t => exact ⟨t, rfl⟩
 | const v =>
  exfalso
  cases v with
  | agg cs =>
   simp only [St.ev] at h
   split at h
   ·injection h with h
    subst h
    simp only [AV.ment, AV.mem, List.any_eq_true] at hm
    obtain ⟨q, hq, hm⟩ := hm
    obtain ⟨v, _, rfl⟩ := List.mem_map.1 hq
    exact cOf_ment v id hm
   ·simp at h
  | tuple _ => simp [St.ev] at h
  | _ =>
   simp only [St.ev, Option.some.injEq] at h
   subst h
   simp only [AV.ment, AV.mem] at hm
   exact cOf_ment _ id hm
 | func f =>
  exfalso
  simp only [St.ev, Option.some.injEq] at h
  subst h
  simp [AV.ment, AV.mem, AV.mem.mems] at hm
 | global g => simp [St.ev] at h
theorem softB_of {t : TypeId} {n : Nat} {ps : Array (Nat × Operand)} {vs : List (Nat × AV)} (hvs : σ.evp ps.toList = some vs) {id : Nat} (hid : id ∈ evpIds vs) : softB (.buildSlice t n ps) = true := by
 obtain ⟨x, hx, u, h1, h2⟩ := evp_mem hvs id hid
 obtain ⟨p, hp, rfl⟩ := List.mem_map.1 hx
 obtain ⟨k, hk⟩ := ev_tmp h1 h2
 unfold softB
 exact List.any_eq_true.2 ⟨p, hp, by rw [hk]; rfl⟩
theorem soft_nil {t : TypeId} {n : Nat} {ps : Array (Nat × Operand)} {vs : List (Nat × AV)} (hs : softB (.buildSlice t n ps) = false) (hvs : σ.evp ps.toList = some vs) : evpIds vs = [] := by
 refine List.eq_nil_iff_forall_not_mem.2 fun id hid => ?_
 rw [softB_of (t := t) (n := n) hvs hid] at hs
 simp at hs
/-- What a free operation does, here and in every state that is alike where it looks. -/
structure Does (E : Env) (ops : Array Oper) (d : Nat) (op : Op) (σ σ1 : St) (r : Option AV) (N : OM) (K : List Nat) : Prop where
 srt : Srt N
 nol : NoL N
 keys : ∀ y ∈ N, isVal op = false ∧ site d 0 ≤ y.1 ∧ y.1 < site (d + 1) 0
 gap : isVal op = false → Gap σ (site d 0) (site (d + 1) 0)
 own : ∀ id ∈ K, softB op = true ∧ ∃ x ∈ op.operands.toList, ∃ u, σ.ev x = some u ∧ u.ment id
 soft : K ≠ [] → softAt ops σ d op.operands.toList (full σ.o K) = true
 here : σ1 = ⟨(σ.without (full σ.o K)).t, insN (σ.without (full σ.o K)).o N⟩
 there : ∀ τ, Srt τ.t → Srt τ.o → (∀ x ∈ op.operands.toList, Alike σ τ x) → (isVal op = false → Gap τ (site d 0) (site (d + 1) 0)) → E.op (τ.dropFor op) d op = some (r, ⟨(τ.without (full τ.o K)).t, insN (τ.without (full τ.o K)).o N⟩) ∧ ((K ≠ [] → softAt ops τ d op.operands.toList (full τ.o K) = true) → E.free ops τ d op = true)
theorem zeroT_nol {t : TypeId} {xs : List T} {id : Nat} (h : zeroT P t = some xs) : NoL [(id, ⟨.box, t, xs⟩)] := fun y hy _ c hc i p n k e => by
 simp at hy
 subst hy
 unfold zeroT at h
 split at h
 ·split at h
  ·split at h
   ·injection h with h
    subst h
    obtain ⟨v, _, rfl⟩ := List.mem_map.1 hc
    unfold zT at e
    split at e <;> simp at e
   ·simp at h
  ·simp at h
 ·simp at h
theorem free_does {ops : Array Oper} {d : Nat} {op : Op} (hfr : freeB op = true) (hs : Srt σ.t) (ho : Srt σ.o) (hf : E.free ops σ d op = true) {r : Option AV} (h : E.op (σ.dropFor op) d op = some (r, σ1)) : ∃ N K, Does E ops d op σ σ1 r N K := by
 have hsd : site d 0 < site (d + 1) 0 := by unfold site; omega
 by_cases hv : isVal op = true
 ·have hdr : ∀ ρ : St, ρ.dropFor op = ρ := fun ρ => by cases op <;> first | rfl | simp [isVal] at hv
  rw [hdr] at h
  obtain ⟨_, rfl⟩ := val_alike (τ := σ) hv h (fun x _ => ⟨rfl, fun _ _ _ _ => rfl⟩)
  refine ⟨[], [], List.Pairwise.nil, nol_nil, fun y hy => by simp at hy, fun h => (by rw [hv] at h; simp at h), fun id h => by simp at h, fun h => absurd rfl h, by rw [full_nil, wo_nil]; rfl, fun τ hsτ hoτ hx _ => ⟨by rw [hdr, full_nil, wo_nil]; exact (val_alike hv h hx).1, fun _ => ?_⟩⟩
  cases op with
  | call c =>
   obtain ⟨callee, args, argTypes⟩ := c
   cases callee with
   | builtin b => rfl
   | value x => simp [isVal] at hv
   | invoke x n => simp [isVal] at hv
  | alloc t => simp [isVal] at hv
  | makeSlice t x y => simp [isVal] at hv
  | buildSlice t n ps => simp [isVal] at hv
  | _ => rfl
 ·have hv : isVal op = false := by simpa using hv
  cases op with
  | alloc t =>
   simp only [St.dropFor, Env.op] at h
   obtain ⟨xs, h1, h⟩ := Option.bind_eq_some_iff.1 h
   simp only [Option.some.injEq, Prod.mk.injEq] at h
   obtain ⟨rfl, rfl⟩ := h
   have hg := gap_absent (show σ.absent d = true from hf)
   refine ⟨[(site d 0, ⟨.box, t, xs⟩)], [], by simp [Srt], zeroT_nol h1, fun y hy => ?_, fun _ => hg, fun id h => by simp at h, fun h => absurd rfl h, ?_, fun τ hsτ hoτ _ hgτ => ⟨?_, fun _ => absent_gap hoτ (hgτ hv)⟩⟩
   ·simp at hy
    subst hy
    exact ⟨rfl, Nat.le_refl _, hsd⟩
   ·rw [new_gap (hg _ (Nat.le_refl _) hsd), full_nil, wo_nil]
    rfl
   ·simp only [St.dropFor, Env.op, h1, Option.bind_some]
    rw [new_gap (hgτ hv _ (Nat.le_refl _) hsd), full_nil, wo_nil]
    rfl
  | makeSlice t x y =>
   simp only [St.dropFor, Env.op] at h
   split at h
   ·rename_i e k1 n k2 m hu hx hy
    obtain ⟨z, h1, h⟩ := Option.bind_eq_some_iff.1 h
    split at h
    ·rename_i hc
     simp only [Option.some.injEq, Prod.mk.injEq] at h
     obtain ⟨rfl, rfl⟩ := h
     have hg := gap_absent (show σ.absent d = true from hf)
     refine ⟨[(site d 0, ⟨.own, e, (List.replicate n.toNat (z.map (zsT E.P e))).flatten⟩)], [], by simp [Srt], nol_own, fun y hy => ?_, fun _ => hg, fun id h => by simp at h, fun h => absurd rfl h, ?_, fun τ hsτ hoτ hal hgτ => ⟨?_, fun _ => absent_gap hoτ (hgτ hv)⟩⟩
     ·simp at hy
      subst hy
      exact ⟨rfl, Nat.le_refl _, hsd⟩
     ·rw [new_gap (hg _ (Nat.le_refl _) hsd), full_nil, wo_nil]
      rfl
     ·simp only [St.dropFor, Env.op]
      rw [hu, ← (hal x (by simp [Op.operands])).1, ← (hal y (by simp [Op.operands])).1, hx, hy]
      simp only [h1, Option.bind_some]
      rw [if_pos hc, new_gap (hgτ hv _ (Nat.le_refl _) hsd), full_nil, wo_nil]
      rfl
    ·simp at h
   ·simp at h
  | buildSlice t n ps =>
   have eo : (Op.buildSlice t n ps).operands.toList = ps.toList.map (·.2) := by simp [Op.operands]
   simp only [Env.free, Bool.and_eq_true] at hf
   obtain ⟨hf1, hf2⟩ := hf
   cases hvs : σ.evp ps.toList with
   | none => rw [hvs] at hf2; simp at hf2
   | some vs =>
   rw [hvs] at hf2
   have hsoft : softOk ops σ d (ps.toList.map (·.2)) (evpIds vs) = true := hf2
   have hdr : σ.dropFor (.buildSlice t n ps) = σ.without (lkrs σ.o (evpIds vs)) := by simp only [St.dropFor, hvs]
   rw [hdr] at h
   simp only [Env.op] at h
   split at h
   ·rename_i e hu
    split at h
    ·rename_i hc
     obtain ⟨vs', h1, h⟩ := Option.bind_eq_some_iff.1 h
     have hv' := evp_wo hs h1
     rw [hvs] at hv'
     injection hv' with hv'
     subst hv'
     split at h
     ·rename_i hn
      obtain ⟨⟨xs, σ2⟩, h2, h⟩ := Option.bind_eq_some_iff.1 h
      simp only [Option.some.injEq, Prod.mk.injEq] at h
      obtain ⟨rfl, rfl⟩ := h
      have hg := gap_absent hf1
      unfold softOk at hsoft
      simp only [Bool.or_eq_true, List.isEmpty_iff] at hsoft
      obtain ⟨k1, k2⟩ := rowOf_wo h2 (Like.self (wo_st hs) (wo_so ho) (unl_drop ho))
      have hin : ∀ id ∈ evpIds vs, id ∉ lkrs σ.o (evpIds vs) := fun id hid hm => by
       obtain ⟨ob, hob⟩ := k1.ex id hid
       rw [wo_o ho, if_pos hm] at hob
       simp at hob
      refine ⟨[(site d 0, ⟨.own, e, xs⟩)], evpIds vs, by simp [Srt], nol_own, fun y hy => ?_, fun _ => hg, fun id hid => ⟨softB_of hvs hid, ?_⟩, fun hne => ?_, ?_, fun τ hsτ hoτ hal hgτ => ⟨?_, fun hq => ?_⟩⟩
      ·simp at hy
       subst hy
       exact ⟨rfl, Nat.le_refl _, hsd⟩
      ·rw [eo]
       exact evp_mem hvs id hid
      ·rw [eo]
       rcases hsoft with h | h
       ·exact absurd h hne
       ·exact h
      ·rw [k1.here, wo_append, new_gap (gap_wo ho hg _ (Nat.le_refl _) hsd)]
       rfl
      ·have e1 := evp_alike (σ := σ) (τ := τ) (l := ps.toList) (fun x hx => hal x.2 (by rw [eo]; exact List.mem_map_of_mem hx))
       have hsame : ∀ id ∈ evpIds vs, lk σ.o id = lk τ.o id := fun id hid => by
        obtain ⟨x, hx, u, q1, q2⟩ := evp_mem hvs id hid
        exact (hal x (by rw [eo]; exact hx)).2 u q1 id q2
       have hinτ : ∀ id ∈ evpIds vs, id ∉ lkrs τ.o (evpIds vs) := fun id hid hm => by
        obtain ⟨ob, hob, hl⟩ := (mem_lkrs hoτ).1 hm
        exact hin id hid ((mem_lkrs ho).2 ⟨ob, by rw [hsame id hid]; exact hob, hl⟩)
       have hvτ : τ.evp ps.toList = some vs := by rw [← e1]; exact hvs
       have hdτ : τ.dropFor (.buildSlice t n ps) = τ.without (lkrs τ.o (evpIds vs)) := by simp only [St.dropFor, hvτ]
       rw [hdτ]
       have hevp : (τ.without (lkrs τ.o (evpIds vs))).evp ps.toList = some vs := evp_wo' hsτ hvτ fun x hx v hv => by
        have hv2 : σ.ev x = some v := by rw [(hal x (by rw [eo]; exact hx)).1]; exact hv
        exact offK_iff.2 fun id hid hm => hin id (evp_in hvs h2 hx hv2 hm) (by
         obtain ⟨ob, hob, hl⟩ := (mem_lkrs hoτ).1 hid
         rw [← (hal x (by rw [eo]; exact hx)).2 v hv2 id hm] at hob
         exact (mem_lkrs ho).2 ⟨ob, hob, hl⟩)
       simp only [Env.op]
       rw [hu]
       simp only
       rw [if_pos hc, hevp]
       simp only [Option.bind_some]
       rw [if_pos hn, k2 _ ⟨wo_st hsτ, wo_so hoτ, unl_drop hoτ, fun id hid => ?_⟩]
       ·simp only [Option.bind_some]
        rw [wo_append, new_gap (gap_wo hoτ (hgτ hv) _ (Nat.le_refl _) hsd)]
        rfl
       ·rw [wo_o ho, wo_o hoτ, if_neg (hin id hid), if_neg (hinτ id hid)]
        exact hsame id hid
      ·have e1 := evp_alike (σ := σ) (τ := τ) (l := ps.toList) (fun x hx => hal x.2 (by rw [eo]; exact List.mem_map_of_mem hx))
       rw [eo] at hq
       have hvτ : τ.evp ps.toList = some vs := by rw [← e1]; exact hvs
       simp only [Env.free, hvτ, Bool.and_eq_true]
       refine ⟨absent_gap hoτ (hgτ hv), ?_⟩
       unfold softOk
       by_cases hne : evpIds vs = []
       ·rw [hne]; rfl
       ·rw [hq hne]
        simp
     ·simp at h
    ·simp at h
   ·simp at h
  | call c =>
   obtain ⟨callee, args, argTypes⟩ := c
   cases callee with
   | builtin b =>
    simp only [freeB] at hfr
    have : isVal (.call ⟨.builtin b, args, argTypes⟩) = true := hfr
    rw [hv] at this
    simp at this
   | invoke x n => simp [freeB] at hfr
   | value x =>
    simp only [St.dropFor, Env.op] at h
    obtain ⟨vs, h1, h⟩ := Option.bind_eq_some_iff.1 h
    split at h
    ·rename_i f cs h2
     obtain ⟨⟨v, σ2⟩, h3, h⟩ := Option.bind_eq_some_iff.1 h
     simp only [Option.some.injEq, Prod.mk.injEq] at h
     obtain ⟨rfl, rfl⟩ := h
     simp only [Env.free, h1, h2, Bool.and_eq_true] at hf
     obtain ⟨N, n1, nn1, n2, n3, n4⟩ := call_alike h3 hf.2.2 hf.1 (by simpa using hf.2.1)
     have hg := gap_absent hf.1
     have hall : ∀ τ, (∀ q ∈ (Op.call ⟨.value x, args, argTypes⟩).operands.toList, Alike σ τ q) → ∀ v ∈ vs ++ cs, AlikeV σ τ v := by
      intro τ hx v hv' id hm
      have hxx := hx x (by simp [Op.operands, Call.operands])
      rcases List.mem_append.1 hv' with hv' | hv'
      ·have key : ∀ {l : List Operand} {us : List AV}, σ.evs l = some us → v ∈ us → ∃ x ∈ l, σ.ev x = some v := by
        intro l
        induction l with
        | nil =>
         intro us h hu
         simp only [St.evs, Option.some.injEq] at h
         subst h
         simp at hu
        | cons x l ih =>
         intro us h hu
         simp only [St.evs] at h
         obtain ⟨q, q1, h⟩ := Option.bind_eq_some_iff.1 h
         obtain ⟨qs, q2, h⟩ := Option.bind_eq_some_iff.1 h
         injection h with h
         subst h
         rcases List.mem_cons.1 hu with hu | hu
         ·subst hu
          exact ⟨x, by simp, q1⟩
         ·obtain ⟨y, y1, y2⟩ := ih q2 hu
          exact ⟨y, by simp [y1], y2⟩
       obtain ⟨y, y1, y2⟩ := key h1 hv'
       exact (hx y (by simp [Op.operands, Call.operands]; exact .inr (by simpa using y1))).2 v y2 id hm
      ·refine hxx.2 _ h2 id ?_
       have : ∀ {l : List AV}, v ∈ l → AV.mem.mems (fun i _ => i == id) l = true := by
        intro l
        induction l with
        | nil => intro h; simp at h
        | cons x l ih =>
         intro h
         rw [AV.mem.mems, Bool.or_eq_true]
         rcases List.mem_cons.1 h with h | h
         ·subst h; exact .inl hm
         ·exact .inr (ih h)
       show AV.mem _ (.fn f cs) = true
       rw [AV.mem]
       exact this hv'
     refine ⟨N, [], n1, nn1, fun y hy => ⟨rfl, n2 y hy⟩, fun _ => hg, fun id h => by simp at h, fun h => absurd rfl h, by rw [full_nil, wo_nil]; exact n3, fun τ hsτ hoτ hx hgτ => ?_⟩
     have e1 := evs_alike (σ := σ) (τ := τ) (l := args.toList) (fun y hy => hx y (by simp [Op.operands, Call.operands]; exact .inr (by simpa using hy)))
     have hxx := hx x (by simp [Op.operands, Call.operands])
     obtain ⟨g1, g2⟩ := n4 τ (hall τ hx)
     refine ⟨?_, fun _ => ?_⟩
     ·simp only [St.dropFor, Env.op, ← e1, h1, Option.bind_some, ← hxx.1, h2]
      rw [g2 (hgτ hv), full_nil, wo_nil]
      rfl
     ·simp only [Env.free, ← e1, h1, ← hxx.1, h2, Bool.and_eq_true]
      refine ⟨absent_gap hoτ (hgτ hv), ?_⟩
      rw [g1]
      exact hf.2
    ·simp at h
  | _ => simp [freeB, isVal] at hfr hv
end Go.Proofs.YtemghdnofgjnmaaDoor.VM

/- A region whose order is drawn goes as in order: each operation that is ready may come first. -/
namespace Go.Proofs.YtemghdnofgjnmaaDoor.VM
open Go Go.Proofs.YtemghdnofgjnmaaDoorW.PrintWords
set_option linter.unusedVariables false
set_option linter.unusedSimpArgs false
set_option linter.constructorNameAsVariable false
variable {P : Program} {w w1 w2 w0 : World} {mine : Ctx} {o o1 o2 : OM} {loc loc1 loc2 : Nat → Value} {O R : Nat → List Nat} {σ σ1 σ2 σ' τ : St} {a : Act} {E : Env} {ops : Array Oper}

/-! ### two that change places -/
def act (σ : St) (K : List Nat) (N : OM) (d : Option Nat) (v : AV) : St := (⟨(σ.without (full σ.o K)).t, insN (σ.without (full σ.o K)).o N⟩ : St).put d v
theorem act_t (hs : Srt σ.t) {K : List Nat} {N : OM} {d : Option Nat} {v : AV} (t : Nat) : lk (act σ K N d v).t t = if d = some t then some v else (lk σ.t t).bind fun v => if v.offK (full σ.o K) = true then some v else none := by
 unfold act
 rw [put_lk]
 split
 ·rfl
 ·exact wo_t hs t
theorem act_in {K : List Nat} {N : OM} {d : Option Nat} {v : AV} (hN : Srt N) {y : Nat × Obj} (hy : y ∈ N) : lk (act σ K N d v).o y.1 = some y.2 := by
 unfold act
 rw [put_o]
 exact insN_in hN y hy
theorem act_out (ho : Srt σ.o) {K : List Nat} {N : OM} {d : Option Nat} {v : AV} {id : Nat} (h : ∀ y ∈ N, y.1 ≠ id) : lk (act σ K N d v).o id = if id ∈ full σ.o K then none else lk σ.o id := by
 unfold act
 rw [put_o]
 show lk (insN _ N) id = _
 rw [insN_out h]
 exact wo_o ho id
theorem act_st (hs : Srt σ.t) {K : List Nat} {N : OM} {d : Option Nat} {v : AV} : Srt (act σ K N d v).t := by
 unfold act
 cases d with
 | none => exact wo_st hs
 | some d => exact srt_ins _ _ _ (wo_st hs)
theorem act_so (ho : Srt σ.o) {K : List Nat} {N : OM} {d : Option Nat} {v : AV} : Srt (act σ K N d v).o := by
 unfold act
 rw [put_o]
 exact insN_srt (wo_so ho)
theorem st_ext (h1 : σ.t = τ.t) (h2 : σ.o = τ.o) : σ = τ := by
 cases σ
 cases τ
 simp only at h1 h2
 rw [h1, h2]
abbrev Lo (x : Oper) : Nat := site (x.dst.getD 0) 0
abbrev Hi (x : Oper) : Nat := site (x.dst.getD 0 + 1) 0
/-- What a free operation of a region does, here and wherever it is alike. -/
structure Adds (E : Env) (ops : Array Oper) (x : Oper) (σ σ1 : St) (v : AV) (N : OM) (K : List Nat) (g : Bool) : Prop where
 srt : Srt N
 nol : NoL N
 keys : ∀ y ∈ N, g = true ∧ Lo x ≤ y.1 ∧ y.1 < Hi x
 gap : g = true → Gap σ (Lo x) (Hi x) ∧ isVal x.op = false
 own : ∀ id ∈ K, softB x.op = true ∧ ∃ t ∈ x.looksAt ops, ∃ u, lk σ.t t = some u ∧ u.ment id
 here : σ1 = act σ K N x.dst v
 there : ∀ τ, Srt τ.t → Srt τ.o → AlikeO ops σ τ x → (g = true → Gap τ (Lo x) (Hi x)) → E.operX ops τ x = some (act τ K N x.dst v) ∧ ((K ≠ [] → softAt ops τ (x.dst.getD 0) x.op.operands.toList (full τ.o K) = true) → E.operD ops τ x = some (act τ K N x.dst v))
theorem looks_tmp {x : Oper} {t : Nat} (h : Operand.tmp t ∈ x.op.operands.toList) : t ∈ x.looksAt ops := by
 unfold Oper.looksAt
 exact List.mem_append_left _ (List.mem_filterMap.2 ⟨_, h, rfl⟩)
theorem alike_refl {x : Oper} : AlikeO ops σ σ x := fun _ _ => ⟨rfl, fun _ _ _ _ => rfl⟩
theorem drop_is (op : Op) : ∃ K, σ.dropFor op = σ.without K := by
 unfold St.dropFor
 split
 ·split
  ·exact ⟨_, rfl⟩
  ·exact ⟨[], wo_nil.symm⟩
 ·exact ⟨[], wo_nil.symm⟩
theorem want_wo (hs : Srt σ.t) {K : List Nat} {g : Option (Nat × Bool)} {b : Bool} (h : σ.want ops g = some b) : (σ.without K).want ops g = some b := by
 cases g with
 | none => exact h
 | some gb =>
  obtain ⟨g, b'⟩ := gb
  unfold St.want at h ⊢
  simp only at h ⊢
  cases hd : (ops[g]?).bind (·.dst) with
  | none => rw [hd] at h; simp at h
  | some d =>
   rw [hd] at h
   simp only at h ⊢
   rw [wo_t hs]
   cases hl : lk σ.t d with
   | none => rw [hl] at h; simp at h
   | some v =>
    rw [hl] at h
    have hv : v.offK K = true := by
     rw [offK_iff]
     intro id _ hm
     unfold AV.ment at hm
     split at h
     ·rename_i e
      injection e with e
      subst e
      simp [AV.mem, C.mem] at hm
     ·rename_i e
      injection e with e
      subst e
      simp [AV.mem] at hm
     ·simp at h
    simp only [Option.bind_some, hv, if_true]
    exact h
theorem want_drop (hs : Srt σ.t) {op : Op} {g : Option (Nat × Bool)} {b : Bool} (h : σ.want ops g = some b) : (σ.dropFor op).want ops g = some b := by
 obtain ⟨K, e⟩ := drop_is (σ := σ) op
 rw [e]
 exact want_wo hs h
theorem adds {x : Oper} (hf : freeB x.op = true) (hs : Srt σ.t) (ho : Srt σ.o) (h : E.operD ops σ x = some σ1) : ∃ v N K g, Adds E ops x σ σ1 v N K g ∧ (K ≠ [] → softAt ops σ (x.dst.getD 0) x.op.operands.toList (full σ.o K) = true) := by
 unfold Env.operD at h
 rw [if_pos hf] at h
 obtain ⟨b, hb, h⟩ := Option.bind_eq_some_iff.1 h
 cases b with
 | false =>
  simp only [Bool.false_eq_true, if_false] at h
  unfold Env.oper at h
  split at h
  ·rename_i hn
   rw [hb] at h
   simp only [Option.bind_some, Bool.false_eq_true, if_false, Option.some.injEq] at h
   have keyO : ∀ τ, AlikeO ops σ τ x → E.oper ops τ x = some (act τ [] [] x.dst .u) := fun τ ha => by
    unfold Env.oper
    rw [if_pos hn, ← want_alike ha, hb]
    unfold act
    rw [full_nil, wo_nil]
    rfl
   have key : ∀ τ, AlikeO ops σ τ x → E.operX ops τ x = some (act τ [] [] x.dst .u) := fun τ ha => by
    unfold Env.operX
    rw [if_neg (by rw [← want_alike ha, hb]; simp)]
    exact keyO τ ha
   refine ⟨.u, [], [], false, ⟨List.Pairwise.nil, nol_nil, fun y hy => by simp at hy, fun h => by simp at h, fun id h => by simp at h, ?_, fun τ _ _ ha _ => ⟨key τ ha, fun _ => ?_⟩⟩, fun h => absurd rfl h⟩
   ·rw [← h]
    unfold act
    rw [full_nil, wo_nil]
    rfl
   ·unfold Env.operD
    rw [if_pos hf, ← want_alike ha, hb]
    simp only [Option.bind_some, Bool.false_eq_true, if_false]
    exact keyO τ ha
  ·simp at h
 | true =>
  simp only [if_true] at h
  split at h
  ·rename_i hfr
   unfold Env.oper at h
   split at h
   ·rename_i hn
    rw [want_drop hs hb] at h
    simp only [Option.bind_some, if_true] at h
    obtain ⟨⟨r, σ2⟩, h1, h⟩ := Option.bind_eq_some_iff.1 h
    injection h with h
    obtain ⟨N, K, hD⟩ := free_does hf hs ho hfr h1
    have keyO : ∀ τ, Srt τ.t → Srt τ.o → AlikeO ops σ τ x → (isVal x.op = false → Gap τ (Lo x) (Hi x)) → E.oper ops (τ.dropFor x.op) x = some (act τ K N x.dst (r.getD .u)) := fun τ h1 h2 ha hg => by
     unfold Env.oper
     rw [if_pos hn, want_drop h1 (show τ.want ops x.guard = some true by rw [← want_alike ha]; exact hb)]
     simp only [Option.bind_some, if_true]
     rw [(hD.there τ h1 h2 (fun y hy => ha.operand hy) hg).1]
     rfl
    have key : ∀ τ, Srt τ.t → Srt τ.o → AlikeO ops σ τ x → (isVal x.op = false → Gap τ (Lo x) (Hi x)) → E.operX ops τ x = some (act τ K N x.dst (r.getD .u)) := fun τ h1 h2 ha hg => by
     unfold Env.operX
     rw [if_pos (by rw [← want_alike ha]; exact hb)]
     exact keyO τ h1 h2 ha hg
    refine ⟨r.getD .u, N, K, !isVal x.op, ⟨hD.srt, hD.nol, fun y hy => by have := hD.keys y hy; exact ⟨by simp [this.1], this.2⟩, fun hg => ?_, fun id hid => ?_, ?_, fun τ h1 h2 ha hg => ?_⟩, hD.soft⟩
    ·have hv : isVal x.op = false := by simpa using hg
     exact ⟨hD.gap hv, hv⟩
    ·obtain ⟨k1, y, hy, u, k2, k3⟩ := hD.own id hid
     obtain ⟨t, rfl⟩ := ev_tmp k2 k3
     exact ⟨k1, t, looks_tmp hy, u, k2, k3⟩
    ·rw [← h, hD.here]
     rfl
    ·have k := key τ h1 h2 ha (fun hv => hg (by simp [hv]))
     refine ⟨k, fun hq => ?_⟩
     unfold Env.operD
     rw [if_pos hf, ← want_alike ha, hb]
     simp only [Option.bind_some, if_true]
     rw [if_pos ((hD.there τ h1 h2 (fun y hy => ha.operand hy) (fun hv => hg (by simp [hv]))).2 hq)]
     exact keyO τ h1 h2 ha (fun hv => hg (by simp [hv]))
   ·simp at h
  ·simp at h
def Good (E : Env) (w0 : World) (mine : Ctx) (σ : St) : Prop := ∃ a w loc O R, Cor E.P w0 mine σ a w loc O R ∧ a.tmps.size = E.n
theorem Good.oper (hcalls : CallsOk E w0 mine) (h : Good E w0 mine σ) {x : Oper} (ho : E.oper ops σ x = some σ1) : Good E w0 mine σ1 := by
 obtain ⟨a, w, loc, O, R, h1, h2⟩ := h
 exact oper_cor hcalls h1 h2 ho
theorem RepLs_link : ∀ {xs : List T} {us : List Value} {i : Nat} {p : List Nat} {n k : Nat}, RepLs P w o loc xs us → T.l i p n k ∈ xs → ∃ ob, lk o i = some ob ∧ ob.k ≠ .box
 | [], us, i, p, n, k, _, hm => by simp at hm
 | x :: xs, us, i, p, n, k, h, hm => by
  rw [RepLs] at h
  obtain ⟨u, us', rfl, h1, h2⟩ := h
  rcases List.mem_cons.1 hm with rfl | hm
  ·rw [RepL, RepC] at h1
   obtain ⟨ob, d, hh, k1, k2, _⟩ := h1
   exact ⟨ob, k1, k2⟩
  ·exact RepLs_link h2 hm
theorem Cor.unlBox (h : Cor P w0 mine σ a w loc O R) {b : Nat} {ob : Obj} (hb : lk σ.o b = some ob) (hk : ob.k = .box) : Unl σ.o [b] := fun id ob' hl hk' c hc i p n k e hm => by
 have hr := h.inv.obj id ob' hl
 unfold RepO at hr
 rw [hk'] at hr
 obtain ⟨g, cs, _, _, _, _, hr⟩ := hr
 subst e
 obtain ⟨ob2, h1, h2⟩ := RepLs_link hr hc
 simp only [List.mem_singleton] at hm
 subst hm
 rw [hb] at h1
 injection h1 with h1
 subst h1
 exact h2 hk
theorem Cor.woBox : ∀ {B : List Nat} {σ : St} {loc : Nat → Value} {O R : Nat → List Nat}, Cor P w0 mine σ a w loc O R → B.Nodup → (∀ b ∈ B, ∃ ob, lk σ.o b = some ob ∧ ob.k = .box) → Cor P w0 mine (σ.without B) a w loc O R
 | [], σ, loc, O, R, h, _, _ => by rw [wo_nil]; exact h
 | b :: B, σ, loc, O, R, h, hn, hB => by
  obtain ⟨ob, hb, hk⟩ := hB b (by simp)
  have e := kill_off h.st h.so hb (h.unlBox hb hk)
  obtain ⟨k1, _, _⟩ := h.kill b
  rw [e] at k1
  rw [show b :: B = [b] ++ B from rfl, ← wo_append]
  rw [List.nodup_cons] at hn
  refine Cor.woBox k1 hn.2 fun c hc => ?_
  obtain ⟨oc, h1, h2⟩ := hB c (by simp [hc])
  refine ⟨oc, ?_, h2⟩
  rw [wo_o h.so, if_neg]
  ·exact h1
  ·simp only [List.mem_singleton]
   intro e
   subst e
   exact hn.1 hc
theorem lkrs_nodup {o : OM} (ho : Srt o) (K : List Nat) : (lkrs o K).Nodup := by
 unfold lkrs
 have h1 : Srt (o.filter fun x => decide (x.2.k = .box) && !(x.2.xs.all (T.offK K))) := srt_filter _ ho
 unfold Srt at h1
 exact (List.pairwise_map.2 (h1.imp fun h => Nat.ne_of_lt h))
theorem Cor.dropFor (h : Cor P w0 mine σ a w loc O R) (op : Op) : Cor P w0 mine (σ.dropFor op) a w loc O R := by
 unfold St.dropFor
 split
 ·split
  ·exact h.woBox (lkrs_nodup h.so _) fun b hb => by
    obtain ⟨ob, h1, h2⟩ := (mem_lkrs h.so).1 hb
    exact ⟨ob, h1, h2.1⟩
  ·exact h
 ·exact h
theorem operX_step {E : Env} (hcalls : CallsOk E w0 mine) (h : Cor E.P w0 mine σ a w loc O R) (hn : a.tmps.size = E.n) {ops : Array Oper} {x : Oper} (ho : E.operX ops σ x = some σ1) {K : Act → World → Prop} {Q : Exit → Act → World → Prop}
  (hK : ∀ a' w' loc' O' R', Cor E.P w0 mine σ1 a' w' loc' O' R' → a'.tmps.size = E.n → a'.defers = a.defers → K a' w') :
  if Region.wanted x (yielded ops a.tmps) then x.wp E.P a w K Q ∨ (x.asks E.P a w ∧ LetsOut Q) else K (a.put x.dst undef) w := by
 unfold Env.operX at ho
 split at ho
 ·exact oper_step hcalls (h.dropFor x.op) hn ho hK
 ·exact oper_step hcalls h hn ho hK
theorem Good.operX (hcalls : CallsOk E w0 mine) (h : Good E w0 mine σ) {x : Oper} (ho : E.operX ops σ x = some σ1) : Good E w0 mine σ1 := by
 unfold Env.operX at ho
 obtain ⟨a, w, loc, O, R, h1, h2⟩ := h
 split at ho
 ·exact oper_cor hcalls (h1.dropFor x.op) h2 ho
 ·exact oper_cor hcalls h1 h2 ho
theorem Good.st (h : Good E w0 mine σ) : Srt σ.t := by obtain ⟨a, w, loc, O, R, h1, h2⟩ := h; exact h1.st
theorem Good.so (h : Good E w0 mine σ) : Srt σ.o := by obtain ⟨a, w, loc, O, R, h1, h2⟩ := h; exact h1.so
theorem Good.whole (h : Good E w0 mine σ) : Whole σ := by obtain ⟨a, w, loc, O, R, h1, h2⟩ := h; exact h1.whole
theorem Adds.run {x : Oper} {v : AV} {N : OM} {K : List Nat} {g : Bool} (h : Adds E ops x σ σ1 v N K g) (hs : Srt σ.t) (ho : Srt σ.o) : E.operX ops σ x = some σ1 := by
 rw [h.here]
 exact (h.there σ hs ho alike_refl (fun hg => (h.gap hg).1)).1
theorem Adds.runD {x : Oper} {v : AV} {N : OM} {K : List Nat} {g : Bool} (h : Adds E ops x σ σ1 v N K g) (hs : Srt σ.t) (ho : Srt σ.o) (hq : K ≠ [] → softAt ops σ (x.dst.getD 0) x.op.operands.toList (full σ.o K) = true) : E.operD ops σ x = some σ1 := by
 rw [h.here]
 exact (h.there σ hs ho alike_refl (fun hg => (h.gap hg).1)).2 hq
/-- Elsewhere. -/
theorem Adds.at {x : Oper} {v : AV} {N : OM} {K : List Nat} {g : Bool} (h : Adds E ops x σ σ1 v N K g) (ha : AlikeO ops σ τ x) (hg : g = true → Gap τ (Lo x) (Hi x)) : Adds E ops x τ (act τ K N x.dst v) v N K g := by
 refine ⟨h.srt, h.nol, h.keys, fun k => ⟨hg k, (h.gap k).2⟩, fun id hid => ?_, rfl, fun ρ h1 h2 ha2 hg2 => h.there ρ h1 h2 (fun t ht => ?_) hg2⟩
 ·obtain ⟨k1, t, ht, u, k2, k3⟩ := h.own id hid
  exact ⟨k1, t, ht, u, by rw [← (ha t ht).1]; exact k2, k3⟩
 ·obtain ⟨e1, e2⟩ := ha t ht
  obtain ⟨f1, f2⟩ := ha2 t ht
  exact ⟨e1.trans f1, fun v hv id hm => (e2 v hv id hm).trans (f2 v (by rw [← e1]; exact hv) id hm)⟩
theorem site_apart {d e i : Nat} (hne : d ≠ e) (h1 : site d 0 ≤ i ∧ i < site (d + 1) 0) (h2 : site e 0 ≤ i ∧ i < site (e + 1) 0) : False := by
 unfold site at h1 h2
 omega
theorem site_div {d i : Nat} (h : site d 0 ≤ i ∧ i < site (d + 1) 0) : i / 64 = d + 1 := by
 unfold site at h
 omega
theorem lo_apart {x y : Oper} (hx : isVal x.op = true ∨ x.dst.isSome = true) (hy : isVal y.op = true ∨ y.dst.isSome = true) (vx : isVal x.op = false) (vy : isVal y.op = false) (hd : ∀ d, y.dst = some d → x.dst ≠ some d) {j : Nat} (h1 : Lo x ≤ j ∧ j < Hi x) (h2 : Lo y ≤ j ∧ j < Hi y) : False := by
 rw [vx] at hx
 rw [vy] at hy
 simp only [Bool.false_eq_true, false_or] at hx hy
 obtain ⟨d, hd1⟩ := Option.isSome_iff_exists.1 hx
 obtain ⟨e, he⟩ := Option.isSome_iff_exists.1 hy
 unfold Lo Hi at h1 h2
 rw [hd1] at h1
 rw [he] at h2
 have h1' : site d 0 ≤ j ∧ j < site (d + 1) 0 := h1
 have h2' : site e 0 ≤ j ∧ j < site (e + 1) 0 := h2
 exact site_apart (fun e' : d = e => hd e he (by rw [hd1, e'])) h1' h2'
theorem leads_not {K : List Nat} {N : OM} (hN : NoL N) {z : Nat × Obj} (hz : z ∈ N) : ¬ leads K z.2 := fun ⟨h1, h2⟩ => by
 have : z.2.xs.all (T.offK K) = true := List.all_eq_true.2 fun c hc => by
  cases c with
  | l i p n k => exact absurd rfl (hN z hz h1 _ hc i p n k)
  | _ => rfl
 rw [this] at h2
 simp at h2
/-- New variables that lead nowhere lead to none of these. -/
theorem full_act (ho : Srt σ.o) {K : List Nat} {N : OM} (hN : Srt N) (hnl : NoL N) (hfr : ∀ z ∈ N, lk σ.o z.1 = none) {d : Option Nat} {v : AV} : full (act σ [] N d v).o K = full σ.o K := by
 have e : (act σ [] N d v).o = insN σ.o N := by
  unfold act
  rw [put_o, full_nil, wo_nil]
 unfold full
 rw [e]
 congr 1
 unfold lkrs
 congr 1
 refine srt_ext (srt_filter _ (insN_srt ho)) (srt_filter _ ho) fun id => ?_
 rw [lkF (insN_srt ho), lkF ho]
 by_cases hz : ∃ z ∈ N, z.1 = id
 ·obtain ⟨z, hz, rfl⟩ := hz
  rw [insN_in hN z hz, hfr z hz]
  have := leads_not (K := K) hnl hz
  simp only [Option.bind_some, Option.bind_none]
  rw [if_neg]
  intro h
  simp only [Bool.and_eq_true, decide_eq_true_eq, Bool.not_eq_true'] at h
  exact this h
 ·rw [insN_out fun z h1 h2 => hz ⟨z, h1, h2⟩]
theorem full_ex {x : Oper} {v : AV} {N : OM} {K : List Nat} {g : Bool} (h : Adds E ops x σ σ1 v N K g) (ho : Srt σ.o) (hW : Whole σ) : ∀ id ∈ full σ.o K, ∃ ob, lk σ.o id = some ob := fun id hid => by
 unfold full at hid
 rcases List.mem_append.1 hid with hid | hid
 ·obtain ⟨ob, h1, _⟩ := (mem_lkrs ho).1 hid
  exact ⟨ob, h1⟩
 ·obtain ⟨_, t, ht, u, k1, k2⟩ := h.own id hid
  exact hW t u k1 id k2
theorem full_ne {K : List Nat} {o : OM} {id : Nat} (h : id ∈ full o K) : K ≠ [] := fun e => by
 rw [e, full_nil] at h
 simp at h
theorem Adds.soft {x : Oper} {v : AV} {N : OM} {K : List Nat} {g : Bool} (h : Adds E ops x σ σ1 v N K g) (hne : K ≠ []) : softB x.op = true := by
 cases K with
 | nil => exact absurd rfl hne
 | cons id K => exact (h.own id (by simp)).1
theorem swap (hcalls : CallsOk E w0 mine) {x y : Oper} {vy vx : AV} {Ny Nx : OM} {Ky Kx : List Nat} {gy gx : Bool} (hg : Good E w0 mine σ) (hy : Adds E ops y σ σ1 vy Ny Ky gy) (hx : Adds E ops x σ1 σ2 vx Nx Kx gx) (hK : Ky = [] ∨ Kx = []) (hap : y.apart ops x = true) (hdy : isVal y.op = true ∨ y.dst.isSome = true) (hdx : isVal x.op = true ∨ x.dst.isSome = true)
  (hcx : ∀ t ∈ x.looksAt ops, ∀ v, lk σ.t t = some v → v.offK (full σ.o Ky) = true) (hcy : ∀ t ∈ y.looksAt ops, ∀ v, lk σ.t t = some v → v.offK (full σ.o Kx) = true) (hsx : ∀ id ∈ full σ.o Ky, gx = true → ¬ (Lo x ≤ id ∧ id < Hi x)) :
  ∃ σ', Adds E ops x σ σ' vx Nx Kx gx ∧ Adds E ops y σ' σ2 vy Ny Ky gy ∧ σ' = act σ Kx Nx x.dst vx ∧ (∀ d, x.dst = some d → vx.offK (full σ.o Ky) = true) ∧ full σ'.o Ky = full σ.o Ky := by
 obtain ⟨a1, a2, a3⟩ := Oper.apart_spec hap
 have hs := hg.st
 have ho := hg.so
 have hW := hg.whole
 have hg1 : Good E w0 mine σ1 := hg.operX hcalls (hy.run hs ho)
 have hg2 : Good E w0 mine σ2 := hg1.operX hcalls (hx.run hg1.st hg1.so)
 have ap : gx = true → gy = true → ∀ j, (Lo x ≤ j ∧ j < Hi x) → (Lo y ≤ j ∧ j < Hi y) → False := fun k1 k2 j h1 h2 => lo_apart hdx hdy (hx.gap k1).2 (hy.gap k2).2 a2 h1 h2
 -- what is there is not new
 have oldy : ∀ id, (∃ ob, lk σ.o id = some ob) → ∀ z ∈ Ny, z.1 ≠ id := fun id ⟨ob, h⟩ z hz e => by
  have k := hy.keys z hz
  rw [e] at k
  rw [(hy.gap k.1).1 id k.2.1 k.2.2] at h
  simp at h
 have t1 : ∀ t ∈ x.looksAt ops, lk σ1.t t = lk σ.t t := fun t ht => by
  rw [hy.here, act_t hs, if_neg fun e => a1 t e ht]
  cases hl : lk σ.t t with
  | none => rfl
  | some v => simp [hcx t ht v hl]
 have hal : AlikeO ops σ1 σ x := fun t ht => ⟨t1 t ht, fun v hv id hm => by
  rw [t1 t ht] at hv
  rw [hy.here, act_out ho (oldy id (hW t v hv id hm)), if_neg fun h => offK_iff.1 (hcx t ht v hv) id h hm]⟩
 have hgx : gx = true → Gap σ (Lo x) (Hi x) := fun k j h1 h2 => by
  have h := (hx.gap k).1 j h1 h2
  rw [hy.here, act_out ho (fun z hz e => by
   have q := hy.keys z hz
   rw [e] at q
   exact ap k q.1 j ⟨h1, h2⟩ q.2), if_neg fun hj => hsx j hj k ⟨h1, h2⟩] at h
  exact h
 have oldx : ∀ id, (∃ ob, lk σ.o id = some ob) → ∀ z ∈ Nx, z.1 ≠ id := fun id ⟨ob, h⟩ z hz e => by
  have k := hx.keys z hz
  rw [e] at k
  rw [hgx k.1 id k.2.1 k.2.2] at h
  simp at h
 have hx' := hx.at hal hgx
 refine ⟨act σ Kx Nx x.dst vx, hx', ?_⟩
 have hg' : Good E w0 mine (act σ Kx Nx x.dst vx) := hg.operX hcalls (hx'.run hs ho)
 have t2 : ∀ t ∈ y.looksAt ops, lk σ.t t = lk (act σ Kx Nx x.dst vx).t t := fun t ht => by
  rw [act_t hs, if_neg fun e => a3 t e ht]
  cases hl : lk σ.t t with
  | none => rfl
  | some v => simp [hcy t ht v hl]
 have hal2 : AlikeO ops σ (act σ Kx Nx x.dst vx) y := fun t ht => ⟨t2 t ht, fun v hv id hm => by
  rw [act_out ho (oldx id (hW t v hv id hm)), if_neg fun h => offK_iff.1 (hcy t ht v hv) id h hm]⟩
 have hgy : gy = true → Gap (act σ Kx Nx x.dst vx) (Lo y) (Hi y) := fun k j h1 h2 => by
  rw [act_out ho fun z hz e => by
   have q := hx.keys z hz
   rw [e] at q
   exact ap q.1 k j q.2 ⟨h1, h2⟩]
  split
  ·rfl
  ·exact (hy.gap k).1 j h1 h2
 have hFX : full σ1.o Kx = full σ.o Kx := by
  rcases hK with h | h
  ·rw [hy.here, h]
   exact full_act ho hy.srt hy.nol fun z hz => by
    have k := hy.keys z hz
    exact (hy.gap k.1).1 z.1 k.2.1 k.2.2
  ·rw [h, full_nil, full_nil]
 have hFY : full (act σ Kx Nx x.dst vx).o Ky = full σ.o Ky := by
  rcases hK with h | h
  ·rw [h, full_nil, full_nil]
  ·rw [h]
   exact full_act ho hx.srt hx.nol fun z hz => by
    have k := hx.keys z hz
    exact hgx k.1 z.1 k.2.1 k.2.2
 have hy' := hy.at hal2 hgy
 have hg'' : Good E w0 mine (act (act σ Kx Nx x.dst vx) Ky Ny y.dst vy) := hg'.operX hcalls (hy'.run hg'.st hg'.so)
 have exy := full_ex hy ho hW
 have exx := full_ex hx' ho hW
 have offx : ∀ d, x.dst = some d → vx.offK (full σ.o Ky) = true := fun d hd => offK_iff.2 fun id hid hm => by
  obtain ⟨ob, hob⟩ := hg2.whole d vx (by rw [hx.here, act_t hg1.st, if_pos hd]) id hm
  rw [hx.here, act_out hg1.so (oldx id (exy id hid))] at hob
  split at hob
  ·simp at hob
  ·rw [hy.here, act_out ho (oldy id (exy id hid)), if_pos hid] at hob
   simp at hob
 have offy : ∀ d, y.dst = some d → vy.offK (full σ.o Kx) = true := fun d hd => offK_iff.2 fun id hid hm => by
  obtain ⟨ob, hob⟩ := hg''.whole d vy (by rw [act_t hg'.st, if_pos hd]) id hm
  rw [act_out hg'.so (oldy id (exx id hid))] at hob
  split at hob
  ·simp at hob
  ·rw [act_out ho (oldx id (exx id hid)), if_pos hid] at hob
   simp at hob
 have e : act (act σ Kx Nx x.dst vx) Ky Ny y.dst vy = σ2 := by
  refine st_ext (srt_ext hg''.st hg2.st fun t => ?_) (srt_ext hg''.so hg2.so fun id => ?_)
  ·rw [act_t hg'.st, hFY, hx.here, act_t hg1.st, hFX]
   by_cases h1 : y.dst = some t
   ·rw [if_pos h1, if_neg (a2 t h1), hy.here, act_t hs, if_pos h1]
    simp [offy t h1]
   ·rw [if_neg h1, act_t hs]
    by_cases h2 : x.dst = some t
    ·rw [if_pos h2, if_pos h2]
     simp [offx t h2]
    ·rw [if_neg h2, if_neg h2, hy.here, act_t hs, if_neg h1]
     cases lk σ.t t with
     | none => rfl
     | some v =>
      simp only [Option.bind_some]
      by_cases k1 : v.offK (full σ.o Kx) = true <;> by_cases k2 : v.offK (full σ.o Ky) = true <;> simp [k1, k2]
  ·by_cases h1 : ∃ z ∈ Ny, z.1 = id
   ·obtain ⟨z, hz, rfl⟩ := h1
    have q := hy.keys z hz
    have hnx : ∀ z' ∈ Nx, z'.1 ≠ z.1 := fun z' hz' e => by
     have q' := hx.keys z' hz'
     rw [e] at q'
     exact ap q'.1 q.1 z.1 q'.2 q.2
    rw [act_in hy.srt hz, hx.here, act_out hg1.so hnx, hFX, if_neg fun hid => oldy z.1 (exx z.1 hid) z hz rfl, hy.here, act_in hy.srt hz]
   ·have hny : ∀ z ∈ Ny, z.1 ≠ id := fun z h2 h3 => h1 ⟨z, h2, h3⟩
    rw [act_out hg'.so hny, hFY, hx.here]
    by_cases h2 : ∃ z ∈ Nx, z.1 = id
    ·obtain ⟨z, hz, rfl⟩ := h2
     rw [act_in hx.srt hz, act_in hx.srt hz, if_neg fun hid => oldx z.1 (exy z.1 hid) z hz rfl]
    ·have hnx : ∀ z ∈ Nx, z.1 ≠ id := fun z h3 h4 => h2 ⟨z, h3, h4⟩
     rw [act_out ho hnx, act_out hg1.so hnx, hFX, hy.here, act_out ho hny]
     by_cases k1 : id ∈ full σ.o Kx <;> by_cases k2 : id ∈ full σ.o Ky <;> simp [k1, k2]
 rw [e] at hy'
 exact ⟨hy', rfl, offx, hFY⟩
/-! ### one comes first -/
/-! ### early operations and appends change places -/
def filt (g : AV → Bool) (t : List (Nat × AV)) : List (Nat × AV) := t.filter fun x => g x.2
theorem filt_filt {g h : AV → Bool} {t : List (Nat × AV)} : filt g (filt h t) = filt (fun v => g v && h v) t := List.filter_filter
theorem filt_id (t : List (Nat × AV)) : filt (fun _ => true) t = t := List.filter_eq_self.2 fun _ _ => rfl
theorem kill_fil (o : OM) (id : Nat) : ∃ g o', ∀ t : List (Nat × AV), (⟨t, o⟩ : St).kill id = ⟨filt g t, o'⟩ := by
 cases h : lk o id with
 | none => exact ⟨fun _ => true, o, fun t => by unfold St.kill; simp only [h]; rw [filt_id]⟩
 | some ob => exact ⟨fun v => !v.mem fun i _ => i == id, scrO (fun i _ => i == id) (del o id), fun t => by unfold St.kill; simp only [h]; exact scrub_eq _⟩
theorem new_fil (o : OM) (id : Nat) (ob : Obj) : ∃ g o', ∀ t : List (Nat × AV), (⟨t, o⟩ : St).new id ob = ⟨filt g t, o'⟩ := by
 obtain ⟨g, o', h⟩ := kill_fil o id
 exact ⟨g, ins o' id ob, fun t => by unfold St.new; rw [h t]⟩
theorem hole_fil (o : OM) (id i : Nat) : (∀ t : List (Nat × AV), (⟨t, o⟩ : St).hole id i = none) ∨ ∃ g o', ∀ t : List (Nat × AV), (⟨t, o⟩ : St).hole id i = some ⟨filt g t, o'⟩ := by
 cases h : lk o id with
 | none => exact .inl fun t => by unfold St.hole; simp only [h]
 | some ob => exact .inr ⟨fun v => !v.mem fun j q => j == id && !q.isEmpty, scrO (fun j q => j == id && !q.isEmpty) (ins o id ⟨ob.k, ob.e, ob.xs.set i .h⟩), fun t => by unfold St.hole; simp only [h]; exact congrArg some (scrub_eq _)⟩
theorem taken_fil (o : OM) (P : Program) (e : TypeId) (y : C) : (∀ t : List (Nat × AV), (⟨t, o⟩ : St).taken P e y = none) ∨ ∃ m ys g o', ∀ t : List (Nat × AV), (⟨t, o⟩ : St).taken P e y = some (m, ys, ⟨filt g t, o'⟩) := by
 cases y with
 | v x => exact .inl fun t => rfl
 | z => exact .inr ⟨0, [], fun _ => true, o, fun t => by rw [filt_id]; rfl⟩
 | sl id p off len =>
  cases hc : (⟨[], o⟩ : St).cellsOf P e id p off len with
  | none =>
   refine .inl fun t => ?_
   have hc' : (⟨t, o⟩ : St).cellsOf P e id p off len = none := hc
   unfold St.taken
   simp only [hc']
   rfl
  | some x =>
   obtain ⟨w, xs⟩ := x
   have hc' : ∀ t, (⟨t, o⟩ : St).cellsOf P e id p off len = some (w, xs) := fun t => hc
   by_cases h1 : allV xs = true
   ·exact .inr ⟨len, xs, fun _ => true, o, fun t => by unfold St.taken; simp only [hc' t, Option.bind_some]; rw [if_pos h1, filt_id]⟩
   ·by_cases h2 : (w = true && p.isEmpty) = true
    ·obtain ⟨g, o', h⟩ := kill_fil o id
     exact .inr ⟨len, xs, g, o', fun t => by unfold St.taken; simp only [hc' t, Option.bind_some]; rw [if_neg h1, if_pos h2, h t]⟩
    ·exact .inl fun t => by unfold St.taken; simp only [hc' t, Option.bind_some]; rw [if_neg h1, if_neg h2]
def appK (P : Program) (d : Nat) (e : TypeId) : C → Nat × List T × St → Option (AV × St)
 | .z, (m, ys, σ) => if elemOk P e = true ∧ ys.length ≤ most then some (.c (.sl (site d 0) [] 0 m), σ.new (site d 0) ⟨.own, e, ys⟩) else none
 | .sl id p 0 len, (m, ys, σ) => (σ.cellsOf P e id p 0 len).bind fun (w, xs) => if (decide (w = true) && decide (xs.length + ys.length ≤ most)) = true then (match p with
   | [] => some (.c (.sl (if id < 64 then site d 0 else id) [] 0 (len + m)), (σ.kill id).new (if id < 64 then site d 0 else id) ⟨.own, e, xs ++ ys⟩)
   | [i] => (σ.hole id i).bind fun σ => some (.c (.sl (site d 0) [] 0 (len + m)), σ.new (site d 0) ⟨.own, e, xs ++ ys⟩)
   | _ => none) else none
 | _, _ => none
theorem append_fil (o : OM) (P : Program) (d : Nat) (ty : TypeId) (x y : C) : (∀ t : List (Nat × AV), (⟨t, o⟩ : St).append P d ty x y = none) ∨ ∃ r g o', ∀ t : List (Nat × AV), (⟨t, o⟩ : St).append P d ty x y = some (r, ⟨filt g t, o'⟩) := by
 by_cases hu : ∃ e, P.underlying ty = some (.slice e)
 rotate_left
 ·refine .inl fun t => ?_
  unfold St.append
  split
  ·rename_i e he
   exact absurd ⟨e, he⟩ hu
  ·rfl
 obtain ⟨e, hu⟩ := hu
 have hm : ∀ t, (⟨t, o⟩ : St).append P d ty x y = ((⟨t, o⟩ : St).taken P e y).bind (appK P d e x) := fun t => by
  unfold St.append
  rw [hu]
  show Option.bind _ _ = Option.bind _ _
  congr 1
  funext ⟨m, ys, σ⟩
  cases x with
  | sl id p off len =>
   cases off with
   | zero =>
    show Option.bind _ _ = Option.bind _ _
    congr 1
   | succ n => rfl
  | _ => rfl
 rcases taken_fil o P e y with h | ⟨m, ys, g, o1, h⟩
 ·exact .inl fun t => by rw [hm, h t]; rfl
 cases x with
 | v x => exact .inl fun t => by rw [hm, h t]; rfl
 | z =>
  by_cases hc : elemOk P e = true ∧ ys.length ≤ most
  ·obtain ⟨g2, o2, h2⟩ := new_fil o1 (site d 0) ⟨.own, e, ys⟩
   exact .inr ⟨.c (.sl (site d 0) [] 0 m), _, o2, fun t => by rw [hm, h t, Option.bind_some]; simp only [appK]; rw [if_pos hc, h2, filt_filt]⟩
  ·exact .inl fun t => by rw [hm, h t, Option.bind_some]; simp only [appK]; rw [if_neg hc]
 | sl id p off len =>
  cases off with
  | succ n => exact .inl fun t => by rw [hm, h t]; rfl
  | zero =>
   cases hc : (⟨[], o1⟩ : St).cellsOf P e id p 0 len with
   | none =>
    refine .inl fun t => ?_
    have hc' : (⟨filt g t, o1⟩ : St).cellsOf P e id p 0 len = none := hc
    rw [hm, h t, Option.bind_some]
    simp only [appK]
    rw [hc']
    rfl
   | some x =>
    obtain ⟨w, xs⟩ := x
    have hc' : ∀ t, (⟨t, o1⟩ : St).cellsOf P e id p 0 len = some (w, xs) := fun t => hc
    by_cases hw : (w = true && decide (xs.length + ys.length ≤ most)) = true
    rotate_left
    ·exact .inl fun t => by rw [hm, h t, Option.bind_some]; simp only [appK]; rw [hc', Option.bind_some]; simp only; rw [if_neg hw]
    match p with
    | [] =>
     obtain ⟨g2, o2, h2⟩ := kill_fil o1 id
     obtain ⟨g3, o3, h3⟩ := new_fil o2 (if id < 64 then site d 0 else id) ⟨.own, e, xs ++ ys⟩
     exact .inr ⟨.c (.sl (if id < 64 then site d 0 else id) [] 0 (len + m)), _, o3, fun t => by rw [hm, h t, Option.bind_some]; simp only [appK]; rw [hc', Option.bind_some]; simp only; rw [if_pos hw, h2, h3, filt_filt, filt_filt]⟩
    | [i] =>
     rcases hole_fil o1 id i with h2 | ⟨g2, o2, h2⟩
     ·exact .inl fun t => by rw [hm, h t, Option.bind_some]; simp only [appK]; rw [hc', Option.bind_some]; simp only; rw [if_pos hw, h2]; rfl
     ·obtain ⟨g3, o3, h3⟩ := new_fil o2 (site d 0) ⟨.own, e, xs ++ ys⟩
      exact .inr ⟨.c (.sl (site d 0) [] 0 (len + m)), _, o3, fun t => by rw [hm, h t, Option.bind_some]; simp only [appK]; rw [hc', Option.bind_some]; simp only; rw [if_pos hw, h2, Option.bind_some, h3, filt_filt, filt_filt]⟩
    | _ :: _ :: _ => exact .inl fun t => by rw [hm, h t, Option.bind_some]; simp only [appK]; rw [hc', Option.bind_some]; simp only; rw [if_pos hw]
/-! ### what looks at the objects alone; what leaves the temporaries, but for some -/
theorem row_o (h : τ.o = σ.o) (id : Nat) (p : List Nat) : τ.row id p = σ.row id p := by unfold St.row; rw [h]
theorem cellsOf_o (h : τ.o = σ.o) {e : TypeId} {id : Nat} {p : List Nat} {n m : Nat} : τ.cellsOf P e id p n m = σ.cellsOf P e id p n m := by unfold St.cellsOf; rw [row_o h]
theorem rowE_o (h : τ.o = σ.o) {own : Bool} {e : TypeId} {id : Nat} {p : List Nat} {n m : Nat} : τ.rowE P own e id p n m = σ.rowE P own e id p n m := by unfold St.rowE St.ownE St.argE; rw [row_o h, cellsOf_o h]
theorem argC_o (h : τ.o = σ.o) {own : Bool} {t : TypeId} (c : C) : τ.argC P own t c = σ.argC P own t c := by
 cases c with
 | sl id p n m => exact rowE_o h
 | _ => rfl
theorem argCs_o (h : τ.o = σ.o) {own : Bool} : ∀ (ts : List TypeId) (cs : List C), τ.argCs P own ts cs = σ.argCs P own ts cs
 | t :: ts, c :: cs => by simp only [St.argCs]; rw [argC_o h, argCs_o h ts cs]
 | [], [] => rfl
 | [], _ :: _ => rfl
 | _ :: _, [] => rfl
theorem boxT_o (h : τ.o = σ.o) {own : Bool} : ∀ l : List T, τ.boxT P own l = σ.boxT P own l
 | [] => rfl
 | .v x :: l => by simp only [St.boxT]; rw [boxT_o h l]
 | .z :: l => by simp only [St.boxT]; rw [boxT_o h l]
 | .l id p n m :: l => by simp only [St.boxT]; rw [boxT_o h l, row_o h]; simp only [rowE_o h]
 | .s _ _ _ :: _ => rfl
 | .r _ _ _ :: _ => rfl
 | .h :: _ => rfl
theorem argBox_o (h : τ.o = σ.o) {own : Bool} (v : AV) : τ.argBox P own v = σ.argBox P own v := by
 unfold St.argBox
 rw [h]
 simp only [boxT_o h]
theorem argBoxes_o (h : τ.o = σ.o) {own : Bool} : ∀ l : List AV, τ.argBoxes P own l = σ.argBoxes P own l
 | [] => rfl
 | x :: l => by simp only [St.argBoxes]; rw [argBox_o h, argBoxes_o h l]
theorem arg_o (h : τ.o = σ.o) {own : Bool} {t : TypeId} (v : AV) : τ.arg P own t v = σ.arg P own t v := by
 cases v with
 | c x => simp only [St.arg]; rw [argC_o h]
 | agg xs => simp only [St.arg]; rw [argCs_o h]
 | fn f cs => simp only [St.arg]; rw [argBoxes_o h]
 | ptr id p n => exact argBox_o (P := P) (own := own) h (.ptr id p n)
 | tup xs => exact argBox_o (P := P) (own := own) h (.tup xs)
 | u => exact argBox_o (P := P) (own := own) h .u
 | unk n => exact argBox_o (P := P) (own := own) h (.unk n)
 | nn => exact argBox_o (P := P) (own := own) h .nn
theorem args_o (h : τ.o = σ.o) {own : Nat → Bool} : ∀ (i : Nat) (ts : List TypeId) (vs : List AV), τ.args P own i ts vs = σ.args P own i ts vs
 | i, t :: ts, v :: vs => by simp only [St.args]; rw [arg_o h, args_o h (i + 1) ts vs]
 | _, [], [] => rfl
 | _, [], _ :: _ => rfl
 | _, _ :: _, [] => rfl
theorem boxFeet_o (h : τ.o = σ.o) {own : Bool} (v : AV) : τ.boxFeet own v = σ.boxFeet own v := by
 unfold St.boxFeet
 rw [h]
theorem boxesFeet_o (h : τ.o = σ.o) {own : Bool} : ∀ l : List AV, τ.boxesFeet own l = σ.boxesFeet own l
 | [] => rfl
 | x :: l => by simp only [St.boxesFeet]; rw [boxFeet_o h, boxesFeet_o h l]
theorem feet_o (h : τ.o = σ.o) {own : Bool} (v : AV) : τ.feet own v = σ.feet own v := by
 cases v with
 | c x => rfl
 | agg xs => rfl
 | fn f cs => exact boxesFeet_o h cs
 | ptr id p n => exact boxFeet_o (own := own) h (.ptr id p n)
 | tup xs => exact boxFeet_o (own := own) h (.tup xs)
 | u => exact boxFeet_o (own := own) h .u
 | unk n => exact boxFeet_o (own := own) h (.unk n)
 | nn => exact boxFeet_o (own := own) h .nn
theorem feets_o (h : τ.o = σ.o) {own : Nat → Bool} : ∀ (i : Nat) (vs : List AV), τ.feets own i vs = σ.feets own i vs
 | _, [] => rfl
 | i, v :: vs => by simp only [St.feets]; rw [feet_o h, feets_o h (i + 1) vs]
def Fil (F : List (Nat × AV) → Option St) : Prop := (∀ t, F t = none) ∨ ∃ g o', ∀ t, F t = some ⟨filt g t, o'⟩
def FilA {α : Type} (F : List (Nat × AV) → Option (α × St)) : Prop := (∀ t, F t = none) ∨ ∃ a g o', ∀ t, F t = some (a, ⟨filt g t, o'⟩)
theorem fil_same (o : OM) : Fil fun t => some ⟨t, o⟩ := .inr ⟨fun _ => true, o, fun t => by rw [filt_id]⟩
theorem Fil.bind {F : List (Nat × AV) → Option St} {G : St → Option St} (hF : Fil F) (hG : ∀ o, Fil fun t => G ⟨t, o⟩) : Fil fun t => (F t).bind G := by
 rcases hF with h | ⟨g, o1, h⟩
 ·exact .inl fun t => by simp only [h t, Option.bind_none]
 ·rcases hG o1 with h2 | ⟨g2, o2, h2⟩
  ·exact .inl fun t => by simp only [h t, Option.bind_some]; exact h2 _
  ·exact .inr ⟨_, o2, fun t => by simp only [h t, Option.bind_some]; exact (h2 _).trans (by rw [filt_filt])⟩
theorem Fil.bindA {α : Type} {F : List (Nat × AV) → Option St} {G : St → Option (α × St)} (hF : Fil F) (hG : ∀ o, FilA fun t => G ⟨t, o⟩) : FilA fun t => (F t).bind G := by
 rcases hF with h | ⟨g, o1, h⟩
 ·exact .inl fun t => by simp only [h t, Option.bind_none]
 ·rcases hG o1 with h2 | ⟨a, g2, o2, h2⟩
  ·exact .inl fun t => by simp only [h t, Option.bind_some]; exact h2 _
  ·exact .inr ⟨a, _, o2, fun t => by simp only [h t, Option.bind_some]; exact (h2 _).trans (by rw [filt_filt])⟩
theorem FilA.bind {α β : Type} {F : List (Nat × AV) → Option (α × St)} {G : α × St → Option (β × St)} (hF : FilA F) (hG : ∀ a o, FilA fun t => G (a, ⟨t, o⟩)) : FilA fun t => (F t).bind G := by
 rcases hF with h | ⟨a, g, o1, h⟩
 ·exact .inl fun t => by simp only [h t, Option.bind_none]
 ·rcases hG a o1 with h2 | ⟨b, g2, o2, h2⟩
  ·exact .inl fun t => by simp only [h t, Option.bind_some]; exact h2 _
  ·exact .inr ⟨b, _, o2, fun t => by simp only [h t, Option.bind_some]; exact (h2 _).trans (by rw [filt_filt])⟩
theorem fil_kill (o : OM) (id : Nat) : Fil fun t => some ((⟨t, o⟩ : St).kill id) := by
 obtain ⟨g, o', h⟩ := kill_fil o id
 exact .inr ⟨g, o', fun t => congrArg some (h t)⟩
theorem fil_hole (o : OM) (id i : Nat) : Fil fun t => (⟨t, o⟩ : St).hole id i := hole_fil o id i
theorem fil_setRow (o : OM) (id : Nat) (p : List Nat) (ys : List T) : Fil fun t => (⟨t, o⟩ : St).setRow id p ys := by
 unfold St.setRow
 cases h : lk o id with
 | none => exact .inl fun t => by simp only [h]
 | some ob =>
  cases h2 : setAt ob.xs p ys with
  | none => exact .inl fun t => by simp only [h, h2, Option.bind_none]
  | some xs => exact .inr ⟨fun _ => true, ins o id ⟨ob.k, ob.e, xs⟩, fun t => by simp only [h, h2, Option.bind_some]; rw [filt_id]⟩
theorem fil_scrub (o : OM) (f : Nat → List Nat → Bool) : Fil fun t => some ((⟨t, o⟩ : St).scrub f) := .inr ⟨fun v => !v.mem f, scrO f o, fun t => congrArg some (scrub_eq ⟨t, o⟩)⟩
theorem fil_backC (o : OM) (c : C) (x : T) : Fil fun t => (⟨t, o⟩ : St).backC c x := by
 cases c with
 | v q => exact fil_same o
 | z => exact fil_same o
 | sl id p off n =>
  cases off with
  | succ k => exact .inl fun t => by cases x <;> rfl
  | zero =>
   have rest : (∀ e m xs, x ≠ .s e m xs) → Fil fun t => (⟨t, o⟩ : St).backC (.sl id p 0 n) x := fun hx => by
    match p with
    | [] =>
     have : (fun t => (⟨t, o⟩ : St).backC (.sl id [] 0 n) x) = fun t => some ((⟨t, o⟩ : St).kill id) := funext fun t => by
      cases x with
      | s e m xs => exact absurd rfl (hx e m xs)
      | _ => rfl
     rw [this]
     exact fil_kill o id
    | [i] =>
     have : (fun t => (⟨t, o⟩ : St).backC (.sl id [i] 0 n) x) = fun t => (⟨t, o⟩ : St).hole id i := funext fun t => by
      cases x with
      | s e m xs => exact absurd rfl (hx e m xs)
      | _ => rfl
     rw [this]
     exact fil_hole o id i
    | _ :: _ :: _ =>
     refine .inl fun t => ?_
     cases x with
     | s e m xs => exact absurd rfl (hx e m xs)
     | _ => rfl
   cases x with
   | s e m xs =>
    have : (fun t => (⟨t, o⟩ : St).backC (.sl id p 0 n) (.s e m xs)) = fun t => ((⟨t, o⟩ : St).setRow id p xs).bind fun σ => some (σ.scrub fun i q => i == id && below p q) := funext fun t => by
     show Option.map _ _ = Option.bind _ _
     cases (⟨t, o⟩ : St).setRow id p xs <;> rfl
    rw [this]
    exact (fil_setRow o id p xs).bind fun o => fil_scrub o _
   | _ => exact rest (by intros; simp)
theorem fil_backCs : ∀ (cs : List C) (xs : List T) (o : OM), Fil fun t => (⟨t, o⟩ : St).backCs cs xs
 | c :: cs, x :: xs, o => (fil_backC o c x).bind fun o => fil_backCs cs xs o
 | [], [], o => fil_same o
 | [], _ :: _, o => .inl fun _ => rfl
 | _ :: _, [], o => .inl fun _ => rfl
theorem fil_backRows : ∀ (l ys : List T) (o : OM), Fil fun t => (⟨t, o⟩ : St).backRows l ys
 | [], [], o => fil_same o
 | [], _ :: _, o => .inl fun _ => rfl
 | a :: l, [], o => .inl fun _ => by cases a <;> rfl
 | a :: l, b :: ys, o => by
  have ih := fil_backRows l ys
  cases a with
  | l i p n k => cases b with
   | s e m xs => exact (fil_backC o _ _).bind ih
   | r e m xs => exact ih o
   | _ => exact .inl fun _ => rfl
  | h => cases b with
   | r e m xs => exact ih o
   | _ => exact .inl fun _ => rfl
  | v x => cases b with
   | v y => exact ih o
   | _ => exact .inl fun _ => rfl
  | z => cases b with
   | z => exact ih o
   | _ => exact .inl fun _ => rfl
  | s e m xs => cases b <;> exact .inl fun _ => rfl
  | r e m xs => cases b <;> exact .inl fun _ => rfl
theorem fil_backB (o : OM) (v : AV) (a : A) : Fil fun t => (⟨t, o⟩ : St).backB v a := by
 cases v with
 | ptr id p n =>
  cases a with
  | box e ys =>
   cases h : lk o id with
   | none => exact .inl fun t => by simp only [St.backB, h]
   | some ob =>
    have : (fun t => (⟨t, o⟩ : St).backB (.ptr id p n) (.box e ys)) = fun t => ((⟨t, o⟩ : St).backRows ob.xs ys).bind fun σ => match lk σ.o id with
     | some ob => (backBox ob.xs ys).map fun xs => ⟨σ.t, ins σ.o id ⟨ob.k, ob.e, xs⟩⟩
     | none => none := funext fun t => by
     show (match lk o id with | some ob => (Option.bind _ _) | none => none) = _
     rw [h]
     rfl
    rw [this]
    refine (fil_backRows ob.xs ys o).bind fun o => ?_
    cases h2 : lk o id with
    | none => exact .inl fun t => by simp only [h2]
    | some ob2 =>
     cases h3 : backBox ob2.xs ys with
     | none => exact .inl fun t => by simp only [h2, h3, Option.map_none]
     | some xs => exact .inr ⟨fun _ => true, ins o id ⟨ob2.k, ob2.e, xs⟩, fun t => by simp only [h2, h3, Option.map_some]; rw [filt_id]⟩
  | _ => exact .inl fun _ => rfl
 | _ => exact .inl fun _ => by cases a <;> rfl
theorem fil_backBs : ∀ (vs : List AV) (as : List A) (o : OM), Fil fun t => (⟨t, o⟩ : St).backBs vs as
 | v :: vs, a :: as, o => (fil_backB o v a).bind fun o => fil_backBs vs as o
 | [], [], o => fil_same o
 | [], _ :: _, o => .inl fun _ => rfl
 | _ :: _, [], o => .inl fun _ => rfl
theorem fil_back (o : OM) (own : Bool) (v : AV) (a : A) : Fil fun t => (⟨t, o⟩ : St).back own v a := by
 cases v with
 | c x => cases a with
  | c y => cases own with
   | true => exact fil_backC o x y
   | false => exact fil_same o
  | _ => exact .inl fun _ => rfl
 | agg xs => cases a with
  | agg ys => cases own with
   | true => exact fil_backCs xs ys o
   | false => exact fil_same o
  | _ => exact .inl fun _ => rfl
 | fn f cs => cases a with
  | fn g as => exact fil_backBs cs as o
  | _ => exact .inl fun _ => rfl
 | ptr id p n => exact fil_backB o (.ptr id p n) a
 | tup xs => exact .inl fun _ => by cases a <;> rfl
 | u => exact .inl fun _ => by cases a <;> rfl
 | unk n => exact .inl fun _ => by cases a <;> rfl
 | nn => exact .inl fun _ => by cases a <;> rfl
theorem fil_backs {own : Nat → Bool} : ∀ (vs : List AV) (as : List A) (i : Nat) (o : OM), Fil fun t => (⟨t, o⟩ : St).backs own i vs as
 | v :: vs, a :: as, i, o => (fil_back o (own i) v a).bind fun o => fil_backs vs as (i + 1) o
 | [], [], i, o => fil_same o
 | [], _ :: _, i, o => .inl fun _ => rfl
 | _ :: _, [], i, o => .inl fun _ => rfl
theorem fil_new {α : Type} (o : OM) (id : Nat) (ob : Obj) (a : α) : FilA fun t => some (a, (⟨t, o⟩ : St).new id ob) := by
 obtain ⟨g, o', h⟩ := new_fil o id ob
 exact .inr ⟨a, g, o', fun t => congrArg (fun x => some (a, x)) (h t)⟩
theorem fil_keep {α : Type} (o : OM) (a : α) : FilA fun t => some (a, (⟨t, o⟩ : St)) := .inr ⟨a, fun _ => true, o, fun t => by rw [filt_id]⟩
theorem fil_res1 (o : OM) (id : Nat) (x : T) : FilA fun t => (⟨t, o⟩ : St).res1 id x := by
 cases x with
 | v q => exact fil_keep o _
 | s e n xs => exact fil_new o id _ _
 | _ => exact .inl fun _ => rfl
theorem fil_resCs : ∀ (xs : List T) (id : Nat) (o : OM), ((∀ t, (⟨t, o⟩ : St).resCs id xs = none) ∨ ∃ a j g o', ∀ t, (⟨t, o⟩ : St).resCs id xs = some (a, j, ⟨filt g t, o'⟩))
 | [], id, o => .inr ⟨[], id, fun _ => true, o, fun t => by rw [filt_id]; rfl⟩
 | x :: l, id, o => by
  rcases fil_res1 o id x with h | ⟨c, g, o1, h⟩
  ·exact .inl fun t => by simp only [St.resCs, h t, Option.bind_none]
  ·rcases fil_resCs l (id + 1) o1 with h2 | ⟨cs, j, g2, o2, h2⟩
   ·exact .inl fun t => by simp only [St.resCs, h t, Option.bind_some, h2, Option.bind_none]
   ·exact .inr ⟨c :: cs, j, _, o2, fun t => by simp only [St.resCs, h t, Option.bind_some, h2]; rw [filt_filt]⟩
theorem fil_res (a : A) (id : Nat) (o : OM) : ((∀ t, (⟨t, o⟩ : St).res id a = none) ∨ ∃ v j g o', ∀ t, (⟨t, o⟩ : St).res id a = some (v, j, ⟨filt g t, o'⟩)) := by
 cases a with
 | c x =>
  rcases fil_res1 o id x with h | ⟨c, g, o1, h⟩
  ·exact .inl fun t => by simp only [St.res, h t, Option.map_none]
  ·exact .inr ⟨.c c, id + 1, g, o1, fun t => by simp only [St.res, h t, Option.map_some]⟩
 | agg xs =>
  rcases fil_resCs xs id o with h | ⟨cs, j, g, o1, h⟩
  ·by_cases ha : allH xs = true
   ·exact .inr ⟨.unk xs.length, id + xs.length, fun _ => true, o, fun t => by simp only [St.res, h t, Option.map_none, Option.none_or, St.resU]; rw [if_pos ha, filt_id]⟩
   ·exact .inl fun t => by simp only [St.res, h t, Option.map_none, Option.none_or, St.resU]; rw [if_neg ha]
  ·exact .inr ⟨.agg cs, j, g, o1, fun t => by simp only [St.res, h t, Option.map_some, Option.some_or]⟩
 | box e xs =>
  by_cases hv : allV xs = true
  ·obtain ⟨g, o', h⟩ := new_fil o id ⟨.box, e, xs⟩
   exact .inr ⟨.ptr id [] 0, id + 1, g, o', fun t => by simp only [St.res]; rw [if_pos hv, h t]⟩
  ·exact .inl fun t => by simp only [St.res]; rw [if_neg hv]
 | fn f as => exact .inl fun _ => rfl
 | gone => exact .inl fun _ => rfl
 | nn => exact .inr ⟨.nn, id + 1, fun _ => true, o, fun t => by simp only [St.res]; rw [filt_id]⟩
theorem fil_ress : ∀ (as : List A) (id : Nat) (o : OM), FilA fun t => (⟨t, o⟩ : St).ress id as
 | [], id, o => fil_keep o _
 | a :: as, id, o => by
  rcases fil_res a id o with h | ⟨v, j, g, o1, h⟩
  ·exact .inl fun t => by simp only [St.ress, h t, Option.bind_none]
  ·rcases fil_ress as j o1 with h2 | ⟨vs, g2, o2, h2⟩
   ·have h2 : ∀ t, (⟨t, o1⟩ : St).ress j as = none := h2
    exact .inl fun t => by simp only [St.ress, h t, Option.bind_some, h2, Option.bind_none]
   ·have h2 : ∀ t, (⟨t, o1⟩ : St).ress j as = some (vs, ⟨filt g2 t, o2⟩) := h2
    exact .inr ⟨v :: vs, _, o2, fun t => by simp only [St.ress, h t, Option.bind_some, h2]; rw [filt_filt]⟩
theorem fil_make (o : OM) (d : Nat) (rs : List A) (vs : List AV) : FilA fun t => (⟨t, o⟩ : St).make d rs vs := by
 unfold St.make
 split
 ·cases hm : maker rs with
  | none => exact .inl fun _ => by simp only [hm, Option.bind_none]
  | some x =>
   obtain ⟨e, xs⟩ := x
   rename_i i p n k
   by_cases hc : allV xs = true ∧ i ≠ site d 0
   ·obtain ⟨g, o', h⟩ := new_fil o (site d 0) ⟨.box, e, .l i p n k :: xs⟩
    exact .inr ⟨.ptr (site d 0) [] 0, g, o', fun t => by simp only [hm, Option.bind_some]; rw [if_pos hc, h t]⟩
   ·exact .inl fun _ => by simp only [hm, Option.bind_some]; rw [if_neg hc]
 ·exact .inl fun _ => rfl
theorem fil_call (o : OM) (P : Program) (run : FuncId → List A → Ans) (own : FuncId → Nat → Bool) (d : Nat) (f : FuncId) (ts : List TypeId) (vs : List AV) : FilA fun t => (⟨t, o⟩ : St).call P run own d f ts vs := by
 have hf : ∀ t, (⟨t, o⟩ : St).feets (own f) 0 vs = (⟨[], o⟩ : St).feets (own f) 0 vs := fun t => feets_o (τ := ⟨t, o⟩) (σ := ⟨[], o⟩) rfl 0 vs
 have ha : ∀ t, (⟨t, o⟩ : St).args P (own f) 0 ts vs = (⟨[], o⟩ : St).args P (own f) 0 ts vs := fun t => args_o (τ := ⟨t, o⟩) (σ := ⟨[], o⟩) rfl 0 ts vs
 have e : (fun t => (⟨t, o⟩ : St).call P run own d f ts vs) = fun t => if aparts ((⟨[], o⟩ : St).feets (own f) 0 vs) = false then none else ((⟨[], o⟩ : St).args P (own f) 0 ts vs).bind fun as => (run f as).bind fun x => if own f 99 = true then (⟨t, o⟩ : St).make d x.1 vs else if 64 < cnts x.1 then none else ((⟨t, o⟩ : St).backs (own f) 0 vs x.2).bind fun σ => (σ.ress (site d 0) x.1).bind fun y => match y.1 with
   | [w] => some (w, y.2)
   | ws => some (.tup ws, y.2) := funext fun t => by
  unfold St.call
  rw [hf t, ha t]
  rfl
 rw [e]
 by_cases h0 : aparts ((⟨[], o⟩ : St).feets (own f) 0 vs) = false
 ·exact .inl fun t => if_pos h0
 cases h1 : (⟨[], o⟩ : St).args P (own f) 0 ts vs with
 | none => exact .inl fun t => by simp only [h0, h1, Option.bind_none]; rfl
 | some as =>
  cases h2 : run f as with
  | none => exact .inl fun t => by simp only [h0, h1, h2, Option.bind_some, Option.bind_none]; rfl
  | some x =>
   obtain ⟨rs, as'⟩ := x
   have e2 : ∀ t, (if aparts ((⟨[], o⟩ : St).feets (own f) 0 vs) = false then none else (some as).bind fun as => (run f as).bind fun x => if own f 99 = true then (⟨t, o⟩ : St).make d x.1 vs else if 64 < cnts x.1 then none else ((⟨t, o⟩ : St).backs (own f) 0 vs x.2).bind fun σ => (σ.ress (site d 0) x.1).bind fun y => match y.1 with
     | [w] => some (w, y.2)
     | ws => some (AV.tup ws, y.2)) = if own f 99 = true then (⟨t, o⟩ : St).make d rs vs else if 64 < cnts rs then none else ((⟨t, o⟩ : St).backs (own f) 0 vs as').bind fun σ => (σ.ress (site d 0) rs).bind fun y => match y.1 with
     | [w] => some (w, y.2)
     | ws => some (AV.tup ws, y.2) := fun t => by
    rw [if_neg h0, Option.bind_some, h2, Option.bind_some]
   simp only [e2]
   by_cases h3 : own f 99 = true
   ·simp only [if_pos h3]
    exact fil_make o d rs vs
   ·simp only [if_neg h3]
    by_cases h4 : 64 < cnts rs
    ·exact .inl fun t => by simp only [if_pos h4]
    ·simp only [if_neg h4]
     refine (fil_backs vs as' 0 o).bindA fun o => (fil_ress rs (site d 0) o).bind fun ws o => ?_
     match ws with
     | [] => exact fil_keep o (AV.tup [])
     | [w] => exact fil_keep o w
     | a :: b :: l => exact fil_keep o (AV.tup (a :: b :: l))
theorem ev_agree {t t0 : List (Nat × AV)} {o o' : OM} : ∀ {y : Operand}, (∀ k, y = .tmp k → lk t k = lk t0 k) → (⟨t, o⟩ : St).ev y = (⟨t0, o'⟩ : St).ev y
 | .tmp k, h => h k rfl
 | .const v, _ => by cases v <;> rfl
 | .func f, _ => rfl
 | .global g, _ => rfl
theorem evs_agree {t t0 : List (Nat × AV)} {o o' : OM} : ∀ {l : List Operand}, (∀ y ∈ l, ∀ k, y = .tmp k → lk t k = lk t0 k) → (⟨t, o⟩ : St).evs l = (⟨t0, o'⟩ : St).evs l
 | [], _ => rfl
 | y :: l, h => by
  rw [St.evs, St.evs, ev_agree (o' := o') fun k hk => h y (by simp) k hk, evs_agree (o' := o') fun z hz k hk => h z (by simp [hz]) k hk]
theorem blt_app {d : Nat} {ts : List TypeId} {vs : List AV} {v : AV} (h : E.builtin σ d .append ts vs = some (v, σ2)) : ∃ t x y, ts = [t, t] ∧ vs = [.c x, .c y] ∧ σ.append E.P d t x y = some (v, σ2) := by
 match ts, vs, h with
 | [t, t'], [a, b], h =>
  cases a with
  | c x =>
   cases b with
   | c y =>
    simp only [Env.builtin] at h
    split at h
    ·rename_i e
     subst e
     exact ⟨t, x, y, rfl, rfl, h⟩
    ·simp at h
   | _ => simp [Env.builtin] at h
  | _ => simp [Env.builtin] at h
 | [], _, h => simp [Env.builtin] at h
 | [_], _, h => simp [Env.builtin] at h
 | _ :: _ :: _ :: _, _, h => simp [Env.builtin] at h
 | [_, _], [], h => simp [Env.builtin] at h
 | [_, _], [_], h => simp [Env.builtin] at h
 | [_, _], _ :: _ :: _ :: _, h => simp [Env.builtin] at h
theorem fil_move (o : OM) (P : Program) (t : TypeId) (c : C) : FilA fun u => (⟨u, o⟩ : St).move P t c := by
 cases c with
 | v x => exact fil_keep o (T.v x)
 | z => exact fil_keep o (T.s (elemOf P t) 0 [])
 | sl id p off len =>
  cases p with
  | cons i p => exact .inl fun _ => rfl
  | nil =>
   cases h : (⟨[], o⟩ : St).cellsOf P (elemOf P t) id [] off len with
   | none =>
    refine .inl fun u => ?_
    have h' : (⟨u, o⟩ : St).cellsOf P (elemOf P t) id [] off len = none := h
    simp only [St.move, h', Option.bind_none]
   | some x =>
    obtain ⟨w, xs⟩ := x
    have h' : ∀ u, (⟨u, o⟩ : St).cellsOf P (elemOf P t) id [] off len = some (w, xs) := fun u => h
    by_cases hw : w = true
    ·obtain ⟨g, o', h2⟩ := kill_fil o id
     exact .inr ⟨.s (elemOf P t) len xs, g, o', fun u => by simp only [St.move, h' u, Option.bind_some]; rw [if_pos hw, h2 u]⟩
    ·exact .inl fun u => by simp only [St.move, h' u, Option.bind_some]; rw [if_neg hw]
theorem fil_moves (P : Program) : ∀ (ts : List TypeId) (cs : List C) (o : OM), FilA fun u => (⟨u, o⟩ : St).moves P ts cs
 | t :: ts, c :: cs, o => by
  rcases fil_move o P t c with h | ⟨x, g, o1, h⟩
  ·have h : ∀ u, (⟨u, o⟩ : St).move P t c = none := h
   exact .inl fun u => by simp only [St.moves, h u, Option.bind_none]
  ·have h : ∀ u, (⟨u, o⟩ : St).move P t c = some (x, ⟨filt g u, o1⟩) := h
   rcases fil_moves P ts cs o1 with h2 | ⟨xs, g2, o2, h2⟩
   ·have h2 : ∀ u, (⟨u, o1⟩ : St).moves P ts cs = none := h2
    exact .inl fun u => by simp only [St.moves, h u, Option.bind_some, h2, Option.bind_none]
   ·have h2 : ∀ u, (⟨u, o1⟩ : St).moves P ts cs = some (xs, ⟨filt g2 u, o2⟩) := h2
    exact .inr ⟨x :: xs, _, o2, fun u => by simp only [St.moves, h u, Option.bind_some, h2]; rw [filt_filt]⟩
 | [], [], o => fil_keep o []
 | [], _ :: _, o => .inl fun _ => rfl
 | _ :: _, [], o => .inl fun _ => rfl
theorem fil_store (o : OM) (P : Program) (t : TypeId) (id : Nat) (off : Nat) (cs : List C) {ob : Obj} (ho : lk o id = some ob) (hk : ob.k = .box) : Fil fun u => (⟨u, o⟩ : St).store P t id [] off cs := by
 by_cases hc : off + cs.length ≤ ob.xs.length
 ·exact .inr ⟨fun _ => true, ins o id ⟨.box, ob.e, setCells ob.xs off (cs.map toL)⟩, fun u => by simp only [St.store, ho, hk]; rw [if_pos hc, filt_id]⟩
 ·exact .inl fun u => by simp only [St.store, ho, hk]; rw [if_neg hc]
theorem app_op {x : Oper} (hx : isApp x = true) {t0 : List (Nat × AV)} {o : OM} {d : Nat} {r : Option AV} (hbx : boxSto ⟨t0, o⟩ x.op = true) (h : E.op ⟨t0, o⟩ d x.op = some (r, σ')) :
  ∃ g o', σ' = ⟨filt g t0, o'⟩ ∧ ∀ t, (∀ k ∈ x.looksAt ops, lk t k = lk t0 k) → E.op ⟨t, o⟩ d x.op = some (r, ⟨filt g t, o'⟩) := by
 unfold isApp at hx
 rw [Bool.and_eq_true] at hx
 have hx := hx.2
 have hlk : ∀ {k : Nat}, Operand.tmp k ∈ x.op.operands.toList → k ∈ x.looksAt ops := fun hk => looks_tmp hk
 generalize hop : x.op = op at hx h hlk hbx ⊢
 cases op with
 | store ty a b =>
  simp only [Env.op] at h
  split at h
  ·rename_i id p off v ha hb
   split at h
   ·rename_i hU
    obtain ⟨σ2, h1, h⟩ := Option.bind_eq_some_iff.1 h
    simp only [Option.some.injEq, Prod.mk.injEq] at h
    obtain ⟨rfl, rfl⟩ := h
    have key : ∃ o', ∀ t, (⟨t, o⟩ : St).storeU E.P ty id p off v = some ⟨t, o'⟩ := by
     unfold St.storeU at h1 ⊢
     cases v with
     | unk n =>
      simp only at h1 ⊢
      cases hl : lk o id with
      | none => rw [hl] at h1; simp at h1
      | some ob =>
       rw [hl] at h1
       simp only at h1 ⊢
       split at h1
       ·rename_i hc
        exact ⟨_, fun t => if_pos hc⟩
       ·simp at h1
     | _ => simp at h1
    obtain ⟨o', hk⟩ := key
    rw [hk t0] at h1
    injection h1 with h1
    subst h1
    refine ⟨fun _ => true, o', by rw [filt_id], fun t ht => ?_⟩
    simp only [Env.op]
    rw [ev_agree (o' := o) (y := a) fun k hk => ht k (hlk (by subst hk; simp [Op.operands])), ev_agree (o' := o) (y := b) fun k hk => ht k (hlk (by subst hk; simp [Op.operands])), ha, hb]
    simp only
    rw [if_pos hU, hk t, filt_id]
    rfl
   rename_i hU
   obtain ⟨cs, hcs, h⟩ := Option.bind_eq_some_iff.1 h
   split at h
   ·rename_i hlen
    obtain ⟨σ2, h1, h⟩ := Option.bind_eq_some_iff.1 h
    simp only [Option.some.injEq, Prod.mk.injEq] at h
    obtain ⟨rfl, rfl⟩ := h
    simp only [boxSto, ha] at hbx
    cases hl : lk o id with
    | none => rw [hl] at hbx; simp at hbx
    | some ob =>
     rw [hl] at hbx
     simp only [Bool.and_eq_true, decide_eq_true_eq, List.isEmpty_iff] at hbx
     obtain ⟨hk, rfl⟩ := hbx
     rcases fil_store o E.P ty id off cs hl hk with h2 | ⟨g, o', h2⟩
     ·have h2 : ∀ u, (⟨u, o⟩ : St).store E.P ty id [] off cs = none := h2
      rw [h2 t0] at h1
      simp at h1
     ·have h2 : ∀ u, (⟨u, o⟩ : St).store E.P ty id [] off cs = some ⟨filt g u, o'⟩ := h2
      rw [h2 t0] at h1
      injection h1 with h1
      subst h1
      refine ⟨g, o', rfl, fun t ht => ?_⟩
      simp only [Env.op]
      rw [ev_agree (o' := o) (y := a) fun k hk => ht k (hlk (by subst hk; simp [Op.operands])), ev_agree (o' := o) (y := b) fun k hk => ht k (hlk (by subst hk; simp [Op.operands])), ha, hb]
      simp only [hcs, Option.bind_some]
      rw [if_neg hU, if_pos hlen, h2 t]
      rfl
   ·simp at h
  ·simp at h
 | call c =>
  obtain ⟨cal, args, ts⟩ := c
  cases cal with
  | builtin b =>
   cases b with
   | append =>
    simp only [Env.op] at h
    obtain ⟨vs, hvs, h⟩ := Option.bind_eq_some_iff.1 h
    obtain ⟨⟨v, σ2⟩, hb, h⟩ := Option.bind_eq_some_iff.1 h
    simp only [Option.some.injEq, Prod.mk.injEq] at h
    obtain ⟨rfl, rfl⟩ := h
    have key : ∃ g o', σ2 = ⟨filt g t0, o'⟩ ∧ ∀ t, E.builtin ⟨t, o⟩ d .append ts.toList vs = some (v, ⟨filt g t, o'⟩) := by
     obtain ⟨t1, x1, y1, e1, e2, h3⟩ := blt_app hb
     rcases append_fil o E.P d t1 x1 y1 with h1 | ⟨r, g, o', h1⟩
     ·rw [h1 t0] at h3
      simp at h3
     ·rw [h1 t0] at h3
      simp only [Option.some.injEq, Prod.mk.injEq] at h3
      obtain ⟨rfl, rfl⟩ := h3
      exact ⟨g, o', rfl, fun t => by rw [e1, e2, ← h1 t]; simp only [Env.builtin]; exact if_pos trivial⟩
    obtain ⟨g, o', rfl, hall⟩ := key
    refine ⟨g, o', rfl, fun t ht => ?_⟩
    simp only [Env.op]
    rw [evs_agree (o' := o) fun y hy k hk => ht k (hlk (by subst hk; simpa [Op.operands, Call.operands] using hy)), hvs, Option.bind_some, hall t]
    rfl
   | _ => simp at hx
  | value y =>
   simp only [Env.op] at h
   obtain ⟨vs, hvs, h⟩ := Option.bind_eq_some_iff.1 h
   split at h
   ·rename_i f cs hf
    obtain ⟨⟨v, σ2⟩, hb, h⟩ := Option.bind_eq_some_iff.1 h
    simp only [Option.some.injEq, Prod.mk.injEq] at h
    obtain ⟨rfl, rfl⟩ := h
    rcases fil_call o E.P E.run E.own d f (ts.toList ++ cs.map fun _ => 0) (vs ++ cs) with h2 | ⟨w, g, o', h2⟩
    ·have h2 : ∀ u, (⟨u, o⟩ : St).call E.P E.run E.own d f (ts.toList ++ cs.map fun _ => 0) (vs ++ cs) = none := h2
     rw [h2 t0] at hb
     simp at hb
    ·have h2 : ∀ u, (⟨u, o⟩ : St).call E.P E.run E.own d f (ts.toList ++ cs.map fun _ => 0) (vs ++ cs) = some (w, ⟨filt g u, o'⟩) := h2
     rw [h2 t0] at hb
     simp only [Option.some.injEq, Prod.mk.injEq] at hb
     obtain ⟨rfl, rfl⟩ := hb
     refine ⟨g, o', rfl, fun t ht => ?_⟩
     simp only [Env.op]
     rw [evs_agree (o' := o) fun z hz k hk => ht k (hlk (by subst hk; simp [Op.operands, Call.operands]; first | exact .inr (by simpa using hz) | exact .inl (by simpa using hz))), hvs, Option.bind_some, ev_agree (o' := o) (y := y) fun k hk => ht k (hlk (by subst hk; simp [Op.operands, Call.operands])), hf]
     simp only [h2 t, Option.bind_some]
   ·simp at h
  | invoke a b => simp at hx
 | _ => simp at hx
theorem row_ext (h : ∀ id ob, lk σ.o id = some ob → lk τ.o id = some ob) {id : Nat} {p : List Nat} {x : Bool × TypeId × List T} (hr : σ.row id p = some x) : τ.row id p = some x := by
 unfold St.row at hr ⊢
 split at hr
 ·rename_i ob hob
  rw [h id ob hob]
  exact hr
 ·simp at hr
theorem load_ext (h : ∀ id ob, lk σ.o id = some ob → lk τ.o id = some ob) {t : TypeId} {id : Nat} {p : List Nat} {o : Nat} {v : AV} (hv : σ.load P t id p o = some v) : τ.load P t id p o = some v := by
 unfold St.load at hv ⊢
 obtain ⟨x, h1, h2⟩ := Option.bind_eq_some_iff.1 hv
 rw [row_ext h h1]
 exact h2
theorem early_ext {q : Oper} (hq : isEarly q = true) {d : Nat} {r : Option AV} (h : E.op σ d q.op = some (r, σ')) : ∃ v, r = some v ∧ σ' = σ ∧ ∀ τ : St, (∀ id ob, lk σ.o id = some ob → lk τ.o id = some ob) → (∀ k ∈ q.looksAt ops, lk τ.t k = lk σ.t k) → E.op τ d q.op = some (some v, τ) := by
 unfold isEarly at hq
 rw [Bool.and_eq_true] at hq
 have hq := hq.2
 have hlk : ∀ {k : Nat}, Operand.tmp k ∈ q.op.operands.toList → k ∈ q.looksAt ops := fun hk => looks_tmp hk
 have hev : ∀ (τ : St), (∀ k ∈ q.looksAt ops, lk τ.t k = lk σ.t k) → ∀ y, y ∈ q.op.operands.toList → τ.ev y = σ.ev y := fun τ hτ y hy => ev_agree fun k hk => hτ k (hlk (by rw [← hk]; exact hy))
 generalize hop : q.op = op at hq h hev ⊢
 cases op with
 | move x =>
  simp only [Env.op] at h
  obtain ⟨v, hv, h⟩ := Option.bind_eq_some_iff.1 h
  simp only [Option.some.injEq, Prod.mk.injEq] at h
  obtain ⟨rfl, rfl⟩ := h
  refine ⟨v, rfl, rfl, fun τ ho hτ => ?_⟩
  simp only [Env.op]
  rw [hev τ hτ x (by simp [Op.operands]), hv]
  rfl
 | binOp b t x y t' =>
  simp only [Env.op] at h
  obtain ⟨v1, hv1, h⟩ := Option.bind_eq_some_iff.1 h
  obtain ⟨v2, hv2, h⟩ := Option.bind_eq_some_iff.1 h
  obtain ⟨v, hv, h⟩ := Option.bind_eq_some_iff.1 h
  simp only [Option.some.injEq, Prod.mk.injEq] at h
  obtain ⟨rfl, rfl⟩ := h
  refine ⟨v, rfl, rfl, fun τ ho hτ => ?_⟩
  simp only [Env.op]
  rw [hev τ hτ x (by simp [Op.operands]), hev τ hτ y (by simp [Op.operands]), hv1, Option.bind_some, hv2, Option.bind_some, hv]
  rfl
 | fieldAddr t x f =>
  simp only [Env.op] at h
  split at h
  ·rename_i id p o fs hx hu
   obtain ⟨f', hf, h⟩ := Option.bind_eq_some_iff.1 h
   split at h
   ·rename_i hc
    simp only [Option.some.injEq, Prod.mk.injEq] at h
    obtain ⟨rfl, rfl⟩ := h
    refine ⟨_, rfl, rfl, fun τ ho hτ => ?_⟩
    simp only [Env.op]
    rw [hev τ hτ x (by simp [Op.operands]), hx, hu]
    simp only [hf, Option.bind_some]
    rw [if_pos hc]
   ·simp at h
  ·simp at h
 | indexAddr t x i =>
  simp only [Env.op] at h
  split at h
  ·rename_i id p o n k i' e hx hi hu
   obtain ⟨⟨kk, e', xs⟩, hr, h⟩ := Option.bind_eq_some_iff.1 h
   simp only at h
   split at h
   ·rename_i hc
    simp only [Option.some.injEq, Prod.mk.injEq] at h
    obtain ⟨rfl, rfl⟩ := h
    refine ⟨_, rfl, rfl, fun τ ho hτ => ?_⟩
    simp only [Env.op]
    rw [hev τ hτ x (by simp [Op.operands]), hev τ hτ i (by simp [Op.operands]), hx, hi, hu]
    have : τ.row id p = some (kk, e', xs) := row_ext ho hr
    simp only [this, Option.bind_some]
    rw [if_pos hc]
   ·simp at h
  ·simp at h
 | load t x =>
  simp only [Env.op] at h
  split at h
  ·rename_i id p o hx
   obtain ⟨v, hv, h⟩ := Option.bind_eq_some_iff.1 h
   simp only [Option.some.injEq, Prod.mk.injEq] at h
   obtain ⟨rfl, rfl⟩ := h
   refine ⟨v, rfl, rfl, fun τ ho hτ => ?_⟩
   simp only [Env.op]
   rw [hev τ hτ x (by simp [Op.operands]), hx]
   have : τ.load E.P t id p o = some v := load_ext ho hv
   simp only [this, Option.bind_some]
  ·simp at h
 | _ => simp at hq
theorem early_op {q : Oper} (hq : isEarly q = true) {d : Nat} {r : Option AV} (h : E.op σ d q.op = some (r, σ')) : ∃ v, r = some v ∧ σ' = σ ∧ ∀ τ : St, τ.o = σ.o → (∀ k ∈ q.looksAt ops, lk τ.t k = lk σ.t k) → E.op τ d q.op = some (some v, τ) := by
 obtain ⟨v, h1, h2, h3⟩ := early_ext (ops := ops) hq h
 exact ⟨v, h1, h2, fun τ ho hτ => h3 τ (fun id ob hob => by rw [ho]; exact hob) hτ⟩
theorem early_oper {q : Oper} (hq : isEarly q = true) (h : E.oper ops σ q = some σ1) : ∃ d v, q.dst = some d ∧ d < E.n ∧ E.op σ d q.op = some (some v, σ) ∧ σ1 = σ.put (some d) v := by
 have hq' := hq
 unfold isEarly at hq'
 simp only [Bool.and_eq_true, Option.isNone_iff_eq_none, Option.isSome_iff_exists] at hq'
 obtain ⟨⟨hg, d, hd⟩, _⟩ := hq'
 unfold Env.oper at h
 rw [hg, hd] at h
 simp only [Option.getD_some] at h
 split at h
 ·rename_i hn
  simp only [St.want, Option.bind_some, if_true] at h
  obtain ⟨⟨r, σ2⟩, h1, h3⟩ := Option.bind_eq_some_iff.1 h
  obtain ⟨v, rfl, rfl, _⟩ := early_op (ops := ops) hq h1
  injection h3 with h3
  exact ⟨d, v, hd, hn, h1, h3.symm⟩
 ·simp at h
theorem early_put {q : Oper} (hq : isEarly q = true) {d : Nat} {v : AV} (hd : q.dst = some d) (hn : d < E.n) (h : E.op σ d q.op = some (some v, σ)) : E.oper ops σ q = some (σ.put (some d) v) := by
 have hq' := hq
 unfold isEarly at hq'
 simp only [Bool.and_eq_true, Option.isNone_iff_eq_none] at hq'
 unfold Env.oper
 rw [hq'.1.1, hd]
 simp only [Option.getD_some]
 rw [if_pos hn]
 simp only [St.want, Option.bind_some, if_true, h]
 rfl
theorem early_operD {q : Oper} (hq : isEarly q = true) : E.operD ops σ q = E.oper ops σ q := by
 unfold isEarly at hq
 simp only [Bool.and_eq_true, Option.isNone_iff_eq_none] at hq
 obtain ⟨⟨hg, _⟩, hq⟩ := hq
 unfold Env.operD
 rw [hg]
 split at hq
 all_goals first
  | (rename_i hop; rw [hop]; simp [freeB, isVal, St.want, Env.free, St.dropFor])
  | (simp at hq)
theorem app_oper {y : Oper} (hy : isApp y = true) (h : E.oper ops σ y = some σ1) : ∃ r σ2, y.dst.getD 0 < E.n ∧ E.op σ (y.dst.getD 0) y.op = some (r, σ2) ∧ σ1 = σ2.put y.dst (r.getD .u) := by
 have hy' := hy
 unfold isApp at hy'
 simp only [Bool.and_eq_true, Option.isNone_iff_eq_none] at hy'
 unfold Env.oper at h
 rw [hy'.1] at h
 split at h
 ·rename_i hn
  simp only [St.want, Option.bind_some, if_true] at h
  obtain ⟨⟨r, σ2⟩, h1, h3⟩ := Option.bind_eq_some_iff.1 h
  injection h3 with h3
  exact ⟨r, σ2, hn, h1, h3.symm⟩
 ·simp at h
theorem app_put {y : Oper} (hy : isApp y = true) {r : Option AV} (hn : y.dst.getD 0 < E.n) (h : E.op σ (y.dst.getD 0) y.op = some (r, σ2)) : E.oper ops σ y = some (σ2.put y.dst (r.getD .u)) := by
 have hy' := hy
 unfold isApp at hy'
 simp only [Bool.and_eq_true, Option.isNone_iff_eq_none] at hy'
 unfold Env.oper
 rw [hy'.1, if_pos hn]
 simp only [St.want, Option.bind_some, if_true, h]
theorem lk_off {d k : Nat} {v : AV} (h : d ≠ k) : lk (σ.put (some d) v).t k = lk σ.t k := by rw [put_lk, if_neg (by simpa using h)]
theorem srt_filt {g : AV → Bool} {t : List (Nat × AV)} (h : Srt t) : Srt (filt g t) := srt_filter _ h
theorem lk_filt {g : AV → Bool} {t : List (Nat × AV)} (h : Srt t) {d : Nat} {w : AV} (hw : lk (filt g t) d = some w) : lk t d = some w ∧ g w = true := lk_filter h hw
theorem lkFt {g : AV → Bool} {t : List (Nat × AV)} (h : Srt t) {d : Nat} : lk (filt g t) d = (lk t d).bind fun v => if g v = true then some v else none := lkF h d
theorem swapB (hs : Srt σ.t) {q y : Oper} (hq : isEarly q = true) (hy : isApp y = true) (hap : q.apart ops y = true) (hself : ∀ d, q.dst = some d → d ∉ q.looksAt ops) (h1 : E.oper ops σ q = some σ1) (hbx : boxSto σ1 y.op = true) (h2 : E.oper ops σ1 y = some σ2)
  (hst : ∀ d v, q.dst = some d → lk σ1.t d = some v → (lk σ2.t d).isSome = true ∧ E.op σ2 d q.op = some (some v, σ2)) : ∃ τ', E.oper ops σ y = some τ' ∧ E.oper ops τ' q = some σ2 := by
 obtain ⟨a1, a2, a3⟩ := Oper.apart_spec hap
 obtain ⟨d, v, hd, hdn, e1, rfl⟩ := early_oper hq h1
 obtain ⟨r, σ3, hen, e2, rfl⟩ := app_oper hy h2
 have hde : y.dst ≠ some d := fun h => a2 d hd h
 have e2' : E.op ⟨ins σ.t d v, σ.o⟩ (y.dst.getD 0) y.op = some (r, σ3) := e2
 obtain ⟨g, o', rfl, hall⟩ := app_op (ops := ops) hy hbx e2'
 have e3 := hall σ.t (fun k hk => by
  rw [lk_ins, if_neg]
  intro h
  exact a1 d hd (by rw [h]; exact hk))
 have l1 : lk (σ.put (some d) v).t d = some v := by rw [put_lk, if_pos rfl]
 obtain ⟨s1, s2⟩ := hst d v hd l1
 have hs1 : Srt (ins σ.t d v) := srt_ins _ _ _ hs
 have hgd : g v = true := by
  rw [put_lk, if_neg hde] at s1
  obtain ⟨w, hw⟩ := Option.isSome_iff_exists.1 s1
  have hw : lk (filt g (ins σ.t d v)) d = some w := hw
  obtain ⟨k1, k2⟩ := lk_filt hs1 hw
  rw [lk_ins, if_pos rfl] at k1
  injection k1 with k1
  rw [k1]
  exact k2
 have heq : ((⟨filt g σ.t, o'⟩ : St).put y.dst (r.getD .u)).put (some d) v = (⟨filt g (ins σ.t d v), o'⟩ : St).put y.dst (r.getD .u) := by
  refine st_ext ?_ (by rw [put_o, put_o, put_o])
  cases hyd : y.dst with
  | none =>
   show ins (filt g σ.t) d v = filt g (ins σ.t d v)
   refine srt_ext (srt_ins _ _ _ (srt_filt hs)) (srt_filt hs1) fun k => ?_
   rw [lk_ins, lkFt hs, lkFt hs1, lk_ins]
   by_cases hk : d = k
   ·subst hk
    rw [if_pos rfl, if_pos rfl, Option.bind_some, if_pos hgd]
   ·rw [if_neg hk, if_neg hk]
  | some e =>
   have hde' : d ≠ e := fun h => hde (by rw [hyd, h])
   show ins (ins (filt g σ.t) e (r.getD .u)) d v = ins (filt g (ins σ.t d v)) e (r.getD .u)
   refine srt_ext (srt_ins _ _ _ (srt_ins _ _ _ (srt_filt hs))) (srt_ins _ _ _ (srt_filt hs1)) fun k => ?_
   rw [lk_ins, lk_ins, lk_ins, lkFt hs, lkFt hs1, lk_ins]
   by_cases hk : d = k
   ·subst hk
    rw [if_pos rfl, if_neg (fun h => hde' h.symm), if_pos rfl, Option.bind_some, if_pos hgd]
   ·rw [if_neg hk, if_neg hk]
 refine ⟨_, app_put hy hen e3, ?_⟩
 rw [← heq]
 refine early_put hq hd hdn ?_
 obtain ⟨v', hv', _, hag⟩ := early_op (ops := ops) hq s2
 injection hv' with hv'
 subst hv'
 refine hag _ ?_ fun k hk => ?_
 ·rw [← heq]
  rfl
 ·rw [← heq]
  exact (lk_off fun h => hself d hd (by rw [h]; exact hk)).symm
theorem keepE {k : Nat} : ∀ {l : List Oper} {σ σ1 : St}, (∀ q ∈ l, isEarly q = true ∧ q.dst ≠ some k) → E.opersD ops l σ = some σ1 → σ1.o = σ.o ∧ lk σ1.t k = lk σ.t k
 | [], σ, σ1, _, h => by
  simp only [Env.opersD, Option.some.injEq] at h
  subst h
  exact ⟨rfl, rfl⟩
 | q :: l, σ, σ1, hl, h => by
  simp only [Env.opersD] at h
  obtain ⟨σ2, h1, h2⟩ := Option.bind_eq_some_iff.1 h
  obtain ⟨c1, c2⟩ := hl q (by simp)
  rw [early_operD c1] at h1
  obtain ⟨d, v, hd, _, _, rfl⟩ := early_oper c1 h1
  obtain ⟨k1, k2⟩ := keepE (fun r hr => hl r (by simp [hr])) h2
  exact ⟨k1.trans put_o, k2.trans (by rw [put_lk, if_neg (by rw [← hd]; exact c2)])⟩
theorem sameC_eq : ∀ {x y : C}, sameC x y = true → x = y
 | .sl i p o n, .sl i' p' o' n', h => by
  simp only [sameC, Bool.and_eq_true, beq_iff_eq] at h
  rw [h.1, h.2.1, h.2.2.1, h.2.2.2]
 | .z, .z, _ => rfl
 | .v (.int k x), .v (.int k' y), h => by
  simp only [sameC, Bool.and_eq_true, decide_eq_true_eq, beq_iff_eq] at h
  rw [h.1, h.2]
 | .v (.bool x), .v (.bool y), h => by
  simp only [sameC, beq_iff_eq] at h
  rw [h]
theorem sameCs_eq : ∀ {xs ys : List C}, sameCs xs ys = true → xs = ys
 | [], [], _ => rfl
 | x :: xs, y :: ys, h => by
  simp only [sameCs, Bool.and_eq_true] at h
  rw [sameC_eq h.1, sameCs_eq h.2]
theorem sameAV_eq : ∀ {x y : AV}, sameAV x y = true → x = y
 | .c x, .c y, h => by rw [sameC_eq h]
 | .agg xs, .agg ys, h => by rw [sameCs_eq h]
 | .ptr i p o, .ptr i' p' o', h => by
  simp only [sameAV, Bool.and_eq_true, beq_iff_eq] at h
  rw [h.1, h.2.1, h.2.2]
theorem boxSto_agree {x : Oper} (ho : τ.o = σ.o) (ht : ∀ k ∈ x.looksAt ops, lk τ.t k = lk σ.t k) (h : boxSto τ x.op = true) : boxSto σ x.op = true := by
 have hlk : ∀ {k : Nat}, Operand.tmp k ∈ x.op.operands.toList → k ∈ x.looksAt ops := fun hk => looks_tmp hk
 generalize hop : x.op = op at h hlk ⊢
 cases op with
 | store ty a b =>
  have e : τ.ev a = σ.ev a := ev_agree fun k hk => ht k (hlk (by subst hk; simp [Op.operands]))
  simp only [boxSto] at h ⊢
  rw [e, ho] at h
  exact h
 | _ => rfl
theorem bubbleB {y : Oper} (hy : isApp y = true) : ∀ {l : List Oper} {σ σe σf : St}, Srt σ.t → E.opersD ops l σ = some σe → boxSto σe y.op = true → E.oper ops σe y = some σf → (∀ q ∈ l, isEarly q = true ∧ q.apart ops y = true ∧ (∀ d, q.dst = some d → d ∉ q.looksAt ops) ∧ E.stays σe σf q = true) → (l.Pairwise fun q r => ∀ e, r.dst = some e → e ∉ q.looksAt ops ∧ q.dst ≠ some e) → ∃ τ', E.oper ops σ y = some τ' ∧ E.opersD ops l τ' = some σf
 | [], σ, σe, σf, _, h1, _, h2, _, _ => by
  simp only [Env.opersD, Option.some.injEq] at h1
  subst h1
  exact ⟨σf, h2, rfl⟩
 | q :: l, σ, σe, σf, hs, h1, hbx, h2, hl, hp => by
  simp only [Env.opersD] at h1
  obtain ⟨σ1, g1, g2⟩ := Option.bind_eq_some_iff.1 h1
  obtain ⟨c1, c2, c3, c4⟩ := hl q (by simp)
  rw [early_operD c1] at g1
  obtain ⟨d, v, hd, hdn, e1, hσ1⟩ := early_oper c1 g1
  obtain ⟨hp1, hp2⟩ := List.pairwise_cons.1 hp
  have hs1 : Srt σ1.t := by rw [hσ1]; exact srt_ins _ _ _ hs
  obtain ⟨τ1, k1, k2⟩ := bubbleB hy hs1 g2 hbx h2 (fun r hr => hl r (by simp [hr])) hp2
  have hl' : ∀ k, k = d ∨ k ∈ q.looksAt ops → ∀ r ∈ l, isEarly r = true ∧ r.dst ≠ some k := fun k hk r hr => ⟨(hl r (by simp [hr])).1, fun h => by
   obtain ⟨m1, m2⟩ := hp1 r hr k h
   rcases hk with hk | hk
   ·exact m2 (by rw [hd, hk])
   ·exact m1 hk⟩
  have w1 := keepE (hl' d (.inl rfl)) g2
  have w2 := keepE (hl' d (.inl rfl)) k2
  have hv1 : lk σ1.t d = some v := by rw [hσ1, put_lk, if_pos rfl]
  unfold Env.stays at c4
  rw [hd, Option.getD_some, w1.2, hv1] at c4
  simp only [Bool.and_eq_true] at c4
  obtain ⟨c5, c6⟩ := c4
  split at c6
  ·rename_i v' σx hop
   have := sameAV_eq c6
   subst this
   obtain ⟨v2, hv2, rfl, hag⟩ := early_op (ops := ops) c1 hop
   injection hv2 with hv2
   subst hv2
   have hq1 := hag τ1 w2.1.symm fun k hk => (keepE (hl' k (.inr hk)) k2).2.symm
   have hbx1 : boxSto σ1 y.op = true := by
    refine boxSto_agree (ops := ops) (x := y) w1.1 (fun k hk => ?_) hbx
    exact (keepE (fun r hr => ⟨(hl r (by simp [hr])).1, fun h => (Oper.apart_spec (hl r (by simp [hr])).2.1).1 k h hk⟩) g2).2
   obtain ⟨τ', m1, m2⟩ := swapB hs c1 hy c2 c3 g1 hbx1 k1 fun d' v'' hd' hv'' => by
    rw [hd] at hd'
    injection hd' with hd'
    subst hd'
    rw [hv1] at hv''
    injection hv'' with hv''
    subst hv''
    exact ⟨by rw [← w2.2]; exact c5, hq1⟩
   refine ⟨τ', m1, ?_⟩
   simp only [Env.opersD]
   rw [early_operD c1, m2]
   exact k2
  ·simp at c6
theorem opersD_append : ∀ {l m : List Oper} {σ : St}, E.opersD ops (l ++ m) σ = (E.opersD ops l σ).bind (E.opersD ops m)
 | [], m, σ => rfl
 | x :: l, m, σ => by
  simp only [List.cons_append, Env.opersD]
  cases E.operD ops σ x with
  | none => rfl
  | some σ1 => simp only [Option.bind_some]; exact opersD_append
theorem Good.opers (hcalls : CallsOk E w0 mine) : ∀ {l : List Oper} {σ σ1 : St}, Good E w0 mine σ → E.opersD ops l σ = some σ1 → Good E w0 mine σ1
 | [], σ, σ1, hg, h => by
  simp only [Env.opersD, Option.some.injEq] at h
  rw [← h]
  exact hg
 | x :: l, σ, σ1, hg, h => by
  simp only [Env.opersD] at h
  obtain ⟨σ2, h1, h⟩ := Option.bind_eq_some_iff.1 h
  exact (hg.operX hcalls (operD_operX h1)).opers hcalls h
theorem no_own {x : Oper} {v : AV} {N : OM} {K : List Nat} {g : Bool} (h : Adds E ops x σ σ1 v N K g) (hs : softB x.op = false) : K = [] := by
 cases K with
 | nil => rfl
 | cons id K =>
  have := (h.own id (by simp)).1
  rw [hs] at this
  simp at this
theorem keepT (hcalls : CallsOk E w0 mine) {t : Nat} : ∀ {l : List Oper} {σ σ1 : St}, Good E w0 mine σ → E.opersD ops l σ = some σ1 → (∀ y ∈ l, freeB y.op = true ∧ softB y.op = false ∧ y.dst ≠ some t) → lk σ1.t t = lk σ.t t
 | [], σ, σ1, hg, h, _ => by
  simp only [Env.opersD, Option.some.injEq] at h
  rw [h]
 | x :: l, σ, σ1, hg, h, hl => by
  simp only [Env.opersD] at h
  obtain ⟨σ2, h1, h⟩ := Option.bind_eq_some_iff.1 h
  obtain ⟨k1, k2, k3⟩ := hl x (by simp)
  obtain ⟨v, N, K, g, hA, _⟩ := adds k1 hg.st hg.so h1
  rw [keepT hcalls (hg.operX hcalls (operD_operX h1)) h fun y hy => hl y (by simp [hy]), hA.here, act_t hg.st, if_neg k3, no_own hA k2, full_nil]
  cases lk σ.t t <;> simp [AV.offK]
theorem keepF (hcalls : CallsOk E w0 mine) {K : List Nat} : ∀ {l : List Oper} {σ σ1 : St}, Good E w0 mine σ → E.opersD ops l σ = some σ1 → (∀ y ∈ l, freeB y.op = true ∧ softB y.op = false) → full σ1.o K = full σ.o K
 | [], σ, σ1, hg, h, _ => by
  simp only [Env.opersD, Option.some.injEq] at h
  rw [h]
 | x :: l, σ, σ1, hg, h, hl => by
  simp only [Env.opersD] at h
  obtain ⟨σ2, h1, h⟩ := Option.bind_eq_some_iff.1 h
  obtain ⟨k1, k2⟩ := hl x (by simp)
  obtain ⟨v, N, K', g, hA, _⟩ := adds k1 hg.st hg.so h1
  rw [keepF hcalls (hg.operX hcalls (operD_operX h1)) h fun y hy => hl y (by simp [hy]), hA.here, no_own hA k2]
  exact full_act hg.so hA.srt hA.nol fun z hz => by
   have k := hA.keys z hz
   exact (hA.gap k.1).1 z.1 k.2.1 k.2.2
def MidL (ops : Array Oper) : List Oper → Prop
 | [] => True
 | y :: l => (∀ z ∈ y :: l, ∀ e, z.dst = some e → e ∉ y.looksAt ops) ∧ MidL ops l
theorem exB_spec {d e : Nat} (h : exB ops d e = true) {i j : Nat} {o q : Oper} (ho : ops[i]? = some o) (hq : ops[j]? = some q) (hod : o.dst = some d) (hqd : q.dst = some e) : j < i ∧ behind ops 4 o j = true := by
 unfold exB at h
 have hi : i < ops.size := by
  rcases Nat.lt_or_ge i ops.size with h' | h'
  ·exact h'
  ·rw [Array.getElem?_eq_none h'] at ho; cases ho
 have hj : j < ops.size := by
  rcases Nat.lt_or_ge j ops.size with h' | h'
  ·exact h'
  ·rw [Array.getElem?_eq_none h'] at hq; cases hq
 have h1 := List.all_eq_true.1 h i (List.mem_range.2 hi)
 rw [ho] at h1
 simp only [hod, bne_self_eq_false, Bool.false_or] at h1
 have h2 := List.all_eq_true.1 h1 j (List.mem_range.2 hj)
 rw [hq] at h2
 simp only [hqd, bne_self_eq_false, Bool.false_or, Bool.and_eq_true, decide_eq_true_eq] at h2
 exact h2
theorem soft_of {d : Nat} {l : List Operand} {K : List Nat} (h : softAt ops σ d l K = true) {q : Oper} (hq : q ∈ ops.toList) (hd : ∀ e, q.dst = some e → e ≠ d ∧ Operand.tmp e ∉ l) (hex : exQ ops d q.dst = false) : dstOff K q.dst = true ∧ ∀ t ∈ q.looksAt ops, ∀ v, lk σ.t t = some v → v.offK K = true := by
 unfold softAt at h
 have := List.all_eq_true.1 h q hq
 have ho : isOther d l q.dst = true := by
  unfold isOther
  cases hqd : q.dst with
  | none => rfl
  | some e =>
   obtain ⟨h1, h2⟩ := hd e hqd
   simp only [Bool.and_eq_true, bne_iff_ne, ne_eq, Bool.not_eq_true', List.any_eq_false]
   refine ⟨h1, fun x hx => ?_⟩
   cases x with
   | tmp t =>
    simp only [beq_iff_eq]
    intro e'
    subst e'
    exact h2 hx
   | _ => simp
 rw [ho, hex] at this
 simp only [Bool.not_true, Bool.false_or, Bool.and_eq_true, List.all_eq_true] at this
 refine ⟨this.1, fun t ht v hv => ?_⟩
 have := this.2 t ht
 rw [hv] at this
 exact this
theorem soft_mono {d : Nat} {l : List Operand} {K : List Nat} (h : softAt ops σ d l K = true) (hτ : ∀ t v, lk τ.t t = some v → lk σ.t t = some v ∨ v.offK K = true) : softAt ops τ d l K = true := by
 unfold softAt at h ⊢
 rw [List.all_eq_true] at h ⊢
 intro q hq
 have := h q hq
 simp only [Bool.or_eq_true, Bool.and_eq_true, List.all_eq_true] at this ⊢
 rcases this with h1 | ⟨h1, h2⟩
 ·exact .inl h1
 ·refine .inr ⟨h1, fun t ht => ?_⟩
  cases hl : lk τ.t t with
  | none => rfl
  | some v =>
   rcases hτ t v hl with h3 | h3
   ·have := h2 t ht
    rw [h3] at this
    exact this
   ·exact h3
theorem bubble (hcalls : CallsOk E w0 mine) {x : Oper} (hdx : isVal x.op = true ∨ x.dst.isSome = true) (hxm : x ∈ ops.toList) {v : AV} {N : OM} {K : List Nat} {g : Bool} : ∀ {l : List Oper} {σ σe σf : St}, E.opersD ops l σ = some σe → Good E w0 mine σ → Adds E ops x σe σf v N K g →
  (∀ y ∈ l, freeB y.op = true ∧ (isVal y.op = true ∨ y.dst.isSome = true) ∧ y.apart ops x = true ∧ (softB x.op = true → softB y.op = false)) → (softB x.op = true → MidL ops l) → (∀ y ∈ l, ∀ t ∈ y.looksAt ops, ∀ u, lk σe.t t = some u → u.offK (full σe.o K) = true) → (∀ y ∈ l, ∀ d, y.dst = some d → exQ ops d x.dst = false) →
  ∃ σ', Adds E ops x σ σ' v N K g ∧ E.opersD ops l σ' = some σf
 | [], σ, σe, σf, h, hg, hx, hl, hm, hc, hxs => by
  simp only [Env.opersD, Option.some.injEq] at h
  subst h
  exact ⟨σf, hx, rfl⟩
 | y :: l, σ, σe, σf, h, hg, hx, hl, hm, hc, hxs => by
  simp only [Env.opersD] at h
  obtain ⟨σ1, h1, h⟩ := Option.bind_eq_some_iff.1 h
  obtain ⟨f1, f2, f3, f4⟩ := hl y (by simp)
  obtain ⟨a1, a2, a3⟩ := Oper.apart_spec f3
  have hg1 := hg.operX hcalls (operD_operX h1)
  obtain ⟨σ1', k1, k2⟩ := bubble hcalls hdx hxm h hg1 hx (fun z hz => hl z (by simp [hz])) (fun q => (hm q).2) (fun z hz => hc z (by simp [hz])) (fun z hz => hxs z (by simp [hz]))
  obtain ⟨vy, Ny, Ky, gy, hy, hsy⟩ := adds f1 hg.st hg.so h1
  have hK : Ky = [] ∨ K = [] := by
   cases hsx : softB x.op with
   | true => exact .inl (no_own hy (f4 hsx))
   | false => exact .inr (no_own k1 hsx)
  have hsoft : ∀ id ∈ full σ.o Ky, dstOff (full σ.o Ky) x.dst = true ∧ ∀ t ∈ x.looksAt ops, ∀ u, lk σ.t t = some u → u.offK (full σ.o Ky) = true := fun id hid => by
   have hne : Ky ≠ [] := full_ne hid
   have hsb := hy.soft hne
   have hv : isVal y.op = false := by
    cases hop : y.op with
    | buildSlice t n ps => rfl
    | _ => rw [hop] at hsb; simp [softB] at hsb
   rw [hv] at f2
   simp only [Bool.false_eq_true, false_or] at f2
   obtain ⟨d, hd⟩ := Option.isSome_iff_exists.1 f2
   refine soft_of (hsy hne) hxm (fun e he => ⟨fun e' => ?_, fun h' => a3 e he (looks_tmp h')⟩) (by rw [hd, Option.getD_some]; exact hxs y (by simp) d hd)
   rw [hd, Option.getD_some] at e'
   exact a2 d hd (by rw [he, e'])
  obtain ⟨σ', s1, s2, s3, s4, s5⟩ := swap hcalls hg hy k1 hK f3 f2 hdx (fun t ht u hu => offK_iff.2 fun id hid => offK_iff.1 ((hsoft id hid).2 t ht u hu) id hid) (fun t ht u hu => offK_iff.2 fun id hid => by
   have hsb := k1.soft (full_ne hid)
   have eF : full σe.o K = full σ.o K := keepF hcalls (l := y :: l) hg (by simp only [Env.opersD]; rw [h1]; exact h) (fun z hz => ⟨(hl z hz).1, (hl z hz).2.2.2 hsb⟩)
   have e := keepT hcalls (t := t) (l := y :: l) hg (by simp only [Env.opersD]; rw [h1]; exact h) (fun z hz => ⟨(hl z hz).1, (hl z hz).2.2.2 hsb, fun e => (hm hsb).1 z hz t e ht⟩)
   exact offK_iff.1 (hc y (by simp) t ht u (by rw [e]; exact hu)) id (by rw [eF]; exact hid)) (fun id hid hgx hr => by
   have hd := (hsoft id hid).1
   have hvx := (k1.gap hgx).2
   rw [hvx] at hdx
   simp only [Bool.false_eq_true, false_or] at hdx
   obtain ⟨d, hd'⟩ := Option.isSome_iff_exists.1 hdx
   rw [hd'] at hd
   unfold Lo Hi at hr
   rw [hd'] at hr
   simp only [dstOff, List.all_eq_true] at hd
   have := hd id hid
   simp only [bne_iff_ne, ne_eq] at this
   exact this (site_div hr))
  have hg' : Good E w0 mine σ' := hg.operX hcalls (s1.run hg.st hg.so)
  refine ⟨σ', s1, ?_⟩
  simp only [Env.opersD]
  have hsm : Ky ≠ [] → softAt ops σ' (y.dst.getD 0) y.op.operands.toList (full σ'.o Ky) = true := fun hne => by
   rw [s5]
   refine soft_mono (hsy hne) fun t u hu => ?_
   rw [s3, act_t hg.st] at hu
   split at hu
   ·rename_i hd
    injection hu with hu
    subst hu
    exact .inr (s4 t hd)
   ·obtain ⟨u', h3, h4⟩ := Option.bind_eq_some_iff.1 hu
    split at h4
    ·injection h4 with h4
     subst h4
     exact .inl h3
    ·simp at h4
  rw [s2.runD hg'.st hg'.so hsm]
  exact k2
theorem lead_spec {q : Oper} (h : isLead q = true) : isEarly q = true ∧ ∃ k, q.op = .move (.tmp k) := by
 unfold isLead at h
 rw [Bool.and_eq_true] at h
 refine ⟨h.1, ?_⟩
 have h2 := h.2
 split at h2
 ·rename_i k hk
  exact ⟨k, hk⟩
 ·simp at h2
theorem barC_spec {y : Oper} (h : isBarC y = true) : isApp y = true ∧ freeB y.op = false ∧ ∀ σ : St, boxSto σ y.op = true := by
 unfold isBarC at h
 rw [Bool.and_eq_true] at h
 obtain ⟨h1, h2⟩ := h
 refine ⟨h1, ?_, ?_⟩
 ·unfold isApp at h1
  rw [Bool.and_eq_true] at h1
  have h3 := h1.2
  split at h2
  ·rename_i c hc
   rw [hc] at h3 ⊢
   split at h2
   ·rename_i x hx
    simp only [hx, Bool.and_eq_true] at h3
    simp only [freeB, hx, h3.1, Bool.not_true]
   ·simp at h2
  ·simp at h2
 ·intro σ
  split at h2
  ·rename_i c hc
   rw [hc]
   rfl
  ·simp at h2
theorem put_fil (hs : Srt σ.t) {g : AV → Bool} {o' : OM} {d : Nat} {v u : AV} {e : Option Nat} (hde : e ≠ some d) (hgd : g v = true) : ((⟨filt g σ.t, o'⟩ : St).put e u).put (some d) v = (⟨filt g (ins σ.t d v), o'⟩ : St).put e u := by
 have hs1 : Srt (ins σ.t d v) := srt_ins _ _ _ hs
 refine st_ext ?_ (by rw [put_o, put_o, put_o])
 cases e with
 | none =>
  show ins (filt g σ.t) d v = filt g (ins σ.t d v)
  refine srt_ext (srt_ins _ _ _ (srt_filt hs)) (srt_filt hs1) fun k => ?_
  rw [lk_ins, lkFt hs, lkFt hs1, lk_ins]
  by_cases hk : d = k
  ·subst hk
   rw [if_pos rfl, if_pos rfl, Option.bind_some, if_pos hgd]
  ·rw [if_neg hk, if_neg hk]
 | some e =>
  have hde' : d ≠ e := fun h => hde (by rw [h])
  show ins (ins (filt g σ.t) e u) d v = ins (filt g (ins σ.t d v)) e u
  refine srt_ext (srt_ins _ _ _ (srt_ins _ _ _ (srt_filt hs))) (srt_ins _ _ _ (srt_filt hs1)) fun k => ?_
  rw [lk_ins, lk_ins, lk_ins, lkFt hs, lkFt hs1, lk_ins]
  by_cases hk : d = k
  ·subst hk
   rw [if_pos rfl, if_neg (fun h => hde' h.symm), if_pos rfl, Option.bind_some, if_pos hgd]
  ·rw [if_neg hk, if_neg hk]
theorem lit_spec {q : Oper} (h : isLit q = true) : (∃ t n ps, q.op = .buildSlice t n ps ∧ softB (.buildSlice t n ps) = false) ∧ q.guard = none ∧ ∃ d, q.dst = some d := by
 unfold isLit at h
 split at h
 ·rename_i t n ps hop
  simp only [Bool.and_eq_true, Bool.not_eq_true', Option.isNone_iff_eq_none, Option.isSome_iff_exists] at h
  exact ⟨⟨t, n, ps, hop, h.2⟩, h.1.1.1, h.1.1.2⟩
 ·simp at h
theorem lead_or {q : Oper} (h : isLead q = true ∨ isLit q = true) : freeB q.op = true ∧ (isVal q.op = true ∨ q.dst.isSome = true) ∧ softB q.op = false := by
 rcases h with h | h
 ·obtain ⟨_, k0, hq⟩ := lead_spec h
  rw [hq]
  exact ⟨rfl, .inl rfl, rfl⟩
 ·obtain ⟨⟨t, n, ps, hq, hs⟩, _, d, hd⟩ := lit_spec h
  rw [hq, hd]
  exact ⟨rfl, .inr rfl, hs⟩
theorem leadAll_at {o p : Oper} (h : E.leadAll ops σ o σ' = true) (hp : p ∈ ops.toList) : E.leadOk ops σ o σ' p = true := by
 unfold Env.leadAll at h
 split at h
 ·exact List.all_eq_true.1 h p hp
 ·rename_i hn
  cases hl : isLit p with
  | true => exact absurd (List.any_eq_true.2 ⟨p, hp, hl⟩) hn
  | false =>
   unfold Env.leadOk
   rw [hl]
   rfl
theorem leadAll_of {o : Oper} (h : ∀ p ∈ ops.toList, E.leadOk ops σ o σ' p = true) : E.leadAll ops σ o σ' = true := by
 unfold Env.leadAll
 split
 ·exact List.all_eq_true.2 h
 ·rfl
theorem drop_lit {t : TypeId} {n : Nat} {ps : Array (Nat × Operand)} (hs : softB (.buildSlice t n ps) = false) : σ.dropFor (.buildSlice t n ps) = σ := by
 show (match σ.evp ps.toList with | some vs => σ.without (lkrs σ.o (evpIds vs)) | none => σ) = σ
 split
 ·rename_i vs hvs
  rw [soft_nil hs hvs, lkrs_nil, wo_nil]
 ·rfl
theorem not_absent {d : Nat} {ob : Obj} (h : lk σ.o (site d 0) = some ob) : σ.absent d = false := by
 cases ha : σ.absent d with
 | false => rfl
 | true =>
  unfold St.absent at ha
  have := List.all_eq_true.1 ha _ (lk_mem h)
  have h1 : ¬ site (d + 1) 0 ≤ site d 0 := by unfold site; omega
  change (decide (site d 0 < site d 0) || decide (site (d + 1) 0 ≤ site d 0)) = true at this
  rw [decide_eq_false (Nat.lt_irrefl _), decide_eq_false h1] at this
  simp at this
theorem move_id {c : C} (hc : c.ids = []) {t : TypeId} {x : T} {σ2 : St} (h : σ.move P t c = some (x, σ2)) : σ2 = σ ∧ ∀ τ : St, τ.move P t c = some (x, τ) := by
 cases c with
 | v y =>
  simp only [St.move, Option.some.injEq, Prod.mk.injEq] at h
  obtain ⟨rfl, rfl⟩ := h
  exact ⟨rfl, fun τ => rfl⟩
 | z =>
  simp only [St.move, Option.some.injEq, Prod.mk.injEq] at h
  obtain ⟨rfl, rfl⟩ := h
  exact ⟨rfl, fun τ => rfl⟩
 | sl id p n m => simp [C.ids] at hc
theorem moves_id : ∀ {ts : List TypeId} {cs : List C} {σ σ2 : St} {xs : List T}, csIds cs = [] → σ.moves P ts cs = some (xs, σ2) → σ2 = σ ∧ ∀ τ : St, τ.moves P ts cs = some (xs, τ)
 | t :: ts, c :: cs, σ, σ2, xs, hc, h => by
  simp only [csIds, List.append_eq_nil_iff] at hc
  simp only [St.moves] at h
  obtain ⟨⟨x, σ3⟩, h1, h⟩ := Option.bind_eq_some_iff.1 h
  obtain ⟨⟨ys, σ4⟩, h2, h⟩ := Option.bind_eq_some_iff.1 h
  simp only [Option.some.injEq, Prod.mk.injEq] at h
  obtain ⟨rfl, rfl⟩ := h
  obtain ⟨rfl, k1⟩ := move_id hc.1 h1
  obtain ⟨rfl, k2⟩ := moves_id hc.2 h2
  exact ⟨rfl, fun τ => by simp only [St.moves]; rw [k1 τ, Option.bind_some, k2 τ, Option.bind_some]⟩
 | [], [], σ, σ2, xs, hc, h => by
  simp only [St.moves, Option.some.injEq, Prod.mk.injEq] at h
  obtain ⟨rfl, rfl⟩ := h
  exact ⟨rfl, fun τ => rfl⟩
 | [], _ :: _, σ, σ2, xs, hc, h => by simp [St.moves] at h
 | _ :: _, [], σ, σ2, xs, hc, h => by simp [St.moves] at h
theorem cs_ids {v : AV} {cs : List C} (h : v.cs = some cs) (hv : v.ids = []) : csIds cs = [] := by
 cases v with
 | c x =>
  simp only [AV.cs, Option.some.injEq] at h
  subst h
  simpa [csIds, AV.ids] using hv
 | agg xs =>
  simp only [AV.cs, Option.some.injEq] at h
  subst h
  exact hv
 | _ => simp [AV.cs] at h
theorem rowOf_id {e : TypeId} : ∀ {vs : List (Nat × AV)} {i : Nat} {σ σ2 : St} {xs : List T}, evpIds vs = [] → σ.rowOf P e i vs = some (xs, σ2) → σ2 = σ ∧ ∀ τ : St, τ.rowOf P e i vs = some (xs, τ)
 | [], i, σ, σ2, xs, hc, h => by
  simp only [St.rowOf, Option.some.injEq, Prod.mk.injEq] at h
  obtain ⟨rfl, rfl⟩ := h
  exact ⟨rfl, fun τ => rfl⟩
 | (j, v) :: l, i, σ, σ2, xs, hc, h => by
  simp only [evpIds, List.append_eq_nil_iff] at hc
  simp only [St.rowOf] at h
  split at h
  ·rename_i hij
   obtain ⟨cs, h1, h⟩ := Option.bind_eq_some_iff.1 h
   split at h
   ·simp at h
   ·rename_i hlen
    obtain ⟨⟨ys, σ3⟩, h2, h⟩ := Option.bind_eq_some_iff.1 h
    obtain ⟨⟨zs, σ4⟩, h3, h⟩ := Option.bind_eq_some_iff.1 h
    simp only [Option.some.injEq, Prod.mk.injEq] at h
    obtain ⟨rfl, rfl⟩ := h
    obtain ⟨rfl, k1⟩ := moves_id (cs_ids h1 hc.1) h2
    obtain ⟨rfl, k2⟩ := rowOf_id hc.2 h3
    exact ⟨rfl, fun τ => by
     simp only [St.rowOf]
     rw [if_pos hij, h1, Option.bind_some, if_neg hlen, k1 τ, Option.bind_some, k2 τ, Option.bind_some]⟩
  ·simp at h
theorem ev_const {x : Operand} (h : isTmp x = false) : τ.ev x = σ.ev x := by
 cases x with
 | tmp t => simp [isTmp] at h
 | const v => cases v <;> rfl
 | func f => rfl
 | global g => rfl
theorem evp_const : ∀ {l : List (Nat × Operand)}, (∀ x ∈ l, isTmp x.2 = false) → τ.evp l = σ.evp l
 | [], _ => rfl
 | (i, x) :: l, h => by
  have e1 : τ.ev x = σ.ev x := ev_const (h (i, x) (by simp))
  have e2 : τ.evp l = σ.evp l := evp_const fun y hy => h y (by simp [hy])
  simp only [St.evp]
  rw [e1, e2]
theorem absent_none {d : Nat} (h : σ.absent d = true) : lk σ.o (site d 0) = none := by
 cases hl : lk σ.o (site d 0) with
 | none => rfl
 | some ob =>
  rw [not_absent hl] at h
  simp at h
theorem new_none {id : Nat} {ob : Obj} (h : lk τ.o id = none) : τ.new id ob = ⟨τ.t, ins τ.o id ob⟩ := by
 unfold St.new St.kill
 simp only [h]
/-- What a literal of constants does. -/
theorem lit_run {q : Oper} (hq : isLit q = true) (h : E.oper ops σ q = some σ1) : ∃ e vl ob, q.dst = some e ∧ ∀ τ : St, lk τ.o (site e 0) = none → E.oper ops τ q = some ⟨ins τ.t e vl, ins τ.o (site e 0) ob⟩ := by
 obtain ⟨⟨t, n, ps, hop, hs⟩, hg, d, hd⟩ := lit_spec hq
 have hw : ∀ τ : St, τ.want ops q.guard = some true := fun τ => by rw [hg]; rfl
 unfold Env.oper at h
 split at h
 ·rename_i hn
  rw [hw, Option.bind_some, if_pos rfl, hop, hd, Option.getD_some] at h
  obtain ⟨⟨r, ρ2⟩, k1, k2⟩ := Option.bind_eq_some_iff.1 h
  simp only [Env.op] at k1
  split at k1
  ·rename_i e hu
   split at k1
   ·rename_i hc
    obtain ⟨vs, k3, k1⟩ := Option.bind_eq_some_iff.1 k1
    split at k1
    ·rename_i hlen
     obtain ⟨⟨xs, ρ3⟩, k4, k5⟩ := Option.bind_eq_some_iff.1 k1
     obtain ⟨_, k6⟩ := rowOf_id (soft_nil hs k3) k4
     have hct : ∀ x ∈ ps.toList, isTmp x.2 = false := fun x hx => by
      cases hx' : isTmp x.2 with
      | false => rfl
      | true =>
       have : softB (.buildSlice t n ps) = true := List.any_eq_true.2 ⟨x, hx, hx'⟩
       rw [hs] at this
       simp at this
     refine ⟨d, .c (.sl (site d 0) [] 0 n), ⟨.own, e, xs⟩, hd, fun τ hτ => ?_⟩
     unfold Env.oper
     rw [if_pos hn, hw, Option.bind_some, if_pos rfl, hop, hd, Option.getD_some]
     simp only [Env.op, hu]
     rw [if_pos hc, evp_const (σ := σ) hct, k3, Option.bind_some, if_pos hlen, k6 τ, Option.bind_some]
     simp only [Option.bind_some, Option.getD_some]
     rw [new_none hτ]
     rfl
    ·simp at k1
   ·simp at k1
  ·simp at k1
 ·simp at h
theorem ins_comm {α : Type} {t : List (Nat × α)} (hs : Srt t) {d e : Nat} (hde : d ≠ e) {u v : α} : ins (ins t e u) d v = ins (ins t d v) e u := by
 refine srt_ext (srt_ins _ _ _ (srt_ins _ _ _ hs)) (srt_ins _ _ _ (srt_ins _ _ _ hs)) fun k => ?_
 rw [lk_ins, lk_ins, lk_ins, lk_ins]
 by_cases h1 : d = k
 ·subst h1
  rw [if_pos rfl, if_neg (fun h => hde h.symm), if_pos rfl]
 ·rw [if_neg h1, if_neg h1]
theorem absent_put {d : Option Nat} {v : AV} {e : Nat} : (σ.put d v).absent e = σ.absent e := by
 unfold St.absent
 rw [put_o]
/-- A move and the call that it is listed behind change places. -/
theorem swapL (hs : Srt σ.t) {q y : Oper} (hq : isLead q = true) (hy : isBarC y = true) (hap : q.apart ops y = true) (hself : ∀ d, q.dst = some d → d ∉ q.looksAt ops) (hbef : ∀ r ∈ ops.toList, (isLit r = true → ∃ e, r.dst = some e ∧ q.dst ≠ some e ∧ e ∉ q.looksAt ops) ∧ (aftB ops y r = true ∨ (r.dst ≠ q.dst ∧ ∀ e, q.dst = some e → e ∉ r.looksAt ops)))
  (h1 : E.operD ops σ y = some σ1) (h2 : E.operD ops σ1 q = some σ2) : ∃ τ', E.operD ops σ q = some τ' ∧ E.operD ops τ' y = some σ2 := by
 obtain ⟨a1, a2, a3⟩ := Oper.apart_spec hap
 obtain ⟨hqe, k0, hqo⟩ := lead_spec hq
 obtain ⟨hya, hyf, hyb⟩ := barC_spec hy
 rw [early_operD hqe] at h2
 obtain ⟨d, v, hd, hdn, e1, rfl⟩ := early_oper hqe h2
 unfold Env.operD at h1
 rw [if_neg (by rw [hyf]; simp)] at h1
 obtain ⟨σ1', h3, h4⟩ := Option.bind_eq_some_iff.1 h1
 unfold Env.staysAll at h4
 split at h4
 rotate_left
 ·simp at h4
 rename_i hst
 injection h4 with h4
 subst h4
 obtain ⟨r, σ3, hen, e2, hσ1⟩ := app_oper hya h3
 have hde : y.dst ≠ some d := fun h => a2 d hd h
 have e2' : E.op ⟨σ.t, σ.o⟩ (y.dst.getD 0) y.op = some (r, σ3) := e2
 obtain ⟨g, o', hσ3, hall⟩ := app_op (ops := ops) hya (hyb _) e2'
 subst hσ3
 have hk0 : k0 ∈ q.looksAt ops := looks_tmp (by rw [hqo]; simp [Op.operands])
 have hkd : y.dst ≠ some k0 := fun h => a3 k0 h hk0
 have hev : lk σ1'.t k0 = some v := by
  rw [hqo] at e1
  simp only [Env.op] at e1
  obtain ⟨v', hv', e1⟩ := Option.bind_eq_some_iff.1 e1
  simp only [Option.some.injEq, Prod.mk.injEq] at e1
  obtain ⟨rfl, _⟩ := e1
  exact hv'
 have hev2 : lk (filt g σ.t) k0 = some v := by
  rw [hσ1, put_lk, if_neg hkd] at hev
  exact hev
 obtain ⟨l1, hgd⟩ := lk_filt hs hev2
 have m1 : E.op σ d q.op = some (some v, σ) := by
  rw [hqo]
  simp only [Env.op, St.ev]
  rw [l1]
  rfl
 have m2 := early_put (ops := ops) hqe hd hdn m1
 have e3 := hall (ins σ.t d v) (fun k hk => by
  rw [lk_ins, if_neg]
  intro h
  exact a1 d hd (by rw [h]; exact hk))
 have m3 := app_put (ops := ops) hya hen (σ := σ.put (some d) v) e3
 rw [← put_fil hs hde hgd, ← hσ1] at m3
 refine ⟨_, by rw [early_operD hqe]; exact m2, ?_⟩
 unfold Env.operD
 rw [if_neg (by rw [hyf]; simp), m3, Option.bind_some]
 unfold Env.staysAll
 rw [if_pos]
 rw [hya] at hst ⊢
 simp only [Bool.not_true, Bool.false_or, Bool.and_eq_true, List.all_eq_true] at hst ⊢
 refine ⟨⟨hyb _, fun p hp => ?_⟩, leadAll_of fun p hp => ?_⟩
 rotate_left
 ·have hle := leadAll_at hst.2 hp
  unfold Env.leadOk at hle ⊢
  rw [absent_put, absent_put]
  cases hpl : isLit p with
  | false => rfl
  | true =>
   rw [hpl] at hle
   obtain ⟨e0, he0, hd0, hk00⟩ := (hbef p hp).1 hpl
   cases ha : σ1'.absent (p.dst.getD 0) with
   | false => rfl
   | true =>
    rw [ha] at hle
    simp only [Bool.not_true, Bool.false_or, decide_eq_true_eq] at hle ⊢
    obtain ⟨a0, heq, hso⟩ := hle
    obtain ⟨ρ', hρ'⟩ := Option.isSome_iff_exists.1 hso
    rw [hρ'] at heq
    obtain ⟨ρ, q1, q2⟩ := Option.bind_eq_some_iff.1 heq
    have q2 : E.oper ops ρ y = some ρ' := q2
    obtain ⟨e, vl, ob, he, hrun⟩ := lit_run hpl q1
    rw [he0] at he
    injection he with he
    subst he
    rw [he0, Option.getD_some] at ha a0
    have n0 := absent_none a0
    have n1 := absent_none ha
    have r1 := hrun σ n0
    rw [q1] at r1
    injection r1 with r1
    subst r1
    have r2 := hrun σ1' n1
    rw [hρ'] at r2
    injection r2 with r2
    have hne : d ≠ e0 := fun h => hd0 (by rw [hd, h])
    have hke : e0 ≠ k0 := fun h => hk00 (by rw [h]; exact hk0)
    have hs1 : Srt σ1'.t := by
     rw [hσ1]
     cases y.dst with
     | none => exact srt_filt hs
     | some yd => exact srt_ins _ _ _ (srt_filt hs)
    have hse : Srt (ins σ.t e0 vl) := srt_ins _ _ _ hs
    have s1 := hrun (σ.put (some d) v) n0
    have s2 := hrun (σ1'.put (some d) v) n1
    obtain ⟨r3, σ5, hen', p1, p2⟩ := app_oper hya q2
    obtain ⟨g2, o2, hσ5, hall2⟩ := app_op (ops := ops) hya (hyb _) p1
    subst hσ5
    have hg2 : g2 v = true := by
     have hv2 : lk ρ'.t k0 = some v := by
      rw [r2]
      show lk (ins σ1'.t e0 vl) k0 = some v
      rw [lk_ins, if_neg hke]
      exact hev
     rw [p2, put_lk, if_neg hkd] at hv2
     exact (lk_filt hse hv2).2
    have p3 := hall2 (ins (ins σ.t e0 vl) d v) (fun k hk => by
     rw [lk_ins, if_neg]
     intro h
     exact a1 d hd (by rw [h]; exact hk))
    have p4 := app_put (ops := ops) hya hen' (σ := ⟨ins (ins σ.t e0 vl) d v, ins σ.o (site e0 0) ob⟩) p3
    have p5 : ((⟨filt g2 (ins σ.t e0 vl), o2⟩ : St).put y.dst (r3.getD .u)).put (some d) v = (⟨filt g2 (ins (ins σ.t e0 vl) d v), o2⟩ : St).put y.dst (r3.getD .u) := put_fil (σ := ⟨ins σ.t e0 vl, ins σ.o (site e0 0) ob⟩) hse hde hg2
    rw [← p5, ← p2, r2] at p4
    refine ⟨by rw [he0, Option.getD_some]; exact a0, ?_, by rw [s2]; rfl⟩
    rw [s1, s2]
    show E.oper ops ⟨ins (ins σ.t d v) e0 vl, ins σ.o (site e0 0) ob⟩ y = _
    rw [← ins_comm hs hne, p4]
    show some (⟨ins (ins σ1'.t e0 vl) d v, ins σ1'.o (site e0 0) ob⟩ : St) = some ⟨ins (ins σ1'.t d v) e0 vl, ins σ1'.o (site e0 0) ob⟩
    rw [ins_comm hs1 hne]
 have := hst.1.2 p hp
 simp only [Bool.or_eq_true] at this ⊢
 rcases this with ((h | h) | h) | h
 ·exact .inl (.inl (.inl h))
 ·rcases (hbef p hp).2 with h' | ⟨n1, n2⟩
  ·exact .inr h'
  ·cases hpe : isEarly p with
   | false => exact .inl (.inl (.inl (by simp)))
   | true =>
    refine .inl (.inl (.inr ?_))
    have hpd : ∃ e, p.dst = some e := by
     have := hpe
     unfold isEarly at this
     simp only [Bool.and_eq_true, Option.isSome_iff_exists] at this
     exact this.1.2
    obtain ⟨e, he⟩ := hpd
    have hne : d ≠ e := fun h => n1 (by rw [he, hd, h])
    unfold Env.stays at h ⊢
    rw [he, Option.getD_some] at h ⊢
    rw [lk_off hne, lk_off hne]
    split at h
    ·rfl
    ·rename_i v0 hv0
     simp only [Bool.and_eq_true] at h ⊢
     refine ⟨h.1, ?_⟩
     have h2 := h.2
     split at h2
     ·rename_i v' σx hop
      obtain ⟨v2, hv2, _, hag⟩ := early_op (ops := ops) hpe hop
      injection hv2 with hv2
      subst hv2
      rw [hag (σ1'.put (some d) v) put_o fun k hk => lk_off fun h => n2 d hd (by rw [h]; exact hk)]
      exact h2
     ·simp at h2
 ·exact .inl (.inr h)
 ·exact .inr h
/-- A literal of constants and the call that it is listed behind change places. -/
theorem swapI {q y : Oper} (hq : isLit q = true) (hqm : q ∈ ops.toList) (hy : isBarC y = true) (hr : ∀ r ∈ ops.toList, (aftB ops y r = true ∨ ordB ops y r = true ∨ (isEarly r && r.apart ops y) = false ∨ (r.dst ≠ q.dst ∧ ∀ e, q.dst = some e → e ∉ r.looksAt ops)) ∧ (isLit r = true → r.dst = q.dst))
  (h1 : E.operD ops σ y = some σ1) (h2 : E.operD ops σ1 q = some σ2) : ∃ τ', E.operD ops σ q = some τ' ∧ E.operD ops τ' y = some σ2 := by
 obtain ⟨⟨t, n, ps, hop, hs⟩, hg, d, hd⟩ := lit_spec hq
 obtain ⟨hya, hyf, hyb⟩ := barC_spec hy
 have hw : ∀ τ : St, τ.want ops q.guard = some true := fun τ => by rw [hg]; rfl
 have hfq : freeB q.op = true := by rw [hop]; rfl
 have hdr : ∀ τ : St, τ.dropFor q.op = τ := fun τ => by rw [hop]; exact drop_lit hs
 unfold Env.operD at h1
 rw [if_neg (by rw [hyf]; simp)] at h1
 obtain ⟨σ1', h3, h4⟩ := Option.bind_eq_some_iff.1 h1
 unfold Env.staysAll at h4
 split at h4
 rotate_left
 ·simp at h4
 rename_i hst
 injection h4 with h4
 subst h4
 unfold Env.operD at h2
 rw [if_pos hfq, hw, Option.bind_some, if_pos rfl, hdr] at h2
 split at h2
 rotate_left
 ·simp at h2
 rename_i hfr
 have hab : σ1'.absent d = true := by
  rw [hop, hd, Option.getD_some] at hfr
  unfold Env.free at hfr
  simp only [Bool.and_eq_true] at hfr
  exact hfr.1
 rw [hya] at hst
 simp only [Bool.not_true, Bool.false_or, Bool.and_eq_true, List.all_eq_true] at hst
 have hle := leadAll_at hst.2 hqm
 unfold Env.leadOk at hle
 rw [hq, hd, Option.getD_some, hab] at hle
 simp only [Bool.not_true, Bool.false_or, Bool.or_false, decide_eq_true_eq] at hle
 obtain ⟨hab0, hle, _⟩ := hle
 rw [h2] at hle
 obtain ⟨τ', m1, m2⟩ := Option.bind_eq_some_iff.1 hle
 have m2 : E.oper ops τ' y = some σ2 := m2
 -- what the literal makes is there
 have made : ∀ {ρ ρ' : St}, E.oper ops ρ q = some ρ' → (∃ vs, ρ.evp ps.toList = some vs) ∧ ∃ ob, lk ρ'.o (site d 0) = some ob := fun {ρ ρ'} h => by
  unfold Env.oper at h
  split at h
  ·rw [hw, Option.bind_some, if_pos rfl, hop, hd, Option.getD_some] at h
   obtain ⟨⟨r, ρ2⟩, k1, k2⟩ := Option.bind_eq_some_iff.1 h
   injection k2 with k2
   simp only [Env.op] at k1
   split at k1
   ·rename_i e hu
    split at k1
    ·obtain ⟨vs, k3, k1⟩ := Option.bind_eq_some_iff.1 k1
     split at k1
     ·obtain ⟨⟨xs, ρ3⟩, k4, k5⟩ := Option.bind_eq_some_iff.1 k1
      simp only [Option.some.injEq, Prod.mk.injEq] at k5
      obtain ⟨_, rfl⟩ := k5
      refine ⟨⟨vs, k3⟩, ⟨.own, e, xs⟩, ?_⟩
      rw [← k2, put_o]
      show lk (ins _ _ _) _ = _
      rw [lk_ins, if_pos rfl]
     ·simp at k1
    ·simp at k1
   ·simp at k1
  ·simp at h
 obtain ⟨⟨vs, hvs⟩, _⟩ := made m1
 obtain ⟨_, ob, hob⟩ := made h2
 have hfr0 : E.free ops σ (q.dst.getD 0) q.op = true := by
  rw [hop, hd, Option.getD_some]
  show (σ.absent d && (match σ.evp ps.toList with | some vs => softOk ops σ d (ps.toList.map (·.2)) (evpIds vs) | none => false)) = true
  rw [hab0, hvs]
  simp only [Bool.true_and]
  unfold softOk
  rw [soft_nil hs hvs]
  rfl
 refine ⟨τ', ?_, ?_⟩
 ·unfold Env.operD
  rw [if_pos hfq, hw, Option.bind_some, if_pos rfl, if_pos hfr0, hdr]
  exact m1
 ·unfold Env.operD
  rw [if_neg (by rw [hyf]; simp), m2, Option.bind_some]
  unfold Env.staysAll
  rw [if_pos]
  rw [hya]
  simp only [Bool.not_true, Bool.false_or, Bool.and_eq_true, List.all_eq_true]
  refine ⟨⟨hyb _, fun p hp => ?_⟩, leadAll_of fun p hp => ?_⟩
  ·simp only [Bool.or_eq_true]
   rcases (hr p hp).1 with h | h | h | ⟨n1, n2⟩
   ·exact .inr h
   ·exact .inl (.inr h)
   ·exact .inl (.inl (.inl (by rw [h]; rfl)))
   ·have hsp := hst.1.2 p hp
    simp only [Bool.or_eq_true] at hsp
    rcases hsp with ((h | h) | h) | h
    ·exact .inl (.inl (.inl h))
    rotate_left
    ·exact .inl (.inr h)
    ·exact .inr h
    cases hpe : isEarly p with
    | false => exact .inl (.inl (.inl (by simp)))
    | true =>
     refine .inl (.inl (.inr ?_))
     obtain ⟨e, vl, ob, he, hrun⟩ := lit_run hq m1
     rw [hd] at he
     injection he with he
     subst he
     have z0 := absent_none hab0
     have z1 := absent_none hab
     have r1 := hrun σ z0
     rw [m1] at r1
     injection r1 with r1
     have r2 := hrun σ1' z1
     rw [h2] at r2
     injection r2 with r2
     have hpd : ∃ e, p.dst = some e := by
      have := hpe
      unfold isEarly at this
      simp only [Bool.and_eq_true, Option.isSome_iff_exists] at this
      exact this.1.2
     obtain ⟨e, he⟩ := hpd
     have hne : d ≠ e := fun h => n1 (by rw [he, hd, h])
     unfold Env.stays at h ⊢
     rw [he, Option.getD_some] at h ⊢
     have u1 : lk τ'.t e = lk σ.t e := by rw [r1]; show lk (ins _ _ _) _ = _; rw [lk_ins, if_neg hne]
     have u2 : lk σ2.t e = lk σ1'.t e := by rw [r2]; show lk (ins _ _ _) _ = _; rw [lk_ins, if_neg hne]
     rw [u1, u2]
     split at h
     ·rfl
     ·rename_i v0 hv0
      simp only [Bool.and_eq_true] at h ⊢
      refine ⟨h.1, ?_⟩
      have h2 := h.2
      split at h2
      ·rename_i v' σx hop'
       obtain ⟨v2, hv2, _, hag⟩ := early_ext (ops := ops) hpe hop'
       injection hv2 with hv2
       subst hv2
       rw [hag σ2 (fun id ob' hob => by
        rw [r2]
        show lk (ins _ _ _) _ = _
        rw [lk_ins, if_neg (fun h => by rw [← h, z1] at hob; simp at hob)]
        exact hob) (fun k hk => by
        rw [r2]
        show lk (ins _ _ _) _ = _
        rw [lk_ins, if_neg (fun h => n2 d hd (by rw [h]; exact hk))])]
       exact h2
      ·simp at h2
  ·unfold Env.leadOk
   cases hpl : isLit p with
   | false => rfl
   | true =>
    rw [(hr p hp).2 hpl, hd, Option.getD_some, not_absent hob]
    rfl
/-- What may come ahead of that call. -/
def LeadC (ops : Array Oper) (y x : Oper) : Prop := (isLead x = true ∧ (∀ d, x.dst = some d → d ∉ x.looksAt ops) ∧ ∀ r ∈ ops.toList, (isLit r = true → ∃ e, r.dst = some e ∧ x.dst ≠ some e ∧ e ∉ x.looksAt ops) ∧ (aftB ops y r = true ∨ (r.dst ≠ x.dst ∧ ∀ e, x.dst = some e → e ∉ r.looksAt ops))) ∨ (isLit x = true ∧ ∀ r ∈ ops.toList, (aftB ops y r = true ∨ ordB ops y r = true ∨ (isEarly r && r.apart ops y) = false ∨ (r.dst ≠ x.dst ∧ ∀ e, x.dst = some e → e ∉ r.looksAt ops)) ∧ (isLit r = true → r.dst = x.dst))
/-- A move comes first, ahead of calls too. -/
theorem bubbleM (hcalls : CallsOk E w0 mine) {x : Oper} (hx : isLead x = true ∨ isLit x = true) (hxm : x ∈ ops.toList) : ∀ {l : List Oper} {σ σe σf : St}, E.opersD ops l σ = some σe → Good E w0 mine σ → E.operD ops σe x = some σf →
  (∀ y ∈ l, (freeB y.op = true ∧ (isVal y.op = true ∨ y.dst.isSome = true) ∧ y.apart ops x = true ∧ (∀ d, y.dst = some d → exQ ops d x.dst = false)) ∨ (isBarC y = true ∧ x.apart ops y = true ∧ LeadC ops y x)) →
  ∃ σ', E.operD ops σ x = some σ' ∧ E.opersD ops l σ' = some σf
 | [], σ, σe, σf, h, hg, hd, hl => by
  simp only [Env.opersD, Option.some.injEq] at h
  subst h
  exact ⟨σf, hd, rfl⟩
 | y :: l, σ, σe, σf, h, hg, hd, hl => by
  simp only [Env.opersD] at h
  obtain ⟨σ1, h1, h⟩ := Option.bind_eq_some_iff.1 h
  have hg1 := hg.operX hcalls (operD_operX h1)
  obtain ⟨τ1, k1, k2⟩ := bubbleM hcalls hx hxm h hg1 hd (fun z hz => hl z (by simp [hz]))
  obtain ⟨hxf, hxv, hxs⟩ := lead_or hx
  rcases hl y (by simp) with ⟨f1, f2, f3, f4⟩ | ⟨f1, f2, f3⟩
  ·obtain ⟨v, N, K, g, hx1, hsx⟩ := adds hxf hg1.st hg1.so k1
   have hK := no_own hx1 hxs
   obtain ⟨σ', b1, b2⟩ := bubble hcalls hxv hxm (l := [y]) (by simp only [Env.opersD]; rw [h1]; rfl) hg hx1 (fun z hz => by
    rw [List.mem_singleton] at hz
    subst hz
    exact ⟨f1, f2, f3, fun h => by rw [hxs] at h; simp at h⟩) (fun h => by rw [hxs] at h; simp at h) (fun z hz t ht u hu => by
    rw [hK, full_nil]
    rfl) (fun z hz => by
    rw [List.mem_singleton] at hz
    subst hz
    exact f4)
   refine ⟨σ', b1.runD hg.st hg.so (fun h => absurd hK h), ?_⟩
   simp only [Env.opersD] at b2 ⊢
   obtain ⟨σ2, b3, b4⟩ := Option.bind_eq_some_iff.1 b2
   injection b4 with b4
   subst b4
   rw [b3]
   exact k2
  ·obtain ⟨τ', m1, m2⟩ : ∃ τ', E.operD ops σ x = some τ' ∧ E.operD ops τ' y = some τ1 := by
    rcases f3 with ⟨g1, g2, g3⟩ | ⟨g1, g2⟩
    ·exact swapL hg.st g1 f1 f2 g2 g3 h1 k1
    ·exact swapI g1 hxm f1 g2 h1 k1
   refine ⟨τ', m1, ?_⟩
   simp only [Env.opersD]
   rw [m2]
   exact k2
/-! ### the static check -/
theorem lt_of {ops : Array Oper} {k : Nat} {x : Oper} (h : ops[k]? = some x) : k < ops.size := (Array.getElem?_eq_some_iff.1 h).1
/-! ### the static check -/
theorem ok_at {ops : Array Oper} (hok : regionOk ops = true) {y : Nat} {p : Oper} (hy : ops[y]? = some p) :
  (∀ e ∈ p.after, Region.binds .any e = true → e.on < y) ∧ (freeB p.op = true → (isVal p.op = true ∨ p.dst.isSome = true) ∧ ∀ x, x < y → isFree ops x = true → noBar ops x y = true → pairOk ops x y = true) ∧
  (freeB p.op = false → (∀ x, x < y → hasAfter p x = true ∨ (lateAt ops x = true ∧ covers ops p x = true) ∨ behind ops 14 p x = true ∨ mayPass ops x y = true) ∧ ∀ z q, y < z → ops[z]? = some q → hasAfter q y = true ∨ behind ops 4 q y = true ∨ mayLead ops y z = true) := by
 unfold regionOk at hok
 have h := List.all_eq_true.1 hok y (List.mem_range.2 (lt_of hy))
 rw [hy] at h
 simp only [Bool.and_eq_true] at h
 obtain ⟨⟨h1, _⟩, h3⟩ := h
 refine ⟨fun e he hb => ?_, fun hf => ?_, fun hf => ?_⟩
 ·have := Array.all_eq_true_iff_forall_mem.1 h1 e he
  rw [hb] at this
  simpa using this
 ·rw [if_pos hf] at h3
  simp only [Bool.and_eq_true, Bool.or_eq_true, List.all_eq_true, List.mem_range, Bool.not_eq_true'] at h3
  refine ⟨h3.1, fun x hx hx1 hx2 => ?_⟩
  have := h3.2 x hx
  rw [hx1, hx2] at this
  simpa using this
 ·rw [if_neg (by rw [hf]; simp)] at h3
  simp only [Bool.and_eq_true, List.all_eq_true, List.mem_range, Bool.or_eq_true, Bool.not_eq_true', decide_eq_false_iff_not] at h3
  refine ⟨fun x hx => ?_, fun z q hz hq => ?_⟩
  ·rcases h3.1 x hx with ((h | h) | h) | h
   ·exact .inl h
   ·exact .inr (.inl h)
   ·exact .inr (.inr (.inl h))
   ·exact .inr (.inr (.inr h))
  ·have := h3.2 z (lt_of hq)
   rw [hq] at this
   rcases this with this | this
   ·exact absurd hz this
   ·simp only [Bool.or_eq_true] at this
    rcases this with (this | this) | this
    ·exact .inl this
    ·exact .inr (.inl this)
    ·exact .inr (.inr this)
theorem no_select {ops : Array Oper} (hok : regionOk ops = true) (j : Nat) (o : Oper) (cs : Array SelectCase) (b : Bool) (ho : ops[j]? = some o) : o.op ≠ .select cs b := by
 intro e
 unfold regionOk at hok
 have h := List.all_eq_true.1 hok j (List.mem_range.2 (lt_of ho))
 rw [ho] at h
 simp [e] at h
theorem late_at {ops : Array Oper} {x : Nat} {o : Oper} (hx : ops[x]? = some o) (h : lateAt ops x = true) : isLate o = true ∧ ∀ (j : Nat) (q : Oper), ops[j]? = some q → j ≠ x → hasAfter o j = false → (∀ e ∈ q.after, Region.binds .any e = true → e.on ≠ x) → o.apart ops q = true := by
 unfold lateAt at h
 rw [hx] at h
 simp only [Bool.and_eq_true] at h
 refine ⟨h.1, fun j q hj hne hna hno => ?_⟩
 have := List.all_eq_true.1 h.2 j (List.mem_range.2 (lt_of hj))
 rw [hj, hna] at this
 simp only [Bool.or_eq_true, beq_iff_eq, hne, false_or, Bool.false_eq_true] at this
 rcases this with h1 | h1
 ·unfold hasAfter at h1
  obtain ⟨e, he, hb⟩ := Array.any_eq_true'.1 h1
  simp only [Bool.and_eq_true, beq_iff_eq] at hb
  exact absurd hb.2 (hno e he hb.1)
 ·exact h1
/-- Its value, in every memory. -/
theorem late_yields (h : Cor E.P w0 mine τ a w loc O R) (hn : a.tmps.size = E.n) {ops : Array Oper} {x : Oper} (hl : isLate x = true) (ho : E.oper ops τ x = some σ') : ∃ v, Yields E.P ops x v a ∧ Cor E.P w0 mine σ' (a.put x.dst v) w loc O R := by
 unfold isLate at hl
 rw [Bool.and_eq_true] at hl
 obtain ⟨hg, hop⟩ := hl
 split at hop
 ·rename_i t i hxo
  have hg : x.guard = none := by simpa using hg
  unfold Env.oper at ho
  split at ho
  ·rename_i hd
   rw [show τ.want ops x.guard = some true by rw [hg]; rfl] at ho
   simp only [Option.bind_some, if_pos] at ho
   rw [hxo] at ho
   simp only [Env.op] at ho
   cases hv : τ.ev (.tmp t) with
   | none => rw [hv] at ho; simp at ho
   | some av =>
    rw [hv] at ho
    cases av with
    | tup vs =>
     simp only at ho
     cases hp : vs[i]? with
     | none => rw [hp] at ho; simp at ho
     | some p =>
      rw [hp] at ho
      simp only [Option.bind_some, Option.some.injEq, Option.getD_some] at ho
      subst ho
      have hr := rep_ev h.tm hv
      rw [RepAV] at hr
      obtain ⟨us, he, hr⟩ := hr
      obtain ⟨u, hu, hrep⟩ := repAVs_get hr hp
      refine ⟨u, .inl ⟨by unfold Region.wanted; rw [hg], fun w => ?_⟩, ?_⟩
      ·unfold execOp
       rw [hxo]
       simp [he, Instr.extract, hu]
      ·cases hdst : x.dst with
       | none => exact h
       | some d =>
        rw [hdst] at hd
        exact h.put (by rw [hn]; exact hd) hrep
    | _ => simp at ho
  ·simp at ho
 ·simp at hop
theorem free_of {ops : Array Oper} {k : Nat} {x : Oper} (h : ops[k]? = some x) : isFree ops k = freeB x.op := by unfold isFree; rw [h]
theorem noBar_of {ops : Array Oper} {x y : Nat} (h : ∀ z, x < z → z < y → isFree ops z = true ∨ mayPass ops x z = true ∨ mayLead ops z y = true) : noBar ops x y = true := by
 unfold noBar
 rw [List.all_eq_true]
 intro z hz
 rw [List.mem_range] at hz
 by_cases hxz : x < z
 ·rcases h z hxz hz with h | h | h <;> simp [h]
 ·simp [hxz]
/-- What is listed. -/
def Lst (listed : Array Bool) (k : Nat) : Prop := listed.getD k false = true
theorem lst_lt {listed : Array Bool} {k : Nat} (h : Lst listed k) : k < listed.size := by
 unfold Lst at h
 rcases Nat.lt_or_ge k listed.size with h' | h'
 ·exact h'
 ·simp [Array.getElem?_eq_none h'] at h
theorem lst_not {listed : Array Bool} {k : Nat} (hk : k < listed.size) (h : ¬ Lst listed k) : listed.getD k true = false := by
 unfold Lst at h
 simp [hk] at h ⊢
 exact h
theorem not_lst {listed : Array Bool} {k : Nat} (h : listed.getD k true = false) : ¬ Lst listed k := by
 intro h'
 have hk := lst_lt h'
 unfold Lst at h'
 simp [hk] at h h'
 rw [h] at h'
 simp at h'
theorem lst_set {listed : Array Bool} {i k : Nat} (hi : i < listed.size) : Lst (listed.setIfInBounds i true) k ↔ Lst listed k ∨ k = i := by
 unfold Lst
 by_cases h : i = k
 ·subst h
  simp [hi]
 ·rw [getD_set_ne false h]
  exact ⟨.inl, fun h' => h'.resolve_right (fun e => h e.symm)⟩
theorem after_of {p : Oper} {j : Nat} (h : hasAfter p j = true) : ∃ e ∈ p.after, Region.binds .any e = true ∧ e.on = j := by
 unfold hasAfter at h
 obtain ⟨e, he, hb⟩ := Array.any_eq_true'.1 h
 simp only [Bool.and_eq_true, beq_iff_eq] at hb
 exact ⟨e, he, hb.1, hb.2⟩
theorem behind_listed {listed : Array Bool} (hcl : ∀ k p, Lst listed k → ops[k]? = some p → ∀ j, hasAfter p j = true → Lst listed j) : ∀ {n : Nat} {p : Oper} {j : Nat}, (∀ k, hasAfter p k = true → Lst listed k) → behind ops n p j = true → Lst listed j
 | 0, p, j, hp, h => hp j h
 | n + 1, p, j, hp, h => by
  simp only [behind, Bool.or_eq_true] at h
  rcases h with h | h
  ·exact hp j h
  ·obtain ⟨e, he, hb⟩ := Array.any_eq_true'.1 h
   simp only [Bool.and_eq_true] at hb
   obtain ⟨h1, h2⟩ := hb
   have hL : Lst listed e.on := hp e.on (by
    unfold hasAfter
    exact Array.any_eq_true'.2 ⟨e, he, by simp [h1]⟩)
   split at h2
   ·rename_i q hq
    exact behind_listed hcl (fun k hk => hcl e.on q hL hq k hk) h2
   ·simp at h2
theorem mid_of : ∀ {l : List Nat}, l.Pairwise (· < ·) → (∀ j ∈ l, ∀ k ∈ l, j ≤ k → ∀ y z, ops[j]? = some y → ops[k]? = some z → ∀ e, z.dst = some e → e ∉ y.looksAt ops) → MidL ops (l.filterMap fun k => ops[k]?)
 | [], _, _ => trivial
 | j :: l, hp, h => by
  obtain ⟨h1, h2⟩ := List.pairwise_cons.1 hp
  have ih := mid_of h2 fun j hj k hk => h j (by simp [hj]) k (by simp [hk])
  cases hy : ops[j]? with
  | none => rw [List.filterMap_cons_none hy]; exact ih
  | some y =>
   rw [List.filterMap_cons_some hy]
   refine ⟨fun z hz e he => ?_, ih⟩
   rcases List.mem_cons.1 hz with rfl | hz
   ·exact h j (by simp) j (by simp) (Nat.le_refl _) _ _ hy hy e he
   ·obtain ⟨k, hk, hkz⟩ := List.mem_filterMap.1 hz
    exact h j (by simp) k (by simp [hk]) (Nat.le_of_lt (h1 k hk)) _ _ hy hkz e he
theorem draws_sound (hcalls : CallsOk E w0 mine) (hm : E.P.follows .mixedOrders = true) : DrawsOk E w0 mine := by
 intro rid ops σ σ1 a w loc O R Q h hn hok ho hQ
 have hop : ∀ k, k < ops.size → ∃ p, ops[k]? = some p := fun k hk => ⟨ops[k], Array.getElem?_eq_getElem hk⟩
 refine wp_region_noPanic (wp_region_any hm ?_)
 have main : ∀ (fuel : Nat) (listed : Array Bool) (L : List Nat) (τ : St) (a' : Act) (w' : World) (loc' : Nat → Value) (O' R' : Nat → List Nat), listed.size = ops.size → L.Pairwise (· < ·) → (∀ k, k ∈ L ↔ k < ops.size ∧ ¬ Lst listed k) → L.length ≤ fuel → (∀ k p, Lst listed k → ops[k]? = some p → ∀ j, hasAfter p j = true → Lst listed j) → (∀ z p, Lst listed z → ops[z]? = some p → freeB p.op = false → ∀ j, j < z → Lst listed j ∨ mayPass ops j z = true) →
   E.opersD ops (L.filterMap fun k => ops[k]?) τ = some σ1 → Cor E.P w0 mine τ a' w' loc' O' R' → a'.tmps.size = E.n → a'.defers = a.defers → wpAny E.P .any ops (NoPanic Q) fuel listed a' w' := by
  intro fuel
  induction fuel with
  | zero =>
   intro listed L τ a' w' loc' O' R' hsz hpw hmem hf hcl hbar hrun hc hn' hd
   have hL : L = [] := List.eq_nil_of_length_eq_zero (by omega)
   subst hL
   simp only [List.filterMap_nil, Env.opersD, Option.some.injEq] at hrun
   subst hrun
   refine ⟨?_, NoPanic.normal (hQ a' w' loc' O' R' hc hn' hd)⟩
   cases hr : Region.ready .any ops listed with
   | nil => rfl
   | cons i l =>
    have hi : i ∈ Region.ready .any ops listed := by rw [hr]; simp
    obtain ⟨h1, p, hp, _⟩ := mem_ready.1 hi
    have := (hmem i).2 ⟨lt_of hp, not_lst h1⟩
    simp at this
  | succ fuel ih =>
   intro listed L τ a' w' loc' O' R' hsz hpw hmem hf hcl hbar hrun hc hn' hd
   -- one that is ready
   have pick : ∀ i, i ∈ Region.ready .any ops listed → ∀ x, ops[i]? = some x → ∃ l1 l2, L = l1 ++ i :: l2 ∧ (∀ j ∈ l1, j < i ∧ j < ops.size ∧ ¬ Lst listed j) ∧ (l1 ++ l2).Pairwise (· < ·) ∧ l1.Pairwise (· < ·) ∧ (∀ k, k ∈ l1 ++ l2 ↔ k < ops.size ∧ ¬ Lst (listed.setIfInBounds i true) k) ∧ (l1 ++ l2).length ≤ fuel ∧ (∀ k, hasAfter x k = true → Lst listed k) ∧ (∀ k p, Lst (listed.setIfInBounds i true) k → ops[k]? = some p → ∀ j, hasAfter p j = true → Lst (listed.setIfInBounds i true) j) := by
    intro i hi x hx
    obtain ⟨h1, x0, hx0, haft⟩ := mem_ready.1 hi
    rw [hx] at hx0
    injection hx0 with hx0
    subst hx0
    have hD := not_lst h1
    have hin := lt_of hx
    have hready : ∀ k, hasAfter x k = true → Lst listed k := fun k hk => by
     obtain ⟨e, he, hbd, rfl⟩ := after_of hk
     exact haft e he hbd
    obtain ⟨l1, l2, e⟩ := List.append_of_mem ((hmem i).2 ⟨hin, hD⟩)
    rw [e] at hpw
    have hlt1 : ∀ j ∈ l1, j < i := fun j hj => (List.pairwise_append.1 hpw).2.2 j hj i (by simp)
    have hlt2 : ∀ j ∈ l2, i < j := fun j hj => (List.pairwise_cons.1 (List.pairwise_append.1 hpw).2.1).1 j hj
    refine ⟨l1, l2, e, fun j hj => ⟨hlt1 j hj, (hmem j).1 (by rw [e]; simp [hj])⟩, hpw.sublist (by simp), (List.pairwise_append.1 hpw).1, fun k => ?_, by rw [e] at hf; simp at hf ⊢; omega, hready, fun k p hk hp j hj => ?_⟩
    ·rw [lst_set (by omega)]
     have hk := hmem k
     rw [e] at hk
     simp only [List.mem_append, List.mem_cons] at hk ⊢
     constructor
     ·intro h'
      have hki : k ≠ i := fun e' => by
       subst e'
       rcases h' with h' | h'
       ·exact absurd (hlt1 k h') (Nat.lt_irrefl _)
       ·exact absurd (hlt2 k h') (Nat.lt_irrefl _)
      have := hk.1 (h'.elim .inl fun h => .inr (.inr h))
      exact ⟨this.1, fun h' => h'.elim this.2 hki⟩
     ·intro ⟨h2, h3⟩
      rcases hk.2 ⟨h2, fun h' => h3 (.inl h')⟩ with h4 | h4 | h4
      ·exact .inl h4
      ·exact absurd (.inr h4) h3
      ·exact .inr h4
    ·rw [lst_set (by omega)] at hk ⊢
     rcases hk with hk | rfl
     ·exact .inl (hcl k p hk hp j hj)
     ·rw [hx] at hp
      injection hp with hp
      subst hp
      exact .inl (hready j hj)
   -- a free one that is ready comes first
   have free : ∀ i, i ∈ Region.ready .any ops listed → ∀ x, ops[i]? = some x → freeB x.op = true → ∃ (τ' : St) (L' : List Nat), E.operX ops τ x = some τ' ∧ E.opersD ops (L'.filterMap fun k => ops[k]?) τ' = some σ1 ∧ L'.Pairwise (· < ·) ∧ (∀ k, k ∈ L' ↔ k < ops.size ∧ ¬ Lst (listed.setIfInBounds i true) k) ∧ L'.length ≤ fuel ∧ (∀ k p, Lst (listed.setIfInBounds i true) k → ops[k]? = some p → ∀ j, hasAfter p j = true → Lst (listed.setIfInBounds i true) j) ∧ (∀ z p, Lst (listed.setIfInBounds i true) z → ops[z]? = some p → freeB p.op = false → ∀ j, j < z → Lst (listed.setIfInBounds i true) j ∨ mayPass ops j z = true) := by
    intro i hi x hx hfx
    obtain ⟨l1, l2, e, hl1, hpw', hpw1, hmem', hlen', hready, hcl'⟩ := pick i hi x hx
    have hin := lt_of hx
    obtain ⟨o1, o2, _⟩ := ok_at hok hx
    have hlead : ∀ j ∈ l1, ∀ y, ops[j]? = some y → freeB y.op = true ∨ mayLead ops j i = true := by
     intro j hj y hy
     obtain ⟨q1, q2, q3⟩ := hl1 j hj
     cases hfy : freeB y.op with
     | true => exact .inl rfl
     | false =>
      refine .inr ?_
      rcases ((ok_at hok hy).2.2 hfy).2 i x q1 hx with h' | h' | h'
      ·exact absurd (hready j h') q3
      ·exact absurd (behind_listed hcl hready h') q3
      ·exact h'
    have st0 : ∀ j ∈ l1, ∀ y, ops[j]? = some y → freeB y.op = true → (isVal y.op = true ∨ y.dst.isSome = true) ∧ y.apart ops x = true ∧ (softB x.op = true → softB y.op = false ∧ midOk ops j i y = true) := by
     intro j hj y hy hfy
     obtain ⟨q1, q2, q3⟩ := hl1 j hj
     have hnb : noBar ops j i = true := noBar_of fun z h1 h2 => by
      obtain ⟨p, hp⟩ := hop z (by omega)
      rw [free_of hp]
      cases hfp : freeB p.op with
      | true => exact .inl rfl
      | false =>
       refine .inr ?_
       rcases ((ok_at hok hp).2.2 hfp).2 i x h2 hx with h' | h' | h'
       ·exact .inl ((hbar z p (hready z h') hp hfp j h1).resolve_left q3)
       ·exact .inl ((hbar z p (behind_listed hcl hready h') hp hfp j h1).resolve_left q3)
       ·exact .inr h'
     have hpr := (o2 hfx).2 j q1 (by rw [free_of hy]; exact hfy) hnb
     unfold pairOk at hpr
     rw [hy, hx] at hpr
     simp only [Bool.and_eq_true, Bool.or_eq_true, Bool.not_eq_true'] at hpr
     refine ⟨((ok_at hok hy).2.1 hfy).1, ?_⟩
     rcases hpr.2 with (h' | h') | h'
     ·exact absurd (hready j h') q3
     ·exact ⟨h'.1, fun hs => h'.2.resolve_left (by rw [hs]; simp)⟩
     ·exact absurd (behind_listed hcl hready h') q3
    have hfm : (l1 ++ i :: l2).filterMap (fun k => ops[k]?) = l1.filterMap (fun k => ops[k]?) ++ x :: l2.filterMap fun k => ops[k]? := by
     rw [List.filterMap_append, List.filterMap_cons_some hx]
    rw [e, hfm, opersD_append] at hrun
    obtain ⟨σe, r1, hrun⟩ := Option.bind_eq_some_iff.1 hrun
    simp only [Env.opersD] at hrun
    obtain ⟨σf, r2, r3⟩ := Option.bind_eq_some_iff.1 hrun
    have hg : Good E w0 mine τ := ⟨a', w', loc', O', R', hc, hn'⟩
    have hge := hg.opers hcalls r1
    obtain ⟨v, N, K, g, hx1, hsx⟩ := adds hfx hge.st hge.so r2
    have hxm : x ∈ ops.toList := Array.mem_toList_iff.2 (Array.mem_of_getElem? hx)
    have fin : ∀ τ' : St, E.operX ops τ x = some τ' → E.opersD ops (l1.filterMap fun k => ops[k]?) τ' = some σf → ∃ (τ' : St) (L' : List Nat), E.operX ops τ x = some τ' ∧ E.opersD ops (L'.filterMap fun k => ops[k]?) τ' = some σ1 ∧ L'.Pairwise (· < ·) ∧ (∀ k, k ∈ L' ↔ k < ops.size ∧ ¬ Lst (listed.setIfInBounds i true) k) ∧ L'.length ≤ fuel ∧ (∀ k p, Lst (listed.setIfInBounds i true) k → ops[k]? = some p → ∀ j, hasAfter p j = true → Lst (listed.setIfInBounds i true) j) ∧ (∀ z p, Lst (listed.setIfInBounds i true) z → ops[z]? = some p → freeB p.op = false → ∀ j, j < z → Lst (listed.setIfInBounds i true) j ∨ mayPass ops j z = true) := fun τ' c1 b2 => by
     refine ⟨τ', l1 ++ l2, c1, ?_, hpw', hmem', hlen', hcl', fun z p hz hp hfp j hj => ?_⟩
     ·rw [List.filterMap_append, opersD_append, b2]
      exact r3
     ·rw [lst_set (by omega)] at hz ⊢
      rcases hz with hz | rfl
      ·exact (hbar z p hz hp hfp j hj).imp_left .inl
      ·rw [hx] at hp
       injection hp with hp
       subst hp
       rw [hfx] at hfp
       simp at hfp
    by_cases hxl : ∃ j ∈ l1, mayLead ops j i = true
    ·obtain ⟨j0, hj0, hm0⟩ := hxl
     have lead : ∀ j y, mayLead ops j i = true → ops[j]? = some y → isBarC y = true ∧ (isLead x = true ∨ isLit x = true) ∧ x.apart ops y = true ∧ LeadC ops y x := fun j y hm hy => by
      unfold mayLead at hm
      rw [hy, hx] at hm
      simp only [Bool.and_eq_true, Bool.or_eq_true] at hm
      obtain ⟨⟨n1, n3⟩, n2⟩ := hm
      have offq : ∀ {d : Option Nat} {r : Oper}, offQ ops d r = true → r.dst ≠ d ∧ ∀ e, d = some e → e ∉ r.looksAt ops := fun {d r} h => by
       unfold offQ at h
       simp only [Bool.and_eq_true, bne_iff_ne, ne_eq] at h
       refine ⟨h.1, fun e he hm => ?_⟩
       have h2 := h.2
       rw [he] at h2
       simp [hm] at h2
      rcases n2 with ⟨n2, n5⟩ | ⟨⟨n2, n4⟩, n5⟩
      ·unfold leadL at n5
       simp only [List.all_eq_true, Bool.and_eq_true, Bool.or_eq_true, Bool.not_eq_true', beq_iff_eq] at n5
       refine ⟨n1, .inr n2, n3, .inr ⟨n2, fun r hr => ?_⟩⟩
       obtain ⟨m1, m2⟩ := n5 r hr
       refine ⟨?_, fun h => m2.resolve_left (by rw [h]; simp)⟩
       rcases m1 with ((m1 | m1) | m1) | m1
       ·exact .inl m1
       ·exact .inr (.inl m1)
       ·exact .inr (.inr (.inl m1))
       ·exact .inr (.inr (.inr (offq m1)))
      ·simp only [List.all_eq_true, Bool.and_eq_true, Bool.or_eq_true, bne_iff_ne, ne_eq, Bool.not_eq_true'] at n5
       refine ⟨n1, .inl n2, n3, .inl ⟨n2, fun d hd => ?_, fun r hr => ⟨fun hl => ?_, (n5 r hr).2.imp_right fun h => ⟨h.1, fun e he hm => ?_⟩⟩⟩⟩
       ·intro hm
        rw [hd] at n4
        simp [hm] at n4
       ·have h1 := (n5 r hr).1.resolve_left (by rw [hl]; simp)
        obtain ⟨e, he⟩ := Option.isSome_iff_exists.1 h1.1
        have h3 := offq h1.2
        exact ⟨e, he, fun h => h3.1 (by rw [h, he]), h3.2 e he⟩
       ·have h2 := h.2
        rw [he] at h2
        simp [hm] at h2
     obtain ⟨y0, hy0⟩ := hop j0 (hl1 j0 hj0).2.1
     obtain ⟨_, hxL, _, _⟩ := lead j0 y0 hm0 hy0
     obtain ⟨τ', b1, b2⟩ := bubbleM hcalls hxL hxm r1 hg r2 (fun y hy => by
      obtain ⟨j, hj, hjy⟩ := List.mem_filterMap.1 hy
      cases hfy : freeB y.op with
      | true =>
       obtain ⟨s2, s3, s4⟩ := st0 j hj y hjy hfy
       refine .inl ⟨rfl, s2, s3, fun d hyd => ?_⟩
       cases hxd : x.dst with
       | none => rfl
       | some e =>
        show exB ops d e = false
        cases hxx : exB ops d e with
        | false => rfl
        | true =>
         have k1 := (exB_spec hxx hjy hx hyd hxd).1
         have k2 := (hl1 j hj).1
         omega
      | false =>
       have hm := (hlead j hj y hjy).resolve_left (by rw [hfy]; simp)
       obtain ⟨n1, _, n3, n5⟩ := lead j y hm hjy
       exact .inr ⟨n1, n3, n5⟩)
     exact fin τ' (operD_operX b1) b2
    have st : ∀ j ∈ l1, ∀ y, ops[j]? = some y → freeB y.op = true ∧ (isVal y.op = true ∨ y.dst.isSome = true) ∧ y.apart ops x = true ∧ (softB x.op = true → softB y.op = false ∧ midOk ops j i y = true) := fun j hj y hy => by
     have hfy := (hlead j hj y hy).resolve_right fun h => hxl ⟨j, hj, h⟩
     exact ⟨hfy, st0 j hj y hy hfy⟩
    have hl : ∀ y ∈ l1.filterMap (fun k => ops[k]?), ∃ j ∈ l1, ops[j]? = some y := fun y hy => List.mem_filterMap.1 hy
    obtain ⟨τ', b1, b2⟩ := bubble hcalls (o2 hfx).1 hxm r1 hg hx1 (fun y hy => by
     obtain ⟨j, hj, hjy⟩ := hl y hy
     obtain ⟨s1, s2, s3, s4⟩ := st j hj y hjy
     exact ⟨s1, s2, s3, fun q => (s4 q).1⟩) (fun hs => mid_of hpw1 fun j hj k hk hjk y z hy hz e he hm => by
     have := (st j hj y hy).2.2.2 hs
     have hm' := this.2
     unfold midOk at hm'
     have := List.all_eq_true.1 hm' k (List.mem_range.2 (hl1 k hk).1)
     rw [hz] at this
     simp only [he, Bool.or_eq_true, decide_eq_true_eq, Bool.not_eq_true'] at this
     rcases this with h' | h'
     ·omega
     ·simp [hm] at h') (fun y hy t ht u hu => offK_iff.2 fun id hid => by
     obtain ⟨j, hj, hjy⟩ := hl y hy
     obtain ⟨s1, s2, s3, s4⟩ := st j hj y hjy
     obtain ⟨a1, a2, a3⟩ := Oper.apart_spec s3
     have hne : K ≠ [] := full_ne hid
     have hsb := hx1.soft hne
     have hv : isVal x.op = false := by
      cases hop : x.op with
      | buildSlice t n ps => rfl
      | _ => rw [hop] at hsb; simp [softB] at hsb
     have hdx := (o2 hfx).1
     rw [hv] at hdx
     simp only [Bool.false_eq_true, false_or] at hdx
     obtain ⟨d, hd'⟩ := Option.isSome_iff_exists.1 hdx
     refine offK_iff.1 ((soft_of (hsx hne) (q := y) (Array.mem_toList_iff.2 (Array.mem_of_getElem? hjy)) (fun e he => ⟨fun e' => ?_, fun h' => a1 e he (looks_tmp h')⟩) (by
      rw [hd', Option.getD_some]
      cases hyd : y.dst with
      | none => rfl
      | some e =>
       show exB ops d e = false
       cases hxx : exB ops d e with
       | false => rfl
       | true => exact absurd (behind_listed hcl hready (exB_spec hxx hx hjy hd' hyd).2) (hl1 j hj).2.2)).2 t ht u hu) id hid
     rw [hd', Option.getD_some] at e'
     exact a2 e he (by rw [hd', e'])) (fun y hy d hyd => by
     obtain ⟨j, hj, hjy⟩ := hl y hy
     cases hxd : x.dst with
     | none => rfl
     | some e =>
      show exB ops d e = false
      cases hxx : exB ops d e with
      | false => rfl
      | true =>
       have k1 := (exB_spec hxx hjy hx hyd hxd).1
       have k2 := (hl1 j hj).1
       omega)
    exact fin τ' (b1.run hg.st hg.so) b2
   by_cases hlate : ∃ i, i ∈ Region.ready .any ops listed ∧ lateAt ops i = true
   ·obtain ⟨i, hi, hl⟩ := hlate
    obtain ⟨h1, x, hx, haft⟩ := mem_ready.1 hi
    obtain ⟨hil, hap⟩ := late_at hx hl
    have hfx : freeB x.op = true := by
     unfold isLate at hil
     rw [Bool.and_eq_true] at hil
     have hop := hil.2
     split at hop
     ·rename_i t i' hxo
      rw [hxo]
      rfl
     ·simp at hop
    obtain ⟨τ', L', k1, k2, k3, k4, k5, k6, k7⟩ := free i hi x hx hfx
    obtain ⟨u, hy, hc2⟩ := late_yields hc hn' hil (by rw [← operX_eq (fun t n ps e => by unfold isLate at hil; rw [e] at hil; simp at hil)]; exact k1)
    exact wpAny_first hx (no_select hok) (fun c a w h => h) fuel listed a' w' (fun j q hj hne hun hno => hap j q hj hne (by
     cases hja : hasAfter x j with
     | false => rfl
     | true =>
      obtain ⟨e, he, hbd, rfl⟩ := after_of hja
      exact absurd (haft e he hbd) (not_lst hun)) hno) hi hy (ih (listed.setIfInBounds i true) L' _ _ w' loc' O' R' (by simpa using hsz) k3 k4 k5 k6 k7 k2 hc2 (by rw [put_size]; exact hn') ((put_defers _ _ _).trans hd))
   refine ⟨fun hr => ?_, fun i hi => ?_⟩
   ·have hall : ∀ k, k < ops.size → Lst listed k := by
     intro k
     induction k using Nat.strongRecOn with
     | ind k ihk =>
      intro hk
      refine Classical.byContradiction fun hL => ?_
      obtain ⟨p, hp⟩ := hop k hk
      have hmem : k ∈ Region.ready .any ops listed := mem_ready.2 ⟨lst_not (by omega) hL, p, hp, fun e he hbd => ihk e.on ((ok_at hok hp).1 e he hbd) (by have := (ok_at hok hp).1 e he hbd; omega)⟩
      rw [hr] at hmem
      simp at hmem
    have hL : L = [] := by
     cases L with
     | nil => rfl
     | cons k L =>
      have := (hmem k).1 (by simp)
      exact absurd (hall k this.1) this.2
    subst hL
    simp only [List.filterMap_nil, Env.opersD, Option.some.injEq] at hrun
    subst hrun
    exact NoPanic.normal (hQ a' w' loc' O' R' hc hn' hd)
   ·obtain ⟨h1, x, hx, haft⟩ := mem_ready.1 hi
    by_cases hfx : freeB x.op = true
    ·obtain ⟨τ', L', k1, k2, k3, k4, k5, k6, k7⟩ := free i hi x hx hfx
     show wpOp E.P ops (NoPanic Q) i _ a' w'
     unfold wpOp
     rw [hx]
     exact operX_step hcalls hc hn' k1 fun a2 w2 loc2 O2 R2 hc2 hn2 hd2 =>
      ih (listed.setIfInBounds i true) L' _ a2 w2 loc2 O2 R2 (by simpa using hsz) k3 k4 k5 k6 k7 k2 hc2 hn2 (hd2.trans hd)
    ·have hfx : freeB x.op = false := by simpa using hfx
     obtain ⟨c1, c2⟩ := (ok_at hok hx).2.2 hfx
     obtain ⟨l1, l2, e, hl1, hpw', hpw1, hmem', hlen', hready, hcl'⟩ := pick i hi x hx
     have hin := lt_of hx
     have hall : ∀ j, j < i → Lst listed j ∨ mayPass ops j i = true := fun j hj => by
      rcases c1 j hj with h' | h' | h' | h'
      ·exact .inl (hready j h')
      ·refine .inl (Classical.byContradiction fun hnj => hlate ?_)
       obtain ⟨q, hq⟩ := hop j (by omega)
       refine ⟨j, mem_ready.2 ⟨lst_not (by omega) hnj, q, hq, fun e he hbd => ?_⟩, h'.1⟩
       have hcv := h'.2
       unfold covers at hcv
       rw [hq] at hcv
       have := Array.all_eq_true_iff_forall_mem.1 hcv e he
       rw [hbd] at this
       exact hready e.on (by simpa using this)
      ·exact .inl (behind_listed hcl hready h')
      ·exact .inr h'
     have hl1p : ∀ j ∈ l1, mayPass ops j i = true := fun j hj => (hall j (hl1 j hj).1).resolve_left (hl1 j hj).2.2
     have hfm : (l1 ++ i :: l2).filterMap (fun k => ops[k]?) = l1.filterMap (fun k => ops[k]?) ++ x :: l2.filterMap fun k => ops[k]? := by
      rw [List.filterMap_append, List.filterMap_cons_some hx]
     rw [e, hfm, opersD_append] at hrun
     obtain ⟨σe, r0, hrun⟩ := Option.bind_eq_some_iff.1 hrun
     simp only [Env.opersD] at hrun
     obtain ⟨σf, r1, r2⟩ := Option.bind_eq_some_iff.1 hrun
     have r1' := r1
     unfold Env.operD at r1'
     rw [if_neg (by rw [hfx]; simp)] at r1'
     obtain ⟨σf', r3, r4⟩ := Option.bind_eq_some_iff.1 r1'
     unfold Env.staysAll at r4
     split at r4
     rotate_left
     ·simp at r4
     rename_i hst
     injection r4 with r4
     subst r4
     have hpass : ∃ τ', E.oper ops τ x = some τ' ∧ E.opersD ops (l1.filterMap fun k => ops[k]?) τ' = some σf' := by
      cases hl1c : l1 with
      | nil =>
       rw [hl1c] at r0
       simp only [List.filterMap_nil, Env.opersD, Option.some.injEq] at r0
       subst r0
       exact ⟨σf', r3, rfl⟩
      | cons j0 l0 =>
       rw [← hl1c]
       have hm0 := hl1p j0 (by rw [hl1c]; simp)
       have pass : ∀ j q, mayPass ops j i = true → ops[j]? = some q → isApp x = true ∧ isEarly q = true ∧ q.apart ops x = true ∧ ∀ z r, z < i → ¬ z < j → ops[z]? = some r → ∀ e, r.dst = some e → e ∉ q.looksAt ops ∧ (z = j ∨ q.dst ≠ some e) := fun j q hm hjq => by
        unfold mayPass at hm
        rw [hjq, hx] at hm
        simp only [Bool.and_eq_true] at hm
        obtain ⟨⟨⟨n1, n2⟩, n3⟩, n4⟩ := hm
        refine ⟨n1, n2, n3, fun z r hz hzj hr e he => ?_⟩
        have := List.all_eq_true.1 n4 z (List.mem_range.2 hz)
        rw [hr] at this
        simp only [he, Bool.or_eq_true, decide_eq_true_eq, hzj, false_or, Bool.and_eq_true, Bool.not_eq_true', beq_iff_eq, bne_iff_ne, ne_eq] at this
        exact ⟨fun hm => by simp [hm] at this, this.2⟩
       obtain ⟨q0, hq0⟩ := hop j0 (hl1 j0 (by rw [hl1c]; simp)).2.1
       have happ := (pass j0 q0 hm0 hq0).1
       rw [happ] at hst
       simp only [Bool.not_true, Bool.false_or, Bool.and_eq_true] at hst
       obtain ⟨⟨hbx, hst⟩, _⟩ := hst
       refine bubbleB happ hc.st r0 hbx r3 (fun q hq => ?_) ?_
       ·obtain ⟨j, hj, hjq⟩ := List.mem_filterMap.1 hq
        obtain ⟨n1, n2, n3, n4⟩ := pass j q (hl1p j hj) hjq
        have hji := (hl1 j hj).1
        refine ⟨n2, n3, fun d hd => (n4 j q hji (Nat.lt_irrefl _) hjq d hd).1, ?_⟩
        have := List.all_eq_true.1 hst q (Array.mem_toList_iff.2 (Array.mem_of_getElem? hjq))
        rw [n2, n3] at this
        simp only [Bool.and_self, Bool.not_true, Bool.false_or, Bool.or_eq_true] at this
        rcases this with (h' | h') | h'
        ·exact h'
        rotate_left
        ·exfalso
         unfold aftB at h'
         have := List.all_eq_true.1 h' i (List.mem_range.2 hin)
         rw [hx] at this
         simp only [bne_self_eq_false, Bool.false_or] at this
         have := List.all_eq_true.1 this j (List.mem_range.2 (hl1 j hj).2.1)
         rw [hjq] at this
         simp only [bne_self_eq_false, Bool.false_or, decide_eq_true_eq] at this
         omega
        ·exfalso
         have := List.all_eq_true.1 h' j (List.mem_range.2 (hl1 j hj).2.1)
         rw [hjq] at this
         simp only [bne_self_eq_false, Bool.false_or, Bool.or_eq_true] at this
         rcases this with h' | h'
         ·exact (hl1 j hj).2.2 (hready j h')
         ·exact (hl1 j hj).2.2 (behind_listed hcl hready h')
       ·have key : ∀ (l : List Nat), (∀ j ∈ l, j ∈ l1) → l.Pairwise (· < ·) → (l.filterMap fun k => ops[k]?).Pairwise fun q r => ∀ e, r.dst = some e → e ∉ q.looksAt ops ∧ q.dst ≠ some e := by
         intro l
         induction l with
         | nil => intro _ _; simp
         | cons j l ihl =>
          intro hin hpw2
          obtain ⟨p1, p2⟩ := List.pairwise_cons.1 hpw2
          obtain ⟨q, hjq⟩ := hop j (hl1 j (hin j (by simp))).2.1
          rw [List.filterMap_cons_some hjq]
          refine List.pairwise_cons.2 ⟨fun r hr e he => ?_, ihl (fun k hk => hin k (by simp [hk])) p2⟩
          obtain ⟨k, hk, hkr⟩ := List.mem_filterMap.1 hr
          obtain ⟨n1, n2, n3, n4⟩ := pass j q (hl1p j (hin j (by simp))) hjq
          have hjk := p1 k hk
          obtain ⟨m1, m2⟩ := n4 k r (hl1 k (hin k (by simp [hk]))).1 (by omega) hkr e he
          exact ⟨m1, m2.resolve_left (by omega)⟩
        exact key l1 (fun _ h => h) hpw1
     obtain ⟨τ', b1, b2⟩ := hpass
     show wpOp E.P ops (NoPanic Q) i _ a' w'
     unfold wpOp
     rw [hx]
     exact oper_step hcalls hc hn' b1 fun a2 w2 loc2 O2 R2 hc2 hn2 hd2 =>
      ih (listed.setIfInBounds i true) (l1 ++ l2) _ a2 w2 loc2 O2 R2 (by simpa using hsz) hpw' hmem' hlen' hcl' (fun z p hz hp hfp j hj => by
       rw [lst_set (by omega)] at hz ⊢
       rcases hz with hz | rfl
       ·exact (hbar z p hz hp hfp j hj).imp_left .inl
       ·exact (hall j hj).imp_left .inl) (by rw [List.filterMap_append, opersD_append, b2]; exact r2) hc2 hn2 (hd2.trans hd)
 have hno : ∀ k, ¬ Lst (Array.replicate ops.size false) k := fun k hk => by
  have := lst_lt hk
  unfold Lst at hk
  simp at this
  simp [this] at hk
 refine main ops.size (Array.replicate ops.size false) (List.range ops.size) σ a _ loc O R (by simp) List.pairwise_lt_range (fun k => ⟨fun hk => ⟨List.mem_range.1 hk, hno k⟩, fun hk => List.mem_range.2 hk.1⟩) (by simp) (fun k p hk => absurd hk (hno k)) (fun z p hz => absurd hz (hno z)) ?_ ?_ hn rfl
 ·have : (List.range ops.size).filterMap (fun k => ops[k]?) = ops.toList := by
   have key : ∀ n, n ≤ ops.size → (List.range n).filterMap (fun k => ops[k]?) = ops.toList.take n := by
    intro n
    induction n with
    | zero => intro _; rfl
    | succ n ih =>
     intro hn
     have hk : ops[n]? = some ops[n] := Array.getElem?_eq_getElem (by omega)
     rw [List.range_succ, List.filterMap_append, ih (by omega), List.take_add_one, List.filterMap_cons_some hk, Array.getElem?_toList, hk]
     rfl
   rw [key ops.size (Nat.le_refl _)]
   exact List.take_of_length_le (by simp)
  rw [this]
  exact ho
 exact h.grow (Nat.le_refl _) ⟨rfl, rfl, rfl⟩ (fun _ _ => rfl)
theorem sound {gd : Guard} {M : Mach} (hM : MachOk gd M) (k : Nat) : Sound gd M.P (M.run k) :=
 mach_sound hM (fun n run hs w0 mine hgd => draws_sound (E := ⟨M.P, n, run, M.own⟩) (callsOk_of hs w0 mine hgd) hM.mixed) k
end Go.Proofs.YtemghdnofgjnmaaDoor.VM

/- A law: its arguments as trees; what the machine's word is worth for it. -/
namespace Go.Proofs.YtemghdnofgjnmaaDoor.VM
open Go Go.Proofs.YtemghdnofgjnmaaDoorW.PrintWords Go.ChangeShapes Go.WideShapes Go.Deep Go.RowKit
set_option linter.unusedVariables false
set_option linter.unusedSimpArgs false

/-- A law that the machine answers true. -/
theorem law_calls {gd : Guard} {M : Mach} (hM : MachOk gd M) {k : Nat} {f : FuncId} {as as' : List A} {w : World} {us : List Value} {R : List Nat} (hrun : M.run k f as = some ([.c (.v (.bool true))], as')) (hr : RepAs M.P w as us [] R) (hk : knowns as = true) (hR : ∀ b ∈ R, b < w.heap.size) (hgd : gd.on w fun _ => False) :
  Calls M.P f us.toArray w fun e w' => e = .returned (.bool true) ∧ Below w.heap.size w w' := by
 have h := (sound hM k f as _ as' hrun w us [] R ⟨hr, hk, List.nodup_nil, fun b hb => by simp at hb, fun b hb => ⟨hR b hb, by simp⟩, hgd.1, fun b hb => ⟨(hgd.2 b hb).1, by simp⟩⟩).2
 refine h.mono fun e w' he => ?_
 cases e with
 | returned v =>
  obtain ⟨vs, O1, O2, rfl, hl⟩ := he
  have hrep := hl.rep
  rw [RepAs] at hrep
  obtain ⟨u, us', Oa, Ra, Ob, Rb, rfl, h1, h2, _⟩ := hrep
  rw [RepAs] at h2
  obtain ⟨rfl, _⟩ := h2
  rw [RepA, RepT] at h1
  obtain ⟨rfl, _⟩ := h1
  exact ⟨rfl, ⟨hl.still.os, hl.still.tape, hl.still.output, hl.size, fun b hb => hl.kept b hb (by simp)⟩⟩
 | panicked c => exact he.elim
 | outgrown => exact he.elim
/-! ### arguments -/
/-- What a value of type t reads as: cells. -/
structure OpT {α : Type} (P : Program) (t : TypeId) (tr : α → List T) (ok : α → Prop) : Prop where
 op : ∀ {H : Type} {enc : TypeId × Value → H} {w : World} {hd : Bool} {fuel : Nat} {cs : List Value} {x : DataW H × List MemPlace},
  DataW.trod enc P w 0 (fun _ => true) hd fuel t cs = some x → ∃ a R, RepTs P w (tr a) cs [] R ∧ (∀ b ∈ R, b < w.heap.size) ∧ ok a
/-- The fields from place i on, at the cells from off on. -/
structure OpTF {α : Type} (P : Program) (fs : Array Field) (i off sz : Nat) (tr : α → List T) (ok : α → Prop) : Prop where
 op : ∀ {H : Type} {enc : TypeId × Value → H} {w : World} {hd : Bool} {n : Nat} {cs : List Value} {xs : List (DataW H × List MemPlace)},
  cs.length = off + sz → xs.length = fs.size →
  (∀ (j : Nat) (f : Field), fs[j]? = some f → DataW.trod enc P w 0 (fun _ => true) hd n f.type ((cs.drop f.offset).take (P.cellsOf f.type)) = xs[j]?) →
  ∃ a R, RepTs P w (tr a) (cs.drop off) [] R ∧ (∀ b ∈ R, b < w.heap.size) ∧ ok a
theorem reps_v {P : Program} {w : World} {v : Value} (h : v.oneCell' = true) : RepTs P w [.v v] [v] [] [] := by
 rw [RepTs]
 exact ⟨v, [], [], [], [], [], rfl, by rw [RepT]; exact ⟨rfl, h, rfl, rfl⟩, by rw [RepTs]; exact ⟨rfl, rfl, rfl⟩, rfl, rfl⟩
theorem opT_int {P : Program} {t : TypeId} (ht : P.underlying t = some (.int .i64)) : OpT P t (fun n : Int => [.v (.int .i64 n)]) (fun n => -9223372036854775808 ≤ n ∧ n ≤ 9223372036854775807) := ⟨fun h => by
 obtain ⟨n, rfl, _, hw⟩ := DataW.trod_int ht h
 refine ⟨n, [], reps_v rfl, fun b hb => by simp at hb, ?_⟩
 simp only [Lit.wf, Bool.and_eq_true, decide_eq_true_eq] at hw
 exact hw⟩
theorem opT_u8 {P : Program} {t : TypeId} (ht : P.underlying t = some (.int .u8)) : OpT P t (fun n : Int => [.v (.int .u8 n)]) (fun n => 0 ≤ n ∧ n ≤ 255) := ⟨fun h => by
 obtain ⟨n, rfl, _, hw⟩ := DataW.trod_int ht h
 refine ⟨n, [], reps_v rfl, fun b hb => by simp at hb, ?_⟩
 simp only [Lit.wf, Bool.and_eq_true, decide_eq_true_eq] at hw
 exact hw⟩
theorem opT_bool {P : Program} {t : TypeId} (ht : P.underlying t = some .bool) : OpT P t (fun b : Bool => [.v (.bool b)]) (fun _ => True) := ⟨fun h => by
 obtain ⟨n, rfl, _⟩ := DataW.trod_bool ht h
 exact ⟨n, [], reps_v rfl, fun b hb => by simp at hb, trivial⟩⟩
theorem opT_last {α : Type} {P : Program} {fs : Array Field} {i off sz : Nat} {f : Field} {tr : α → List T} {ok : α → Prop} (hf : fs[i]? = some f) (ho : f.offset = off) (hc : P.cellsOf f.type = sz) (h : OpT P f.type tr ok) : OpTF P fs i off sz tr ok := ⟨fun hl hx ht => by
 have h1 := ht i f hf
 have hi : i < fs.size := (Array.getElem?_eq_some_iff.1 hf).1
 rw [List.getElem?_eq_getElem (by omega), ho, hc, List.take_of_length_le (by rw [List.length_drop]; omega)] at h1
 exact h.op h1⟩
theorem opT_cons {α β : Type} {P : Program} {fs : Array Field} {i off sz sz' : Nat} {f : Field} {tr : α → List T} {ok : α → Prop} {tr' : β → List T} {ok' : β → Prop} (hf : fs[i]? = some f) (ho : f.offset = off) (hc : P.cellsOf f.type = sz) (h : OpT P f.type tr ok)
  (h' : OpTF P fs (i + 1) (off + sz) sz' tr' ok') : OpTF P fs i off (sz + sz') (fun x : α × β => tr x.1 ++ tr' x.2) (fun x => ok x.1 ∧ ok' x.2) := ⟨fun {H enc w hd n cs xs} hl hx ht => by
 have h1 := ht i f hf
 have hi : i < fs.size := (Array.getElem?_eq_some_iff.1 hf).1
 rw [List.getElem?_eq_getElem (by omega), ho, hc] at h1
 obtain ⟨a, R, ha, hR, hok⟩ := h.op h1
 obtain ⟨b, R', hb, hR', hok'⟩ := h'.op (by omega) hx ht
 refine ⟨(a, b), R ++ R', ?_, fun x hx => (List.mem_append.1 hx).elim (hR x) (hR' x), hok, hok'⟩
 have e : cs.drop off = (cs.drop off).take sz ++ cs.drop (off + sz) := by rw [← List.drop_drop, List.take_append_drop]
 rw [e]
 exact RepTs_append ha hb⟩
theorem opT_struct {α β : Type} {P : Program} {t : TypeId} {fs : Array Field} (ht : P.underlying t = some (.struct fs)) {sz : Nat} {tr : α → List T} {ok : α → Prop} (hc : P.cellsOf t = sz) (g : α → β) (tr' : β → List T) (ok' : β → Prop) (htr : ∀ a, tr' (g a) = tr a) (hok : ∀ a, ok a → ok' (g a))
  (h : OpTF P fs 0 0 sz tr ok) : OpT P t tr' ok' := ⟨fun {H enc w hd fuel cs x} hx => by
 obtain ⟨xs, n, _, _, hl, hxs, hf⟩ := DataW.trod_struct ht hx
 obtain ⟨a, R, ha, hR, ho⟩ := h.op (by rw [hl, hc]; omega) hxs hf
 exact ⟨g a, R, by rw [htr]; exact ha, hR, hok a ho⟩⟩
theorem opT_slice {α : Type} {P : Program} {t e : TypeId} (ht : P.underlying t = some (.slice e)) {tr : α → List T} {ok : α → Prop} (hpos : 0 < P.cellsOf e) (h : OpT P e tr ok) : OpT P t (fun xs : List α => [.r e xs.length (xs.flatMap tr)]) (fun xs => (∀ y ∈ xs, ok y) ∧ xs.length ≤ maxLen) := ⟨fun {H enc w hd fuel cs x} hx => by
 rcases open_slice ht hx with ⟨rfl, _⟩ | ⟨a, len, cap, m, n, D, Pl, rfl, hb, hl, hm, hmm, rfl, hq⟩
 ·refine ⟨[], [], ?_, fun b hb => by simp at hb, fun y hy => by simp at hy, by simp⟩
  rw [RepTs]
  refine ⟨_, [], [], [], [], [], rfl, ?_, by rw [RepTs]; exact ⟨rfl, rfl, rfl⟩, rfl, rfl⟩
  rw [RepT]
  exact ⟨rfl, none, 0, [], [], rfl, Nat.le_refl _, by simp [maxLen], fun h => by omega, by simp, fun j x hj => by simp at hj, by rw [List.flatMap_nil, RepTs]; exact ⟨rfl, rfl, rfl⟩, rfl⟩
 ·simp only [if_true] at hmm
  subst hmm
  have hspot : 0 < m → a.spot = none := fun h0 => by
   obtain ⟨cs', h1, _⟩ := hq 0 h0
   obtain ⟨_, h2, h3⟩ := World.cells?_some h1
   have := h3 0 hpos
   rw [Nat.zero_mul] at this
   have hz : (a.add 0).add 0 = a := by simp [Addr.add]
   rw [hz] at this
   have hv : cs'[0]? = some (cs'[0]'(by omega)) := List.getElem?_eq_getElem _
   rw [hv] at this
   unfold World.cell? at this
   split at this
   ·cases hsp : a.spot with
    | none => rfl
    | some s => rw [hsp] at this; simp at this
   ·simp at this
  -- the elements, one by one
  have key : ∀ i, i ≤ len → ∃ (xs : List α) (us : List Value) (R : List Nat), xs.length = i ∧ us.length = i * P.cellsOf e ∧ RepTs P w (xs.flatMap tr) us [] R ∧ (∀ b ∈ R, b < w.heap.size) ∧ (∀ y ∈ xs, ok y) ∧ ∀ j x, us[j]? = some x → w.cell? (a.add j) = some x := by
   intro i
   induction i with
   | zero => exact fun _ => ⟨[], [], [], rfl, by simp, by rw [List.flatMap_nil, RepTs]; exact ⟨rfl, rfl, rfl⟩, fun b hb => by simp at hb, fun y hy => by simp at hy, fun j x hj => by simp at hj⟩
   | succ i ih =>
    intro hi
    obtain ⟨xs, us, R, k1, k2, k3, k4, k5, k6⟩ := ih (by omega)
    obtain ⟨cs', h1, h2⟩ := hq i (by omega)
    obtain ⟨_, h3, h4⟩ := World.cells?_some h1
    obtain ⟨y, R', j1, j2, j3⟩ := h.op h2
    refine ⟨xs ++ [y], us ++ cs', R ++ R', by simp [k1], by rw [List.length_append, k2, h3, Nat.succ_mul], ?_, fun b hb => (List.mem_append.1 hb).elim (k4 b) (j2 b), fun z hz => (List.mem_append.1 hz).elim (k5 z) (fun hz => by simp at hz; subst hz; exact j3), fun j x hj => ?_⟩
    ·rw [List.flatMap_append, List.flatMap_singleton]
     exact RepTs_append k3 j1
    ·rcases Nat.lt_or_ge j us.length with hlt | hge
     ·rw [List.getElem?_append_left hlt] at hj
      exact k6 j x hj
     ·rw [List.getElem?_append_right hge, k2] at hj
      have hjl := (List.getElem?_eq_some_iff.1 hj).1
      have := h4 (j - i * P.cellsOf e) (by omega)
      rw [Go.Deep.add_add, show i * P.cellsOf e + (j - i * P.cellsOf e) = j by omega] at this
      rw [this, hj]
  obtain ⟨xs, us, R, k1, k2, k3, k4, k5, k6⟩ := key len (Nat.le_refl _)
  have hlt : 0 < len → a.block < w.heap.size := fun h0 => by
   have hu : us[0]? = some (us[0]'(by rw [k2]; exact Nat.mul_pos h0 hpos)) := List.getElem?_eq_getElem _
   have := k6 0 _ hu
   have hz : a.add 0 = a := by simp [Addr.add]
   rw [hz] at this
   unfold World.cell? at this
   split at this
   ·rename_i hcells
    exact (Array.getElem?_eq_some_iff.1 hcells).1
   ·simp at this
  refine ⟨xs, hdrB (some a) len ++ R, ?_, fun b hb => ?_, k5, by omega⟩
  ·rw [RepTs]
   refine ⟨_, [], [], hdrB (some a) len ++ R, [], [], rfl, ?_, by rw [RepTs]; exact ⟨rfl, rfl, rfl⟩, rfl, by simp⟩
   rw [RepT, k1]
   exact ⟨rfl, some a, m, us, R, rfl, hl, hm, fun h0 => ⟨a, rfl, hspot h0⟩, k2, fun j x hj => ⟨a, rfl, k6 j x hj⟩, k3, rfl⟩
  ·rcases List.mem_append.1 hb with hb | hb
   ·simp only [hdrB] at hb
    split at hb
    ·simp at hb
    ·simp at hb
     subst hb
     exact hlt (by omega)
   ·exact k4 b hb⟩
/-- An argument of a slice's type. -/
theorem arg_sliceT {α : Type} {P : Program} {t e : TypeId} (ht : P.underlying t = some (.slice e)) {tr : α → T} {ok : α → Prop} (h : OpT P t (fun x => [tr x]) ok) {H : Type} {enc : TypeId × Value → H} {w : World} {hd : Bool} {v : Value} {dd : DataW H} {ps : List MemPlace} {r : Reach} {b0 : Nat}
  (hval : Value.okWide P w r b0 t v) (hx : DataW.Trod enc P w 0 (fun _ => true) hd t v dd ps) : ∃ (x : α) (R : List Nat), RepA P w (.c (tr x)) v [] R ∧ (∀ b ∈ R, b < w.heap.size) ∧ ok x := by
 obtain ⟨A, n, c, rfl⟩ := okWide_slice ht hval
 obtain ⟨fuel, hf⟩ := hx
 obtain ⟨x, R, h1, h2, h3⟩ := h.op hf
 exact ⟨x, R, by rw [RepA]; exact RepTs_one' h1, h2, h3⟩
/-- An argument of a struct's type. -/
theorem arg_structT {α : Type} {P : Program} {t : TypeId} {fs : Array Field} (ht : P.underlying t = some (.struct fs)) {tr : α → List T} {ok : α → Prop} (h : OpT P t tr ok) {H : Type} {enc : TypeId × Value → H} {w : World} {hd : Bool} {v : Value} {dd : DataW H} {ps : List MemPlace} {r : Reach} {b0 : Nat}
  (hval : Value.okWide P w r b0 t v) (hx : DataW.Trod enc P w 0 (fun _ => true) hd t v dd ps) : ∃ (x : α) (R : List Nat), RepA P w (.agg (tr x)) v [] R ∧ (∀ b ∈ R, b < w.heap.size) ∧ ok x := by
 obtain ⟨cs, rfl, _⟩ := okWide_struct ht hval
 obtain ⟨fuel, hf⟩ := hx
 obtain ⟨x, R, h1, h2, h3⟩ := h.op hf
 exact ⟨x, R, by rw [RepA]; exact ⟨cs.toList, by simp, h1⟩, h2, h3⟩
theorem arg_cell {P : Program} {w : World} {v : Value} (h : v.oneCell' = true) : RepA P w (.c (.v v)) v [] [] := by
 rw [RepA, RepT]
 exact ⟨rfl, h, rfl, rfl⟩
theorem args_nil {P : Program} {w : World} : RepAs P w [] [] [] [] := by rw [RepAs]; exact ⟨rfl, rfl, rfl⟩
theorem args_cons {P : Program} {w : World} {x : A} {v : Value} {R : List Nat} {l : List A} {us : List Value} {R' : List Nat} (h : RepA P w x v [] R) (h' : RepAs P w l us [] R') : RepAs P w (x :: l) (v :: us) [] (R ++ R') := by
 rw [RepAs]
 exact ⟨v, us, [], R, [], R', rfl, h, h', rfl, rfl⟩
end Go.Proofs.YtemghdnofgjnmaaDoor.VM

/- The machine, step by step: rules by which its answers are reckoned. -/
namespace Go.Proofs.YtemghdnofgjnmaaDoor.VM
open Go
set_option linter.unusedVariables false
set_option linter.unusedSimpArgs false
set_option linter.constructorNameAsVariable false
variable {E : Env} {σ : St} {P : Program} {k d : Nat} {h : Nat → List Nat × List Nat}

/-! ### code -/
def regC (σ : St) : Option (Ex × St) := some (.normal, σ)
noncomputable def seqC (E : Env) (k : Nat) (h : Nat → List Nat × List Nat) (b : Code) : Ex × St → Option (Ex × St)
 | (.normal, σ) => E.exec k h b σ
 | (.exit i, σ) => some (.exit i, σ)
 | (.ret, σ) => some (.ret, σ)
noncomputable def condC (E : Env) (k : Nat) (h : Nat → List Nat × List Nat) (a b : Code) (σ : St) : AV → Option (Ex × St)
 | .c (.v (.bool t)) => if t = true then E.exec k h a σ else E.exec k h b σ
 | _ => none
def blockC (id : Nat) : Ex × St → Option (Ex × St)
 | (.exit i, σ) => some (if i = id then (.normal, σ) else (.exit i, σ))
 | (.normal, σ) => some (.normal, σ)
 | (.ret, σ) => some (.ret, σ)
/-- A loop. -/
noncomputable def loopE (E : Env) (k : Nat) (h : Nat → List Nat × List Nat) (a : Code) (σ : St) : Option (Ex × St) := iter (E.exec k h a) (h (firstR a)) k σ
theorem x_skip : E.exec k h .skip σ = some (.normal, σ) := (rfl)
theorem x_region {i : Nat} {ops : Array Oper} : E.exec k h (.region i ops false) σ = (E.opers ops ops.toList σ).bind regC := (rfl)
theorem x_draw {i : Nat} {ops : Array Oper} : E.exec k h (.region i ops true) σ = (E.opersD ops ops.toList σ).bind regC := (rfl)
theorem x_seq {a b : Code} : E.exec k h (.seq a b) σ = (E.exec k h a σ).bind (seqC E k h b) := by
 show Option.bind _ _ = _
 congr 1
 funext ⟨x, σ⟩
 cases x <;> rfl
theorem x_cond {c : Operand} {a b : Code} : E.exec k h (.cond c a b) σ = (σ.ev c).bind (condC E k h a b σ) := by
 simp only [Env.exec]
 cases hv : σ.ev c with
 | none => rfl
 | some v =>
  rw [Option.bind_some]
  unfold condC
  cases v with
  | c x => cases x with
   | v y => cases y <;> rfl
   | _ => rfl
  | _ => rfl
theorem x_block {i : Nat} {a : Code} : E.exec k h (.block i a) σ = (E.exec k h a σ).bind (blockC i) := by
 show Option.bind _ _ = _
 congr 1
 funext ⟨x, σ⟩
 cases x <;> rfl
theorem x_exit {i : Nat} : E.exec k h (.exit i) σ = some (.exit i, σ) := (rfl)
theorem x_ret : E.exec k h .ret σ = some (.ret, σ) := (rfl)
theorem x_loop {a : Code} : E.exec k h (.loop a) σ = loopE E k h a σ := (rfl)
/-! ### operations in line -/
def opersC (E : Env) (ops : Array Oper) (l : List Oper) (σ : St) : Option St := E.opers ops l σ
noncomputable def opersDC (E : Env) (ops : Array Oper) (l : List Oper) (σ : St) : Option St := E.opersD ops l σ
def putC (d : Option Nat) (x : Option AV × St) : Option St := some (x.2.put d (x.1.getD .u))
def operC (E : Env) (σ : St) (o : Oper) (b : Bool) : Option St := if b = true then (E.op σ (o.dst.getD 0) o.op).bind (putC o.dst) else some (σ.put o.dst .u)
def freeC (E : Env) (ops : Array Oper) (σ : St) (o : Oper) (b : Bool) : Option St := if b = true then (if E.free ops σ (o.dst.getD 0) o.op = true then E.oper ops (σ.dropFor o.op) o else none) else E.oper ops σ o
theorem o_nil {ops : Array Oper} : E.opers ops [] σ = some σ := (rfl)
theorem o_cons {ops : Array Oper} {o : Oper} {l : List Oper} : E.opers ops (o :: l) σ = (E.operN ops σ o).bind (opersC E ops l) := (rfl)
/-! borrowed rows -/
def operNK (E : Env) (ops : Array Oper) (σ : St) (o : Oper) : Option (AV × St) → Option St
 | some x => if o.dst.getD 0 < E.n then some (x.2.put o.dst x.1) else none
 | none => E.oper ops σ o
def operNB (E : Env) (ops : Array Oper) (σ : St) (o : Oper) (t : TypeId) (n : Nat) (ps : Array (Nat × Operand)) : Option St := operNK E ops σ o (if o.guard.isNone = true then (σ.evp ps.toList).bind (E.lendB σ (o.dst.getD 0) t n) else none)
def operNA (E : Env) (ops : Array Oper) (σ : St) (o : Oper) (as : Array Operand) (ts : Array TypeId) : Option St := operNK E ops σ o (if o.guard.isNone = true then (σ.evs as.toList).bind (E.lendA σ (o.dst.getD 0) ts.toList) else none)
def operNC (E : Env) (ops : Array Oper) (σ : St) (o : Oper) (src dst : TypeId) (x : Operand) : Option St := operNK E ops σ o (if o.guard.isNone = true then (σ.ev x).bind (E.lendS σ (o.dst.getD 0) src dst) else none)
theorem operN_none {ops : Array Oper} {o : Oper} (h : E.lend σ (o.dst.getD 0) o.op = none) : E.operN ops σ o = E.oper ops σ o := by
 unfold Env.operN
 rw [h]
 split
 ·rename_i h1
  split at h1 <;> simp at h1
 ·rfl
theorem operN_K {ops : Array Oper} {o : Oper} : E.operN ops σ o = operNK E ops σ o (if o.guard.isNone = true then E.lend σ (o.dst.getD 0) o.op else none) := by
 unfold Env.operN
 generalize (if o.guard.isNone = true then E.lend σ (o.dst.getD 0) o.op else none) = x
 cases x with
 | none => rfl
 | some x =>
  obtain ⟨v, σ'⟩ := x
  rfl
theorem o_operN {ops : Array Oper} {o : Oper} : E.operN ops σ o = match o.op with
  | .buildSlice t n ps => operNB E ops σ o t n ps
  | .call c => (match c.callee with
   | .builtin b => (match b with
    | .append => operNA E ops σ o c.args c.argTypes
    | _ => E.oper ops σ o)
   | _ => E.oper ops σ o)
  | .convert src dst x => operNC E ops σ o src dst x
  | _ => E.oper ops σ o := by
 cases ho : o.op with
 | convert src dst x =>
  rw [operN_K, ho]
  rfl
 | buildSlice t n ps =>
  rw [operN_K, ho]
  rfl
 | call c =>
  obtain ⟨f, as, ts⟩ := c
  cases f with
  | builtin b =>
   cases b with
   | append =>
    rw [operN_K, ho]
    rfl
   | _ => exact operN_none (by rw [ho]; rfl)
  | _ => exact operN_none (by rw [ho]; rfl)
 | _ => exact operN_none (by rw [ho]; rfl)
theorem lendS_int {d : Nat} {src dst : TypeId} {k : IntKind} {n : Int} : E.lendS σ d src dst (.c (.v (.int k n))) = none := (rfl)
theorem lendS_sl {d : Nat} {src dst : TypeId} {id : Nat} {p : List Nat} {o n : Nat} : E.lendS σ d src dst (.c (.sl id p o n)) = none := (rfl)
theorem lendS_str {d : Nat} {src dst : TypeId} {s : ByteArray} : E.lendS σ d src dst (.c (.v (.string s))) = match E.P.underlying src, E.P.underlying dst with
  | some _, some (.slice e) => if isByte E.P e = true ∧ E.P.cellsOf e = 1 ∧ s.size ≤ 1048576 then some (.c (.sl (site d 0) [] 0 s.size), σ.new (site d 0) ⟨.lnk, e, bytesT s⟩) else none
  | _, _ => none := (rfl)
/-- One value alone. -/
def lendW (E : Env) (σ : St) (d : Nat) (t : TypeId) (v : AV) : Option (AV × St) := match E.P.underlying t with
 | some (.slice e) => if E.P.cellsOf e = 1 ∧ elemOk E.P e = true then (σ.lentT E.P e v).bind fun x => some (.c (.sl (site d 0) [] 0 1), σ.new (site d 0) ⟨.lnk, e, [x]⟩) else none
 | _ => none
theorem lendB_nil {t : TypeId} {n : Nat} : E.lendB σ d t n [] = none := by
 unfold Env.lendB
 split
 ·contradiction
 ·rfl
theorem lendB_two {t : TypeId} {n : Nat} {x y : Nat × AV} {l : List (Nat × AV)} : E.lendB σ d t n (x :: y :: l) = none := by
 unfold Env.lendB
 split
 ·rename_i h
  simp at h
 ·rfl
theorem lendB_one {t : TypeId} {n j : Nat} {v : AV} : E.lendB σ d t n [(j, v)] = if n = 1 ∧ j = 0 then lendW E σ d t v else none := by
 unfold Env.lendB
 split
 ·rename_i v' h
  injection h with h _
  injection h with h1 h2
  subst h1; subst h2
  rfl
 ·rename_i h
  split
  ·rename_i hc
   exact absurd (by rw [hc.2]) (h v hc.1)
  ·rfl
theorem lendW_not {t : TypeId} {v : AV} (h : ∀ e, σ.lentT E.P e v = none) : lendW E σ d t v = none := by
 unfold lendW
 split
 ·split
  ·rw [h]; rfl
  ·rfl
 ·rfl
theorem lendW_v {t : TypeId} {x : Value} : lendW E σ d t (.c (.v x)) = none := lendW_not fun _ => rfl
theorem lendW_z {t : TypeId} : lendW E σ d t (.c .z) = none := lendW_not fun _ => rfl
theorem lendW_agg {t : TypeId} {xs : List C} : lendW E σ d t (.agg xs) = none := lendW_not fun _ => rfl
theorem lendW_ptr {t : TypeId} {i o : Nat} {p : List Nat} : lendW E σ d t (.ptr i p o) = none := lendW_not fun _ => rfl
theorem lendW_fn {t : TypeId} {f : FuncId} {cs : List AV} : lendW E σ d t (.fn f cs) = none := lendW_not fun _ => rfl
def lendD (E : Env) (σ : St) (d : Nat) (t : TypeId) (id : Nat) (p : List Nat) (o n : Nat) (ob : Obj) : Option (AV × St) := if ob.k = .ro then (match E.P.underlying t with
 | some (.slice e) => if E.P.cellsOf e = 1 ∧ elemOk E.P e = true then (σ.argE E.P (elemOf E.P e) id p o n).bind fun x => some (.c (.sl (site d 0) [] 0 1), σ.new (site d 0) ⟨.lnk, e, [x]⟩) else none
 | _ => none) else none
theorem lendW_sl {t : TypeId} {id o n : Nat} {p : List Nat} : lendW E σ d t (.c (.sl id p o n)) = (lk σ.o id).bind (lendD E σ d t id p o n) := by
 unfold lendW
 cases hl : lk σ.o id with
 | none =>
  split
  ·split
   ·simp [St.lentT, hl]
   ·rfl
  ·rfl
 | some ob =>
  rw [Option.bind_some]
  unfold lendD
  split
  ·rename_i e hu
   by_cases hk : ob.k = .ro
   ·rw [if_pos hk]
    simp only [St.lentT, hl, Option.bind_some, St.lentO, if_pos hk]
   ·rw [if_neg hk]
    simp only [St.lentT, hl, Option.bind_some, St.lentO, if_neg hk, Option.bind_none, ite_self]
  ·split <;> rfl
def lendE (E : Env) (σ : St) (d : Nat) (t : TypeId) (x : C) (idy m : Nat) (ob : Obj) : Option (AV × St) := if ob.k = .lnk then (match E.P.underlying t with
 | some (.slice e) => E.lendO σ d e x idy m ob
 | _ => none) else none
theorem lendA_z {t t' : TypeId} {x : C} : E.lendA σ d [t, t'] [.c x, .c .z] = none := by
 unfold Env.lendA
 split
 ·rename_i h
  simp at h
 ·rfl
theorem lendA_v {t t' : TypeId} {x : C} {v : Value} : E.lendA σ d [t, t'] [.c x, .c (.v v)] = none := by
 unfold Env.lendA
 split
 ·rename_i h
  simp at h
 ·rfl
theorem lendA_sl {t t' : TypeId} {x : C} {idy o m : Nat} {p : List Nat} : E.lendA σ d [t, t'] [.c x, .c (.sl idy p o m)] = if p = [] ∧ o = 0 ∧ t = t' then (lk σ.o idy).bind (lendE E σ d t x idy m) else none := by
 unfold Env.lendA
 split
 ·rename_i t1 t2 x1 id1 m1 h1 h2
  injection h1 with h1 h3
  injection h3 with h3 _
  injection h2 with h2 h4
  injection h4 with h4 _
  injection h2 with h2
  injection h4 with h4
  injection h4 with h5 h6 h7 h8
  subst h1; subst h3; subst h2; subst h5; subst h6; subst h7; subst h8
  by_cases ht : t = t'
  ·rw [if_pos ht, if_pos ⟨rfl, rfl, ht⟩]
   cases hl : lk σ.o idy with
   | none => rfl
   | some ob =>
    rw [Option.bind_some, Option.bind_some]
    unfold lendE
    by_cases hk : ob.k = .lnk
    ·rw [if_pos hk]
     rfl
    ·rw [if_neg hk]
     split
     ·unfold Env.lendO
      rw [if_neg fun h => hk h.1]
     ·rfl
  ·rw [if_neg ht, if_neg fun h => ht h.2.2]
 ·rename_i h
  split
  ·rename_i hc
   obtain ⟨h1, h2, _⟩ := hc
   subst h1; subst h2
   exact absurd rfl (h t t' x idy m rfl)
  ·rfl
attribute [simp] isByte o_operN operNK operNB operNA operNC lendS_int lendS_sl lendS_str lendB_nil lendB_two lendB_one lendW_v lendW_z lendW_agg lendW_ptr lendW_fn lendD lendW_sl lendE lendA_z lendA_v lendA_sl
theorem o_nilD {ops : Array Oper} : E.opersD ops [] σ = some σ := (rfl)
theorem o_consD {ops : Array Oper} {o : Oper} {l : List Oper} : E.opersD ops (o :: l) σ = (E.operD ops σ o).bind (opersDC E ops l) := (rfl)
theorem o_oper {ops : Array Oper} {o : Oper} : E.oper ops σ o = if o.dst.getD 0 < E.n then (σ.want ops o.guard).bind (operC E σ o) else none := (rfl)
theorem o_operD {ops : Array Oper} {o : Oper} : E.operD ops σ o = if freeB o.op = true then (σ.want ops o.guard).bind (freeC E ops σ o) else (E.oper ops σ o).bind (E.staysAll ops σ o) := (rfl)
/-! ### operations -/
def valC (σ : St) (v : AV) : Option (Option AV × St) := some (some v, σ)
theorem op_move {x : Operand} : E.op σ d (.move x) = (σ.ev x).bind (valC σ) := (rfl)
theorem op_assign {x : Operand} : E.op σ d (.assign x) = (σ.ev x).bind (valC σ) := (rfl)
theorem op_binOp {b : BinOp} {t t' : TypeId} {x y : Operand} : E.op σ d (.binOp b t x y t') = (σ.ev x).bind fun w => (σ.ev y).bind fun v => (binN E.P b t y w v).bind (valC σ) := (rfl)
theorem binN_tmp {P : Program} {b : BinOp} {t : TypeId} {k : Nat} {w v : AV} : binN P b t (.tmp k) w v = bin P b t w v := (rfl)
theorem binN_int {P : Program} {b : BinOp} {t : TypeId} {k : IntKind} {n : Int} {w v : AV} : binN P b t (.const (.int k n)) w v = bin P b t w v := (rfl)
theorem binN_bool {P : Program} {b : BinOp} {t : TypeId} {n : Bool} {w v : AV} : binN P b t (.const (.bool n)) w v = bin P b t w v := (rfl)
theorem binN_str {P : Program} {b : BinOp} {t : TypeId} {s : ByteArray} {w v : AV} : binN P b t (.const (.string s)) w v = bin P b t w v := (rfl)
theorem binN_slice {P : Program} {b : BinOp} {t : TypeId} {s : Option Addr} {m n : Nat} {w v : AV} : binN P b t (.const (.slice s m n)) w v = bin P b t w v := (rfl)
theorem binN_agg {P : Program} {b : BinOp} {t : TypeId} {s : Array Value} {w v : AV} : binN P b t (.const (.agg s)) w v = bin P b t w v := (rfl)
theorem binN_nn {P : Program} {t : TypeId} {v : AV} : binN P .neq t (.const .nilIface) .nn v = if isIfc P t = true then some (.c (.v (.bool true))) else bin P .neq t .nn v := by
 unfold binN nilB
 split <;> rename_i h <;> split at h <;> simp_all
theorem binN_nil {P : Program} {t : TypeId} {v : AV} : binN P .neq t (.const .nilIface) (.c (.v .nilIface)) v = if isIfc P t = true then some (.c (.v (.bool false))) else bin P .neq t (.c (.v .nilIface)) v := by
 unfold binN nilB
 split <;> rename_i h <;> split at h <;> simp_all
theorem op_convert {src dst : TypeId} {x : Operand} : E.op σ d (.convert src dst x) = match E.P.underlying src, E.P.underlying dst, σ.ev x with
  | some (.slice e), some .string, some (.c (.sl id p off 1)) => (σ.byteOf E.P e id p off).bind fun n => some (some (.c (.v (.string (ByteArray.empty.push (UInt8.ofNat n.toNat))))), σ)
  | some _, some (.int k), some (.c (.v (.int _ n))) => some (some (.c (.v (.int k (k.wrap n)))), σ)
  | _, _, _ => none := (rfl)
theorem op_unOp {b : UnOp} {t : TypeId} {x : Operand} : E.op σ d (.unOp b t x) = match σ.ev x with
  | some (.c (.v w)) => (unV b w).bind fun r => some (some (.c (.v r)), σ)
  | _ => none := (rfl)
theorem op_pick {c a b : Operand} : E.op σ d (.pick c a b) = match σ.ev c with
  | some (.c (.v (.bool t))) => (σ.ev a).bind fun w => (σ.ev b).bind fun v => some (some (if t = true then w else v), σ)
  | _ => none := (rfl)
theorem op_extract {x : Operand} {i : Nat} : E.op σ d (.extract x i) = match σ.ev x with
  | some (.tup vs) => (vs[i]?).bind (valC σ)
  | _ => none := (rfl)
theorem op_nilCheck {x : Operand} : E.op σ d (.nilCheck x) = match σ.ev x with
  | some (.ptr id p o) => some (some (.ptr id p o), σ)
  | _ => none := (rfl)
def allocC (σ : St) (d : Nat) (t : TypeId) (xs : List T) : Option (Option AV × St) := some (some (.ptr (site d 0) [] 0), σ.new (site d 0) ⟨.box, t, xs⟩)
theorem op_alloc {t : TypeId} : E.op σ d (.alloc t) = (zeroT E.P t).bind (allocC σ d t) := (rfl)
def boxC (σ : St) (d : Nat) (t : TypeId) (cs : List C) : Option (Option AV × St) := if (cs.any (·.mem fun i _ => i == site d 0)) = true then none else some (some (.ptr (site d 0) [] 0), σ.new (site d 0) ⟨.box, t, cs.map toL⟩)
def boxC1 (σ : St) (d : Nat) (t : TypeId) (v : AV) : Option (Option AV × St) := v.cs.bind (boxC σ d t)
theorem op_box {t : TypeId} {x : Operand} : E.op σ d (.box t x) = (σ.ev x).bind (boxC1 σ d t) := (rfl)
theorem op_fieldAddr {t : TypeId} {x : Operand} {f : Nat} {fs : Array Field} (hu : E.P.underlying t = some (.struct fs)) : E.op σ d (.fieldAddr t x f) = match σ.ev x with
  | some (.ptr id p o) => (fs[f]?).bind fun f => if 0 < E.P.cellsOf f.type then some (some (.ptr id p (o + f.offset)), σ) else none
  | _ => none := by
 simp only [Env.op, hu]
 cases σ.ev x with
 | none => rfl
 | some v => cases v <;> rfl
def idxC (P : Program) (σ : St) (e : TypeId) (id : Nat) (p : List Nat) (o n : Nat) (i : Int) (x : Bool × TypeId × List T) : Option (Option AV × St) := if x.2.1 = e ∧ 0 ≤ i ∧ i < n ∧ 0 < P.cellsOf e then some (some (.ptr id p (o + i.toNat * P.cellsOf e)), σ) else none
theorem op_indexAddr {t e : TypeId} {x i : Operand} (hu : E.P.underlying t = some (.slice e)) : E.op σ d (.indexAddr t x i) = match σ.ev x, σ.ev i with
  | some (.c (.sl id p o n)), some (.c (.v (.int _ i))) => (σ.row id p).bind (idxC E.P σ e id p o n i)
  | _, _ => none := by
 simp only [Env.op, hu]
 cases σ.ev x with
 | none => rfl
 | some v => cases v with
  | c q => cases q with
   | sl id p o n => cases σ.ev i with
    | none => rfl
    | some u => cases u with
     | c r => cases r with
      | v z => cases z <;> rfl
      | _ => rfl
     | _ => rfl
   | _ => rfl
  | _ => rfl
def loadC (σ : St) (P : Program) (t : TypeId) : AV → Option (Option AV × St)
 | .ptr id p o => (σ.load P t id p o).bind (valC σ)
 | _ => none
theorem op_load {t : TypeId} {x : Operand} : E.op σ d (.load t x) = (σ.ev x).bind (loadC σ E.P t) := by
 simp only [Env.op]
 cases σ.ev x with
 | none => rfl
 | some v => cases v <;> rfl
def aggC (σ : St) (cs : List C) : Option (Option AV × St) := some (some (.agg cs), σ)
def fillX (P : Program) (σ : St) (fs : List Field) (z : List T) (vs : List (Nat × AV)) : Option (Option AV × St) := (fillC fs P.cellsOf (z.map zC) vs).bind (aggC σ)
theorem op_build {t : TypeId} {ps : Array (Nat × Operand)} {z : List T} {fs : Array Field} (hz : zeroT E.P t = some z) (hu : E.P.underlying t = some (.struct fs)) (hi : (fs.toList.all fun f => (E.P.info? f.type).isSome) = true) : E.op σ d (.build t ps) = (σ.evp ps.toList).bind (fillX E.P σ fs.toList z) := by
 simp only [Env.op, hu, hz, hi, Bool.true_eq_false, if_false]
 rfl
def makeC (P : Program) (σ : St) (d : Nat) (e : TypeId) (n m : Int) (z : List T) : Option (Option AV × St) := if elemOk P e = true ∧ n = m ∧ 0 ≤ n ∧ n ≤ most then some (some (.c (.sl (site d 0) [] 0 n.toNat)), σ.new (site d 0) ⟨.own, e, (List.replicate n.toNat (z.map (zsT P e))).flatten⟩) else none
theorem zsT_v {e : TypeId} {x : Value} : zsT P e (.v x) = .v x := (rfl)
theorem zsT_z {e : TypeId} : zsT P e .z = .s (elemOf P e) 0 [] := (rfl)
attribute [simp] zsT_v zsT_z
theorem op_make {t e : TypeId} {x y : Operand} (hu : E.P.underlying t = some (.slice e)) : E.op σ d (.makeSlice t x y) = match σ.ev x, σ.ev y with
  | some (.c (.v (.int _ n))), some (.c (.v (.int _ m))) => (zeroT E.P e).bind (makeC E.P σ d e n m)
  | _, _ => none := by
 simp only [Env.op, hu]
 cases σ.ev x with
 | none => rfl
 | some v => cases v with
  | c q => cases q with
   | v z => cases z with
    | int k n => cases σ.ev y with
     | none => rfl
     | some u => cases u with
      | c r => cases r with
       | v z => cases z <;> rfl
       | _ => rfl
      | _ => rfl
    | _ => rfl
   | _ => rfl
  | _ => rfl
def sliceC (P : Program) (σ : St) (e : TypeId) (id : Nat) (p : List Nat) (o n : Nat) (l h m : Int) (mx : Bool) (x : Bool × TypeId × List T) : Option (Option AV × St) := if x.2.1 = e ∧ 0 < P.cellsOf e ∧ 0 ≤ l ∧ l ≤ h ∧ h ≤ m ∧ m ≤ n ∧ mx = true then some (some (.c (.sl id p (o + l.toNat * P.cellsOf e) (h - l).toNat)), σ) else none
def sliceK (P : Program) (σ : St) (e : TypeId) (lo hi mx : Option Operand) : AV → Option (Option AV × St)
 | .c (.sl id p o n) => (intOr σ 0 lo).bind fun l => (intOr σ n hi).bind fun h => (intOr σ h.toNat mx).bind fun m => (σ.row id p).bind (sliceC P σ e id p o n l h m mx.isNone)
 | .c .z => (intOr σ 0 lo).bind fun l => (intOr σ 0 hi).bind fun h => if l = 0 ∧ h = 0 ∧ mx.isNone = true ∧ 0 < P.cellsOf e then some (some (.c .z), σ) else none
 | _ => none
theorem op_slice {t e : TypeId} {x : Operand} {lo hi mx : Option Operand} (hu : E.P.underlying t = some (.slice e)) : E.op σ d (.slice t x lo hi mx) = (σ.ev x).bind (sliceK E.P σ e lo hi mx) := by
 simp only [Env.op, hu]
 cases σ.ev x with
 | none => rfl
 | some v => cases v with
  | c q => cases q with
   | v z => cases z <;> rfl
   | _ => rfl
  | _ => rfl
def fnV (σ : St) (f : FuncId) (vs : List AV) : Option (Option AV × St) := some (some (.fn f vs), σ)
theorem op_makeFunc {f : FuncId} {cap : Array Operand} : E.op σ d (.makeFunc (.func f) #[] cap) = (σ.evs cap.toList).bind (fnV σ f) := (rfl)
attribute [simp] binN_tmp binN_int binN_bool binN_str binN_slice binN_agg binN_nn binN_nil isIfc op_convert valC op_move op_assign op_binOp op_unOp op_pick op_extract op_nilCheck allocC op_alloc boxC boxC1 op_box idxC loadC op_load aggC fillX makeC sliceC sliceK fnV op_makeFunc
/-! ### calls -/
def resC (x : AV × St) : Option (Option AV × St) := some (some x.1, x.2)
def bltC (E : Env) (σ : St) (d : Nat) (b : Builtin) (ts : List TypeId) (vs : List AV) : Option (Option AV × St) := (E.builtin σ d b ts vs).bind resC
def fnC (E : Env) (σ : St) (d : Nat) (ts : List TypeId) (vs : List AV) : AV → Option (Option AV × St)
 | .fn f cs => (σ.call E.P E.run E.own d f (ts ++ cs.map fun _ => 0) (vs ++ cs)).bind resC
 | _ => none
def valueC (E : Env) (σ : St) (d : Nat) (x : Operand) (ts : List TypeId) (vs : List AV) : Option (Option AV × St) := (σ.ev x).bind (fnC E σ d ts vs)
theorem c_blt {b : Builtin} {args : Array Operand} {ts : Array TypeId} : E.op σ d (.call ⟨.builtin b, args, ts⟩) = (σ.evs args.toList).bind (bltC E σ d b ts.toList) := (rfl)
theorem c_val {x : Operand} {args : Array Operand} {ts : Array TypeId} : E.op σ d (.call ⟨.value x, args, ts⟩) = (σ.evs args.toList).bind (valueC E σ d x ts.toList) := by
 show Option.bind _ _ = _
 congr 1
 funext vs
 unfold valueC
 simp only
 cases σ.ev x with
 | none => rfl
 | some v => cases v <;> rfl
def callC4 : List AV × St → Option (AV × St)
 | ([w], σ) => some (w, σ)
 | (ws, σ) => some (.tup ws, σ)
def callC3 (d : Nat) (rs : List A) (σ : St) : Option (AV × St) := (σ.ress (site d 0) rs).bind callC4
def callC2 (σ : St) (own : Nat → Bool) (d : Nat) (vs : List AV) (x : List A × List A) : Option (AV × St) := if own 99 = true then σ.make d x.1 vs else if 64 < cnts x.1 then none else (σ.backs own 0 vs x.2).bind (callC3 d x.1)
def callC1 (σ : St) (run : List A → Ans) (own : Nat → Bool) (d : Nat) (vs : List AV) (as : List A) : Option (AV × St) := (run as).bind (callC2 σ own d vs)
theorem c_call {run : FuncId → List A → Ans} {own : FuncId → Nat → Bool} {f : FuncId} {ts : List TypeId} {vs : List AV} : σ.call P run own d f ts vs = if aparts (σ.feets (own f) 0 vs) = true then (σ.args P (own f) 0 ts vs).bind (callC1 σ (run f) (own f) d vs) else none := by
 unfold St.call
 cases aparts (σ.feets (own f) 0 vs) with
 | false => rfl
 | true =>
  simp only [Bool.true_eq_false, if_false, if_true]
  congr 1
  funext as
  show Option.bind _ _ = Option.bind _ _
  congr 1
  funext ⟨rs, as'⟩
  show (if _ then _ else if _ then _ else _) = if _ then _ else if _ then _ else _
  congr 1
  congr 1
  show Option.bind _ _ = Option.bind _ _
  congr 1
  funext σ
  show Option.bind _ _ = Option.bind _ _
  congr 1
  funext ⟨ws, σ⟩
  match ws with
  | [] => rfl
  | [_] => rfl
  | _ :: _ :: _ => rfl
def backsC (own : Nat → Bool) (i : Nat) (vs : List AV) (as : List A) (σ : St) : Option St := σ.backs own i vs as
theorem b_cons {own : Nat → Bool} {i : Nat} {v : AV} {vs : List AV} {a : A} {as : List A} : σ.backs own i (v :: vs) (a :: as) = (σ.back (own i) v a).bind (backsC own (i + 1) vs as) := (rfl)
theorem b_nil {own : Nat → Bool} {i : Nat} : σ.backs own i [] [] = some σ := (rfl)
def backCsC (cs : List C) (xs : List T) (σ : St) : Option St := σ.backCs cs xs
theorem b_cs {c : C} {cs : List C} {x : T} {xs : List T} : σ.backCs (c :: cs) (x :: xs) = (σ.backC c x).bind (backCsC cs xs) := (rfl)
theorem b_cs0 : σ.backCs [] [] = some σ := (rfl)
def ressC2 (v : AV) (x : List AV × St) : Option (List AV × St) := some (v :: x.1, x.2)
def ressC (as : List A) (x : AV × Nat × St) : Option (List AV × St) := (x.2.2.ress x.2.1 as).bind (ressC2 x.1)
theorem r_nil {id : Nat} : σ.ress id [] = some ([], σ) := (rfl)
theorem r_cons {id : Nat} {a : A} {as : List A} : σ.ress id (a :: as) = (σ.res id a).bind (ressC as) := (rfl)
def resCsC2 (c : C) (x : List C × Nat × St) : Option (List C × Nat × St) := some (c :: x.1, x.2)
def resCsC (id : Nat) (l : List T) (x : C × St) : Option (List C × Nat × St) := (x.2.resCs (id + 1) l).bind (resCsC2 x.1)
theorem r_cs0 {id : Nat} : σ.resCs id [] = some ([], id, σ) := (rfl)
theorem r_cs {id : Nat} {x : T} {l : List T} : σ.resCs id (x :: l) = (σ.res1 id x).bind (resCsC id l) := (rfl)
theorem blt_len {t e : TypeId} {id o n : Nat} {p : List Nat} (hu : E.P.underlying t = some (.slice e)) : E.builtin σ d .len [t] [.c (.sl id p o n)] = some (.c (.v (.int .i64 n)), σ) := by simp [Env.builtin, hu]
theorem blt_len0 {t e : TypeId} (hu : E.P.underlying t = some (.slice e)) : E.builtin σ d .len [t] [.c .z] = some (.c (.v (.int .i64 0)), σ) := by simp [Env.builtin, hu]
theorem blt_lenS {t : TypeId} {s : ByteArray} (hu : E.P.underlying t = some .string) : E.builtin σ d .len [t] [.c (.v (.string s))] = some (.c (.v (.int .i64 s.size)), σ) := by simp [Env.builtin, hu]
theorem blt_cap {t e : TypeId} (hu : E.P.underlying t = some (.slice e)) : E.builtin σ d .cap [t] [.c .z] = some (.c (.v (.int .i64 0)), σ) := by simp [Env.builtin, hu]
theorem blt_append {t : TypeId} {x y : C} : E.builtin σ d .append [t, t] [.c x, .c y] = σ.append E.P d t x y := by simp [Env.builtin]
theorem blt_max {ts : List TypeId} {k' : IntKind} {x y : Int} : E.builtin σ d .max ts [.c (.v (.int k' x)), .c (.v (.int k' y))] = some (.c (.v (.int k' (if x < y then y else x))), σ) := by simp [Env.builtin]
theorem blt_min {ts : List TypeId} {k' : IntKind} {x y : Int} : E.builtin σ d .min ts [.c (.v (.int k' x)), .c (.v (.int k' y))] = some (.c (.v (.int k' (if y < x then y else x))), σ) := by simp [Env.builtin]
attribute [simp] blt_append blt_max blt_min
/-! ### rows -/
def movesC2 (x : T) (y : List T × St) : Option (List T × St) := some (x :: y.1, y.2)
def movesC (P : Program) (ts : List TypeId) (cs : List C) (x : T × St) : Option (List T × St) := (x.2.moves P ts cs).bind (movesC2 x.1)
theorem m_nil : σ.moves P [] [] = some ([], σ) := (rfl)
theorem m_cons {t : TypeId} {ts : List TypeId} {c : C} {cs : List C} : σ.moves P (t :: ts) (c :: cs) = (σ.move P t c).bind (movesC P ts cs) := (rfl)
def rowOfC2 (xs : List T) (y : List T × St) : Option (List T × St) := some (xs ++ y.1, y.2)
def rowOfC1 (P : Program) (e : TypeId) (i : Nat) (l : List (Nat × AV)) (x : List T × St) : Option (List T × St) := (x.2.rowOf P e (i + 1) l).bind (rowOfC2 x.1)
def rowOfC (σ : St) (P : Program) (e : TypeId) (i : Nat) (l : List (Nat × AV)) (cs : List C) : Option (List T × St) := if cs.length = P.cellsOf e then (σ.moves P (fieldTypes P e) cs).bind (rowOfC1 P e i l) else none
theorem m_row0 {e : TypeId} {i : Nat} : σ.rowOf P e i [] = some ([], σ) := (rfl)
theorem m_row {e : TypeId} {i j : Nat} {v : AV} {l : List (Nat × AV)} : σ.rowOf P e i ((j, v) :: l) = if i = j then v.cs.bind (rowOfC σ P e i l) else none := by
 rw [St.rowOf]
 split
 ·congr 1
  funext cs
  unfold rowOfC
  by_cases hc : cs.length = P.cellsOf e
  ·rw [if_neg (by simpa using hc), if_pos hc]
   rfl
  ·rw [if_pos (by simpa using hc), if_neg hc]
 ·rfl
def buildC2 (d n : Nat) (e : TypeId) (x : List T × St) : Option (Option AV × St) := some (some (.c (.sl (site d 0) [] 0 n)), x.2.new (site d 0) ⟨.own, e, x.1⟩)
def buildC (E : Env) (σ : St) (d n : Nat) (e : TypeId) (vs : List (Nat × AV)) : Option (Option AV × St) := if vs.length = n then (σ.rowOf E.P e 0 vs).bind (buildC2 d n e) else none
theorem m_build {t e : TypeId} {n : Nat} {ps : Array (Nat × Operand)} (hu : E.P.underlying t = some (.slice e)) : E.op σ d (.buildSlice t n ps) = if elemOk E.P e = true ∧ n * E.P.cellsOf e ≤ 16777216 then (σ.evp ps.toList).bind (buildC E σ d n e) else none := by
 simp only [Env.op, hu]
 rfl
def storeC2 (id : Nat) (σ : St) : Option St := some (σ.scrub fun i q => i == id && !q.isEmpty)
def storeC1 (id : Nat) (p : List Nat) (off : Nat) (ts : List T) (σ : St) (x : Bool × TypeId × List T) : Option St := if (decide (x.1 = true) && decide (off + ts.length ≤ x.2.2.length) && (decide (64 ≤ id) || allV ts)) = true then (σ.setRow id p (setCells x.2.2 off ts)).bind (storeC2 id) else none
def storeC (id : Nat) (p : List Nat) (off : Nat) (x : List T × St) : Option St := (x.2.row id p).bind (storeC1 id p off x.1 x.2)
def liftC1 (P : Program) (t : TypeId) (tid : Nat) (p : List Nat) (id i len : Nat) (σ : St) (x : Bool × List T) : Option (List C × St) := if x.1 = true ∧ p = [] ∧ tid ≠ 64 then (σ.hole id i).map fun σ => ([.sl 64 [] 0 len], σ.new 64 ⟨.own, elemOf P t, x.2⟩) else none
theorem lift_v {t : TypeId} {tid : Nat} {p : List Nat} {x : Value} {l : List C} : σ.lift P t tid p (.v x :: l) = some (.v x :: l, σ) := by cases l <;> rfl
theorem lift_z {t : TypeId} {tid : Nat} {p : List Nat} {l : List C} : σ.lift P t tid p (.z :: l) = some (.z :: l, σ) := by cases l <;> rfl
theorem lift_o {t : TypeId} {tid id o n : Nat} {p : List Nat} : σ.lift P t tid p [.sl id [] o n] = some ([.sl id [] o n], σ) := rfl
theorem lift_m {t : TypeId} {tid id o n : Nat} {p q : List Nat} {c : C} {l : List C} : σ.lift P t tid p (.sl id q o n :: c :: l) = some (.sl id q o n :: c :: l, σ) := by cases q with | nil => rfl | cons i q => cases q <;> rfl
theorem lift_p {t : TypeId} {tid id i o n : Nat} {p : List Nat} : σ.lift P t tid p [.sl id [i] o n] = (σ.cellsOf P (elemOf P t) id [i] o n).bind (liftC1 P t tid p id i n σ) := rfl
def liftC (P : Program) (t : TypeId) (id : Nat) (p : List Nat) (off : Nat) (x : List C × St) : Option St := (x.2.moves P (fieldTypes P t) x.1).bind (storeC id p off)
attribute [simp] liftC1 lift_v lift_z lift_o lift_m lift_p liftC
def storeK (σ : St) (P : Program) (t : TypeId) (id : Nat) (p : List Nat) (off : Nat) (cs : List C) (ob : Obj) : Kind → Option St
 | .box => match p with
  | [] => if off + cs.length ≤ ob.xs.length then some ⟨σ.t, ins σ.o id ⟨.box, ob.e, setCells ob.xs off (cs.map toL)⟩⟩ else none
  | _ :: _ => none
 | .own => (σ.lift P t id p cs).bind (liftC P t id p off)
 | .ro => none
 | .lnk => none
def storeO (σ : St) (P : Program) (t : TypeId) (id : Nat) (p : List Nat) (off : Nat) (cs : List C) (ob : Obj) : Option St := storeK σ P t id p off cs ob ob.k
def unitC (σ : St) : Option (Option AV × St) := some (none, σ)
def storeA (E : Env) (σ : St) (t : TypeId) (id : Nat) (p : List Nat) (off : Nat) (cs : List C) : Option (Option AV × St) := if cs.length = E.P.cellsOf t ∧ 0 < cs.length then ((lk σ.o id).bind (storeO σ E.P t id p off cs)).bind unitC else none
def storeB (E : Env) (σ : St) (t : TypeId) (v : AV) : AV → Option (Option AV × St)
 | .ptr id p o => if v.isUnk = true then (σ.storeU E.P t id p o v).bind unitC else v.cs.bind (storeA E σ t id p o)
 | _ => none
def storeX (E : Env) (σ : St) (t : TypeId) (x : Operand) (v : AV) : Option (Option AV × St) := (σ.ev x).bind (storeB E σ t v)
theorem m_store {t : TypeId} {x y : Operand} : E.op σ d (.store t x y) = (σ.ev y).bind (storeX E σ t x) := by
 simp only [Env.op]
 cases hx : σ.ev x with
 | none =>
  cases hy : σ.ev y with
  | none => rfl
  | some v => simp [storeX, hx]
 | some u =>
  cases hy : σ.ev y with
  | none => cases u <;> rfl
  | some v =>
   simp only [storeX, hx, Option.bind_some]
   cases u with
   | ptr id p o =>
    simp only [storeB]
    by_cases hU : v.isUnk = true
    ·rw [if_pos hU, if_pos hU]
     rfl
    rw [if_neg hU, if_neg hU]
    congr 1
    funext cs
    unfold storeA
    split
    ·congr 1
     unfold St.store
     cases hl : lk σ.o id with
     | none => rfl
     | some ob =>
      simp only [Option.bind_some, storeO]
      unfold storeK
      cases ob.k with
      | box => rfl
      | ro => rfl
      | lnk => rfl
      | own =>
       show Option.bind _ _ = Option.bind _ _
       congr 1
       funext ⟨cs1, σ0⟩
       show Option.bind _ _ = Option.bind _ _
       congr 1
       funext ⟨ts, σ1⟩
       show Option.bind _ _ = Option.bind _ _
       congr 1
       funext ⟨w, e, xs⟩
       show (if _ then _ else _) = if _ then _ else _
       congr 1
       cases σ1.setRow id p (setCells xs o ts) <;> rfl
    ·rfl
   | _ => rfl
/-! ### append -/
def appE2 (d m len : Nat) (e : TypeId) (xs ys : List T) (σ : St) : Option (AV × St) := some (.c (.sl (site d 0) [] 0 (len + m)), σ.new (site d 0) ⟨.own, e, xs ++ ys⟩)
def appX (d m : Nat) (e : TypeId) (ys : List T) (id : Nat) (len : Nat) (σ : St) (xs : List T) : List Nat → Option (AV × St)
 | [] => some (.c (.sl (if id < 64 then site d 0 else id) [] 0 (len + m)), (σ.kill id).new (if id < 64 then site d 0 else id) ⟨.own, e, xs ++ ys⟩)
 | [i] => (σ.hole id i).bind (appE2 d m len e xs ys)
 | _ => none
def appR (d m : Nat) (e : TypeId) (ys : List T) (id : Nat) (p : List Nat) (len : Nat) (σ : St) (x : Bool × List T) : Option (AV × St) := if (decide (x.1 = true) && decide (x.2.length + ys.length ≤ most)) = true then appX d m e ys id len σ x.2 p else none
def appC (P : Program) (d : Nat) (e : TypeId) : C → Nat × List T × St → Option (AV × St)
 | .z, (m, ys, σ) => if elemOk P e = true ∧ ys.length ≤ most then some (.c (.sl (site d 0) [] 0 m), σ.new (site d 0) ⟨.own, e, ys⟩) else none
 | .sl id p 0 len, (m, ys, σ) => (σ.cellsOf P e id p 0 len).bind (appR d m e ys id p len σ)
 | _, _ => none
theorem m_append {t e : TypeId} {x y : C} (hu : P.underlying t = some (.slice e)) : σ.append P d t x y = (σ.taken P e y).bind (appC P d e x) := by
 unfold St.append
 rw [hu]
 show Option.bind _ _ = _
 congr 1
 funext ⟨m, ys, σ⟩
 cases x with
 | v q => rfl
 | z => rfl
 | sl id p off len =>
  cases off with
  | zero =>
   show Option.bind _ _ = Option.bind _ _
   congr 1
  | succ n => rfl
/-! ### functions -/
def resultsC2 (a : A) (x : List A × St) : Option (List A × St) := some (a :: x.1, x.2)
def resultsC1 (P : Program) (ts : List TypeId) (rs : List ResultVar) (x : A × St) : Option (List A × St) := (x.2.results P ts rs).bind (resultsC2 x.1)
def resultsC (σ : St) (P : Program) (t : TypeId) (ts : List TypeId) (rs : List ResultVar) (v : AV) : Option (List A × St) := (σ.result P t v).bind (resultsC1 P ts rs)
theorem f_res0 : σ.results P [] [] = some ([], σ) := (rfl)
theorem f_res {t : TypeId} {ts : List TypeId} {r : ResultVar} {rs : List ResultVar} : σ.results P (t :: ts) (r :: rs) = (σ.resVal P r).bind (resultsC σ P t ts rs) := (rfl)
@[simp] theorem f_resK0 {ts : List TypeId} {rs : List ResultVar} : σ.resultsK P [] ts rs = σ.results P ts rs := (rfl)
theorem f_resK {k : Nat} {K : List Nat} {ts : List TypeId} {rs : List ResultVar} : σ.resultsK P (k :: K) ts rs = if (rs.all fun r => (σ.resVal P r).isSome) = true then σ.resultsS σ P (k :: K) 0 ts rs else none := (rfl)
def agrC (x : List T × St) : Option (A × St) := some (.agg x.1, x.2)
def cellC (x : T × St) : Option (A × St) := some (.c x.1, x.2)
theorem f_agg {t : TypeId} {xs : List C} : σ.result P t (.agg xs) = (σ.moves P (fieldTypes P t) xs).bind agrC := (rfl)
theorem f_cell {t : TypeId} {x : C} : σ.result P t (.c x) = (σ.move P t x).bind cellC := (rfl)
def leaveK (i0 : Nat) (as : List A) (x : List A × St) : Ans := some (x.1, (St.leave.leaves x.2 i0 as).1)
def funcK (P : Program) (K : List Nat) (i0 : Nat) (f : Func) (as : List A) : Ex × St → Ans
 | (.exit _, _) => none
 | (.normal, σ) => (σ.resultsK P K f.resultTypes.toList f.results.toList).bind (leaveK i0 as)
 | (.ret, σ) => (σ.resultsK P K f.resultTypes.toList f.results.toList).bind (leaveK i0 as)
/-- A function, with its body. -/
theorem f_func {sk : List A → List Nat} {i0 : Nat} {f : Func} {as : List A} {c : Code} (hb : f.body = some c) (hl : (enter.enters i0 as).1.length ≤ f.ntmps) : Env.func E k h sk i0 f as = (E.exec k h c ⟨tmps0 0 (enter.enters i0 as).1, (enter.enters i0 as).2.2⟩).bind (funcK E.P (sk as) i0 f as) := by
 unfold Env.func
 simp only [hb]
 rw [if_neg (by omega)]
 congr 1
 funext ⟨x, σ⟩
 cases x <;> rfl
theorem m_run {M : Mach} {j f : Nat} {as : List A} {fn : Func} (hp : M.prim f = none) (hf : M.P.funcs[f]? = some fn) {c : Code} (hb : fn.body = some c) {i0 : Nat} (hi : (if M.far f = true then 64 * (fn.ntmps + 2) else 0) = i0) (hl : (enter.enters i0 as).1.length ≤ fn.ntmps) :
  M.run (j + 1) f as = (Env.exec ⟨M.P, fn.ntmps, M.run j, M.own⟩ j (M.hint f) c ⟨tmps0 0 (enter.enters i0 as).1, (enter.enters i0 as).2.2⟩).bind (funcK M.P (M.skip j f as) i0 fn as) := by
 rw [Mach.run, hp]
 simp only [hf]
 rw [hi, f_func hb hl]
/-! ### loops -/
def keepC (h : List Nat × List Nat) (r : Ex × St) : Option (Ex × St) := some (r.1, r.2.keep h)
attribute [simp] keepC
theorem iter_up {f : St → Option (Ex × St)} {h : List Nat × List Nat} {H : Nat → St} {n : Nat} {x : Ex} {F : St} (hx : x ≠ .normal) (hstep : ∀ i, i < n → (f (H i)).bind (keepC h) = some (.normal, H (i + 1))) (hend : f (H n) = some (x, F)) {σ : St} {k : Nat} (h0 : σ.keep h = H 0) (hk : n < k) : iter f h k σ = some (x, F) := by
 have key : ∀ m i σ k, i + m = n → σ.keep h = H i → m < k → iter f h k σ = some (x, F) := by
  intro m
  induction m with
  | zero =>
   intro i σ k hi hs hk
   obtain ⟨k, rfl⟩ : ∃ j, k = j + 1 := ⟨k - 1, by omega⟩
   have : i = n := by omega
   subst this
   rw [iter, hs, hend]
   cases x <;> first | rfl | exact absurd rfl hx
  | succ m ih =>
   intro i σ k hi hs hk
   obtain ⟨k, rfl⟩ : ∃ j, k = j + 1 := ⟨k - 1, by omega⟩
   obtain ⟨⟨y, τ⟩, h1, h2⟩ := Option.bind_eq_some_iff.1 (hstep i (by omega))
   simp only [keepC, Option.some.injEq, Prod.mk.injEq] at h2
   obtain ⟨rfl, h2⟩ := h2
   rw [iter, hs, h1]
   exact ih (i + 1) τ k (by omega) h2 (by omega)
 exact key n 0 σ k (by omega) h0 hk
/-- A loop whose n rounds lead from H 0 to H n, and that ends there. -/
theorem loop_up {E : Env} {k : Nat} {h : Nat → List Nat × List Nat} {a : Code} {σ : St} (H : Nat → St) (n : Nat) (x : Ex) (F : St) (hx : x ≠ .normal) (h0 : σ.keep (h (firstR a)) = H 0) (hk : n < k) (hstep : ∀ i, i < n → (E.exec k h a (H i)).bind (keepC (h (firstR a))) = some (.normal, H (i + 1))) (hend : E.exec k h a (H n) = some (x, F)) : loopE E k h a σ = some (x, F) := iter_up hx hstep hend h0 hk
theorem w64 {x : Int} (h : -9223372036854775808 ≤ x ∧ x ≤ 9223372036854775807) : IntKind.i64.wrap x = x := by
 unfold IntKind.wrap
 simp [IntKind.bits, IntKind.signed]
 omega
attribute [simp] x_skip x_region x_draw x_seq x_cond x_block x_exit x_ret x_loop regC seqC condC blockC firstR
def dropC (σ : St) : Option (List (Nat × AV)) → St
 | some vs => σ.without (lkrs σ.o (evpIds vs))
 | none => σ
theorem dropC_some {vs : List (Nat × AV)} : dropC σ (some vs) = σ.without (lkrs σ.o (evpIds vs)) := (rfl)
theorem lkrs_cons {id : Nat} {ob : Obj} {o : List (Nat × Obj)} {k : Nat} {K : List Nat} : lkrs ((id, ob) :: o) (k :: K) = if (decide (ob.k = .box) && !(ob.xs.all (T.offK (k :: K)))) = true then id :: lkrs o (k :: K) else lkrs o (k :: K) := by
 unfold lkrs
 rw [List.filter_cons]
 split <;> rfl
theorem lkrs_end {K : List Nat} : lkrs [] K = [] := (rfl)
theorem wo_cons {k : Nat} {K : List Nat} : σ.without (k :: K) = ⟨σ.t.filter fun x => x.2.offK (k :: K), σ.o.filter fun x => !(k :: K).contains x.1⟩ := (rfl)
theorem softOk_nil {ops : Array Oper} {l : List Operand} : softOk ops σ d l [] = true := (rfl)
theorem softOk_cons {ops : Array Oper} {l : List Operand} {id : Nat} {K : List Nat} : softOk ops σ d l (id :: K) = softAt ops σ d l (full σ.o (id :: K)) := (rfl)
theorem drop_nil {t : TypeId} {n : Nat} {ps : Array (Nat × Operand)} : σ.dropFor (.buildSlice t n ps) = dropC σ (σ.evp ps.toList) := (rfl)
theorem box_box : (Kind.box != Kind.box) = false := (rfl)
theorem own_box : (Kind.own != Kind.box) = true := (rfl)
theorem ro_box : (Kind.ro != Kind.box) = true := (rfl)
attribute [simp] softOk_nil softOk_cons drop_nil dropC_some lkrs_nil wo_nil lkrs_cons lkrs_end wo_cons full St.dropFor box_box own_box ro_box evpIds AV.ids csIds C.ids T.offK AV.offK lkOff dstOff isOther softAt Oper.looksAt Op.operands Call.operands
attribute [simp] Env.leadAll isLit barV passS boxSto Env.staysAll Env.stays isEarly isApp sameAV sameCs sameC Oper.apart opersC opersDC putC operC freeC o_nil o_cons o_nilD o_consD o_oper o_operD freeB isVal Env.free St.absent
attribute [simp] resC bltC fnC valueC c_blt c_val callC1 callC2 callC3 callC4 c_call backsC b_cons b_nil backCsC b_cs b_cs0 ressC ressC2 r_nil r_cons resCsC resCsC2 r_cs0 r_cs
attribute [simp] AV.isUnk Option.some_or Option.none_or
attribute [simp] movesC movesC2 m_nil m_cons rowOfC rowOfC1 rowOfC2 m_row0 m_row buildC buildC2 storeC storeC1 storeC2 storeK storeO storeA storeB storeX unitC m_store appE2 appX appR appC
attribute [simp] resultsC resultsC1 resultsC2 f_res0 f_res agrC cellC f_agg f_cell leaveK funcK
attribute [simp] enter enter.enters enterC enterCs tmps0 lk ins del St.want St.ev St.evs St.evp St.put site St.new St.kill St.keep St.keep1 St.rens St.ren St.linked linkTo St.ren2 renO renOb T.ren St.scrub T.scr AV.mem AV.mem.mems C.mem AV.cs cOf toL toC toCs St.load St.row down bin binV cmpI arI unV St.resVal St.move St.res St.res1 cnts A.cnt St.leave St.leave.leaves St.leaveC St.leaveCs St.leaveB St.leaveCells St.leaveL intOr oneOf fillC zC St.setRow setAt setCells allV
attribute [simp] aparts apart1 St.feets St.feet St.boxFeet St.boxesFeet C.feet T.feet csFeet tsFeet St.args St.arg St.argC St.argCs St.rowE St.ownE St.argE St.argBox St.argBoxes St.boxT St.back St.backC St.backB St.backBs St.backRows backBox below St.hole T.ro St.taken St.cellsOf
end Go.Proofs.YtemghdnofgjnmaaDoor.VM
