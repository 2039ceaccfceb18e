/- The machine on trees: stores, appends, code, functions, arguments. -/
import Derived.Test.YtemghdnofgjnmaaDoorV1
import Derived.Lib.ConvBytes
/- Stores. -/
namespace Go.Proofs.YtemghdnofgjnmaaDoor.VM
open Go Go.Proofs.YtemghdnofgjnmaaDoorW.PrintWords
set_option linter.unusedVariables false
set_option linter.unusedSimpArgs false
variable {P : Program} {w w1 w2 w0 : World} {mine : Ctx} {o o1 o2 : OM} {loc loc1 loc2 : Nat → Value} {O R : Nat → List Nat} {σ σ1 σ2 : St} {a : Act}

theorem setCells_eq : ∀ (ys xs : List T) (off : Nat), off + ys.length ≤ xs.length → VM.setCells xs off ys = xs.take off ++ ys ++ xs.drop (off + ys.length)
 | [], xs, off, h => by simp [VM.setCells]
 | y :: l, xs, off, h => by
  simp only [List.length_cons] at h
  rw [VM.setCells, setCells_eq l (xs.set off y) (off + 1) (by simp; omega)]
  rw [List.drop_set_of_lt (by omega), show off + 1 + l.length = off + (y :: l).length by simp; omega]
  congr 1
  rw [List.take_set, List.take_succ_eq_append_getElem (by omega), List.set_append_right _ _ (by rw [List.length_take]; omega)]
  have : off - (List.take off xs).length = 0 := by rw [List.length_take]; omega
  rw [this]
  simp
theorem RepLs_append : ∀ {xs ys : List T} {us vs : List Value}, RepLs P w o loc xs us → RepLs P w o loc ys vs → RepLs P w o loc (xs ++ ys) (us ++ vs)
 | [], ys, us, vs, h, h' => by rw [RepLs] at h; subst h; exact h'
 | x :: l, ys, us, vs, h, h' => by
  rw [RepLs] at h
  obtain ⟨u, us', rfl, h1, h2⟩ := h
  rw [List.cons_append, List.cons_append, RepLs]
  exact ⟨u, us' ++ vs, rfl, h1, RepLs_append h2 h'⟩
theorem RepLs_take : ∀ {n : Nat} {xs : List T} {us : List Value}, RepLs P w o loc xs us → RepLs P w o loc (xs.take n) (us.take n)
 | 0, xs, us, h => by simp [RepLs]
 | n + 1, [], us, h => by rw [RepLs] at h; subst h; simp [RepLs]
 | n + 1, x :: l, us, h => by
  rw [RepLs] at h
  obtain ⟨u, us', rfl, h1, h2⟩ := h
  rw [List.take_succ_cons, List.take_succ_cons, RepLs]
  exact ⟨u, _, rfl, h1, RepLs_take h2⟩
theorem RepLs_drop : ∀ {n : Nat} {xs : List T} {us : List Value}, RepLs P w o loc xs us → RepLs P w o loc (xs.drop n) (us.drop n)
 | 0, xs, us, h => by simpa using h
 | n + 1, [], us, h => by rw [RepLs] at h; subst h; simp [RepLs]
 | n + 1, x :: l, us, h => by
  rw [RepLs] at h
  obtain ⟨u, us', rfl, h1, h2⟩ := h
  rw [List.drop_succ_cons, List.drop_succ_cons]
  exact RepLs_drop h2
theorem RepLs_len : ∀ {xs : List T} {us : List Value}, RepLs P w o loc xs us → us.length = xs.length
 | [], us, h => by rw [RepLs] at h; rw [h]; rfl
 | x :: l, us, h => by
  rw [RepLs] at h
  obtain ⟨u, us', rfl, _, h2⟩ := h
  simp [RepLs_len h2]
theorem run_store {t : TypeId} {v : Value} {g n : Nat} {cur : Array Value} {e : TypeId} (hg : w.heap[g]? = some (.cells cur e (0, 0))) (hfit : n + v.cells.size ≤ cur.size) (hc : v.cells.size = P.cellsOf t) (h0 : 0 < v.cells.size) (h1 : ∀ u ∈ v.cells.toList, u.oneCell' = true) :
  (Instr.storeAt t (.pointer (some ⟨g, n, none⟩)) v).run P w = .ok () (w.setCells g n v.cells.toList) := by
 have hi : (P.info? t).map (·.size) = some v.cells.size := by
  unfold Program.cellsOf at hc
  cases hi : P.info? t with
  | none => rw [hi] at hc; simp only [Option.map_none, Option.getD_none] at hc; omega
  | some i => rw [hi] at hc; simp only [Option.map_some, Option.getD_some] at hc ⊢; rw [hc]
 have := run_storeAt_mid (P := P) w g n t v.cells (fun j hj => ⟨by rw [cell_of_row w g _ cur e (0, 0) hg, Array.getElem?_eq_getElem (by omega)]; rfl, blk_frozen hg _⟩) hi (Array.all_eq_true_iff_forall_mem.2 fun u hu => h1 u (by simpa using hu))
 exact this
/-- A store into a variable. -/
theorem store_boxT (h : Cor P w0 mine σ a w loc O R) {id off : Nat} {ob : Obj} {ts : List T} {t : TypeId} {p v : Value} (hl : lk σ.o id = some ob) (hk : ob.k = .box) (hp : RepAV P w σ.o loc (.ptr id [] off) p) (hv : RepLs P w σ.o loc ts v.cells.toList) (hone : ∀ u ∈ v.cells.toList, u.oneCell' = true) (hfit : off + ts.length ≤ ob.xs.length) (hc : ts.length = P.cellsOf t) (h0 : 0 < ts.length) :
  ∃ w', (Instr.storeAt t p v).run P w = .ok () w' ∧ w.heap.size ≤ w'.heap.size ∧ ∃ loc' O' R', Cor P w0 mine ⟨σ.t, ins σ.o id ⟨.box, ob.e, VM.setCells ob.xs off ts⟩⟩ a w' loc' O' R' := by
 have hob := h.inv.obj id ob hl
 unfold RepO at hob
 rw [hk] at hob
 obtain ⟨g, cur, e1, e2, e3, e4, e5⟩ := hob
 rw [RepAV] at hp
 obtain ⟨ob', d, ad, m, c, hl', _, _, hh, hsp, rfl⟩ := hp
 rw [hl] at hl'
 injection hl' with hl'
 subst hl'
 rw [HdrAt, e1] at hh
 injection hh with hh
 injection hh with hh
 subst hh
 have hlen := RepLs_len hv
 rw [Array.length_toList] at hlen
 have hxl := RepLs_len e5
 rw [Array.length_toList] at hxl
 have hrun := run_store (P := P) (w := w) (t := t) (v := v) (n := off) e2 (by omega) (by omega) (by omega) hone
 obtain ⟨cur', c1, c2, c3⟩ := setCells_row v.cells.toList off w cur e2 (by rw [Array.length_toList]; omega)
 obtain ⟨s1, s2, s3, s4⟩ := setCells_same g v.cells.toList off w
 refine ⟨_, by rw [show (⟨g, 0, none⟩ : Addr).add off = ⟨g, off, none⟩ by rw [add_at]; simp]; exact hrun, by rw [s4]; exact Nat.le_refl _, ?_⟩
 have hr := h.replace (w1 := w.setCells g off v.cells.toList) (ob' := ⟨.box, ob.e, VM.setCells ob.xs off ts⟩) (O' := [g]) (R' := []) hl hk.symm rfl (fun _ _ => false) (by rw [s4]; exact Nat.le_refl _) ⟨s1, s2, s3⟩ (fun b _ hb => setCells_far _ _ b (fun he => hb (by rw [e3, he]; simp))) (fun hT => by
  rw [scrOb_box (by rfl)]
  show ∃ g cs, _ ∧ _ ∧ _ ∧ _ ∧ _
  refine ⟨g, cur', e1, c1, rfl, rfl, ?_⟩
  refine RepLs_tr (fun j p hf => (hT j p hf).trans (Tr_scrO j p)) ?_
  rw [c3, setCells_eq _ _ _ (by omega)]
  have hl3 : v.cells.toList.length = ts.length := RepLs_len hv
  rw [hl3]
  exact RepLs_append (RepLs_append (RepLs_take e5) hv) (RepLs_drop e5)) (by simp) (fun b hb => .inl (by rw [e3]; exact hb)) (fun b hb => by simp at hb) (fun _ b hb => .inl (by rw [e3]; exact hb)) (fun p d h0 _ hb hd hh => by
  have := hb hk
  subst this
  rw [down] at hd ⊢
  injection hd with hd
  subst hd
  exact ⟨_, rfl, rfl, hh⟩)
 rw [scrub_none] at hr
 exact ⟨_, _, _, hr⟩
theorem store_box (h : Cor P w0 mine σ a w loc O R) {id off : Nat} {ob : Obj} {cs : List C} {t : TypeId} {p v : Value} (hl : lk σ.o id = some ob) (hk : ob.k = .box) (hp : RepAV P w σ.o loc (.ptr id [] off) p) (hv : RepCs P w σ.o loc cs v.cells.toList) (hfit : off + cs.length ≤ ob.xs.length) (hc : cs.length = P.cellsOf t) (h0 : 0 < cs.length) :
  ∃ w', (Instr.storeAt t p v).run P w = .ok () w' ∧ w.heap.size ≤ w'.heap.size ∧ ∃ loc' O' R', Cor P w0 mine ⟨σ.t, ins σ.o id ⟨.box, ob.e, VM.setCells ob.xs off (cs.map toL)⟩⟩ a w' loc' O' R' :=
 store_boxT h hl hk hp (RepLs_toL hv) (repCs_one hv) (by rw [List.length_map]; exact hfit) (by rw [List.length_map]; exact hc) (by rw [List.length_map]; exact h0)
theorem RepLs_hs : ∀ {us : List Value}, (∀ u ∈ us, u.oneCell' = true) → RepLs P w o loc (List.replicate us.length .h) us
 | [], _ => by rw [List.length_nil, List.replicate_zero, RepLs]
 | u :: us, h => by
  rw [List.length_cons, List.replicate_succ, RepLs]
  exact ⟨u, us, rfl, by rw [RepL]; exact h u (by simp), RepLs_hs fun v hv => h v (by simp [hv])⟩
end Go.Proofs.YtemghdnofgjnmaaDoor.VM

/- Stores into rows of one's own. -/
namespace Go.Proofs.YtemghdnofgjnmaaDoor.VM
open Go Go.Proofs.YtemghdnofgjnmaaDoorW.PrintWords
set_option linter.unusedVariables false
set_option linter.unusedSimpArgs false
variable {P : Program} {w w1 w2 w0 : World} {mine : Ctx} {o o1 o2 : OM} {loc loc1 loc2 : Nat → Value} {O R : Nat → List Nat} {σ σ1 σ2 : St} {a : Act}

theorem cut_at {α : Type} {xs : List α} {i : Nat} {x : α} (h : xs[i]? = some x) : xs = xs.take i ++ x :: xs.drop (i + 1) := by
 obtain ⟨hl, hx⟩ := List.getElem?_eq_some_iff.1 h
 rw [← hx, List.getElem_cons_drop, List.take_append_drop]
theorem set_at {α : Type} {xs : List α} {i : Nat} {x y : α} (h : xs[i]? = some x) : xs.set i y = xs.take i ++ y :: xs.drop (i + 1) := by
 obtain ⟨hl, hx⟩ := List.getElem?_eq_some_iff.1 h
 rw [List.set_eq_take_append_cons_drop, if_pos hl]
theorem RepTs_at {xs : List T} {us : List Value} {O R : List Nat} {i : Nat} {x : T} (h : RepTs P w xs us O R) (hi : xs[i]? = some x) : ∃ u us1 us2 O1 R1 Oa Ob Ra Rb, us = us1 ++ u :: us2 ∧ us1.length = i ∧ RepTs P w (xs.take i) us1 Oa Ra ∧ RepT P w x u O1 R1 ∧ RepTs P w (xs.drop (i + 1)) us2 Ob Rb ∧ O = Oa ++ (O1 ++ Ob) ∧ R = Ra ++ (R1 ++ Rb) := by
 rw [cut_at hi] at h
 obtain ⟨u1, u2, Oa, O2, Ra, R2, rfl, h1, h2, rfl, rfl⟩ := RepTs_split h
 rw [RepTs] at h2
 obtain ⟨u, us', O1, R1, Ob, Rb, rfl, h3, h4, rfl, rfl⟩ := h2
 refine ⟨u, u1, us', O1, R1, Oa, Ob, Ra, Rb, rfl, ?_, h1, h3, h4, rfl, rfl⟩
 have := RepTs_len h1
 have hl := (List.getElem?_eq_some_iff.1 hi).1
 rw [this, List.length_take]
 omega
theorem setAt_rep : ∀ (p : List Nat) {e e' : TypeId} {n : Nat} {xs zs ys xs' : List T} {h : Value} {O R : List Nat}, RepT P w (.s e n xs) h O R → O.Nodup → (∀ b ∈ R, b ∉ O) → down (true, e, xs) p = some (true, e', zs) → setAt xs p ys = some xs' →
  ∃ h' n' Oa Op Ob Ra Rp Rb, HdrAt w h p h' ∧ RepT P w (.s e' n' zs) h' Op Rp ∧ O = Oa ++ (Op ++ Ob) ∧ R = Ra ++ (Rp ++ Rb) ∧
   ∀ w1 Op' Rp', (∀ b, b ∈ O ∨ b ∈ R → b ∉ Op → w1.heap[b]? = w.heap[b]?) → RepT P w1 (.s e' n' ys) h' Op' Rp' → RepT P w1 (.s e n xs') h (Oa ++ (Op' ++ Ob)) (Ra ++ (Rp' ++ Rb))
 | [], e, e', n, xs, zs, ys, xs', h, O, R, hr, hn, hR, hd, hs => by
  rw [down] at hd
  injection hd with hd
  injection hd with _ hd
  injection hd with h1 h2
  subst h1; subst h2
  rw [setAt] at hs
  injection hs with hs
  subst hs
  exact ⟨h, n, [], O, [], [], R, [], by rw [HdrAt], hr, by simp, by simp, fun w1 Op' Rp' _ h => by simpa using h⟩
 | i :: q, e, e', n, xs, zs, ys, xs', h, O, R, hr, hn, hR, hd, hs => by
  rw [setAt] at hs
  split at hs
  ·rename_i e2 n2 zs2 hx
   obtain ⟨zs', hz, hs⟩ := Option.bind_eq_some_iff.1 hs
   injection hs with hs
   subst hs
   rw [down, hx] at hd
   have hd : down (true, e2, zs2) q = some (true, e', zs) := hd
   rw [RepT] at hr
   obtain ⟨us, O', hq, hts, rfl, hR0⟩ := hr
   obtain ⟨u, us1, us2, O1, R1, Oa1, Ob1, Ra1, Rb1, rfl, hi, h1, h2, h3, rfl, rfl⟩ := RepTs_at hts hx
   have n1 := List.nodup_append.1 hn
   have n2' := List.nodup_append.1 n1.2.1
   have n3 := List.nodup_append.1 n2'.2.1
   obtain ⟨h', n', Oa2, Op, Ob2, Ra2, Rp, Rb2, g1, g2, rfl, rfl, g3⟩ := setAt_rep q h2 n3.1 (fun b hb hb' => hR b (by simp [hb]) (by
    refine List.mem_append_right _ (List.mem_append_right _ (List.mem_append_left _ hb'))) ) hd hz
   have hn0 : 0 < n := by
    rcases Nat.eq_zero_or_pos n with h0 | h0
    ·subst h0
     have := hq.1
     simp at this
    ·exact h0
   obtain ⟨g, off, cc, he, hb, hcell⟩ := o_cells hq hn0
   refine ⟨h', n', oblk h ++ (Oa1 ++ Oa2), Op, Ob2 ++ Ob1, Ra1 ++ Ra2, Rp, Rb2 ++ Rb1, ?_, g2, by simp [List.append_assoc], by simp [List.append_assoc], fun w1 Op' Rp' hw hnew => ?_⟩
   ·rw [HdrAt]
    exact ⟨_, n, cc, u, he, by rw [add_at]; exact hcell i u (by rw [List.getElem?_append_right (by omega), hi]; simp), g1⟩
   ·have hel := g3 w1 Op' Rp' (fun b hb => hw b (by
     rcases hb with hb | hb
     ·exact .inl (List.mem_append_right _ (List.mem_append_right _ (List.mem_append_left _ hb)))
     ·exact .inr (List.mem_append_right _ (List.mem_append_left _ hb)))) hnew
    have hfar : ∀ b, b ∈ oblk h ∨ b ∈ Oa1 ∨ b ∈ Ob1 → b ∉ Op := fun b hb hb' => by
     have hm : b ∈ Oa2 ++ (Op ++ Ob2) := List.mem_append_right _ (List.mem_append_left _ hb')
     rcases hb with hb | hb | hb
     ·exact n1.2.2 b hb b (List.mem_append_right _ (List.mem_append_left _ hm)) rfl
     ·exact n2'.2.2 b hb b (List.mem_append_left _ hm) rfl
     ·exact n3.2.2 b hm b hb rfl
    have hfarR : ∀ b, b ∈ Ra1 ∨ b ∈ Rb1 → b ∉ Op := fun b hb hb' => by
     refine hR b ?_ (List.mem_append_right _ (List.mem_append_right _ (List.mem_append_left _ (List.mem_append_right _ (List.mem_append_left _ hb')))))
     rcases hb with hb | hb
     ·exact List.mem_append_left _ hb
     ·exact List.mem_append_right _ (List.mem_append_right _ hb)
    have hz := nil3' hR0
    have hz2 := nil3' hz.2.1
    have hz3 := RepT_s hnew
    rw [RepT]
    refine ⟨us1 ++ u :: us2, Oa1 ++ ((Oa2 ++ (Op' ++ Ob2)) ++ Ob1), o_move hq (fun k hk => hw k (.inl (List.mem_append_left _ hk)) (hfar k (.inl hk))), ?_, by simp [List.append_assoc], by rw [hz.1, hz.2.2, hz2.1, hz2.2.2, hz3]; rfl⟩
    rw [set_at hx, show Ra1 ++ Ra2 ++ (Rp' ++ (Rb2 ++ Rb1)) = Ra1 ++ ((Ra2 ++ (Rp' ++ Rb2)) ++ Rb1) by simp [List.append_assoc]]
    refine RepTs_append (RepTs_move _ (fun b hb => ?_) h1) ?_
    ·rcases hb with hb | hb
     ·exact hw b (.inl (List.mem_append_right _ (List.mem_append_left _ hb))) (hfar b (.inr (.inl hb)))
     ·exact hw b (.inr (List.mem_append_left _ hb)) (hfarR b (.inl hb))
    ·rw [RepTs]
     refine ⟨u, us2, _, _, _, _, rfl, hel, RepTs_move _ (fun b hb => ?_) h3, rfl, rfl⟩
     rcases hb with hb | hb
     ·exact hw b (.inl (List.mem_append_right _ (List.mem_append_right _ (List.mem_append_right _ hb)))) (hfar b (.inr (.inr hb)))
     ·exact hw b (.inr (List.mem_append_right _ (List.mem_append_right _ hb))) (hfarR b (.inr hb))
  ·simp at hs
end Go.Proofs.YtemghdnofgjnmaaDoor.VM

/- A store into a row of one's own, and stores in one. -/
namespace Go.Proofs.YtemghdnofgjnmaaDoor.VM
open Go Go.Proofs.YtemghdnofgjnmaaDoorW.PrintWords
set_option linter.unusedVariables false
set_option linter.unusedSimpArgs false
variable {P : Program} {w w1 w2 w0 : World} {mine : Ctx} {o o1 o2 : OM} {loc loc1 loc2 : Nat → Value} {O R : Nat → List Nat} {σ σ1 σ2 : St} {a : Act}

theorem Cor.ro_own (h : Cor P w0 mine σ a w loc O R) {id j : Nat} {ob x : Obj} (hl : lk σ.o id = some ob) (hj : lk σ.o j = some x) : ∀ b ∈ R j, b ∉ O id := fun b hb hb' => by
 have h1 := h.inv.ro j x hj b hb
 rcases (h.inv.own_ id ob hl b hb').2 with h2 | h2
 ·omega
 ·exact h1.2 h2
theorem window {cur : List Value} {us0 us : List Value} {goff off N : Nat} (h0 : (cur.drop goff).take N = us0) (hN : off + us.length ≤ N) (hl : goff + N ≤ cur.length) :
  ((cur.take (goff + off) ++ us ++ cur.drop (goff + off + us.length)).drop goff).take N = us0.take off ++ us ++ us0.drop (off + us.length) := by
 subst h0
 rw [List.append_assoc, List.drop_append_of_le_length (by rw [List.length_take]; omega), List.drop_take, show goff + off - goff = off by omega]
 rw [List.take_take, Nat.min_eq_left (by omega), List.drop_take, List.drop_drop]
 rw [← List.append_assoc, List.take_append]
 have e1 : ((cur.drop goff).take off ++ us).length = off + us.length := by rw [List.length_append, List.length_take, List.length_drop]; omega
 rw [e1, List.take_of_length_le (by omega)]
 congr 2
 rw [← Nat.add_assoc]
theorem allV_rep : ∀ {xs : List T} {us : List Value} {O R : List Nat}, allV xs = true → RepTs P w xs us O R → O = [] ∧ R = []
 | [], us, O, R, _, h => by rw [RepTs] at h; exact h.2
 | .v x :: l, us, O, R, hv, h => by
  rw [RepTs] at h
  obtain ⟨u, us', O1, R1, O2, R2, rfl, h1, h2, rfl, rfl⟩ := h
  rw [RepT] at h1
  obtain ⟨_, _, rfl, rfl⟩ := h1
  rw [allV] at hv
  exact allV_rep hv h2
 | .s _ _ _ :: l, us, O, R, hv, h => by simp [allV] at hv
 | .r _ _ _ :: l, us, O, R, hv, h => by simp [allV] at hv
 | .z :: l, us, O, R, hv, h => by simp [allV] at hv
 | .l _ _ _ _ :: l, us, O, R, hv, h => by simp [allV] at hv
 | .h :: l, us, O, R, hv, h => by simp [allV] at hv
theorem store_own (h : Cor P w0 mine σ a w loc O R) {id off : Nat} {p : List Nat} {ob : Obj} {cs : List C} {t e' : TypeId} {q v : Value} {ts zs : List T} (hl : lk σ.o id = some ob) (hk : ob.k = .own) (hp : RepAV P w σ.o loc (.ptr id p off) q) (hv : RepCs P w σ.o loc cs v.cells.toList) (hc : cs.length = P.cellsOf t) (h0 : 0 < cs.length)
  (hm : σ.moves P (fieldTypes P t) cs = some (ts, σ1)) (hrow : σ1.row id p = some (true, e', zs)) (hfit : off + ts.length ≤ zs.length) (h64 : 64 ≤ id ∨ allV ts = true) (hs : σ1.setRow id p (VM.setCells zs off ts) = some σ2) :
  ∃ w', (Instr.storeAt t q v).run P w = .ok () w' ∧ w.heap.size ≤ w'.heap.size ∧ ∃ loc' O' R', Cor P w0 mine (σ2.scrub (nested id)) a w' loc' O' R' := by
 obtain ⟨k1, k2, O', R', m⟩ := moves_sound h Sub.refl hv hm
 obtain ⟨ob1, hl1, hd1⟩ := row_lk hrow
 obtain ⟨ob2, hl2, hk2, he2, hn2⟩ := k2 id ob1 hl1
 rw [hl] at hl2
 injection hl2 with hl2
 subst hl2
 have := hn2 (by rw [hk]; simp)
 subst this
 rw [hk] at hd1
 have hd1 : down (true, ob1.e, ob1.xs) p = some (true, e', zs) := hd1
 unfold St.setRow at hs
 rw [hl1] at hs
 obtain ⟨xs', hset, hs⟩ := Option.bind_eq_some_iff.1 hs
 injection hs with hs
 subst hs
 have hob := k1.inv.obj id ob1 hl1
 unfold RepO at hob
 rw [hk] at hob
 obtain ⟨n, hroot⟩ := hob
 have hroot : RepT P w (.s ob1.e n ob1.xs) (loc id) (O id) (R id) := hroot
 obtain ⟨h', n', Oa, Op, Ob, Ra, Rp, Rb, g1, g2, hO, hR, g3⟩ := setAt_rep p hroot (k1.inv.nodup id ob1 hl1) (k1.ro_own hl1 hl1) hd1 hset
 rw [RepAV] at hp
 obtain ⟨ob', d, ad, m', c, hl', _, _, hh, hsp, rfl⟩ := hp
 have he := HdrAt_fun hh g1
 subst he
 have hcl := repCs_len hv
 have htl := RepTs_len m.rep
 rw [RepT] at g2
 obtain ⟨us0, O0, hq, hts, rfl, hRp⟩ := g2
 have hzl := RepTs_len hts
 obtain ⟨hq1, A, c1, hq2, hnc, hcm, hq3⟩ := hq
 injection hq2 with e1 e2 e3
 subst e1; subst e2; subst e3
 have hn0 : 0 < m' := by
  rcases Nat.eq_zero_or_pos m' with h1 | h1
  ·subst h1; omega
  ·exact h1
 rcases hq3 with hq3 | ⟨g, goff, cur, hq3, hheap, hsz, hwin⟩
 ·omega
 ·injection hq3 with hq3
  subst hq3
  have hnc2 : m' * P.cellsOf e' ≤ c * P.cellsOf e' := Nat.mul_le_mul_right _ hnc
  have hvl : v.cells.size = cs.length := by rw [← hcl, Array.length_toList]
  have hrun := run_store (P := P) (w := w) (t := t) (v := v) (n := goff + off) hheap (by omega) (by omega) (by omega) (repCs_one hv)
  obtain ⟨cur', c1, c2, c3⟩ := setCells_row v.cells.toList (goff + off) w cur hheap (by rw [Array.length_toList]; omega)
  obtain ⟨s1, s2, s3, s4⟩ := setCells_same g v.cells.toList (goff + off) w
  refine ⟨_, by rw [add_at]; exact hrun, by rw [s4]; exact Nat.le_refl _, ?_⟩
  have hcpos : 0 < c := by omega
  have hob : oblk (.slice (some ⟨g, goff, none⟩) m' c) = [g] := oblk_pos hcpos
  rw [hob] at hO g3
  have hgO : g ∈ O id := by rw [hO]; simp
  obtain ⟨f1, f2, f3⟩ := m.far h k2
  have hO'id : ∀ b ∈ O', b ∉ O id := fun b hb hb' => f1 id ob1 hl1 b hb' hb
  have hR'id : ∀ b ∈ R', b ∉ O id := fun b hb hb' => by
   rcases (k1.inv.own_ id ob1 hl1 b hb').2 with h2 | h2
   ·have := (f3 b hb).1; omega
   ·exact (f3 b hb).2 h2
  have hndO := k1.inv.nodup id ob1 hl1
  -- the row's cells
  have ez : zs = zs.take off ++ ((zs.drop off).take ts.length ++ (zs.drop off).drop ts.length) := by rw [List.take_append_drop, List.take_append_drop]
  have hts2 := hts
  rw [ez] at hts2
  obtain ⟨u1, u2, Oz1, O2, Rz1, R2, hu, hz1, hz2, rfl, rfl⟩ := RepTs_split hts2
  obtain ⟨u3, u4, Om, Oz2, Rm, Rz2, hu2, hz3, hz4, rfl, rfl⟩ := RepTs_split hz2
  subst hu2; subst hu
  have l1 := RepTs_len hz1
  have l3 := RepTs_len hz3
  rw [List.length_take] at l1 l3
  rw [List.length_drop] at l3
  have l1' : u1.length = off := by omega
  have l3' : u3.length = ts.length := by omega
  have hu4 : (u1 ++ (u3 ++ u4)).drop (off + v.cells.toList.length) = u4 := by
   rw [htl, ← List.append_assoc, ← l1', ← l3', ← List.length_append, List.drop_left]
  have hu1 : (u1 ++ (u3 ++ u4)).take off = u1 := by rw [← l1', List.take_left]
  have hz4' : (zs.drop off).drop ts.length = zs.drop (off + ts.length) := by rw [List.drop_drop]
  have hnd3 : ∀ b, b ∈ Oz1 ∨ b ∈ Oz2 → b ≠ g ∧ b ∈ O id := fun b hb => by
   have hm : b ∈ Oz1 ++ (Om ++ Oz2) := by
    rcases hb with hb | hb
    ·exact List.mem_append_left _ hb
    ·exact List.mem_append_right _ (List.mem_append_right _ hb)
   refine ⟨fun e => ?_, ?_⟩
   ·rw [hO] at hndO
    have n1 := List.nodup_append.1 hndO
    have n2 := List.nodup_append.1 n1.2.1
    have n3 := List.nodup_append.1 n2.1
    exact n3.2.2 g (by simp) b hm e.symm
   ·rw [hO]
    exact List.mem_append_right _ (List.mem_append_left _ (List.mem_append_right _ hm))
  have hRz : ∀ b, b ∈ Rz1 ∨ b ∈ Rz2 → b ≠ g := fun b hb e => by
   have : b ∈ R id := by
    rw [hR]
    refine List.mem_append_right _ (List.mem_append_left _ ?_)
    rcases hb with hb | hb
    ·exact List.mem_append_left _ hb
    ·exact List.mem_append_right _ (List.mem_append_right _ hb)
   exact k1.ro_own hl1 hl1 b this (by rw [e]; exact hgO)
  have hfarw : ∀ b, b ≠ g → (w.setCells g (goff + off) v.cells.toList).heap[b]? = w.heap[b]? := fun b hb => setCells_far _ _ b hb
  have hnew : RepT P (w.setCells g (goff + off) v.cells.toList) (.s e' m' (VM.setCells zs off ts)) (.slice (some ⟨g, goff, none⟩) m' c) ([g] ++ (Oz1 ++ (O' ++ Oz2))) (Rz1 ++ (R' ++ Rz2)) := by
   have hz := nil3' hRp
   rw [RepT]
   refine ⟨u1 ++ (v.cells.toList ++ u4), Oz1 ++ (O' ++ Oz2), ⟨?_, _, c, rfl, hnc, hcm, .inr ⟨g, goff, cur', rfl, c1, by rw [c2]; exact hsz, ?_⟩⟩, ?_, by rw [hob], by rw [hz.1, hz.2.2, m.ro]; rfl⟩
   ·rw [← hq1]
    simp only [List.length_append, htl, l3']
   ·rw [c3, window hwin (by rw [htl]; omega) (by rw [Array.length_toList]; omega), hu1, hu4, List.append_assoc]
   ·rw [setCells_eq _ _ _ hfit, List.append_assoc, ← hz4']
    refine RepTs_append (RepTs_move _ (fun b hb => hfarw b ?_) hz1) (RepTs_append (RepTs_move _ (fun b hb => hfarw b ?_) m.rep) (RepTs_move _ (fun b hb => hfarw b ?_) hz4))
    ·rcases hb with hb | hb
     ·exact (hnd3 b (.inl hb)).1
     ·exact hRz b (.inl hb)
    ·rcases hb with hb | hb
     ·exact fun e => hO'id b hb (by rw [e]; exact hgO)
     ·exact fun e => hR'id b hb (by rw [e]; exact hgO)
    ·rcases hb with hb | hb
     ·exact (hnd3 b (.inr hb)).1
     ·exact hRz b (.inr hb)
  have hfin := g3 _ _ _ (fun b _ hb => hfarw b (fun e => hb (by rw [e]; simp))) hnew
  have hperm : (Oa ++ ([g] ++ (Oz1 ++ (O' ++ Oz2)) ++ Ob)).Perm (O' ++ (Oa ++ ([g] ++ (Oz1 ++ Oz2) ++ Ob))) := by
   rw [List.perm_iff_count]
   intro b
   simp only [List.count_append]
   omega
  have hsubl : (Oa ++ ([g] ++ (Oz1 ++ Oz2) ++ Ob)).Sublist (O id) := by
   rw [hO]
   refine List.Sublist.append (List.Sublist.refl _) (List.Sublist.append (List.Sublist.append (List.Sublist.refl _) (List.Sublist.append (List.Sublist.refl _) (List.sublist_append_right _ _))) (List.Sublist.refl _))
  have hR2 : ∀ b ∈ Ra ++ (Rz1 ++ (R' ++ Rz2) ++ Rb), b ∈ R' ∨ b ∈ R id := fun b hb => by
   rw [hR]
   simp only [List.mem_append] at hb ⊢
   rcases hb with hb | ((hb | hb | hb) | hb)
   ·exact .inr (.inl hb)
   ·exact .inr (.inr (.inl (.inl hb)))
   ·exact .inl hb
   ·exact .inr (.inr (.inl (.inr (.inr hb))))
   ·exact .inr (.inr (.inr hb))
  have hrep := k1.replace (w1 := w.setCells g (goff + off) v.cells.toList) (ob' := ⟨ob1.k, ob1.e, xs'⟩) (O' := Oa ++ ([g] ++ (Oz1 ++ (O' ++ Oz2)) ++ Ob)) (R' := Ra ++ (Rz1 ++ (R' ++ Rz2) ++ Rb)) hl1 rfl rfl (nested id) (by rw [s4]; exact Nat.le_refl _) ⟨s1, s2, s3⟩ (fun b _ hb => hfarw b (fun e => hb (by rw [e]; exact hgO))) (fun _ => by
   rw [scrOb_not (by simp [hk])]
   unfold RepO
   simp only [hk]
   exact ⟨n, hfin⟩) (hperm.nodup_iff.2 (List.nodup_append.2 ⟨m.nodup, hndO.sublist hsubl, fun b hb c hc e => hO'id b hb (by rw [e]; exact hsubl.subset hc)⟩)) (fun b hb => by
   rcases List.mem_append.1 (hperm.mem_iff.1 hb) with hb | hb
   ·exact .inr ⟨fun j x hj hbj => f1 j x hj b hbj hb, by rw [s4]; exact (f2 b hb).1, (f2 b hb).2⟩
   ·exact .inl (hsubl.subset hb)) (fun b hb => by
   rcases hR2 b hb with hb | hb
   ·exact f3 b hb
   ·exact k1.inv.ro id ob1 hl1 b hb) (fun hid b hb => by
   rcases List.mem_append.1 (hperm.mem_iff.1 hb) with hb | hb
   ·rcases h64 with h64 | h64
    ·omega
    ·rw [(allV_rep h64 m.rep).1] at hb
     simp at hb
   ·exact .inl (hsubl.subset hb)) (fun p' d h1 hf _ hd hh => by
   have := nested_false hf
   subst this
   rw [down] at hd ⊢
   injection hd with hd
   subst hd
   rw [HdrAt] at hh ⊢
   exact ⟨_, rfl, rfl, hh⟩)
  exact ⟨_, _, _, hrep⟩
end Go.Proofs.YtemghdnofgjnmaaDoor.VM

/- A store, in one; what an append takes. -/
namespace Go.Proofs.YtemghdnofgjnmaaDoor.VM
open Go Go.Proofs.YtemghdnofgjnmaaDoorW.PrintWords
set_option linter.unusedVariables false
set_option linter.unusedSimpArgs false
variable {P : Program} {w w1 w2 w0 : World} {mine : Ctx} {o o1 o2 : OM} {loc loc1 loc2 : Nat → Value} {O R : Nat → List Nat} {σ σ1 σ2 : St} {a : Act}

theorem lk_kill (hs : Srt σ.o) {k id : Nat} (hne : k ≠ id) {ob : Obj} (hl : lk σ.o id = some ob) (hk : ob.k ≠ .box) : lk (σ.kill k).o id = some ob := by
 unfold St.kill
 split
 ·exact hl
 ·rw [scrub_eq]
  show lk (scrO _ (del σ.o k)) id = _
  rw [lk_scrO, lk_del _ _ _ hs, if_neg hne, hl]
  show some (scrOb _ ob) = _
  rw [scrOb_not hk]
theorem lk_new (hs : Srt σ.o) {k id : Nat} (hne : k ≠ id) {ob ob' : Obj} (hl : lk σ.o id = some ob) (hk : ob.k ≠ .box) : lk (σ.new k ob').o id = some ob := by
 unfold St.new
 show lk (ins (σ.kill k).o k ob') id = _
 rw [lk_ins, if_neg hne]
 exact lk_kill hs hne hl hk
theorem lift_sound (h : Cor P w0 mine σ a w loc O R) {t : TypeId} {tid off : Nat} {p : List Nat} {cs cs' : List C} {vs : List Value} {q : Value} {ob : Obj} (hl : lk σ.o tid = some ob) (hk : ob.k = .own) (hp : RepAV P w σ.o loc (.ptr tid p off) q) (hv : RepCs P w σ.o loc cs vs) (hL : σ.lift P t tid p cs = some (cs', σ1)) :
  ∃ loc' O' R' ob', Cor P w0 mine σ1 a w loc' O' R' ∧ lk σ1.o tid = some ob' ∧ ob'.k = .own ∧ RepAV P w σ1.o loc' (.ptr tid p off) q ∧ RepCs P w σ1.o loc' cs' vs ∧ cs'.length = cs.length := by
 unfold St.lift at hL
 split at hL
 ·rename_i id i off1 len
  obtain ⟨⟨wn, xs⟩, hcell, hL2⟩ := Option.bind_eq_some_iff.1 hL
  simp only at hL2
  split at hL2
  ·rename_i hc
   obtain ⟨rfl, rfl, h64⟩ := hc
   obtain ⟨σh, hhole, hL3⟩ := Option.map_eq_some_iff.1 hL2
   injection hL3 with e1 e2
   subst e1; subst e2
   obtain ⟨xs0, hrow, hok, hlen, hxs⟩ := cellsOf_some hcell
   obtain ⟨iz, zz, _, _, hpos, _, _, hce⟩ := elemOk_some hok
   obtain ⟨ob1, hlk, hd⟩ := row_lk hrow
   rw [RepCs] at hv
   obtain ⟨v, us, rfl, hc1, hus⟩ := hv
   rw [RepCs] at hus
   subst hus
   rw [RepC] at hc1
   obtain ⟨ob2, d, hd2, hl2, hkb, hdn, hh, hsub⟩ := hc1
   rw [hlk] at hl2
   injection hl2 with hl2
   subst hl2
   have hkk : ob1.k = .own := by
    cases hkk : ob1.k with
    | own => rfl
    | box => exact absurd hkk hkb
    | ro =>
     rw [hkk] at hd
     rw [down] at hd
     split at hd
     ·simp [down, ownB] at hd
     ·simp [down] at hd
     ·simp at hd
    | lnk =>
     rw [hkk] at hd
     rw [down] at hd
     split at hd
     ·simp [down, ownB] at hd
     ·simp [down] at hd
     ·simp at hd
   rw [hdn] at hd
   injection hd with hd
   subst hd
   rw [hkk] at hdn
   rw [down] at hdn
   split at hdn
   ·rename_i e2 n2 zs2 hxi
    rw [down] at hdn
    injection hdn with hdn
    injection hdn with _ hdn
    injection hdn with d2 d3
    subst d2; subst d3
    obtain ⟨u, O1, R1, O2, R2, c1, c2, ⟨ad, mq, cq, c3, c4⟩, c5, c6, c7, c8, c9⟩ := hole_sound h hlk hkk hxi hhole
    rw [HdrAt] at hh
    obtain ⟨ad', m', c', u', b1, b2, b3⟩ := hh
    rw [HdrAt] at b3
    subst b3
    rw [c3] at b1
    injection b1 with b1 _ _
    injection b1 with b1
    subst b1
    rw [c4] at b2
    injection b2 with b2
    subst b2
    obtain ⟨O4, R4, g1, g2, g3, g4⟩ := part_row (off := off1) (n := len) c2 c5 hsub (by rw [hce]; exact hpos) hlen
    rw [← hxs] at g1
    obtain ⟨loc', O5, R5, n1, n2, n3⟩ := c1.newRow' 64 (Nat.le_refl _) g1 g2 (fun id' ob' hl'' b hb hb' => by
     by_cases hne : id' = id
     ·subst hne
      rw [upd_same] at hb
      exact (c6 b (g3 b hb')).2 hb
     ·rw [upd_other _ _ hne] at hb
      obtain ⟨y, hy'⟩ := c9 id' ⟨ob', hl''⟩
      exact h.inv.disj id' id y ob1 hne hy' hlk b hb (c6 b (g3 b hb')).1) (fun b hb => h.inv.own_ id ob1 hlk b (c6 b (g3 b hb)).1) (fun b hb => by rw [g4] at hb; simp at hb)
    have hT : ∃ ob', lk σh.o tid = some ob' ∧ ob'.k = .own := by
     unfold St.hole at hhole
     rw [hlk] at hhole
     simp only [Option.some.injEq] at hhole
     subst hhole
     rw [scrub_eq]
     show ∃ ob', lk (scrO _ (ins σ.o id _)) tid = some ob' ∧ _
     rw [lk_scrO, lk_ins]
     by_cases hi : id = tid
     ·subst hi
      rw [if_pos rfl]
      exact ⟨_, rfl, by rw [scrOb_not (by simp [hkk])]; exact hkk⟩
     ·rw [if_neg hi, hl]
      exact ⟨_, rfl, by rw [scrOb_not (by simp [hk])]; exact hk⟩
    obtain ⟨ob', t1, t2⟩ := hT
    have t3 := lk_new (ob' := ⟨.own, elemOf P t, xs⟩) c1.so (fun e => h64 e.symm) t1 (by rw [t2]; simp)
    refine ⟨loc', O5, R5, ob', n1, t3, t2, ?_, ?_, rfl⟩
    ·rw [RepAV] at hp ⊢
     obtain ⟨ob3, d3, ad3, m3, c33, p1, p2, p3, p4, p5, p6⟩ := hp
     rw [HdrAt] at p4
     refine ⟨ob', (ownB ob'.k, ob'.e, ob'.xs), ad3, m3, c33, t3, fun _ => rfl, by rw [down], ?_, p5, p6⟩
     rw [HdrAt, n3 tid h64]
     exact p4
    ·rw [RepCs]
     exact ⟨v, [], rfl, n2, by rw [RepCs]⟩
   ·simp [down] at hdn
   ·simp at hdn
  ·simp at hL2
 ·simp only [Option.some.injEq, Prod.mk.injEq] at hL
  obtain ⟨rfl, rfl⟩ := hL
  exact ⟨loc, O, R, ob, h, hl, hk, hp, hv, rfl⟩
theorem store_sound {E : Env} (hE : E.P = P) (h : Cor P w0 mine σ a w loc O R) {op : Oper} {t : TypeId} {x y : Operand} (ho : op.op = .store t x y) {d : Nat} {r : Option AV} (hop : E.op σ d op.op = some (r, σ1)) : OpOk P w0 mine σ1 a r op w := by
 subst hE
 have fin : ∀ {w' : World}, (Instr.storeAt t (a.eval x) (a.eval y)).run E.P w = .ok () w' → (execOp a.eval op).run E.P w = .ok .skip w' := by
  intro w' hr
  unfold execOp
  rw [ho]
  simp only [Sem.run_bind, hr]
  rfl
 rw [ho] at hop
 simp only [Env.op] at hop
 split at hop
 ·rename_i id p off v hx hy
  split at hop
  ·obtain ⟨σ', hst, hop⟩ := Option.bind_eq_some_iff.1 hop
   injection hop with hop
   injection hop with h1 h2
   subst h1; subst h2
   have hv := rep_ev h.tm hy
   have hp := rep_ev h.tm hx
   unfold St.storeU at hst
   cases v with
   | unk n =>
    simp only at hst
    split at hst
    ·rename_i ob hl
     split at hst
     ·rename_i hc
      obtain ⟨hk, rfl, hn, h0, hfit⟩ := hc
      injection hst with hst
      subst hst
      rw [RepAV] at hv
      obtain ⟨us, hve, hul, hone⟩ := hv
      obtain ⟨w', g1, g2, loc', O', R', g3⟩ := store_boxT (ts := List.replicate n .h) h hl hk hp (v := a.eval y) (by rw [hve, ← hul]; exact RepLs_hs hone) (by rw [hve]; exact hone) (by rw [List.length_replicate]; exact hfit) (by rw [List.length_replicate]; exact hn) (by rw [List.length_replicate]; exact h0)
      exact ⟨_, w', fin g1, g2, loc', O', R', g3, rfl⟩
     ·simp at hst
    ·simp at hst
   | _ => simp at hst
  obtain ⟨cs, hcs, hop⟩ := Option.bind_eq_some_iff.1 hop
  split at hop
  ·rename_i hc
   obtain ⟨σ', hst, hop⟩ := Option.bind_eq_some_iff.1 hop
   injection hop with hop
   injection hop with h1 h2
   subst h1; subst h2
   have hv := rep_cs (rep_ev h.tm hy) hcs
   have hp := rep_ev h.tm hx
   unfold St.store at hst
   split at hst
   ·simp at hst
   ·rename_i ob hl
    split at hst
    ·rename_i hk
     split at hst
     ·split at hst
      ·rename_i hfit
       injection hst with hst
       subst hst
       obtain ⟨w', g1, g2, loc', O', R', g3⟩ := store_box h hl hk hp hv hfit hc.1 hc.2
       exact ⟨_, w', fin g1, g2, loc', O', R', g3, rfl⟩
      ·simp at hst
     ·simp at hst
    ·rename_i hk
     obtain ⟨⟨cs', σL⟩, hL, hst⟩ := Option.bind_eq_some_iff.1 hst
     obtain ⟨locL, OL, RL, obL, l1, l2, l3, l4, l5, l6⟩ := lift_sound h hl hk hp hv hL
     obtain ⟨⟨ts, σ2⟩, hm, hst⟩ := Option.bind_eq_some_iff.1 hst
     obtain ⟨⟨own, e', zs⟩, hrow, hst⟩ := Option.bind_eq_some_iff.1 hst
     simp only at hst
     split at hst
     ·rename_i hc2
      obtain ⟨σ3, hset, hst⟩ := Option.map_eq_some_iff.1 hst
      subst hst
      simp only [Bool.and_eq_true, Bool.or_eq_true, decide_eq_true_eq] at hc2
      obtain ⟨⟨rfl, hfit⟩, h64⟩ := hc2
      obtain ⟨w', g1, g2, loc', O', R', g3⟩ := store_own l1 l2 l3 l4 l5 (l6.trans hc.1) (by rw [l6]; exact hc.2) hm hrow hfit h64 hset
      exact ⟨_, w', fin g1, g2, loc', O', R', g3, rfl⟩
     ·simp at hst
    ·simp at hst
    ·simp at hst
  ·simp at hop
 ·simp at hop
/-- Where an append's second operand lies. -/
def SrcAt (w : World) (y : Value) (m : Nat) (us : List Value) : Prop := (m = 0 ∧ ∃ A c, y = .slice A 0 c) ∨ (0 < m ∧ ∃ ad c, y = .slice (some ad) m c ∧ ∀ j u, us[j]? = some u → w.cell? (ad.add j) = some u)
theorem taken_sound (h : Cor P w0 mine σ a w loc O R) {e : TypeId} {c : C} {v : Value} (hc : RepC P w σ.o loc c v) {m : Nat} {ys : List T} (ht : σ.taken P e c = some (m, ys, σ1)) :
  Cor P w0 mine σ1 a w loc O R ∧ Sub σ1.o σ.o ∧ ∃ us O' R', Moved P w σ.o σ1.o O R ys us O' R' ∧ us.length = m * P.cellsOf e ∧ SrcAt w v m us := by
 cases c with
 | v y => simp [St.taken] at ht
 | z =>
  simp only [St.taken, Option.some.injEq, Prod.mk.injEq] at ht
  obtain ⟨rfl, rfl, rfl⟩ := ht
  rw [RepC] at hc
  exact ⟨h, Sub.refl, [], [], [], Moved.nil P w σ.o σ.o O R, by simp, .inl ⟨rfl, none, 0, hc⟩⟩
 | sl id p off len =>
  simp only [St.taken] at ht
  obtain ⟨⟨own, ys'⟩, hcell, ht⟩ := Option.bind_eq_some_iff.1 ht
  obtain ⟨xs, hr, hok, hlen, rfl⟩ := cellsOf_some hcell
  obtain ⟨i, z, hi, hz, hsz, _, _, hce⟩ := elemOk_some hok
  obtain ⟨ob, hl, hd⟩ := row_lk hr
  obtain ⟨ob', own', e', xs', mm, h', O', R', hl', hk, hd', hh, hrow, hO, hR, hsub⟩ := h.inv.sl hc
  rw [hl] at hl'
  injection hl' with hl'
  subst hl'
  rw [hd] at hd'
  injection hd' with hd'
  injection hd' with e1 hd'
  injection hd' with e2 e3
  subst e1; subst e2; subst e3
  have src : ∀ us : List Value, (∀ A c (j : Nat) x, h' = .slice A mm c → us[j]? = some x → ∃ ad, A = some ad ∧ w.cell? (ad.add j) = some x) → SrcAt w v len ((us.drop off).take (len * P.cellsOf e)) := by
   intro us hus
   have hcopy := hsub
   obtain ⟨A, m2, c, A', c', hA, rfl, hnc, hcm, hle, hA'⟩ := hcopy
   rcases Nat.eq_zero_or_pos len with h0 | h0
   ·subst h0
    exact .inl ⟨rfl, A', c', rfl⟩
   ·obtain ⟨ad, m3, c3, c4, hh3, hsp, he, _⟩ := h.inv.hdr hc hl hd h0 (by omega)
    injection he with he1 he2 he3
    have hhe := HdrAt_fun hh hh3
    obtain ⟨A5, c5, us5, _, _, h5, _⟩ := Row_cells hrow
    refine .inr ⟨h0, ad.add off, c', by rw [he1], fun j u hu => ?_⟩
    rw [List.getElem?_take] at hu
    split at hu
    ·rw [List.getElem?_drop] at hu
     obtain ⟨ad2, h6, h7⟩ := hus A5 c5 _ u h5 hu
     rw [h5] at hhe
     injection hhe with hhe _ _
     rw [h6] at hhe
     injection hhe with hhe
     subst hhe
     rw [add_add]
     exact h7
    ·simp at hu
  simp only at ht
  split at ht
  ·rename_i hv
   simp only [Option.some.injEq, Prod.mk.injEq] at ht
   obtain ⟨rfl, rfl, rfl⟩ := ht
   obtain ⟨A, c, us, O2, R2, hA, hnc, hcm, hxl, hts, _, _, hcell2⟩ := Row_cells hrow
   obtain ⟨O3, R3, Oa, Ob, Ra, Rb, h3, _, _⟩ := RepTs_cut hts off (len * P.cellsOf e)
   obtain ⟨rfl, rfl⟩ := allV_rep hv h3
   refine ⟨h, Sub.refl, _, [], [], ⟨h3, List.nodup_nil, fun b hb => by simp at hb, rfl⟩, ?_, src us (fun A2 c2 j x hA2 hx => ?_)⟩
   ·have := RepTs_len hts
    rw [List.length_take, List.length_drop]
    omega
   ·rw [hA] at hA2
    injection hA2 with hA2 _ _
    subst hA2
    obtain ⟨ad, k1, _, k2, _⟩ := hcell2 j x hx
    exact ⟨ad, k1, k2⟩
  ·split at ht
   ·rename_i hc2
    simp only [Bool.and_eq_true, List.isEmpty_iff, decide_eq_true_eq] at hc2
    simp only [Option.some.injEq, Prod.mk.injEq] at ht
    obtain ⟨h11, h12, h13⟩ := ht
    obtain ⟨h14, h15⟩ := hc2
    subst h11; subst h12; subst h13; subst h14; subst h15
    rw [down] at hd
    injection hd with hd
    injection hd with d1 hd
    injection hd with d2 d3
    obtain ⟨m2, hrow2⟩ := h.inv.row2 hl hk (fun e => by rw [e] at d1; simp [ownB] at d1)
    rw [d1, d2, d3] at hrow2
    rw [HdrAt] at hh
    subst hh
    obtain ⟨k1, k2, k3⟩ := h.kill id
    have hrow3 : RepT P w (.s e m2 xs) (loc id) (O id) (R id) := hrow2
    obtain ⟨A, c, _, _, _, hA, _, _, _, _, _, _, _⟩ := Row_cells hrow2
    obtain ⟨A', c', _, _, _, hA', _, _, _, _, _, _, _⟩ := Row_cells hrow
    have hnd := h.inv.nodup id ob hl
    rw [RepT] at hrow3
    obtain ⟨us, O2, hq, hts, hOe, hR0⟩ := hrow3
    obtain ⟨O3, R3, Oa, Ob, Ra, Rb, h3, e5, e6⟩ := RepTs_cut hts off (len * P.cellsOf e)
    have hsl : O3.Sublist (O id) := by
     rw [hOe, e5, List.append_assoc]
     exact ((List.sublist_append_left O3 Ob).trans (List.sublist_append_right Oa _)).trans (List.sublist_append_right _ _)
    refine ⟨k1, Sub.kill h.so id, _, O3, R3, ⟨h3, hnd.sublist hsl, fun b hb => ⟨id, ob, hl, k2, hsl.subset hb⟩, (nil3 (e6.symm.trans hR0)).2.1⟩, ?_, src us (fun A2 c2 j x hA2 hx => ?_)⟩
    ·have := RepTs_len hts
     rw [List.length_take, List.length_drop]
     omega
    ·have hm2 : 0 < m2 := by
      rcases Nat.eq_zero_or_pos m2 with h0 | h0
      ·subst h0
       have h1 := hq.1
       have h2 := (List.getElem?_eq_some_iff.1 hx).1
       omega
      ·exact h0
     obtain ⟨g, goff, cc, he, _, hcc⟩ := o_cells hq hm2
     rw [hA2] at he
     injection he with he _ _
     exact ⟨_, he, by rw [add_at]; exact hcc j x hx⟩
   ·simp at ht
end Go.Proofs.YtemghdnofgjnmaaDoor.VM

/- An append. -/
namespace Go.Proofs.YtemghdnofgjnmaaDoor.VM
open Go Go.Proofs.YtemghdnofgjnmaaDoorW.PrintWords
set_option linter.unusedVariables false
set_option linter.unusedSimpArgs false
variable {P : Program} {w w1 w2 w0 : World} {mine : Ctx} {o o1 o2 : OM} {loc loc1 loc2 : Nat → Value} {O R : Nat → List Nat} {σ σ1 σ2 : St} {a : Act}

theorem src_nothing {t e : TypeId} (ht : P.underlying t = some (.slice e)) {size : Nat} {A : Option Addr} {c : Nat} : Src P size t (.slice A 0 c) 0 [] w := by
 refine ⟨.inl ⟨e, ht⟩, fun w' => by simp [Builtin.lenOf], ?_, ?_, by simp, fun u hu => by simp at hu⟩
 ·cases A <;> simp [Builtin.firstCells, loadCells, loadCellsFrom]
 ·cases A <;> simp [Builtin.firstCells, loadCells, loadCellsFrom]
theorem app_row {t ty e : TypeId} (ht : P.underlying t = some (.slice e)) (hok : elemOk P e = true) {n m : Nat} {xs ys : List T} {vx vy : Value} {us : List Value} {O2 R2 Oy Ry : List Nat}
  (hx : RepT P w (.s e n xs) vx O2 R2) (hn : O2.Nodup) (hy : RepTs P w ys us Oy Ry) (hRy0 : Ry = []) (hl : us.length = m * P.cellsOf e) (hs : SrcAt w vy m us) (hmost : xs.length + ys.length ≤ most)
  (hfar : ∀ b ∈ oblk vx, b ∉ R2 ∧ b ∉ Oy ∧ b ∉ Ry) (hlt : ∀ b, b ∈ O2 ∨ b ∈ R2 ∨ b ∈ Oy ∨ b ∈ Ry → b < w.heap.size) :
  ∃ v' w' O3, (Builtin.append_ #[t, t] ty #[vx, vy]).run P w = .ok v' w' ∧ w.heap.size ≤ w'.heap.size ∧ (∀ k, k < w.heap.size → k ∉ oblk vx → w'.heap[k]? = w.heap[k]?) ∧ RepT P w' (.s e (n + m) (xs ++ ys)) v' (oblk v' ++ (O3 ++ Oy)) (R2 ++ Ry) ∧ O2 = oblk vx ++ O3 ∧ (oblk v' = oblk vx ∨ ∃ b, oblk v' = [b] ∧ w.heap.size ≤ b ∧ b < w'.heap.size) ∧ Still w w' := by
 obtain ⟨i, z, hi, hz, hsz, hzs, hby, hce⟩ := elemOk_some hok
 rw [RepT] at hx
 obtain ⟨us0, O3, hq, hts, rfl, hR0⟩ := hx
 have h0l := RepTs_len hts
 have hyl := RepTs_len hy
 rcases hs with ⟨rfl, A, c, rfl⟩ | ⟨hm, ad, c, rfl, hcell⟩
 ·have hu0 : us = [] := List.eq_nil_of_length_eq_zero (by omega)
  subst hu0
  have hy0 : ys = [] := List.eq_nil_of_length_eq_zero (by simpa using hyl.symm)
  subst hy0
  rw [RepTs] at hy
  obtain ⟨_, rfl, rfl⟩ := hy
  obtain ⟨A2, c2, rfl, hnc, _⟩ := o_slice hq
  refine ⟨_, w, O3, run_append_nothing w t t ty e i ht hi A2 n c2 hnc _ (src_nothing ht), Nat.le_refl _, fun _ _ _ => rfl, ?_, rfl, .inl rfl, Still.refl⟩
  rw [RepT]
  exact ⟨us0, O3, by simpa using hq, by simpa using hts, by simp, by rw [hR0]; rfl⟩
 ·have hq' : ORow w e i.size vx n us0 := by rw [← hce]; exact hq
  have hxn : us0.length = n * i.size := hq'.1
  have hyn : us.length = m * i.size := by rw [hl, hce]
  have hnm : n + m ≤ 4294967296 := by
   unfold most at hmost
   have : n * 1 ≤ n * i.size := Nat.mul_le_mul_left _ hsz
   have : m * 1 ≤ m * i.size := Nat.mul_le_mul_left _ hsz
   omega
  have hbb : (n + m) * i.bytes ≤ 4294967296 * 32768 := Nat.mul_le_mul hnm hby
  obtain ⟨v', w', hr, ho, g1, g2, g3, g4⟩ := o_append (P := P) w t ty e i z i.size i.bytes ht hi hz rfl rfl hzs hsz vx n us0 hq' ad m c us hyn hcell (RepTs_one hy) hm (by simp only [maxLen]; omega) (by omega)
  have hnd := List.nodup_append.1 hn
  refine ⟨v', w', O3, hr, g1, g2, ?_, rfl, g3, g4⟩
  rw [RepT]
  refine ⟨us0 ++ us, O3 ++ Oy, by rw [hce]; exact ho, RepTs_append (RepTs_move _ (fun b hb => ?_) hts) (RepTs_move _ (fun b hb => ?_) hy), rfl, by rw [hR0, hRy0]; rfl⟩
  ·rcases hb with hb | hb
   ·exact g2 b (hlt b (.inl (List.mem_append_right _ hb))) (fun hb' => hnd.2.2 b hb' b hb rfl)
   ·exact g2 b (hlt b (.inr (.inl hb))) (fun hb' => (hfar b hb').1 hb)
  ·rcases hb with hb | hb
   ·exact g2 b (hlt b (.inr (.inr (.inl hb)))) (fun hb' => (hfar b hb').2.1 hb)
   ·exact g2 b (hlt b (.inr (.inr (.inr hb)))) (fun hb' => (hfar b hb').2.2 hb)
end Go.Proofs.YtemghdnofgjnmaaDoor.VM

/- An append, in one. -/
namespace Go.Proofs.YtemghdnofgjnmaaDoor.VM
open Go Go.Proofs.YtemghdnofgjnmaaDoorW.PrintWords
set_option linter.unusedVariables false
set_option linter.unusedSimpArgs false
variable {P : Program} {w w1 w2 w0 : World} {mine : Ctx} {o o1 o2 : OM} {loc loc1 loc2 : Nat → Value} {O R : Nat → List Nat} {σ σ1 σ2 : St} {a : Act}

theorem app_fin (h : Cor P w0 mine σ2 a w loc O R) (k : Nat) (hk : 64 ≤ k) {t ty e : TypeId} (ht : P.underlying t = some (.slice e)) (hok : elemOk P e = true) {n m : Nat} {xs ys : List T} {vx vy : Value} {us : List Value} {O2 R2 Oy Ry : List Nat}
  (hx : RepT P w (.s e n xs) vx O2 R2) (hy : RepTs P w ys us Oy Ry) (hRy0 : Ry = []) (hl : us.length = m * P.cellsOf e) (hs : SrcAt w vy m us) (hmost : xs.length + ys.length ≤ most)
  (hnd : (O2 ++ Oy).Nodup) (hd : ∀ id ob, lk σ2.o id = some ob → ∀ b ∈ O id, b ∉ O2 ∧ b ∉ Oy) (ho2 : ∀ b ∈ O2, b < w.heap.size ∧ (w0.heap.size ≤ b ∨ mine b)) (hoy : ∀ b ∈ Oy, b < w.heap.size ∧ (w0.heap.size ≤ b ∨ mine b)) (hR2 : ∀ b ∈ R2, b < w0.heap.size ∧ ¬ mine b) (hRy : ∀ b ∈ Ry, b < w0.heap.size ∧ ¬ mine b) :
  ∃ v' w', (Builtin.append_ #[t, t] ty #[vx, vy]).run P w = .ok v' w' ∧ w.heap.size ≤ w'.heap.size ∧ ∃ loc' O' R', Cor P w0 mine (σ2.new k ⟨.own, e, xs ++ ys⟩) a w' loc' O' R' ∧ RepC P w' (σ2.new k ⟨.own, e, xs ++ ys⟩).o loc' (.sl k [] 0 (n + m)) v' := by
 have hn := List.nodup_append.1 hnd
 have hob : ∀ b ∈ oblk vx, b ∈ O2 := fun b hb => by
  rw [RepT] at hx
  obtain ⟨_, _, _, _, rfl, _⟩ := hx
  exact List.mem_append_left _ hb
 have hro : ∀ b, b < w0.heap.size ∧ ¬ mine b → b ∉ O2 := fun b hb hb' => by
  rcases (ho2 b hb').2 with h1 | h1
  ·have := hb.1; omega
  ·exact hb.2 h1
 obtain ⟨v', w', O3, hr, g1, g2, g3, rfl, g5, gst⟩ := app_row (ty := ty) ht hok hx hn.1 hy hRy0 hl hs hmost (fun b hb => ⟨fun hb' => hro b (hR2 b hb') (hob b hb), fun hb' => hn.2.2 b (hob b hb) b hb' rfl, fun hb' => hro b (hRy b hb') (hob b hb)⟩) (fun b hb => by
  have hz := h.inv.size
  rcases hb with hb | hb | hb | hb
  ·exact (ho2 b hb).1
  ·have := (hR2 b hb).1; omega
  ·exact (hoy b hb).1
  ·have := (hRy b hb).1; omega)
 have ht2 := h.turn (w1 := w') (fun b => b ∈ oblk vx) (fun id ob hl' b hb hb' => (hd id ob hl' b hb).1 (hob b hb')) (fun b hb => (ho2 b (hob b hb)).2) g1 gst g2
 have h3 : ∀ b, b ∈ O3 ++ Oy → b < w.heap.size ∧ (w0.heap.size ≤ b ∨ mine b) := fun b hb => by
  rcases List.mem_append.1 hb with hb | hb
  ·exact ho2 b (List.mem_append_right _ hb)
  ·exact hoy b hb
 have hv' : ∀ b ∈ oblk v', b ∈ oblk vx ∨ (w.heap.size ≤ b ∧ b < w'.heap.size) := fun b hb => by
  rcases g5 with g5 | ⟨c, g5, g6, g7⟩
  ·exact .inl (by rw [← g5]; exact hb)
  ·rw [g5] at hb
   simp at hb
   subst hb
   exact .inr ⟨g6, g7⟩
 rw [List.append_assoc] at hnd
 have hn2 := List.nodup_append.1 hnd
 refine ⟨v', w', hr, g1, ht2.newRow k hk g3 ?_ (fun id ob hl' b hb hb' => ?_) (fun b hb => ?_) (fun b hb => ?_)⟩
 ·refine List.nodup_append.2 ⟨?_, hn2.2.1, fun b hb c hc e => ?_⟩
  ·rcases g5 with g5 | ⟨c, g5, _⟩
   ·rw [g5]; exact hn2.1
   ·rw [g5]; simp
  ·subst e
   rcases hv' b hb with h4 | h4
   ·exact hn2.2.2 b h4 b hc rfl
   ·have := (h3 b hc).1; omega
 ·have h6 := (h.inv.own_ id ob hl' b hb).1
  rcases List.mem_append.1 hb' with hb' | hb'
  ·rcases hv' b hb' with h4 | h4
   ·exact (hd id ob hl' b hb).1 (hob b h4)
   ·omega
  ·rcases List.mem_append.1 hb' with hb' | hb'
   ·exact (hd id ob hl' b hb).1 (List.mem_append_right _ hb')
   ·exact (hd id ob hl' b hb).2 hb'
 ·rcases List.mem_append.1 hb with hb | hb
  ·rcases hv' b hb with h4 | h4
   ·have := ho2 b (hob b h4)
    exact ⟨by omega, this.2⟩
   ·have := h.inv.size
    exact ⟨h4.2, .inl (by omega)⟩
  ·have := h3 b hb
   exact ⟨by omega, this.2⟩
 ·rcases List.mem_append.1 hb with hb | hb
  ·exact hR2 b hb
  ·exact hRy b hb
theorem append_sound (h : Cor P w0 mine σ a w loc O R) {d : Nat} {t ty : TypeId} {x y : C} {vx vy : Value} (hx : RepC P w σ.o loc x vx) (hy : RepC P w σ.o loc y vy) {av : AV} (hop : σ.append P d t x y = some (av, σ1)) :
  ∃ v' w', (Builtin.append_ #[t, t] ty #[vx, vy]).run P w = .ok v' w' ∧ w.heap.size ≤ w'.heap.size ∧ ∃ loc' O' R', Cor P w0 mine σ1 a w' loc' O' R' ∧ RepAV P w' σ1.o loc' av v' := by
 unfold St.append at hop
 split at hop
 ·rename_i e hu
  obtain ⟨⟨m, ys, σ2⟩, htk, hop⟩ := Option.bind_eq_some_iff.1 hop
  obtain ⟨k1, k2, us, Oy, Ry, mv, hl, hs⟩ := taken_sound h hy htk
  obtain ⟨f1, f2, f3⟩ := mv.far h k2
  simp only at hop
  split at hop
  ·split at hop
   ·rename_i hc
    simp only [Option.some.injEq, Prod.mk.injEq] at hop
    obtain ⟨rfl, rfl⟩ := hop
    rw [RepC] at hx
    subst hx
    obtain ⟨v', w', g1, g2, loc', O', R', g3, g4⟩ := app_fin (ty := ty) k1 (site d 0) (site_ge d 0) hu hc.1 (n := 0) (xs := []) (O2 := []) (R2 := []) (vx := .slice none 0 0) (by
     rw [RepT]
     exact ⟨[], [], ⟨by simp, none, 0, rfl, Nat.le_refl _, by simp [maxLen], .inl rfl⟩, by rw [RepTs]; exact ⟨rfl, rfl, rfl⟩, rfl, rfl⟩) mv.rep mv.ro hl hs (by simpa using hc.2) (by simpa using mv.nodup) (fun id ob hl' b hb => ⟨by simp, f1 id ob hl' b hb⟩) (fun b hb => by simp at hb) f2 (fun b hb => by simp at hb) f3
    rw [Nat.zero_add] at g4
    exact ⟨v', w', g1, g2, loc', O', R', g3, rep_c g4⟩
   ·simp at hop
  ·rename_i id p len hop0
   obtain ⟨⟨own, xs⟩, hcell, hop⟩ := Option.bind_eq_some_iff.1 hop
   simp only at hop
   split at hop
   ·rename_i hc
    simp only [Bool.and_eq_true, decide_eq_true_eq] at hc
    obtain ⟨hown, hmost⟩ := hc
    subst hown
    obtain ⟨zs, hr, hok, hlen, hxs⟩ := cellsOf_some hcell
    obtain ⟨ob, hlk, hd⟩ := row_lk hr
    have hx2 := k2.repC hx hlk
    obtain ⟨ob', own', e', xs', mm, h', O', R', hl', hk, hd', hh, hrow, hO, hR, hsub⟩ := k1.inv.sl hx2
    rw [hlk] at hl'
    injection hl' with hl'
    subst hl'
    rw [hd] at hd'
    injection hd' with hd'
    injection hd' with e1 hd'
    injection hd' with e2 e3
    subst e1; subst e2; subst e3
    obtain ⟨i, z, hi, hz, hsz, _, _, hce⟩ := elemOk_some hok
    split at hop
    · -- the whole object
     simp only [Option.some.injEq, Prod.mk.injEq] at hop
     obtain ⟨rfl, rfl⟩ := hop
     rw [down] at hd
     injection hd with hd
     injection hd with d1 hd
     injection hd with d2 d3
     obtain ⟨m2, hrow2⟩ := k1.inv.row2 hlk hk (fun e => by rw [e] at d1; simp [ownB] at d1)
     rw [d1, d2, d3] at hrow2
     rw [HdrAt] at hh
     subst hh
     obtain ⟨O2, R2, g1, g2, g3, g4⟩ := part_row (off := 0) (n := len) hrow2 (k1.inv.nodup id ob hlk) hsub (by omega) hlen
     rw [← hxs] at g1
     obtain ⟨j1, j2, j3⟩ := k1.kill id
     obtain ⟨v', w', q1, q2, loc', O', R', q3, q4⟩ := app_fin (ty := ty) j1 (if id < 64 then site d 0 else id) (by split; exact site_ge d 0; omega) hu hok g1 mv.rep mv.ro hl hs hmost (List.nodup_append.2 ⟨g2, mv.nodup, fun b hb c hc e => f1 id ob hlk b (g3 b hb) (by rw [e]; exact hc)⟩) (fun id' ob' hl'' b hb => by
      obtain ⟨hne, ob0, h0⟩ := j3 id' ob' hl''
      exact ⟨fun hb' => k1.inv.disj id' id ob0 ob hne h0 hlk b hb (g3 b hb'), f1 id' ob0 h0 b hb⟩) (fun b hb => k1.inv.own_ id ob hlk b (g3 b hb)) f2 (fun b hb => by rw [g4] at hb; simp at hb) f3
     exact ⟨v', w', q1, q2, loc', O', R', q3, rep_c q4⟩
    · -- an element's row
     rename_i i'
     obtain ⟨σ3, hhole, hop⟩ := Option.bind_eq_some_iff.1 hop
     simp only [Option.some.injEq, Prod.mk.injEq] at hop
     obtain ⟨rfl, rfl⟩ := hop
     have hkk : ob.k = .own := by
      cases hkk : ob.k with
      | own => rfl
      | box => exact absurd hkk hk
      | ro =>
       rw [hkk] at hd
       rw [down] at hd
       split at hd
       ·simp [down, ownB] at hd
       ·simp [down] at hd
       ·simp at hd
      | lnk =>
       rw [hkk] at hd
       rw [down] at hd
       split at hd
       ·simp [down, ownB] at hd
       ·simp [down] at hd
       ·simp at hd
     rw [hkk] at hd
     rw [down] at hd
     split at hd
     ·rename_i e2 n2 zs2 hxi
      rw [down] at hd
      injection hd with hd
      injection hd with _ hd
      injection hd with d2 d3
      subst d2; subst d3
      obtain ⟨u, O1, R1, O2, R2, c1, c2, ⟨ad, mq, cq, c3, c4⟩, c5, c6, c7, c8, c9⟩ := hole_sound k1 hlk hkk hxi hhole
      rw [HdrAt] at hh
      obtain ⟨ad', m', c', u', b1, b2, b3⟩ := hh
      rw [HdrAt] at b3
      subst b3
      rw [c3] at b1
      injection b1 with b1 _ _
      injection b1 with b1
      subst b1
      rw [c4] at b2
      injection b2 with b2
      subst b2
      obtain ⟨O4, R4, g1, g2, g3, g4⟩ := part_row (off := 0) (n := len) c2 c5 hsub (by omega) hlen
      rw [← hxs] at g1
      obtain ⟨v', w', q1, q2, loc', O', R', q3, q4⟩ := app_fin (ty := ty) c1 (site d 0) (site_ge d 0) hu hok g1 mv.rep mv.ro hl hs hmost (List.nodup_append.2 ⟨g2, mv.nodup, fun b hb c hc e => f1 id ob hlk b (c6 b (g3 b hb)).1 (by rw [e]; exact hc)⟩) (fun id' ob' hl'' b hb => by
       by_cases hne : id' = id
       ·subst hne
        rw [upd_same] at hb
        exact ⟨fun hb' => (c6 b (g3 b hb')).2 hb, f1 id' ob hlk b (c8 b hb)⟩
       ·rw [upd_other _ _ hne] at hb
        obtain ⟨y, hy'⟩ := c9 id' ⟨ob', hl''⟩
        exact ⟨fun hb' => k1.inv.disj id' id y ob hne hy' hlk b hb (c6 b (g3 b hb')).1, f1 id' y hy' b hb⟩) (fun b hb => k1.inv.own_ id ob hlk b (c6 b (g3 b hb)).1) f2 (fun b hb => by rw [g4] at hb; simp at hb) f3
      exact ⟨v', w', q1, q2, loc', O', R', q3, rep_c q4⟩
     ·simp [down] at hd
     ·simp at hd
    ·simp at hop
   ·simp at hop
  ·simp at hop
 ·simp at hop
end Go.Proofs.YtemghdnofgjnmaaDoor.VM

/- All operations but calls of functions, in one. -/
namespace Go.Proofs.YtemghdnofgjnmaaDoor.VM
open Go Go.Proofs.YtemghdnofgjnmaaDoorW.PrintWords
set_option linter.unusedVariables false
set_option linter.unusedSimpArgs false
variable {P : Program} {w w1 w2 w0 : World} {mine : Ctx} {o o1 o2 : OM} {loc loc1 loc2 : Nat → Value} {O R : Nat → List Nat} {σ σ1 σ2 : St} {a : Act}

/-- Does an operation call a function? -/
def isCall : Op → Bool
 | .call c => match c.callee with
  | .value _ => true
  | _ => false
 | _ => false
theorem appendOp_sound {E : Env} (hE : E.P = P) (h : Cor P w0 mine σ a w loc O R) {op : Oper} {args : Array Operand} {argTypes : Array TypeId} (ho : op.op = .call { callee := .builtin .append, args := args, argTypes := argTypes }) {d : Nat} {r : Option AV} (hop : E.op σ d op.op = some (r, σ1)) : OpOk P w0 mine σ1 a r op w := by
 subst hE
 rw [ho] at hop
 simp only [Env.op] at hop
 obtain ⟨vs, hvs, hop⟩ := Option.bind_eq_some_iff.1 hop
 obtain ⟨us, hus, hr⟩ := evs_map h.tm hvs
 obtain ⟨⟨v, σ2⟩, hb, hop⟩ := Option.bind_eq_some_iff.1 hop
 injection hop with hop
 injection hop with h1 h2
 subst h1; subst h2
 unfold Env.builtin at hb
 split at hb
 ·contradiction
 ·contradiction
 ·rename_i t t' x y hb0 hts
  split at hb
  ·rename_i htt
   subst htt
   rw [RepAVs] at hr
   obtain ⟨u, us', rfl, hx, hr⟩ := hr
   rw [RepAVs] at hr
   obtain ⟨u', us', rfl, hy, hr⟩ := hr
   rw [RepAVs] at hr
   subst hr
   obtain ⟨v', w', g1, g2, loc', O', R', g3, g4⟩ := append_sound (ty := op.type) h (c_rep hx) (c_rep hy) hb
   refine ⟨_, w', ?_, g2, loc', O', R', g3, v', rfl, g4⟩
   unfold execOp
   rw [ho]
   simp only [resolve, Sem.run_bind, Sem.run_pure, Result.andThen_ok, invoke, hus]
   rw [list1 hts]
   simp only [builtin, Sem.run_bind, g1]
   rfl
  ·simp at hb
 ·contradiction
 ·contradiction
 ·simp at hb
theorem op_sound {E : Env} (hE : E.P = P) (h : Cor P w0 mine σ a w loc O R) {op : Oper} (hc : isCall op.op = false) {d : Nat} {r : Option AV} (hop : E.op σ d op.op = some (r, σ1)) : OpOk P w0 mine σ1 a r op w := by
 by_cases hv : isVal op.op = true
 ·obtain ⟨rfl, av, v, rfl, h1, h2⟩ := val_sound hE h.inv h.tm hv hop
  exact ⟨_, w, h1, Nat.le_refl _, loc, O, R, h, v, rfl, h2⟩
 ·cases ho : op.op with
  | alloc t => exact alloc_sound hE h ho hop
  | box t x => exact box_sound hE h ho hop
  | buildSlice t n ps => exact buildSlice_sound hE h ho hop
  | makeSlice t x y => exact makeSlice_sound hE h ho hop
  | store t x y => exact store_sound hE h ho hop
  | call c =>
   obtain ⟨callee, args, argTypes⟩ := c
   cases callee with
   | builtin b =>
    cases b with
    | append => exact appendOp_sound hE h ho hop
    | _ =>
     rw [ho] at hop hv
     first
      | (exact absurd rfl hv)
      | (simp only [Env.op] at hop; obtain ⟨vs, hvs, hop⟩ := Option.bind_eq_some_iff.1 hop; obtain ⟨⟨v, σ2⟩, hb, hop⟩ := Option.bind_eq_some_iff.1 hop; simp [Env.builtin] at hb)
   | value x => rw [ho] at hc; simp [isCall] at hc
   | invoke x n => rw [ho] at hop; simp [Env.op] at hop
  | _ => rw [ho] at hop hv; first | (exact absurd rfl hv) | (simp [Env.op] at hop)
end Go.Proofs.YtemghdnofgjnmaaDoor.VM

/- A region's operations, one behind the other. -/
namespace Go.Proofs.YtemghdnofgjnmaaDoor.VM
open Go Go.Proofs.YtemghdnofgjnmaaDoorW.PrintWords
set_option linter.unusedVariables false
set_option linter.unusedSimpArgs false
variable {P : Program} {w w1 w2 w0 : World} {mine : Ctx} {o o1 o2 : OM} {loc loc1 loc2 : Nat → Value} {O R : Nat → List Nat} {σ σ1 σ2 : St} {a : Act}

/-! ### read only -/
mutual
theorem ro_rep : ∀ {x : T} {v : Value} {O1 R1 : List Nat}, RepT P w x v O1 R1 → ∃ R2, RepT P w x.ro v [] R2 ∧ ∀ b ∈ R2, b ∈ O1 ∨ b ∈ R1
 | .v x, v, O1, R1, h => by
  rw [RepT] at h
  exact ⟨[], by simp only [T.ro]; rw [RepT]; exact ⟨h.1, h.2.1, rfl, rfl⟩, fun b hb => by simp at hb⟩
 | .z, v, O1, R1, h => by
  rw [RepT] at h
  exact ⟨[], by simp only [T.ro]; rw [RepT]; exact ⟨h.1, rfl, rfl⟩, fun b hb => by simp at hb⟩
 | .h, v, O1, R1, h => by
  rw [RepT] at h
  exact ⟨[], by simp only [T.ro]; rw [RepT]; exact ⟨h.1, rfl, rfl⟩, fun b hb => by simp at hb⟩
 | .l _ _ _ _, v, O1, R1, h => by rw [RepT] at h; exact h.elim
 | .r e n xs, v, O1, R1, h => by
  have h' := h
  rw [RepT] at h'
  have : O1 = [] := h'.1
  subst this
  exact ⟨R1, by simp only [T.ro]; exact h, fun b hb => .inr hb⟩
 | .s e n xs, v, O1, R1, h => by
  rw [RepT] at h
  obtain ⟨us, O', hq, hs, rfl, rfl⟩ := h
  obtain ⟨R2, h2, h3⟩ := ros_rep hs
  have hq' := hq
  obtain ⟨hl, A, cc, rfl, hnc, hcm, hrow⟩ := hq'
  refine ⟨hdrB A n ++ R2, ?_, fun b hb => ?_⟩
  ·simp only [T.ro]
   rw [RepT]
   refine ⟨rfl, A, cc, us, R2, rfl, hnc, hcm, fun h0 => ?_, hl, fun j x hj => ?_, h2, rfl⟩
   ·rcases hrow with hrow | ⟨g, off, cur, rfl, _⟩
    ·omega
    ·exact ⟨_, rfl, rfl⟩
   ·have hn : 0 < n := by
     rcases Nat.eq_zero_or_pos n with rfl | h
     ·have := (List.getElem?_eq_some_iff.1 hj).1
      omega
     ·exact h
    obtain ⟨g, off, c1, he, hb, hx⟩ := o_cells hq hn
    injection he with he1 _ he3
    subst he1; subst he3
    exact ⟨_, rfl, by rw [add_at]; exact hx j x hj⟩
  ·rcases List.mem_append.1 hb with hb | hb
   ·left
    refine List.mem_append_left _ ?_
    cases A with
    | none => simp [hdrB] at hb
    | some ad =>
     simp only [hdrB] at hb
     split at hb
     ·simp at hb
     ·rw [oblk_pos (by omega)]
      exact hb
   ·rcases h3 b hb with h | h
    ·exact .inl (List.mem_append_right _ h)
    ·simp at h
theorem ros_rep : ∀ {xs : List T} {us : List Value} {O1 R1 : List Nat}, RepTs P w xs us O1 R1 → ∃ R2, RepTs P w (ros xs) us [] R2 ∧ ∀ b ∈ R2, b ∈ O1 ∨ b ∈ R1
 | [], us, O1, R1, h => by
  rw [RepTs] at h
  exact ⟨[], by rw [ros, RepTs]; exact ⟨h.1, rfl, rfl⟩, fun b hb => by simp at hb⟩
 | x :: xs, us, O1, R1, h => by
  rw [RepTs] at h
  obtain ⟨u, us', Oa, Ra, Ob, Rb, rfl, h1, h2, rfl, rfl⟩ := h
  obtain ⟨Rc, h3, h4⟩ := ro_rep h1
  obtain ⟨Rd, h5, h6⟩ := ros_rep h2
  refine ⟨Rc ++ Rd, by rw [ros, RepTs]; exact ⟨u, us', [], Rc, [], Rd, rfl, h3, h5, rfl, rfl⟩, fun b hb => ?_⟩
  rcases List.mem_append.1 hb with hb | hb
  ·exact (h4 b hb).imp (List.mem_append_left _) (List.mem_append_left _)
  ·exact (h6 b hb).imp (List.mem_append_right _) (List.mem_append_right _)
end

theorem want_sound (ht : Tm P w o loc σ.t a) {ops : Array Oper} {x : Oper} {b : Bool} (h : σ.want ops x.guard = some b) : Region.wanted x (yielded ops a.tmps) = b := by
 unfold St.want at h
 unfold Region.wanted
 split at h
 ·rename_i hg
  injection h with h
  rw [hg]
  exact h
 ·rename_i g b' hg
  rw [hg]
  simp only
  split at h
  ·rename_i d hd
   unfold yielded
   rw [hd]
   simp only [Option.bind_some]
   split at h
   ·rename_i y hy
    injection h with h
    have hr := (rep_int (ht d _ hy)).1
    rw [Array.getD_eq_getD_getElem?] at hr
    cases hq : a.tmps[d]? with
    | none => rw [hq] at hr; simp [undef] at hr
    | some v =>
     rw [hq] at hr
     simp only [Option.getD_some] at hr
     subst hr
     simp only
     rw [← h]
     cases y <;> cases b' <;> rfl
   ·rename_i hy
    injection h with h
    have hr := ht d _ hy
    rw [RepAV, Array.getD_eq_getD_getElem?] at hr
    cases hq : a.tmps[d]? with
    | none => simp [h]
    | some v =>
     rw [hq] at hr
     simp only [Option.getD_some] at hr
     subst hr
     simp [undef, h]
   ·simp at h
  ·simp at h
/-! ### rows of borrowed rows -/
theorem argE_rep (h : Cor P w0 mine σ a w loc O R) {e : TypeId} {id off n : Nat} {p : List Nat} {v : Value} (hv : RepC P w σ.o loc (.sl id p off n) v) {x : T} (hx : σ.argE P e id p off n = some x) : ∃ R1, RepT P w x v [] R1 ∧ ∀ b ∈ R1, b ∈ O id ∨ b ∈ R id := by
 unfold St.argE at hx
 obtain ⟨⟨own, ys⟩, hc, rfl⟩ := Option.map_eq_some_iff.1 hx
 obtain ⟨xs, hr, hok, hlen, rfl⟩ := cellsOf_some hc
 obtain ⟨i, z, hi, hz, hsz, _, _, hce⟩ := elemOk_some hok
 obtain ⟨ob, hl, hd⟩ := row_lk hr
 obtain ⟨ob', own', e', xs', mm, h', O', R', hl', hk, hd', hh, hrow, hO, hR, hsub⟩ := h.inv.sl hv
 rw [hl] at hl'
 injection hl' with hl'
 subst hl'
 rw [hd] at hd'
 injection hd' with hd'
 injection hd' with e1 hd'
 injection hd' with e2 e3
 subst e1; subst e2; subst e3
 obtain ⟨A, cc, us, O2, R2, rfl, hnc, hcm, hxl, hts, hO2, hR2, hcell⟩ := Row_cells hrow
 obtain ⟨A1, m1, c1, A', c', he, rfl, hnc', hcm', hle, hA⟩ := hsub
 injection he with he1 he2 he3
 subst he1; subst he2; subst he3
 obtain ⟨O3, R3, Oa, Ob, Ra, Rb, h3, e3, e4⟩ := RepTs_cut hts off (n * P.cellsOf e)
 obtain ⟨R4, h4, h5⟩ := ros_rep h3
 have hul := RepTs_len hts
 have hc0 : 0 < c' → 0 < cc := fun h0 => by
  rcases Nat.eq_zero_or_pos cc with h1 | h1
  ·subst h1
   rw [Nat.zero_mul] at hle
   have := Nat.mul_pos h0 (show 0 < P.cellsOf e by omega)
   omega
  ·exact h1
 have hrep : RepT P w (.r e n (ros ((xs.drop off).take (n * P.cellsOf e)))) (.slice A' n c') [] (hdrB A' n ++ R4) := by
  rw [RepT]
  refine ⟨rfl, A', c', (us.drop off).take (n * P.cellsOf e), R4, rfl, hnc', hcm', fun h0 => ?_, ?_, fun j y hj => ?_, h4, rfl⟩
  ·obtain ⟨ad, rfl, hs⟩ := hcm.2 (hc0 h0)
   rw [hA h0]
   exact ⟨_, rfl, by show (ad.add off).spot = none; rw [addr_eq hs, Addr.add_mid]⟩
  ·rw [List.length_take, List.length_drop]
   omega
  ·rw [List.getElem?_take] at hj
   split at hj
   ·rw [List.getElem?_drop] at hj
    rename_i hjn
    have hn : 0 < n := by
     rcases Nat.eq_zero_or_pos n with h0 | h0
     ·subst h0; rw [Nat.zero_mul] at hjn; omega
     ·exact h0
    obtain ⟨ad, rfl, hs, hcl, _⟩ := hcell (off + j) y hj
    rw [hA (by omega)]
    exact ⟨_, rfl, by rw [add_add]; exact hcl⟩
   ·simp at hj
 have hblk : ∀ b, b ∈ hdrB A' n ++ R4 → b ∈ O' ∨ b ∈ R' := fun b hb => by
  rcases List.mem_append.1 hb with hb | hb
  ·have hn : 0 < n := by
    rcases Nat.eq_zero_or_pos n with h0 | h0
    ·subst h0
     cases A' <;> simp [hdrB] at hb
    ·exact h0
   have hpos : 0 < n * P.cellsOf e := Nat.mul_pos hn (by omega)
   obtain ⟨y, hy⟩ : ∃ y, us[off]? = some y := ⟨us[off], List.getElem?_eq_getElem (by omega)⟩
   obtain ⟨ad, rfl, hs, hcl, hbb⟩ := hcell off y hy
   rw [hA (by omega)] at hb
   simp only [Option.map_some, hdrB] at hb
   rw [if_neg (by omega)] at hb
   have e5 : (ad.add off).block = ad.block := by unfold Addr.add; split <;> rfl
   rw [e5] at hb
   simp at hb
   subst hb
   exact hbb
  ·rcases h5 b hb with hb | hb
   ·exact .inl (hO2 b (by rw [e3]; exact List.mem_append_left _ (List.mem_append_right _ hb)))
   ·exact .inr (hR2 b (by rw [e4]; exact List.mem_append_left _ (List.mem_append_right _ hb)))
 exact ⟨_, hrep, fun b hb => (hblk b hb).elim (fun h => .inl (hO b h)) fun h => (hR b h).elim .inr fun h => .inl h.2⟩
theorem lentT_rep (h : Cor P w0 mine σ a w loc O R) {e : TypeId} {av : AV} {v : Value} (hv : RepAV P w σ.o loc av v) {x : T} (hx : σ.lentT P e av = some x) : ∃ R1, RepT P w x v [] R1 ∧ (∀ b ∈ R1, b < w0.heap.size ∧ ¬ mine b) ∧ v.cells.toList = [v] := by
 unfold St.lentT at hx
 split at hx
 ·rename_i id p off n
  obtain ⟨ob, hl, hx⟩ := Option.bind_eq_some_iff.1 hx
  unfold St.lentO at hx
  split at hx
  ·rename_i hk
   obtain ⟨R1, h1, h2⟩ := argE_rep h (c_rep hv) hx
   have hO : O id = [] := by
    have h3 := h.inv.obj id ob hl
    unfold RepO at h3
    rw [hk] at h3
    obtain ⟨n, h3⟩ := h3
    have h3 : RepT P w (.r ob.e n ob.xs) (loc id) (O id) (R id) := h3
    rw [RepT] at h3
    exact h3.1
   have hc := c_rep hv
   rw [RepC] at hc
   obtain ⟨_, _, _, _, _, _, _, A, m', c, A', c', _, rfl, _⟩ := hc
   exact ⟨R1, h1, fun b hb => h.inv.ro id ob hl b ((h2 b hb).resolve_left (by rw [hO]; simp)), rfl⟩
  ·simp at hx
 ·simp at hx
/-- A new row of borrowed rows. -/
theorem Cor.newLnk (h : Cor P w0 mine σ1 a w loc O R) (k : Nat) (hk : 64 ≤ k) {e : TypeId} {n : Nat} {xs : List T} {us : List Value} {v : Value} {R' : List Nat} (hq : LRow (isByte P e = true) w e (P.cellsOf e) v n us) (hs : RepTs P w xs us [] R') (hd : ∀ id ob, lk σ1.o id = some ob → ∀ b ∈ O id, b ∉ oblk v) (ho : ∀ b ∈ oblk v, b < w.heap.size ∧ (w0.heap.size ≤ b ∨ mine b)) (hR : ∀ b ∈ R', b < w0.heap.size ∧ ¬ mine b) :
  ∃ loc' O2 R2, Cor P w0 mine (σ1.new k ⟨.lnk, e, xs⟩) a w loc' O2 R2 ∧ RepC P w (σ1.new k ⟨.lnk, e, xs⟩).o loc' (.sl k [] 0 n) v := by
 obtain ⟨k1, k2, k3⟩ := h.kill k
 obtain ⟨A, c, rfl, hnc, hcm⟩ := l_slice hq
 have k5 := k1.add (ob := ⟨.lnk, e, xs⟩) k2 (show RepO P w (σ1.kill k).o loc ⟨.lnk, e, xs⟩ (.slice A n c) (oblk (.slice A n c)) R' from ⟨n, us, hq, hs, rfl⟩) (by cases A with | none => simp [oblk] | some ad => cases c <;> simp [oblk]) (fun id ob hl => by
  obtain ⟨_, ob0, hl0⟩ := k3 id ob hl
  exact hd id ob0 hl0) ho hR (fun h => by omega)
 refine ⟨_, _, _, k5, ?_⟩
 rw [RepC]
 refine ⟨⟨.lnk, e, xs⟩, (false, e, xs), .slice A n c, ?_, by simp, by rw [down]; rfl, by rw [HdrAt, upd_same], ?_⟩
 ·show lk (ins _ k _) k = _
  rw [lk_ins, if_pos rfl]
 ·refine SubHdr_self hnc hcm fun h0 => ?_
  obtain ⟨_, A1, c1, he, _, _, h2⟩ := hq
  injection he with he1 _ he3
  subst he1; subst he3
  rcases h2 with h2 | ⟨g, off, cur, z, he, _⟩
  ·omega
  ·exact ⟨_, he, rfl⟩
theorem o_sub {sz off n m : Nat} {e : TypeId} {us : List Value} {h v : Value} (hq : ORow w e sz h n us) (hs : SubHdr sz h off m v) (hsz : 0 < sz) (hl : off + m * sz ≤ us.length) : ORow w e sz v m ((us.drop off).take (m * sz)) ∧ ∀ b ∈ oblk v, b ∈ oblk h := by
 obtain ⟨A, m', c, A', c', rfl, rfl, hn, hc, hle, hA⟩ := hs
 obtain ⟨A2, c2, he, _, _⟩ := o_slice hq
 injection he with e1 e2 e3
 subst e2
 exact o_part hq (by omega) hc hA hn hl hsz
theorem lendB_sound {E : Env} (hE : E.P = P) (h : Cor P w0 mine σ a w loc O R) {op : Oper} {t : TypeId} {n : Nat} {ps : Array (Nat × Operand)} (ho : op.op = .buildSlice t n ps) {d : Nat} {r : AV} (hop : (σ.evp ps.toList).bind (E.lendB σ d t n) = some (r, σ1)) : OpOk P w0 mine σ1 a (some r) op w := by
 subst hE
 obtain ⟨vs, hvs, hop⟩ := Option.bind_eq_some_iff.1 hop
 unfold Env.lendB at hop
 split at hop
 ·rename_i v
  split at hop
  ·rename_i e hu
   split at hop
   ·rename_i hc
    obtain ⟨x, hx, hop⟩ := Option.bind_eq_some_iff.1 hop
    simp only [Option.some.injEq, Prod.mk.injEq] at hop
    obtain ⟨rfl, rfl⟩ := hop
    have hps := rep_evp h.tm hvs
    rw [RepPs] at hps
    obtain ⟨u, us', e1, hu1, hr⟩ := hps
    rw [RepPs] at hr
    subst hr
    obtain ⟨R1, r1, r2, r3⟩ := lentT_rep h hu1 hx
    obtain ⟨i, z, hi, hz, hsz, hzs, _, hce⟩ := elemOk_some hc.2
    have hc1 := hc.1
    have e4 : (ps.map fun (i, x) => (i, a.eval x)).toList = ([u].zipIdx 0).map fun x => (x.2, x.1) := by
     rw [Array.toList_map]
     exact e1
    have hcl : ([u].flatMap fun v => v.cells.toList).toArray = #[u] := by simp [r3]
    have hus : u.cells.size = 1 := by
     rw [← Array.length_toList, r3]
     rfl
    have hb := run_buildSlice (P := E.P) w t e 1 (ps.map fun (i, x) => (i, a.eval x)) ([u].flatMap fun v => v.cells.toList).toArray i z hu hi hz (by omega) (by omega) (by
     rw [e4]
     exact Great.fill_whole hsz [u] _ (fun v hv => by
      have hv : v = u := by simpa using hv
      rw [hv, hus, ← hc1, hce]) (by simp))
    rw [hcl] at hb
    have hlt : ∀ b ∈ R1, b < w.heap.size := fun b hb => Nat.lt_of_lt_of_le (r2 b hb).1 h.inv.size
    obtain ⟨loc', O2, R2, j1, j2⟩ := (h.alloc (.cells #[u] e)).newLnk (site d 0) (site_ge d 0) (e := e) (n := 1) (xs := [x]) (us := [u]) (v := .slice (some ⟨w.heap.size, 0, none⟩) 1 1) (R' := R1) (l_of_o ⟨by simp [hc1], some ⟨w.heap.size, 0, none⟩, 1, rfl, Nat.le_refl _, by simp [maxLen], .inr ⟨w.heap.size, 0, #[u], rfl, heap_alloc_new w _, by simp [hc1], by simp [hc1]⟩⟩) (by
     rw [RepTs]
     refine ⟨u, [], [], R1, [], [], rfl, RepT_move x (fun b hb => heap_alloc_old w _ (hlt b (hb.resolve_left (by simp)))) r1, by rw [RepTs]; exact ⟨rfl, rfl, rfl⟩, rfl, by simp⟩) (fun id ob hl b hb hb' => by
      have h1 : b = w.heap.size := by simpa [oblk] using hb'
      have h2 := (h.inv.own_ id ob hl b hb).1
      omega) (fun b hb => by
      have h1 : b = w.heap.size := by simpa [oblk] using hb
      rw [alloc_size]
      exact ⟨by omega, .inl (by rw [h1]; exact h.inv.size)⟩) r2
    refine ⟨_, _, ?_, by rw [alloc_size]; omega, loc', O2, R2, j1, _, rfl, rep_c j2⟩
    unfold execOp
    rw [ho]
    simp only [Sem.run_bind, hb]
    rfl
   ·simp at hop
  ·simp at hop
 ·simp at hop
theorem lendX_sound (h : Cor P w0 mine σ a w loc O R) (hs : Sub σ.o o) {e : TypeId} {d i len : Nat} {x : C} {xs : List T} {ux : Value} (hx : RepC P w o loc x ux) (hsz : 0 < P.cellsOf e) (hnb : isByte P e = false) (hX : σ.lendX e (P.cellsOf e) d x = some (i, len, xs, σ1)) :
  Cor P w0 mine σ1 a w loc O R ∧ 64 ≤ i ∧ ∃ usx Rx, ORow w e (P.cellsOf e) ux len usx ∧ RepTs P w xs usx [] Rx ∧ (∀ b ∈ Rx, b < w0.heap.size ∧ ¬ mine b) ∧ (∀ id ob, lk σ1.o id = some ob → ∀ b ∈ O id, b ∉ oblk ux) ∧ (∀ b ∈ oblk ux, b < w.heap.size ∧ (w0.heap.size ≤ b ∨ mine b)) := by
 unfold St.lendX at hX
 split at hX
 ·simp only [Option.some.injEq, Prod.mk.injEq] at hX
  obtain ⟨rfl, rfl, rfl, rfl⟩ := hX
  rw [RepC] at hx
  subst hx
  exact ⟨h, site_ge d 0, [], [], ⟨by simp, none, 0, rfl, Nat.le_refl _, by simp [maxLen], .inl rfl⟩, by rw [RepTs]; exact ⟨rfl, rfl, rfl⟩, fun b hb => by simp at hb, fun id ob hl b hb hb' => by simp [oblk] at hb', fun b hb => by simp [oblk] at hb⟩
 ·rename_i id len'
  obtain ⟨ob, hl, hX⟩ := Option.bind_eq_some_iff.1 hX
  split at hX
  ·rename_i hc
   obtain ⟨h64, he, hlen, hk⟩ := hc
   simp only [Option.some.injEq, Prod.mk.injEq] at hX
   obtain ⟨rfl, rfl, rfl, rfl⟩ := hX
   obtain ⟨ob0, hl0, q1, q2, q3⟩ := hs id ob hl
   have hkb : ob0.k ≠ .box := fun e0 => by
    rw [e0] at q1
    rcases hk with hk | hk
    ·rw [hk] at q1; simp at q1
    ·rw [hk.1] at q1; simp at q1
   have := q3 hkb
   subst this
   obtain ⟨n, us, hq, hr, hO⟩ : ∃ n us, ORow w e (P.cellsOf e) (loc id) n us ∧ RepTs P w ob.xs us [] (R id) ∧ O id = oblk (loc id) := by
    have h3 := h.inv.obj id ob hl
    unfold RepO at h3
    rw [← he]
    rcases hk with hk | hk
    ·rw [hk] at h3
     obtain ⟨n, us, hq, hr⟩ := h3
     exact ⟨n, us, o_of_l (by rw [he, hnb]; simp) hq, hr⟩
    ·rw [hk.1] at h3
     obtain ⟨n, h3⟩ := h3
     have h3 : RepT P w (.s ob.e n ob.xs) (loc id) (O id) (R id) := h3
     rw [RepT] at h3
     obtain ⟨us, O', hq, hr, hO, hR⟩ := h3
     have h0 : ob.xs = [] := List.isEmpty_iff.1 hk.2
     have hr0 := hr
     rw [h0, RepTs] at hr
     obtain ⟨h1, h2, h3⟩ := hr
     rw [h2] at hr0
     exact ⟨n, us, hq, hr0, by rw [hO, h2, List.append_nil]⟩
   rw [RepC] at hx
   obtain ⟨ob2, d2, hh, hl2, _, hdn, hha, hsub⟩ := hx
   rw [hl0] at hl2
   injection hl2 with hl2
   subst hl2
   rw [down] at hdn
   injection hdn with hdn
   subst hdn
   rw [HdrAt] at hha
   subst hha
   have hul := RepTs_len hr
   simp only [he] at hsub
   obtain ⟨g1, g2⟩ := o_sub hq hsub hsz (by omega)
   have hus : (us.drop 0).take (len' * P.cellsOf e) = us := by rw [List.drop_zero]; exact List.take_of_length_le (by omega)
   rw [hus] at g1
   obtain ⟨k1, k2, k3⟩ := h.kill id
   refine ⟨k1, h64, us, R id, g1, hr, h.inv.ro id ob hl, fun id' ob' hl' b hb hb' => ?_, fun b hb => h.inv.own_ id ob hl b (by rw [hO]; exact g2 b hb)⟩
   obtain ⟨hne, ob1, hl1⟩ := k3 id' ob' hl'
   exact h.inv.disj id' id ob1 ob hne hl1 hl b hb (by rw [hO]; exact g2 b hb')
  ·simp at hX
 ·simp at hX
theorem lendA_sound {E : Env} (hE : E.P = P) (h : Cor P w0 mine σ a w loc O R) {op : Oper} {args : Array Operand} {argTypes : Array TypeId} (ho : op.op = .call { callee := .builtin .append, args := args, argTypes := argTypes }) {d : Nat} {r : AV} (hop : (σ.evs args.toList).bind (E.lendA σ d argTypes.toList) = some (r, σ1)) : OpOk P w0 mine σ1 a (some r) op w := by
 subst hE
 obtain ⟨vs, hvs, hop⟩ := Option.bind_eq_some_iff.1 hop
 obtain ⟨us, hus, hr⟩ := evs_map h.tm hvs
 unfold Env.lendA at hop
 split at hop
 ·rename_i t t' x idy m hts
  split at hop
  ·rename_i htt
   subst htt
   obtain ⟨ob, hl, hop⟩ := Option.bind_eq_some_iff.1 hop
   split at hop
   ·rename_i e hu
    unfold Env.lendO at hop
    split at hop
    ·rename_i hc
     obtain ⟨hk, he, hnb, hok, hm, hlen⟩ := hc
     obtain ⟨⟨i, len, xs, σ3⟩, hX, hop⟩ := Option.bind_eq_some_iff.1 hop
     simp only at hop
     split at hop
     ·rename_i hmost
      simp only [Option.some.injEq, Prod.mk.injEq] at hop
      obtain ⟨rfl, rfl⟩ := hop
      rw [RepAVs] at hr
      obtain ⟨ux, us', rfl, hx, hr⟩ := hr
      rw [RepAVs] at hr
      obtain ⟨uy, us', rfl, hy, hr⟩ := hr
      rw [RepAVs] at hr
      subst hr
      obtain ⟨ti, z, hi, hz, hsz, hzs, hby, hce⟩ := elemOk_some hok
      have hx := c_rep hx
      have hy := c_rep hy
      have h3 := h.inv.obj idy ob hl
      unfold RepO at h3
      rw [hk] at h3
      obtain ⟨ny, usy, qy, ry, hOy⟩ := h3
      rw [he] at qy
      have qy := o_of_l (by rw [hnb]; simp) qy
      rw [RepC] at hy
      obtain ⟨ob2, d2, hh, hl2, _, hdn, hha, hsub⟩ := hy
      rw [hl] at hl2
      injection hl2 with hl2
      subst hl2
      rw [down] at hdn
      injection hdn with hdn
      subst hdn
      rw [HdrAt] at hha
      subst hha
      simp only [he] at hsub
      have hyl := RepTs_len ry
      obtain ⟨g1, g2⟩ := o_sub qy hsub (by omega) (by omega)
      have husy : (usy.drop 0).take (m * E.P.cellsOf e) = usy := by rw [List.drop_zero]; exact List.take_of_length_le (by omega)
      rw [husy] at g1
      obtain ⟨k1, k2, k3⟩ := h.kill idy
      obtain ⟨c1, c2, usx, Rx, c3, c4, c5, c6, c7⟩ := lendX_sound k1 (Sub.kill h.so idy) hx (by omega) hnb hX
      have hxl := RepTs_len c4
      obtain ⟨g, off, cy, rfl, hgb, hcell⟩ := o_cells g1 hm
      rw [hce] at c3 g1 hlen
      have hxn : usx.length = len * ti.size := c3.1
      have hnm : len + m ≤ 4294967296 := by
       unfold most at hmost
       have : len * 1 ≤ len * ti.size := Nat.mul_le_mul_left _ hsz
       have : m * 1 ≤ m * ti.size := Nat.mul_le_mul_left _ hsz
       omega
      have hbb : (len + m) * ti.bytes ≤ 4294967296 * 32768 := Nat.mul_le_mul hnm hby
      obtain ⟨v', w', hr, hq, p1, p2, p3, p4⟩ := o_append (P := E.P) w t op.type e ti z ti.size ti.bytes hu hi hz rfl rfl hzs hsz ux len usx c3 ⟨g, off, none⟩ m cy usy (by omega) (fun j u hj => by rw [add_at]; exact hcell j u hj) (RepTs_one ry) hm (by simp only [maxLen]; omega) (by omega)
      have hRy : ∀ b ∈ R idy, b < w0.heap.size ∧ ¬ mine b := h.inv.ro idy ob hl
      have hst : ∀ b, b < w0.heap.size ∧ ¬ mine b → w'.heap[b]? = w.heap[b]? := fun b hb => p2 b (Nat.lt_of_lt_of_le hb.1 h.inv.size) fun hb' => by
       rcases (c7 b hb').2 with h1 | h1
       ·have := hb.1; omega
       ·exact hb.2 h1
      have ht2 := c1.turn (w1 := w') (fun b => b ∈ oblk ux) (fun id ob hl' b hb hb' => c6 id ob hl' b hb hb') (fun b hb => (c7 b hb).2) p1 p4 p2
      have hv' : ∀ b ∈ oblk v', b ∈ oblk ux ∨ (w.heap.size ≤ b ∧ b < w'.heap.size) := fun b hb => by
       rcases p3 with p3 | ⟨c, p3, p6, p7⟩
       ·exact .inl (by rw [← p3]; exact hb)
       ·rw [p3] at hb
        simp at hb
        subst hb
        exact .inr ⟨p6, p7⟩
      obtain ⟨loc', O2, R2, j1, j2⟩ := ht2.newLnk i c2 (e := e) (n := len + m) (xs := xs ++ ob.xs) (us := usx ++ usy) (v := v') (R' := Rx ++ R idy) (by rw [hce]; exact l_of_o hq) (by
       have := RepTs_append (RepTs_move xs (fun b hb => hst b (c5 b (hb.resolve_left (by simp)))) c4) (RepTs_move ob.xs (fun b hb => hst b (hRy b (hb.resolve_left (by simp)))) ry)
       simpa using this) (fun id ob' hl' b hb hb' => by
        rcases hv' b hb' with h4 | h4
        ·exact c6 id ob' hl' b hb h4
        ·have := (c1.inv.own_ id ob' hl' b hb).1
         omega) (fun b hb => by
        rcases hv' b hb with h4 | h4
        ·have := c7 b h4
         exact ⟨by omega, this.2⟩
        ·have := h.inv.size
         exact ⟨h4.2, .inl (by omega)⟩) (fun b hb => by
        rcases List.mem_append.1 hb with hb | hb
        ·exact c5 b hb
        ·exact hRy b hb)
      refine ⟨_, w', ?_, p1, loc', O2, R2, j1, v', rfl, rep_c j2⟩
      unfold execOp
      rw [ho]
      simp only [resolve, Sem.run_bind, Sem.run_pure, Result.andThen_ok, invoke, hus]
      rw [list1 hts]
      simp only [builtin, Sem.run_bind, hr]
      rfl
     ·simp at hop
    ·simp at hop
   ·simp at hop
  ·simp at hop
 ·simp at hop
theorem reps_bytes : ∀ (l : List UInt8), RepTs P w (l.map fun b => T.v (.int .u8 b.toNat)) (l.map fun b => Value.int .u8 b.toNat) [] []
 | [] => by rw [List.map_nil, List.map_nil, RepTs]; exact ⟨rfl, rfl, rfl⟩
 | b :: l => by
  rw [List.map_cons, List.map_cons, RepTs]
  refine ⟨_, _, [], [], [], [], rfl, ?_, reps_bytes l, rfl, rfl⟩
  rw [RepT]
  exact ⟨rfl, rfl, rfl, rfl⟩
theorem still_bytes (w : World) (e : TypeId) (s : ByteArray) : Still w (Lib.bytesWorld w e s) := ⟨rfl, rfl, rfl⟩
theorem lendS_sound {E : Env} (hE : E.P = P) (h : Cor P w0 mine σ a w loc O R) {op : Oper} {src dst : TypeId} {x : Operand} (ho : op.op = .convert src dst x) {d : Nat} {r : AV} (hop : (σ.ev x).bind (E.lendS σ d src dst) = some (r, σ1)) : OpOk P w0 mine σ1 a (some r) op w := by
 subst hE
 obtain ⟨v, hv, hop⟩ := Option.bind_eq_some_iff.1 hop
 unfold Env.lendS at hop
 split at hop
 ·rename_i s
  split at hop
  ·rename_i u e hu hd
   split at hop
   ·rename_i hc
    obtain ⟨hb, hc1, hm⟩ := hc
    simp only [Option.some.injEq, Prod.mk.injEq] at hop
    obtain ⟨rfl, rfl⟩ := hop
    have he := isByte_some hb
    have hy : a.eval x = .string s := (rep_int (rep_ev h.tm hv)).1
    have hG1 : s.size ≤ grownCap w s.size 0 e := grownCap_ge w _ _ _
    have hG2 : grownCap w s.size 0 e ≤ maxLen := grownCap_le_maxLen w _ _ _ (by unfold maxLen; omega)
    obtain ⟨loc', O2, R2, j1, j2⟩ := (h.grow (by rw [Lib.bytesWorld_size]; omega) (still_bytes w e s) (fun b hb => Lib.bytesWorld_at_old w e s b hb)).newLnk (site d 0) (site_ge d 0) (e := e) (n := s.size) (xs := bytesT s) (us := s.data.toList.map fun b => Value.int .u8 b.toNat) (v := .slice (some ⟨w.heap.size, 0, none⟩) s.size (grownCap w s.size 0 e)) (R' := []) ⟨by simp [hc1], some ⟨w.heap.size, 0, none⟩, _, rfl, hG1, hG2, .inr ⟨w.heap.size, 0, _, _, rfl, Lib.bytesWorld_at_new w e s, .inr hb, by
      rw [hc1]; simp [Lib.bytesCells]; omega, by
      rw [hc1, List.drop_zero]
      unfold Lib.bytesCells
      rw [Array.toList_append, List.take_append_of_le_length (by simp)]
      rw [List.take_of_length_le (by simp)]
      simp⟩⟩ (reps_bytes _) (fun id ob hl b hb' hb2 => by
      have h2 := (h.inv.own_ id ob hl b hb').1
      unfold oblk at hb2
      split at hb2
      ·rename_i hx
       injection hx with hx
       injection hx with hx
       subst hx
       simp only [List.mem_singleton] at hb2
       omega
      ·simp at hb2) (fun b hb' => by
      have h1 : b = w.heap.size := by
       unfold oblk at hb'
       split at hb'
       ·rename_i hx
        injection hx with hx
        injection hx with hx
        subst hx
        simpa using hb'
       ·simp at hb'
      rw [Lib.bytesWorld_size]
      exact ⟨by omega, .inl (by rw [h1]; exact h.inv.size)⟩) (fun b hb => by simp at hb)
    refine ⟨_, _, ?_, by rw [Lib.bytesWorld_size]; omega, loc', O2, R2, j1, _, rfl, rep_c j2⟩
    unfold execOp
    rw [ho]
    simp only [hy, Sem.run_bind, Lib.run_convert_string_bytes w src dst e s hu hd he]
    rfl
   ·simp at hop
  ·simp at hop
 ·simp at hop
theorem lend_sound {E : Env} (hE : E.P = P) (h : Cor P w0 mine σ a w loc O R) {op : Oper} {d : Nat} {r : AV} (hop : E.lend σ d op.op = some (r, σ1)) : OpOk P w0 mine σ1 a (some r) op w := by
 unfold Env.lend at hop
 split at hop
 ·rename_i t n ps ho
  exact lendB_sound hE h ho hop
 ·rename_i as ts ho
  exact lendA_sound hE h ho hop
 ·rename_i src dst x ho
  exact lendS_sound hE h ho hop
 ·simp at hop
/-- What an operation's value is. -/
def ResOk (P : Program) (w : World) (o : OM) (loc : Nat → Value) (r : Option AV) (v : Value) : Prop := match r with
 | some av => RepAV P w o loc av v
 | none => v = undef
/-- What an operation leaves, as the walk asks it. -/
def OpWp (P : Program) (w0 : World) (mine : Ctx) (σ' : St) (a : Act) (r : Option AV) (op : Oper) (w : World) : Prop :=
 ∀ (K : Act → World → Prop) (Q : Exit → Act → World → Prop), (∀ v w' loc' O' R', Cor P w0 mine σ' a w' loc' O' R' → ResOk P w' σ'.o loc' r v → K (a.put op.dst v) w') → op.wp P a w K Q
theorem OpOk.wp {r : Option AV} {op : Oper} (h : OpOk P w0 mine σ1 a r op w) : OpWp P w0 mine σ1 a r op w := by
 intro K Q hK
 obtain ⟨nx, w', hr, _, loc', O', R', hc, hv⟩ := h
 cases r with
 | some av =>
  obtain ⟨v, rfl, hv⟩ := hv
  exact wp_value hr (hK v w' loc' O' R' hc hv)
 | none =>
  subst hv
  exact wp_unit hr (hK undef w' loc' O' R' hc rfl)
/-- Calls go as the machine tells them. -/
def CallsOk (E : Env) (w0 : World) (mine : Ctx) : Prop :=
 ∀ (σ σ1 : St) (a : Act) (w : World) (loc : Nat → Value) (O R : Nat → List Nat) (op : Oper) (d : Nat) (r : Option AV), isCall op.op = true → Cor E.P w0 mine σ a w loc O R → E.op σ d op.op = some (r, σ1) → OpWp E.P w0 mine σ1 a r op w
theorem oper_step {E : Env} (hcalls : CallsOk E w0 mine) (h : Cor E.P w0 mine σ a w loc O R) (hn : a.tmps.size = E.n) {ops : Array Oper} {x : Oper} (ho : E.oper ops σ x = some σ1) {K : Act → World → Prop} {Q : Exit → Act → World → Prop}
  (hK : ∀ a' w' loc' O' R', Cor E.P w0 mine σ1 a' w' loc' O' R' → a'.tmps.size = E.n → a'.defers = a.defers → K a' w') :
  if Region.wanted x (yielded ops a.tmps) then x.wp E.P a w K Q ∨ (x.asks E.P a w ∧ LetsOut Q) else K (a.put x.dst undef) w := by
 unfold Env.oper at ho
 split at ho
 ·rename_i hd
  obtain ⟨b, hb, ho⟩ := Option.bind_eq_some_iff.1 ho
  rw [want_sound h.tm hb]
  have fin : ∀ {σ2 : St} {r : Option AV} {v : Value} {w' : World} {loc' : Nat → Value} {O' R' : Nat → List Nat}, Cor E.P w0 mine σ2 a w' loc' O' R' → ResOk E.P w' σ2.o loc' r v → Cor E.P w0 mine (σ2.put x.dst (r.getD .u)) (a.put x.dst v) w' loc' O' R' := by
   intro σ2 r v w' loc' O' R' hc hv
   have hrep : RepAV E.P w' σ2.o loc' (r.getD .u) v := by
    cases r with
    | some av => exact hv
    | none => rw [Option.getD_none, RepAV]; exact hv
   cases hdst : x.dst with
   | none => exact hc
   | some d =>
    rw [hdst] at hd
    exact hc.put (by rw [hn]; exact hd) hrep
  cases b with
  | true =>
   rw [if_pos rfl] at ho ⊢
   obtain ⟨⟨r, σ2⟩, hop, ho⟩ := Option.bind_eq_some_iff.1 ho
   injection ho with ho
   subst ho
   left
   have hw : OpWp E.P w0 mine σ2 a r x w := by
    by_cases hc : isCall x.op = true
    ·exact hcalls σ σ2 a w loc O R x _ r hc h hop
    ·exact (op_sound rfl h (by simpa using hc) hop).wp
   exact hw K Q (fun v w' loc' O' R' hc hv => hK _ w' loc' O' R' (fin hc hv) (by rw [put_size]; exact hn) (put_defers _ _ _))
  | false =>
   simp only [Bool.false_eq_true, if_false] at ho ⊢
   injection ho with ho
   subst ho
   exact hK _ w loc O R (fin (r := none) h rfl) (by rw [put_size]; exact hn) (put_defers _ _ _)
 ·simp at ho
theorem operN_step {E : Env} (hcalls : CallsOk E w0 mine) (h : Cor E.P w0 mine σ a w loc O R) (hn : a.tmps.size = E.n) {ops : Array Oper} {x : Oper} (ho : E.operN ops σ x = some σ1) {K : Act → World → Prop} {Q : Exit → Act → World → Prop}
  (hK : ∀ a' w' loc' O' R', Cor E.P w0 mine σ1 a' w' loc' O' R' → a'.tmps.size = E.n → a'.defers = a.defers → K a' w') :
  if Region.wanted x (yielded ops a.tmps) then x.wp E.P a w K Q ∨ (x.asks E.P a w ∧ LetsOut Q) else K (a.put x.dst undef) w := by
 unfold Env.operN at ho
 split at ho
 ·rename_i v σ2 hl
  split at ho
  ·rename_i hd
   injection ho with ho
   subst ho
   split at hl
   ·rename_i hg
    have hg : x.guard = none := by simpa using hg
    rw [want_sound h.tm (b := true) (by rw [hg]; rfl), if_pos rfl]
    left
    refine (lend_sound rfl h hl).wp K Q fun u w' loc' O' R' hc hv => hK _ w' loc' O' R' ?_ (by rw [put_size]; exact hn) (put_defers _ _ _)
    cases hdst : x.dst with
    | none => exact hc
    | some d =>
     rw [hdst] at hd
     exact hc.put (by rw [hn]; exact hd) hv
   ·simp at hl
  ·simp at ho
 ·exact oper_step hcalls h hn ho hK
/-- A region's operations in order. -/
theorem opers_sound {E : Env} (hcalls : CallsOk E w0 mine) {ops : Array Oper} {Q : Exit → Act → World → Prop} : ∀ {l : List Oper} {σ σ1 : St} {a : Act} {w : World} {loc : Nat → Value} {O R : Nat → List Nat}, Cor E.P w0 mine σ a w loc O R → a.tmps.size = E.n → E.opers ops l σ = some σ1 →
  (∀ a' w' loc' O' R', Cor E.P w0 mine σ1 a' w' loc' O' R' → a'.tmps.size = E.n → a'.defers = a.defers → Q .normal a' w') → wpList E.P ops Q l a w
 | [], σ, σ1, a, w, loc, O, R, h, hn, ho, hQ => by
  simp only [Env.opers, Option.some.injEq] at ho
  subst ho
  exact hQ a w loc O R h hn rfl
 | x :: l, σ, σ2, a, w, loc, O, R, h, hn, ho, hQ => by
  simp only [Env.opers] at ho
  obtain ⟨σ1, h1, ho⟩ := Option.bind_eq_some_iff.1 ho
  rw [wpList]
  exact operN_step hcalls h hn h1 (fun a' w' loc' O' R' hc hn' hd => opers_sound hcalls hc hn' ho (fun a'' w'' loc'' O'' R'' hc' hn'' hd' => hQ a'' w'' loc'' O'' R'' hc' hn'' (hd'.trans hd)))
end Go.Proofs.YtemghdnofgjnmaaDoor.VM

/- Code. -/
namespace Go.Proofs.YtemghdnofgjnmaaDoor.VM
open Go Go.Proofs.YtemghdnofgjnmaaDoorW.PrintWords
set_option linter.unusedVariables false
set_option linter.unusedSimpArgs false
variable {P : Program} {w w1 w2 w0 : World} {mine : Ctx} {o o1 o2 : OM} {loc loc1 loc2 : Nat → Value} {O R : Nat → List Nat} {σ σ1 σ2 : St} {a : Act}

theorem Cor.keep1 (h : Cor P w0 mine σ a w loc O R) (k : List Nat × List Nat) : Cor P w0 mine (σ.keep1 k) a w loc O R := by
 unfold St.keep1
 rw [scrub_eq]
 have hT : ∀ id p, (!k.2.contains id) = false → Tr w σ.o loc w (scrO (fun i _ => !k.2.contains i) (σ.o.filter fun x => k.2.contains x.1)) loc id p := fun id p hf =>
  Tr.trans (Tr.same (w1 := w) (o1 := σ.o.filter fun x => k.2.contains x.1) (loc1 := loc) (fun ob hl => filter_lk h.so hl (by simpa using hf)) rfl (fun ob d h _ _ _ hh => hh)) (Tr_scrO id p)
 refine ⟨Inv_scr h.inv (fun id ob hl => (lk_filter h.so hl).1) hT, ?_, srt_filter _ (srt_filter _ h.st), srt_map _ (srt_filter _ h.so), fun id ob hl hid => ?_⟩
 ·exact Tm_scr (srt_filter _ h.st) (fun d v hd => h.tm d v (lk_filter h.st hd).1) hT
 ·obtain ⟨ob0, h0, h1, h2, _⟩ := scrO_k hl
  rw [h1, h2]
  exact h.par id ob0 (lk_filter h.so h0).1 hid
theorem renOb_box {x y : Nat} {ob : Obj} (h : ob.k = .box) : renOb x y ob = ⟨ob.k, ob.e, ob.xs.map (T.ren x y)⟩ := if_pos h
theorem renOb_not {x y : Nat} {ob : Obj} (h : ob.k ≠ .box) : renOb x y ob = ob := if_neg h
theorem Cor.ren2 (h : Cor P w0 mine σ a w loc O R) {x y : Nat} (hy : lk σ.o y = none) (hx64 : 64 ≤ x) (hy64 : 64 ≤ y) : ∃ loc' O' R', Cor P w0 mine (σ.ren2 x y) a w loc' O' R' := by
 unfold St.ren2
 split
 ·exact ⟨_, _, _, h⟩
 ·rename_i ob hl
  split
  ·exact ⟨_, _, _, h⟩
  ·rename_i hk
   refine ⟨upd loc y (loc x), upd O y (O x), upd R y (R x), ?_⟩
   have hxy : x ≠ y := fun e => by subst e; rw [hy] at hl; simp at hl
   have lks : ∀ i, lk (renO x y (ins (del σ.o x) y ob)) i = (if y = i then some ob else if x = i then none else lk σ.o i).map (renOb x y) := fun i => by
    unfold renO
    rw [lk_map (fun z => renOb x y z.2), lk_ins, lk_del _ _ _ h.so]
   have hrob : renOb x y ob = ob := renOb_not hk
   have inv : ∀ {i : Nat} {ob2 : Obj}, lk (renO x y (ins (del σ.o x) y ob)) i = some ob2 → (i = y ∧ ob2 = ob) ∨ (i ≠ y ∧ i ≠ x ∧ ∃ ob0, lk σ.o i = some ob0 ∧ ob2 = renOb x y ob0) := fun {i ob2} hi => by
    rw [lks] at hi
    by_cases e1 : y = i
    ·rw [if_pos e1, Option.map_some, hrob] at hi
     injection hi with hi
     exact .inl ⟨e1.symm, hi.symm⟩
    ·rw [if_neg e1] at hi
     by_cases e2 : x = i
     ·rw [if_pos e2] at hi; simp at hi
     ·rw [if_neg e2] at hi
      obtain ⟨ob0, h1, h2⟩ := Option.map_eq_some_iff.1 hi
      exact .inr ⟨fun e => e1 e.symm, fun e => e2 e.symm, ob0, h1, h2.symm⟩
   have fwd : ∀ {i : Nat} {ob0 : Obj}, i ≠ x → lk σ.o i = some ob0 → lk (renO x y (ins (del σ.o x) y ob)) i = some (renOb x y ob0) := fun {i ob0} hix hi => by
    have hiy : y ≠ i := fun e => by subst e; rw [hy] at hi; simp at hi
    rw [lks, if_neg hiy, if_neg (fun e => hix e.symm), hi]
    rfl
   have lky : lk (renO x y (ins (del σ.o x) y ob)) y = some ob := by rw [lks, if_pos rfl, Option.map_some, hrob]
   have ne_y : ∀ {i : Nat} {ob0 : Obj}, lk σ.o i = some ob0 → i ≠ y := fun {i ob0} hi e => by subst e; rw [hy] at hi; simp at hi
   have hT : ∀ id p, (id == x) = false → Tr w σ.o loc w (renO x y (ins (del σ.o x) y ob)) (upd loc y (loc x)) id p := fun id p hid => by
    have hid : id ≠ x := by simpa using hid
    intro ob0 d hh hl0 hb hd hH
    have hl1 := fwd hid hl0
    have hloc : upd loc y (loc x) id = loc id := upd_other _ _ (ne_y hl0)
    by_cases hk0 : ob0.k = .box
    ·have := hb hk0
     subst this
     rw [down] at hd
     injection hd with hd
     subst hd
     exact ⟨_, _, hl1, by rw [renOb_box hk0], by rw [down], by rw [renOb_box hk0], by rw [hloc]; exact hH⟩
    ·exact ⟨_, d, hl1, by rw [renOb_not hk0], by rw [renOb_not hk0]; exact hd, rfl, by rw [hloc]; exact hH⟩
   have hL : ∀ {c : T} {v : Value}, RepL P w σ.o loc c v → RepL P w (renO x y (ins (del σ.o x) y ob)) (upd loc y (loc x)) (c.ren x y) v := fun {c v} hc => by
    cases c with
    | v u => rw [RepL] at hc; rw [T.ren, RepL]; exact hc; intros; simp_all
    | z => rw [RepL] at hc; rw [T.ren, RepL]; exact hc; intros; simp_all
    | h => rw [RepL] at hc; rw [T.ren, RepL]; exact hc; intros; simp_all
    | s e n xs => rw [RepL] at hc; exact hc.elim
    | r e n xs => rw [RepL] at hc; exact hc.elim
    | l id p off n =>
     rw [RepL, RepC] at hc
     obtain ⟨ob0, d, hH, hl0, hk0, hd, hh, hs⟩ := hc
     rw [T.ren, RepL, RepC]
     by_cases hid : id = x
     ·subst hid
      rw [hl] at hl0
      injection hl0 with hl0
      subst hl0
      rw [if_pos rfl]
      exact ⟨ob, d, hH, lky, hk0, hd, by rw [upd_same]; exact hh, hs⟩
     ·rw [if_neg hid]
      have hl1 := fwd hid hl0
      rw [renOb_not hk0] at hl1
      exact ⟨ob0, d, hH, hl1, hk0, hd, by rw [upd_other _ _ (ne_y hl0)]; exact hh, hs⟩
   have hLs : ∀ {cs : List T} {vs : List Value}, RepLs P w σ.o loc cs vs → RepLs P w (renO x y (ins (del σ.o x) y ob)) (upd loc y (loc x)) (cs.map (T.ren x y)) vs := fun {cs} => by
    induction cs with
    | nil => intro vs hc; rw [RepLs] at hc; rw [List.map_nil, RepLs]; exact hc
    | cons c cs ih =>
     intro vs hc
     rw [RepLs] at hc
     obtain ⟨u, us, rfl, h1, h2⟩ := hc
     rw [List.map_cons, RepLs]
     exact ⟨u, us, rfl, hL h1, ih h2⟩
   have hob := h.inv.obj x ob hl
   refine ⟨⟨fun i ob2 hi => ?_, fun i ob2 hi => ?_, fun i i' ob2 ob2' hne hi hi' => ?_, fun i ob2 hi => ?_, fun i ob2 hi => ?_, h.inv.kept, h.inv.size, h.inv.still⟩, fun d v hd => ?_, srt_filter _ h.st, srt_map _ (srt_ins _ _ _ (srt_del _ _ h.so)), fun i ob2 hi hi64 => ?_⟩
   ·rcases inv hi with ⟨rfl, rfl⟩ | ⟨h1, h2, ob0, h3, rfl⟩
    ·rw [upd_same, upd_same, upd_same]
     unfold RepO at hob ⊢
     cases hkk : ob2.k with
     | own => rw [hkk] at hob; exact hob
     | ro => rw [hkk] at hob; exact hob
     | lnk => rw [hkk] at hob; exact hob
     | box => exact absurd hkk hk
    ·rw [upd_other _ _ h1, upd_other _ _ h1, upd_other _ _ h1]
     have h4 := h.inv.obj i ob0 h3
     cases hkk : ob0.k with
     | own => rw [renOb_not (by rw [hkk]; simp)]; unfold RepO at h4 ⊢; rw [hkk] at h4 ⊢; exact h4
     | ro => rw [renOb_not (by rw [hkk]; simp)]; unfold RepO at h4 ⊢; rw [hkk] at h4 ⊢; exact h4
     | lnk => rw [renOb_not (by rw [hkk]; simp)]; unfold RepO at h4 ⊢; rw [hkk] at h4 ⊢; exact h4
     | box =>
      rw [renOb_box hkk]
      unfold RepO at h4 ⊢
      rw [hkk] at h4
      simp only [hkk]
      obtain ⟨g, cs, g1, g2, g3, g4, g5⟩ := h4
      exact ⟨g, cs, g1, g2, g3, g4, hLs g5⟩
   ·rcases inv hi with ⟨rfl, rfl⟩ | ⟨h1, h2, ob0, h3, rfl⟩
    ·rw [upd_same]; exact h.inv.nodup x _ hl
    ·rw [upd_other _ _ h1]; exact h.inv.nodup i _ h3
   ·intro b hb hb'
    rcases inv hi with ⟨rfl, rfl⟩ | ⟨h1, h2, ob0, h3, rfl⟩
    ·rcases inv hi' with ⟨rfl, rfl⟩ | ⟨h1', h2', ob0', h3', rfl⟩
     ·exact hne rfl
     ·rw [upd_same] at hb
      rw [upd_other _ _ h1'] at hb'
      exact h.inv.disj x i' _ _ (fun e => h2' e.symm) hl h3' b hb hb'
    ·rcases inv hi' with ⟨rfl, rfl⟩ | ⟨h1', h2', ob0', h3', rfl⟩
     ·rw [upd_other _ _ h1] at hb
      rw [upd_same] at hb'
      exact h.inv.disj i x _ _ h2 h3 hl b hb hb'
     ·rw [upd_other _ _ h1] at hb
      rw [upd_other _ _ h1'] at hb'
      exact h.inv.disj i i' _ _ hne h3 h3' b hb hb'
   ·rcases inv hi with ⟨rfl, rfl⟩ | ⟨h1, h2, ob0, h3, rfl⟩
    ·rw [upd_same]; exact h.inv.own_ x _ hl
    ·rw [upd_other _ _ h1]; exact h.inv.own_ i _ h3
   ·rcases inv hi with ⟨rfl, rfl⟩ | ⟨h1, h2, ob0, h3, rfl⟩
    ·rw [upd_same]; exact h.inv.ro x _ hl
    ·rw [upd_other _ _ h1]; exact h.inv.ro i _ h3
   ·obtain ⟨h1, h2⟩ := lk_filter h.st hd
    exact RepAV_tr hT (by simpa using h2) (h.tm d v h1)
   ·rcases inv hi with ⟨rfl, rfl⟩ | ⟨h1, h2, ob0, h3, rfl⟩
    ·omega
    ·have h4 := h.par i ob0 h3 hi64
     rw [upd_other _ _ h1, upd_other _ _ h1]
     by_cases hkk : ob0.k = .box
     ·rw [renOb_box hkk]; exact h4
     ·rw [renOb_not hkk]; exact h4
theorem Cor.rens : ∀ (l : List Nat) {σ : St} {loc : Nat → Value} {O R : Nat → List Nat}, Cor P w0 mine σ a w loc O R → ∃ loc' O' R', Cor P w0 mine (σ.rens l) a w loc' O' R'
 | [], σ, loc, O, R, h => ⟨loc, O, R, h⟩
 | e :: l, σ, loc, O, R, h => by
  rw [St.rens]
  split
  ·exact Cor.rens l h
  ·have : ∃ loc' O' R', Cor P w0 mine (σ.ren (e % 1000000) (e / 1000000)) a w loc' O' R' := by
    unfold St.ren
    split
    ·exact ⟨_, _, _, h⟩
    ·split
     ·exact ⟨_, _, _, h⟩
     ·rename_i hn
      split
      ·exact ⟨_, _, _, h⟩
      ·obtain ⟨k1, k2, _⟩ := h.kill (e / 1000000)
       exact k1.ren2 k2 (by omega) (by omega)
   obtain ⟨loc', O', R', h'⟩ := this
   exact Cor.rens l h'
theorem Cor.keep (h : Cor P w0 mine σ a w loc O R) (k : List Nat × List Nat) : ∃ loc' O' R', Cor P w0 mine (σ.keep k) a w loc' O' R' := by
 obtain ⟨loc', O', R', h'⟩ := Cor.rens k.2 h
 exact ⟨loc', O', R', h'.keep1 k⟩
/-- How code ends. -/
def exOf : Ex → Exit
 | .normal => .normal
 | .exit id => .exit id
 | .ret => .ret
/-- Regions that draw their order go as in order. -/
def DrawsOk (E : Env) (w0 : World) (mine : Ctx) : Prop :=
 ∀ (i : Nat) (ops : Array Oper) (σ σ1 : St) (a : Act) (w : World) (loc : Nat → Value) (O R : Nat → List Nat) (Q : Exit → Act → World → Prop), Cor E.P w0 mine σ a w loc O R → a.tmps.size = E.n → regionOk ops = true → E.opersD ops ops.toList σ = some σ1 →
  (∀ a' w' loc' O' R', Cor E.P w0 mine σ1 a' w' loc' O' R' → a'.tmps.size = E.n → a'.defers = a.defers → Q .normal a' w') → (Code.region i ops true).wp E.P Q a w
/-- Some state of the machine that goes with these temporaries and this memory ends so within j rounds. -/
def Ends (E : Env) (w0 : World) (mine : Ctx) (f : St → Option (Ex × St)) (h : List Nat × List Nat) (out : Ex × St) (ds : List Deferred) (j : Nat) (a : Act) (w : World) : Prop :=
 ∃ σ loc O R, Cor E.P w0 mine σ a w loc O R ∧ a.tmps.size = E.n ∧ a.defers = ds ∧ iter f h j σ = some out
theorem exists_least {p : Nat → Prop} : ∀ (n j : Nat), j ≤ n → p j → ∃ m, p m ∧ ∀ i, p i → m ≤ i
 | 0, j, hj, h => ⟨j, h, fun i _ => by omega⟩
 | n + 1, j, hj, h => by
  by_cases hx : ∃ i, i < j ∧ p i
  ·obtain ⟨i, hi, hp⟩ := hx
   exact exists_least n i (by omega) hp
  ·exact ⟨j, h, fun i hi => Nat.le_of_not_lt fun hlt => hx ⟨i, hlt, hi⟩⟩
open Classical in
noncomputable def least (p : Nat → Prop) : Nat := if h : ∃ m, p m ∧ ∀ i, p i → m ≤ i then Classical.choose h else 0
theorem least_spec {p : Nat → Prop} {j : Nat} (h : p j) : p (least p) ∧ least p ≤ j := by
 unfold least
 have hx := exists_least j j (Nat.le_refl _) h
 rw [dif_pos hx]
 have hs := Classical.choose_spec hx
 exact ⟨hs.1, hs.2 j h⟩
theorem exec_sound {E : Env} (hcalls : CallsOk E w0 mine) (hdraws : DrawsOk E w0 mine) {k : Nat} {hint : Nat → List Nat × List Nat} : ∀ (c : Code) {σ σ1 : St} {x : Ex} {a : Act} {w : World} {loc : Nat → Value} {O R : Nat → List Nat} {Q : Exit → Act → World → Prop}, codeOk c = true → Cor E.P w0 mine σ a w loc O R → a.tmps.size = E.n → E.exec k hint c σ = some (x, σ1) →
  (∀ a' w' loc' O' R', Cor E.P w0 mine σ1 a' w' loc' O' R' → a'.tmps.size = E.n → a'.defers = a.defers → Q (exOf x) a' w') → c.wp E.P Q a w
 | .skip, σ, σ1, x, a, w, loc, O, R, Q, hok, h, hn, hx, hQ => by
  simp only [Env.exec, Option.some.injEq, Prod.mk.injEq] at hx
  obtain ⟨rfl, rfl⟩ := hx
  exact wp_skip (hQ a w loc O R h hn rfl)
 | .region i ops dr, σ, σ1, x, a, w, loc, O, R, Q, hok, h, hn, hx, hQ => by
  simp only [Env.exec] at hx
  obtain ⟨σ2, ho, hx⟩ := Option.bind_eq_some_iff.1 hx
  simp only [Option.some.injEq, Prod.mk.injEq] at hx
  obtain ⟨rfl, rfl⟩ := hx
  cases dr with
  | true => exact hdraws i ops σ σ2 a w loc O R Q h hn (by simpa [codeOk] using hok) ho hQ
  | false =>
   refine wp_region ?_
   have e : wpOps E.P ops Q (List.range ops.size) = wpList E.P ops Q ops.toList := by
    rw [List.range_eq_range', ← Array.length_toList]
    exact wpOps_eq_wpList ops.toList 0 (fun j => by simp)
   rw [e]
   exact opers_sound hcalls h hn ho hQ
 | .seq c d, σ, σ1, x, a, w, loc, O, R, Q, hok, h, hn, hx, hQ => by
  simp only [Env.exec] at hx
  obtain ⟨⟨y, σ2⟩, h1, hx⟩ := Option.bind_eq_some_iff.1 hx
  simp only [codeOk, Bool.and_eq_true] at hok
  refine wp_seq (exec_sound hcalls hdraws c hok.1 h hn h1 fun a' w' loc' O' R' hc hn' hd => ?_)
  cases y with
  | normal => exact exec_sound hcalls hdraws d hok.2 hc hn' hx fun a'' w'' loc'' O'' R'' hc' hn'' hd' => hQ a'' w'' loc'' O'' R'' hc' hn'' (hd'.trans hd)
  | exit id =>
   simp only [Option.some.injEq, Prod.mk.injEq] at hx
   obtain ⟨rfl, rfl⟩ := hx
   exact hQ a' w' loc' O' R' hc hn' hd
  | ret =>
   simp only [Option.some.injEq, Prod.mk.injEq] at hx
   obtain ⟨rfl, rfl⟩ := hx
   exact hQ a' w' loc' O' R' hc hn' hd
 | .cond c d e, σ, σ1, x, a, w, loc, O, R, Q, hok, h, hn, hx, hQ => by
  simp only [Env.exec] at hx
  simp only [codeOk, Bool.and_eq_true] at hok
  split at hx
  ·rename_i t hc
   refine wp_cond (rep_int (rep_ev h.tm hc)).1 ?_
   cases t with
   | true => exact exec_sound hcalls hdraws d hok.1 h hn (by simpa using hx) hQ
   | false => exact exec_sound hcalls hdraws e hok.2 h hn (by simpa using hx) hQ
  ·simp at hx
 | .block id c, σ, σ1, x, a, w, loc, O, R, Q, hok, h, hn, hx, hQ => by
  simp only [Env.exec] at hx
  obtain ⟨⟨y, σ2⟩, h1, hx⟩ := Option.bind_eq_some_iff.1 hx
  refine wp_block (exec_sound hcalls hdraws c hok h hn h1 fun a' w' loc' O' R' hc hn' hd => ?_)
  cases y with
  | normal =>
   simp only [Option.some.injEq, Prod.mk.injEq] at hx
   obtain ⟨rfl, rfl⟩ := hx
   exact hQ a' w' loc' O' R' hc hn' hd
  | ret =>
   simp only [Option.some.injEq, Prod.mk.injEq] at hx
   obtain ⟨rfl, rfl⟩ := hx
   exact hQ a' w' loc' O' R' hc hn' hd
  | exit i =>
   simp only at hx
   by_cases hi : i = id
   ·rw [if_pos hi] at hx
    simp only [Option.some.injEq, Prod.mk.injEq] at hx
    obtain ⟨rfl, rfl⟩ := hx
    have := hQ a' w' loc' O' R' hc hn' hd
    simpa [exOf, Exit.inBlock, hi] using this
   ·rw [if_neg hi] at hx
    simp only [Option.some.injEq, Prod.mk.injEq] at hx
    obtain ⟨rfl, rfl⟩ := hx
    have := hQ a' w' loc' O' R' hc hn' hd
    simpa [exOf, Exit.inBlock, hi] using this
 | .loop c, σ, σ1, x, a, w, loc, O, R, Q, hok, h, hn, hx, hQ => by
  simp only [Env.exec] at hx
  refine wp_loop (fun a' w' => ∃ j, Ends E w0 mine (E.exec k hint c) (hint (firstR c)) (x, σ1) a.defers j a' w') (fun a' w' => least fun j => Ends E w0 mine (E.exec k hint c) (hint (firstR c)) (x, σ1) a.defers j a' w') ⟨k, σ, loc, O, R, h, hn, rfl, hx⟩ ?_
  intro a' w' ⟨j, hj⟩
  have hl := (least_spec (p := fun j => Ends E w0 mine (E.exec k hint c) (hint (firstR c)) (x, σ1) a.defers j a' w') hj).1
  revert hl
  generalize least (fun j => Ends E w0 mine (E.exec k hint c) (hint (firstR c)) (x, σ1) a.defers j a' w') = m
  intro ⟨σ2, loc', O', R', h2, hn2, hd2, hit⟩
  cases m with
  | zero => simp [iter] at hit
  | succ m =>
   simp only [iter] at hit
   obtain ⟨⟨y, σ3⟩, h3, hit⟩ := Option.bind_eq_some_iff.1 hit
   obtain ⟨loc2, O2, R2, h2k⟩ := h2.keep (hint (firstR c))
   refine exec_sound hcalls hdraws c hok h2k hn2 h3 fun a'' w'' loc'' O'' R'' hc hn' hd => ?_
   cases y with
   | normal =>
    have he : Ends E w0 mine (E.exec k hint c) (hint (firstR c)) (x, σ1) a.defers m a'' w'' := ⟨σ3, loc'', O'', R'', hc, hn', hd.trans hd2, hit⟩
    exact ⟨⟨m, he⟩, Nat.lt_succ_of_le (least_spec (p := fun j => Ends E w0 mine (E.exec k hint c) (hint (firstR c)) (x, σ1) a.defers j a'' w'') he).2⟩
   | exit id =>
    simp only [Option.some.injEq, Prod.mk.injEq] at hit
    obtain ⟨rfl, rfl⟩ := hit
    exact hQ a'' w'' loc'' O'' R'' hc hn' (hd.trans hd2)
   | ret =>
    simp only [Option.some.injEq, Prod.mk.injEq] at hit
    obtain ⟨rfl, rfl⟩ := hit
    exact hQ a'' w'' loc'' O'' R'' hc hn' (hd.trans hd2)
 | .exit id, σ, σ1, x, a, w, loc, O, R, Q, hok, h, hn, hx, hQ => by
  simp only [Env.exec, Option.some.injEq, Prod.mk.injEq] at hx
  obtain ⟨rfl, rfl⟩ := hx
  exact wp_exit (hQ a w loc O R h hn rfl)
 | .ret, σ, σ1, x, a, w, loc, O, R, Q, hok, h, hn, hx, hQ => by
  simp only [Env.exec, Option.some.injEq, Prod.mk.injEq] at hx
  obtain ⟨rfl, rfl⟩ := hx
  exact wp_ret (hQ a w loc O R h hn rfl)
 | .label l, σ, σ1, x, a, w, loc, O, R, Q, hok, h, hn, hx, hQ => by simp [Env.exec] at hx
 | .goto l, σ, σ1, x, a, w, loc, O, R, Q, hok, h, hn, hx, hQ => by simp [Env.exec] at hx
end Go.Proofs.YtemghdnofgjnmaaDoor.VM

/- A function is entered: its arguments' rows are its first objects. -/
namespace Go.Proofs.YtemghdnofgjnmaaDoor.VM
open Go Go.Proofs.YtemghdnofgjnmaaDoorW.PrintWords
set_option linter.unusedVariables false
set_option linter.unusedSimpArgs false
variable {P : Program} {w w1 w2 w0 : World} {mine : Ctx} {o o1 o2 : OM} {loc loc1 loc2 : Nat → Value} {O R : Nat → List Nat} {σ σ1 σ2 : St} {a : Act}

mutual
/-- What an argument is, and a result. -/
def RepA (P : Program) (w : World) : A → Value → List Nat → List Nat → Prop
 | .c x, v, O, R => RepT P w x v O R
 | .agg xs, v, O, R => ∃ us : List Value, v = .agg us.toArray ∧ RepTs P w xs us O R
 | .box e xs, v, O, R => ∃ g cs O', v = .pointer (some ⟨g, 0, none⟩) ∧ w.heap[g]? = some (.cells cs e (0, 0)) ∧ RepTs P w xs cs.toList O' R ∧ O = O' ++ [g]
 | .fn f as, v, O, R => ∃ us : List Value, v = .func (.func f) #[] us.toArray ∧ RepAs P w as us O R
 | .gone, v, O, R => O = [] ∧ R = []
 | .nn, v, O, R => (∃ t u, v = .iface t u) ∧ O = [] ∧ R = []
def RepAs (P : Program) (w : World) : List A → List Value → List Nat → List Nat → Prop
 | [], us, O, R => us = [] ∧ O = [] ∧ R = []
 | x :: l, us, O, R => ∃ u us' O1 R1 O2 R2, us = u :: us' ∧ RepA P w x u O1 R1 ∧ RepAs P w l us' O2 R2 ∧ O = O1 ++ O2 ∧ R = R1 ++ R2
end
/-- A cell that all is known of. -/
def known : T → Bool
 | .h => false
 | _ => true
mutual
def A.known : A → Bool
 | .c x => VM.known x
 | .agg xs => xs.all VM.known
 | .box _ xs => xs.all VM.known
 | .fn _ as => knowns as
 | .gone => false
 | .nn => false
def knowns : List A → Bool
 | [] => true
 | x :: l => x.known && knowns l
end
/-! ### what memory holds is one -/
theorem o_fun {e : TypeId} {size n : Nat} {v : Value} {xs ys : List Value} (h1 : ORow w e size v n xs) (h2 : ORow w e size v n ys) : xs = ys := by
 obtain ⟨l1, A, c, rfl, n1, c1, h1⟩ := h1
 obtain ⟨l2, A', c', he, n2, c2, h2⟩ := h2
 injection he with e1 e2 e3
 subst e1; subst e3
 by_cases hc : c = 0
 ·have hn : n = 0 := by omega
  subst hn
  rw [Nat.zero_mul] at l1 l2
  rw [List.eq_nil_of_length_eq_zero l1, List.eq_nil_of_length_eq_zero l2]
 ·obtain ⟨g, off, cur, rfl, hh, hs, ht⟩ := h1.resolve_left hc
  obtain ⟨g', off', cur', he, hh', hs', ht'⟩ := h2.resolve_left hc
  injection he with he
  injection he with e1 e2
  subst e1; subst e2
  rw [hh] at hh'
  injection hh' with hh'
  injection hh' with hh'
  subst hh'
  rw [← ht, ← ht']
mutual
theorem RepT_fun : ∀ {x : T} {v : Value} {O1 R1 O2 R2 : List Nat}, RepT P w x v O1 R1 → RepT P w x v O2 R2 → O1 = O2 ∧ R1 = R2
 | .v x, v, O1, R1, O2, R2, h1, h2 => by rw [RepT] at h1 h2; rw [h1.2.2.1, h1.2.2.2, h2.2.2.1, h2.2.2.2]; exact ⟨rfl, rfl⟩
 | .z, v, O1, R1, O2, R2, h1, h2 => by rw [RepT] at h1 h2; rw [h1.2.1, h1.2.2, h2.2.1, h2.2.2]; exact ⟨rfl, rfl⟩
 | .h, v, O1, R1, O2, R2, h1, h2 => by rw [RepT] at h1 h2; rw [h1.2.1, h1.2.2, h2.2.1, h2.2.2]; exact ⟨rfl, rfl⟩
 | .l _ _ _ _, v, O1, R1, O2, R2, h1, h2 => by rw [RepT] at h1; exact h1.elim
 | .s e n xs, v, O1, R1, O2, R2, h1, h2 => by
  rw [RepT] at h1 h2
  obtain ⟨us, Oa, q1, s1, rfl, rfl⟩ := h1
  obtain ⟨us', Ob, q2, s2, rfl, rfl⟩ := h2
  have := o_fun q1 q2
  subst this
  exact ⟨by rw [(RepTs_fun s1 s2).1], rfl⟩
 | .r e n xs, v, O1, R1, O2, R2, h1, h2 => by
  rw [RepT] at h1 h2
  obtain ⟨rfl, A, c, us, Ra, rfl, _, _, _, l1, c1, s1, rfl⟩ := h1
  obtain ⟨rfl, A', c', us', Rb, he, _, _, _, l2, c2, s2, rfl⟩ := h2
  injection he with e1 e2 e3
  subst e1; subst e3
  have : us = us' := by
   apply List.ext_getElem?
   intro j
   cases hx : us[j]? with
   | none =>
    rw [List.getElem?_eq_none_iff] at hx
    rw [List.getElem?_eq_none (by omega)]
   | some x =>
    have hj := (List.getElem?_eq_some_iff.1 hx).1
    have hy : us'[j]? = some us'[j] := List.getElem?_eq_getElem (by omega)
    obtain ⟨ad, rfl, h1⟩ := c1 j x hx
    obtain ⟨ad', he, h2⟩ := c2 j _ hy
    injection he with he
    subst he
    rw [h1] at h2
    rw [hy]
    exact h2
  subst this
  exact ⟨rfl, by rw [(RepTs_fun s1 s2).2]⟩
theorem RepTs_fun : ∀ {xs : List T} {vs : List Value} {O1 R1 O2 R2 : List Nat}, RepTs P w xs vs O1 R1 → RepTs P w xs vs O2 R2 → O1 = O2 ∧ R1 = R2
 | [], vs, O1, R1, O2, R2, h1, h2 => by rw [RepTs] at h1 h2; rw [h1.2.1, h1.2.2, h2.2.1, h2.2.2]; exact ⟨rfl, rfl⟩
 | x :: l, vs, O1, R1, O2, R2, h1, h2 => by
  rw [RepTs] at h1 h2
  obtain ⟨u, us, Oa, Ra, Ob, Rb, rfl, a1, a2, rfl, rfl⟩ := h1
  obtain ⟨u', us', Oc, Rc, Od, Rd, he, b1, b2, rfl, rfl⟩ := h2
  injection he with e1 e2
  subst e1; subst e2
  rw [(RepT_fun a1 b1).1, (RepT_fun a1 b1).2, (RepTs_fun a2 b2).1, (RepTs_fun a2 b2).2]
  exact ⟨rfl, rfl⟩
end
mutual
theorem RepA_fun : ∀ {x : A} {v : Value} {O1 R1 O2 R2 : List Nat}, RepA P w x v O1 R1 → RepA P w x v O2 R2 → O1 = O2 ∧ R1 = R2
 | .c x, v, O1, R1, O2, R2, h1, h2 => by rw [RepA] at h1 h2; exact RepT_fun h1 h2
 | .agg xs, v, O1, R1, O2, R2, h1, h2 => by
  rw [RepA] at h1 h2
  obtain ⟨us, rfl, h1⟩ := h1
  obtain ⟨us', he, h2⟩ := h2
  have e : us = us' := by
   injection he with he
   simpa using he
  subst e
  exact RepTs_fun h1 h2
 | .box e xs, v, O1, R1, O2, R2, h1, h2 => by
  rw [RepA] at h1 h2
  obtain ⟨g, cs, O', rfl, k1, k2, rfl⟩ := h1
  obtain ⟨g', cs', O'', he, k3, k4, rfl⟩ := h2
  injection he with he
  injection he with he
  injection he with he
  subst he
  rw [k1] at k3
  injection k3 with k3
  injection k3 with k3
  subst k3
  rw [(RepTs_fun k2 k4).1, (RepTs_fun k2 k4).2]
  exact ⟨rfl, rfl⟩
 | .fn f as, v, O1, R1, O2, R2, h1, h2 => by
  rw [RepA] at h1 h2
  obtain ⟨us, rfl, h1⟩ := h1
  obtain ⟨us', he, h2⟩ := h2
  have e : us = us' := by
   injection he with _ _ he
   simpa using he
  subst e
  exact RepAs_fun h1 h2
 | .gone, v, O1, R1, O2, R2, h1, h2 => by rw [RepA] at h1 h2; rw [h1.1, h1.2, h2.1, h2.2]; exact ⟨rfl, rfl⟩
 | .nn, v, O1, R1, O2, R2, h1, h2 => by rw [RepA] at h1 h2; rw [h1.2.1, h1.2.2, h2.2.1, h2.2.2]; exact ⟨rfl, rfl⟩
theorem RepAs_fun : ∀ {xs : List A} {vs : List Value} {O1 R1 O2 R2 : List Nat}, RepAs P w xs vs O1 R1 → RepAs P w xs vs O2 R2 → O1 = O2 ∧ R1 = R2
 | [], vs, O1, R1, O2, R2, h1, h2 => by rw [RepAs] at h1 h2; rw [h1.2.1, h1.2.2, h2.2.1, h2.2.2]; exact ⟨rfl, rfl⟩
 | x :: l, vs, O1, R1, O2, R2, h1, h2 => by
  rw [RepAs] at h1 h2
  obtain ⟨u, us, Oa, Ra, Ob, Rb, rfl, a1, a2, rfl, rfl⟩ := h1
  obtain ⟨u', us', Oc, Rc, Od, Rd, he, b1, b2, rfl, rfl⟩ := h2
  injection he with e1 e2
  subst e1; subst e2
  rw [(RepA_fun a1 b1).1, (RepA_fun a1 b1).2, (RepAs_fun a2 b2).1, (RepAs_fun a2 b2).2]
  exact ⟨rfl, rfl⟩
end
/-! ### what an argument is behind the call -/
def AfterT (P : Program) (w w1 : World) : T → T → Value → List Nat → List Nat → Prop
 | .s e n _, .s e' n' ys, v, O, O2 => e' = e ∧ n' = n ∧ RepT P w1 (.s e n ys) v O2 [] ∧ ∀ b ∈ O2, b ∈ O ∨ w.heap.size ≤ b
 | _, _, _, _, O2 => O2 = []
def AfterTs (P : Program) (w w1 : World) : List T → List T → List Value → List Nat → List Nat → Prop
 | [], [], us, O, O2 => us = [] ∧ O = [] ∧ O2 = []
 | x :: xs, y :: ys, us, O, O2 => ∃ u us' O1 R1 O' Oa Ob, us = u :: us' ∧ RepT P w x u O1 R1 ∧ AfterT P w w1 x y u O1 Oa ∧ AfterTs P w w1 xs ys us' O' Ob ∧ O = O1 ++ O' ∧ O2 = Oa ++ Ob
 | _, _, _, _, _ => False
/-- A variable's cell: before, behind. -/
def AfterL (P : Program) (w w1 : World) : T → T → Value → Value → List Nat → List Nat → Prop
 | _, .v x, _, u', _, O2 => u' = x ∧ x.oneCell' = true ∧ O2 = []
 | _, .z, _, u', _, O2 => u' = .slice none 0 0 ∧ O2 = []
 | .r e n _, .r e' n' _, u, u', _, O2 => e' = e ∧ n' = n ∧ SubHdr (P.cellsOf e) u 0 n u' ∧ O2 = []
 | .s e n _, .s e' n' ys, u, u', O, O2 => e' = e ∧ n' = n ∧ SubHdr (P.cellsOf e) u 0 n u' ∧ RepT P w1 (.s e n ys) u O2 [] ∧ ∀ b ∈ O2, b ∈ O ∨ w.heap.size ≤ b
 | _, _, _, _, _, _ => False
def AfterLs (P : Program) (w w1 : World) : List T → List T → List Value → List Value → List Nat → List Nat → Prop
 | [], [], us, us', O, O2 => us = [] ∧ us' = [] ∧ O = [] ∧ O2 = []
 | x :: xs, y :: ys, us, us', O, O2 => ∃ u us1 u' us1' O1 R1 O' Oa Ob, us = u :: us1 ∧ us' = u' :: us1' ∧ RepT P w x u O1 R1 ∧ AfterL P w w1 x y u u' O1 Oa ∧ AfterLs P w w1 xs ys us1 us1' O' Ob ∧ O = O1 ++ O' ∧ O2 = Oa ++ Ob
 | _, _, _, _, _, _ => False
mutual
def AfterA (P : Program) (w w1 : World) : A → A → Value → List Nat → List Nat → Prop
 | .c x, .c y, v, O, O2 => AfterT P w w1 x y v O O2
 | .agg xs, .agg ys, v, O, O2 => ∃ us : List Value, v = .agg us.toArray ∧ AfterTs P w w1 xs ys us O O2
 | .box e xs, .box e' ys, v, O, O2 => ∃ g cs cs' O' O2', e' = e ∧ v = .pointer (some ⟨g, 0, none⟩) ∧ w.heap[g]? = some (.cells cs e (0, 0)) ∧ w1.heap[g]? = some (.cells cs' e (0, 0)) ∧ AfterLs P w w1 xs ys cs.toList cs'.toList O' O2' ∧ O = O' ++ [g] ∧ O2 = O2' ++ [g]
 | .fn f as, .fn g bs, v, O, O2 => ∃ us : List Value, v = .func (.func f) #[] us.toArray ∧ AfterAs P w w1 as bs us O O2
 | .box _ _, .gone, _, _, O2 => O2 = []
 | _, _, _, _, _ => False
def AfterAs (P : Program) (w w1 : World) : List A → List A → List Value → List Nat → List Nat → Prop
 | [], [], us, O, O2 => us = [] ∧ O = [] ∧ O2 = []
 | x :: xs, y :: ys, us, O, O2 => ∃ u us' O1 R1 O' Oa Ob, us = u :: us' ∧ RepA P w x u O1 R1 ∧ AfterA P w w1 x y u O1 Oa ∧ AfterAs P w w1 xs ys us' O' Ob ∧ O = O1 ++ O' ∧ O2 = Oa ++ Ob
 | _, _, _, _, _ => False
end
/-! ### the context grows -/
def AgreeAt (c c' : Ctx) (j : Nat) : Prop := c'.par j = c.par j ∧ c'.k j = c.k j ∧ c'.e j = c.e j ∧ c'.o j = c.o j
theorem AgreeAt.refl {c : Ctx} {j : Nat} : AgreeAt c c j := ⟨rfl, rfl, rfl, rfl⟩
theorem AgreeAt.trans {c c' c2 : Ctx} {j : Nat} (h1 : AgreeAt c c' j) (h2 : AgreeAt c' c2 j) : AgreeAt c c2 j := ⟨h2.1.trans h1.1, h2.2.1.trans h1.2.1, h2.2.2.1.trans h1.2.2.1, h2.2.2.2.trans h1.2.2.2⟩
theorem Inv.ctx (I : Inv P w0 mine o w loc O R) {c : Ctx} (hm : c.m = mine.m) : Inv P w0 c o w loc O R := by
 refine ⟨I.obj, I.nodup, I.disj, fun id ob hl b hb => ?_, fun id ob hl b hb => ?_, fun b hb hc => ?_, I.size, I.still⟩
 ·have := I.own_ id ob hl b hb
  show _ ∧ (_ ∨ c.m b)
  rw [hm]
  exact this
 ·have := I.ro id ob hl b hb
  show _ ∧ ¬ c.m b
  rw [hm]
  exact this
 ·exact I.kept b hb (by
   show ¬ mine.m b
   rw [← hm]
   exact hc)
theorem Cor.ctx (h : Cor P w0 mine σ a w loc O R) {c : Ctx} (hm : c.m = mine.m) (hp : ∀ id ob, lk σ.o id = some ob → id < 64 → AgreeAt mine c id) : Cor P w0 c σ a w loc O R :=
 ⟨h.inv.ctx hm, h.tm, h.st, h.so, fun id ob hl hid => by
  obtain ⟨h1, h2, h3, h4⟩ := hp id ob hl hid
  rw [h1, h2, h3, h4]
  exact h.par id ob hl hid⟩
/-- Below a key. -/
def Keys (l : OM) (n : Nat) : Prop := ∀ x ∈ l, x.1 < n
theorem ins_last {α : Type} : ∀ {l : List (Nat × α)} {k : Nat} {x : α}, (∀ y ∈ l, y.1 < k) → ins l k x = l ++ [(k, x)]
 | [], k, x, _ => rfl
 | (i, y) :: l, k, x, h => by
  have h1 : i < k := h (i, y) (by simp)
  rw [ins, if_neg (by omega), if_neg (by omega), ins_last fun z hz => h z (by simp [hz])]
  rfl
theorem lk_above {l : OM} {n k : Nat} (h : Keys l n) (hk : n ≤ k) : lk l k = none := by
 cases hl : lk l k with
 | none => rfl
 | some v =>
  have := h _ (lk_mem hl)
  simp at this
  omega
/-- One object more. -/
def Ctx.next (c : Ctx) (id : Nat) (v : Value) (ob : Obj) (O' : List Nat) : Ctx := ⟨c.m, upd c.par id v, upd c.k id ob.k, upd c.e id ob.e, upd c.o id O'⟩
theorem Ctx.next_agree {c : Ctx} {id j : Nat} {v : Value} {ob : Obj} {O' : List Nat} (h : j ≠ id) : AgreeAt c (c.next id v ob O') j := ⟨upd_other _ _ h, upd_other _ _ h, upd_other _ _ h, upd_other _ _ h⟩
theorem Cor.next (h : Cor P w0 mine σ a w loc O R) {id : Nat} (hk : Keys σ.o id) {ob : Obj} {v : Value} {O' R' : List Nat} (hr : RepO P w σ.o loc ob v O' R') (hn : O'.Nodup) (hd : ∀ j x, lk σ.o j = some x → ∀ b ∈ O j, b ∉ O') (ho : ∀ b ∈ O', b < w.heap.size ∧ (w0.heap.size ≤ b ∨ mine b)) (hR : ∀ b ∈ R', b < w0.heap.size ∧ ¬ mine b) :
  Cor P w0 (mine.next id v ob O') ⟨σ.t, σ.o ++ [(id, ob)]⟩ a w (upd loc id v) (upd O id O') (upd R id R') ∧ ∀ j p, Tr w σ.o loc w (σ.o ++ [(id, ob)]) (upd loc id v) j p := by
 have hnone := lk_above hk (Nat.le_refl id)
 have h2 : Cor P w0 (mine.next id v ob O') σ a w loc O R := h.ctx rfl (fun j x hl _ => Ctx.next_agree fun e => by rw [e, hnone] at hl; simp at hl)
 have h3 := h2.add hnone hr hn hd ho hR (fun _ => ⟨(upd_same _ _ _).symm, (upd_same _ _ _).symm, (upd_same _ _ _).symm, fun b hb => .inl (by show b ∈ upd mine.o id O' id; rw [upd_same]; exact hb)⟩)
 have e : ins σ.o id ob = σ.o ++ [(id, ob)] := ins_last hk
 rw [e] at h3
 refine ⟨h3, fun j p => ?_⟩
 rw [← e]
 exact Tr_ins hnone ob v
/-! ### what came in -/
def CameT (c : Ctx) (id : Nat) : T → Value → List Nat → Prop
 | .s e _ _, v, O => c.par id = v ∧ c.k id = .own ∧ c.e id = e ∧ c.o id = O
 | .r e _ _, v, _ => c.par id = v ∧ c.k id = .ro ∧ c.e id = e
 | _, _, _ => True
def CameTs (P : Program) (w : World) (c : Ctx) : Nat → List T → List Value → List Nat → Prop
 | _, [], us, O => us = [] ∧ O = []
 | id, x :: xs, us, O => ∃ u us' O1 R1 O', us = u :: us' ∧ RepT P w x u O1 R1 ∧ CameT c id x u O1 ∧ CameTs P w c (enterC id x).2.1 xs us' O' ∧ O = O1 ++ O'
mutual
def Came (P : Program) (w : World) (c : Ctx) : Nat → A → Value → List Nat → Prop
 | id, .c x, v, O => CameT c id x v O
 | id, .agg xs, v, O => ∃ us : List Value, v = .agg us.toArray ∧ CameTs P w c id xs us O
 | id, .box e xs, v, O => ∃ g cs O', v = .pointer (some ⟨g, 0, none⟩) ∧ w.heap[g]? = some (.cells cs e (0, 0)) ∧ CameTs P w c id xs cs.toList O' ∧ c.par (enterCs id xs).2.1 = .slice (some ⟨g, 0, none⟩) 1 1 ∧ c.k (enterCs id xs).2.1 = .box ∧ c.e (enterCs id xs).2.1 = e ∧ O = O' ++ [g]
 | id, .fn f as, v, O => ∃ us : List Value, v = .func (.func f) #[] us.toArray ∧ Cames P w c id as us O
 | _, .gone, _, _ => False
 | _, .nn, _, _ => False
def Cames (P : Program) (w : World) (c : Ctx) : Nat → List A → List Value → List Nat → Prop
 | _, [], us, O => us = [] ∧ O = []
 | id, x :: xs, us, O => ∃ u us' O1 R1 O', us = u :: us' ∧ RepA P w x u O1 R1 ∧ Came P w c id x u O1 ∧ Cames P w c (enter id x).2.1 xs us' O' ∧ O = O1 ++ O'
end
theorem enterC_le {id : Nat} {x : T} : id ≤ (enterC id x).2.1 := by cases x <;> simp [enterC]
theorem enterCs_le : ∀ {id : Nat} {xs : List T}, id ≤ (enterCs id xs).2.1
 | id, [] => Nat.le_refl _
 | id, x :: xs => Nat.le_trans enterC_le (enterCs_le (id := (enterC id x).2.1) (xs := xs))
mutual
theorem enter_le : ∀ {id : Nat} {x : A}, id ≤ (enter id x).2.1
 | id, .c x => by rw [enter]; exact enterC_le
 | id, .agg xs => by rw [enter]; exact enterCs_le
 | id, .box e xs => by rw [enter]; exact Nat.le_trans enterCs_le (Nat.le_succ _)
 | id, .fn f as => by rw [enter]; exact enters_le
 | id, .gone => by rw [enter]; exact Nat.le_refl _
 | id, .nn => by rw [enter]; exact Nat.le_refl _
theorem enters_le : ∀ {id : Nat} {xs : List A}, id ≤ (enter.enters id xs).2.1
 | id, [] => by rw [enter.enters]; exact Nat.le_refl _
 | id, x :: xs => by rw [enter.enters]; exact Nat.le_trans (enter_le (x := x)) (enters_le (id := (enter id x).2.1) (xs := xs))
end
variable {c c' : Ctx}
theorem CameT.mono {id : Nat} {x : T} {v : Value} {O : List Nat} (h : CameT c id x v O) (ha : ∀ j, j < (enterC id x).2.1 → AgreeAt c c' j) : CameT c' id x v O := by
 cases x with
 | s e n xs =>
  obtain ⟨h1, h2, h3, h4⟩ := ha id (by simp [enterC])
  simp only [CameT] at h ⊢
  rw [h1, h2, h3, h4]
  exact h
 | r e n xs =>
  obtain ⟨h1, h2, h3, h4⟩ := ha id (by simp [enterC])
  simp only [CameT] at h ⊢
  rw [h1, h2, h3]
  exact h
 | _ => trivial
theorem CameTs.mono : ∀ {xs : List T} {id : Nat} {v : List Value} {O : List Nat}, CameTs P w c id xs v O → (∀ j, j < (enterCs id xs).2.1 → AgreeAt c c' j) → CameTs P w c' id xs v O
 | [], id, v, O, h, ha => by rw [CameTs] at h ⊢; exact h
 | x :: xs, id, v, O, h, ha => by
  rw [CameTs] at h ⊢
  obtain ⟨u, us, O1, R1, O', rfl, h0, h1, h2, rfl⟩ := h
  have hlt : (enterC id x).2.1 ≤ (enterCs id (x :: xs)).2.1 := enterCs_le (id := (enterC id x).2.1) (xs := xs)
  exact ⟨u, us, O1, R1, O', rfl, h0, h1.mono fun j hj => ha j (Nat.lt_of_lt_of_le hj hlt), h2.mono fun j hj => ha j hj, rfl⟩
mutual
theorem Came.mono : ∀ {x : A} {id : Nat} {v : Value} {O : List Nat}, Came P w c id x v O → (∀ j, j < (enter id x).2.1 → AgreeAt c c' j) → Came P w c' id x v O
 | .c x, id, v, O, h, ha => by rw [Came] at h ⊢; exact h.mono ha
 | .agg xs, id, v, O, h, ha => by
  rw [Came] at h ⊢
  obtain ⟨us, rfl, h⟩ := h
  exact ⟨us, rfl, h.mono ha⟩
 | .box e xs, id, v, O, h, ha => by
  rw [Came] at h ⊢
  obtain ⟨g, cs, O', rfl, h1, h2, h3, h4, h5, rfl⟩ := h
  have ha : ∀ j, j < (enterCs id xs).2.1 + 1 → AgreeAt c c' j := ha
  obtain ⟨k1, k2, k3, _⟩ := ha (enterCs id xs).2.1 (Nat.lt_succ_self _)
  exact ⟨g, cs, O', rfl, h1, h2.mono fun j hj => ha j (Nat.lt_succ_of_lt hj), k1.trans h3, k2.trans h4, k3.trans h5, rfl⟩
 | .fn f as, id, v, O, h, ha => by
  rw [Came] at h ⊢
  obtain ⟨us, rfl, h⟩ := h
  exact ⟨us, rfl, h.mono ha⟩
 | .gone, id, v, O, h, ha => by rw [Came] at h; exact h.elim
 | .nn, id, v, O, h, ha => by rw [Came] at h; exact h.elim
theorem Cames.mono : ∀ {xs : List A} {id : Nat} {v : List Value} {O : List Nat}, Cames P w c id xs v O → (∀ j, j < (enter.enters id xs).2.1 → AgreeAt c c' j) → Cames P w c' id xs v O
 | [], id, v, O, h, ha => by rw [Cames] at h ⊢; exact h
 | x :: xs, id, v, O, h, ha => by
  rw [Cames] at h ⊢
  obtain ⟨u, us, O1, R1, O', rfl, h0, h1, h2, rfl⟩ := h
  have hlt : (enter id x).2.1 ≤ (enter.enters id (x :: xs)).2.1 := enters_le (id := (enter id x).2.1) (xs := xs)
  exact ⟨u, us, O1, R1, O', rfl, h0, h1.mono fun j hj => ha j (Nat.lt_of_lt_of_le hj hlt), h2.mono fun j hj => ha j hj, rfl⟩
end
end Go.Proofs.YtemghdnofgjnmaaDoor.VM

/- A function is entered: all its arguments. -/
namespace Go.Proofs.YtemghdnofgjnmaaDoor.VM
open Go Go.Proofs.YtemghdnofgjnmaaDoorW.PrintWords
set_option linter.unusedVariables false
set_option linter.unusedSimpArgs false
variable {P : Program} {w w1 w2 w0 : World} {mine : Ctx} {o o1 o2 : OM} {loc loc1 loc2 : Nat → Value} {O R : Nat → List Nat} {σ σ1 σ2 : St} {a : Act}

/-- On the way in. -/
def Ent (P : Program) (w : World) (m : Nat → Prop) (c : Ctx) (l : OM) (id : Nat) (loc : Nat → Value) (O R : Nat → List Nat) : Prop :=
 Keys l id ∧ c.m = m ∧ Cor P w c ⟨[], l⟩ ⟨#[], []⟩ w loc O R
/-- One step in: more objects, of these blocks; all that was leads on. -/
def In (P : Program) (w : World) (m : Nat → Prop) (c : Ctx) (l : OM) (id : Nat) (loc : Nat → Value) (O : Nat → List Nat) (c' : Ctx) (l' : OM) (id' : Nat) (loc' : Nat → Value) (O' R' : Nat → List Nat) (Ox : List Nat) : Prop :=
 Ent P w m c' l' id' loc' O' R' ∧ (∀ j p, Tr w l loc w l' loc' j p) ∧ (∀ j y, lk l' j = some y → ∀ b ∈ O' j, (∃ y0, lk l j = some y0 ∧ b ∈ O j) ∨ b ∈ Ox) ∧ id ≤ id' ∧ ∀ j, j < id → AgreeAt c c' j
variable {m : Nat → Prop} {l l' : OM} {id id' : Nat} {O' R' : Nat → List Nat} {c c1 c2 : Ctx}
theorem Tr.refl {j : Nat} {p : List Nat} : Tr w l loc w l loc j p := fun ob d h hl hb hd hh => ⟨ob, d, hl, Iff.rfl, hd, rfl, hh⟩
theorem In.refl (h : Ent P w m c l id loc O R) : In P w m c l id loc O c l id loc O R [] := ⟨h, fun j p => Tr.refl, fun j y hl b hb => .inl ⟨y, hl, hb⟩, Nat.le_refl _, fun j _ => AgreeAt.refl⟩
theorem In.trans {l2 : OM} {id2 : Nat} {loc2 : Nat → Value} {O2 R2 : Nat → List Nat} {Ox Oy : List Nat} (h1 : In P w m c l id loc O c1 l' id' loc1 O' R' Ox) (h2 : In P w m c1 l' id' loc1 O' c2 l2 id2 loc2 O2 R2 Oy) : In P w m c l id loc O c2 l2 id2 loc2 O2 R2 (Ox ++ Oy) := by
 refine ⟨h2.1, fun j p => (h1.2.1 j p).trans (h2.2.1 j p), fun j y hl b hb => ?_, Nat.le_trans h1.2.2.2.1 h2.2.2.2.1, fun j hj => (h1.2.2.2.2 j hj).trans (h2.2.2.2.2 j (Nat.lt_of_lt_of_le hj h1.2.2.2.1))⟩
 rcases h2.2.2.1 j y hl b hb with ⟨y0, hl0, hb0⟩ | hb
 ·rcases h1.2.2.1 j y0 hl0 b hb0 with h | h
  ·exact .inl h
  ·exact .inr (List.mem_append_left _ h)
 ·exact .inr (List.mem_append_right _ hb)
/-- What comes in. -/
structure Inc (w : World) (m : Nat → Prop) (l : OM) (O : Nat → List Nat) (Ox Rx : List Nat) : Prop where
 nodup : Ox.Nodup
 far : ∀ j y, lk l j = some y → ∀ b ∈ O j, b ∉ Ox
 own : ∀ b ∈ Ox, b < w.heap.size ∧ m b
 ro : ∀ b ∈ Rx, b < w.heap.size ∧ ¬ m b
theorem Inc.left {Ox Oy Rx Ry : List Nat} (h : Inc w m l O (Ox ++ Oy) (Rx ++ Ry)) : Inc w m l O Ox Rx :=
 ⟨(List.nodup_append.1 h.nodup).1, fun j y hl b hb hb' => h.far j y hl b hb (List.mem_append_left _ hb'), fun b hb => h.own b (List.mem_append_left _ hb), fun b hb => h.ro b (List.mem_append_left _ hb)⟩
theorem Inc.right {Ox Oy Rx Ry : List Nat} (h : Inc w m l O (Ox ++ Oy) (Rx ++ Ry)) (hi : In P w m c l id loc O c1 l' id' loc1 O' R' Ox) : Inc w m l' O' Oy Ry := by
 have hn := List.nodup_append.1 h.nodup
 refine ⟨hn.2.1, fun j y hl b hb hb' => ?_, fun b hb => h.own b (List.mem_append_right _ hb), fun b hb => h.ro b (List.mem_append_right _ hb)⟩
 rcases hi.2.2.1 j y hl b hb with ⟨y0, hl0, hb0⟩ | hb
 ·exact h.far j y0 hl0 b hb0 (List.mem_append_right _ hb')
 ·exact hn.2.2 b hb b hb' rfl
theorem Ent.next (h : Ent P w m c l id loc O R) {ob : Obj} {v : Value} {Ox Rx : List Nat} (hr : RepO P w l loc ob v Ox Rx) (hi : Inc w m l O Ox Rx) :
  In P w m c l id loc O (c.next id v ob Ox) (l ++ [(id, ob)]) (id + 1) (upd loc id v) (upd O id Ox) (upd R id Rx) Ox := by
 obtain ⟨hk, rfl, hc⟩ := h
 obtain ⟨hc', hT⟩ := hc.next hk hr hi.nodup hi.far (fun b hb => ⟨(hi.own b hb).1, .inr (hi.own b hb).2⟩) hi.ro
 refine ⟨⟨fun x hx => ?_, rfl, hc'⟩, hT, fun j y hl b hb => ?_, by omega, fun j hj => Ctx.next_agree (by omega)⟩
 ·rcases List.mem_append.1 hx with hx | hx
  ·have := hk x hx; omega
  ·simp at hx; subst hx; simp
 ·by_cases hj : j = id
  ·subst hj
   rw [upd_same] at hb
   exact .inr hb
  ·rw [upd_other _ _ hj] at hb
   refine .inl ⟨y, ?_, hb⟩
   rw [← ins_last (l := l) (k := id) (x := ob) hk, lk_ins, if_neg (fun e => hj e.symm)] at hl
   exact hl
theorem lk_last (hk : Keys l id) {ob : Obj} : lk (l ++ [(id, ob)]) id = some ob := by rw [← ins_last hk, lk_ins, if_pos rfl]
theorem enterC_sound {x : T} {v : Value} {Ox Rx : List Nat} {cx : C} {os : OM} (h : Ent P w m c l id loc O R) (hr : RepT P w x v Ox Rx) (hk : known x = true) (hi : Inc w m l O Ox Rx) (he : enterC id x = (cx, id', os)) :
  ∃ c' loc' O' R', In P w m c l id loc O c' (l ++ os) id' loc' O' R' Ox ∧ RepC P w (l ++ os) loc' cx v ∧ CameT c' id x v Ox := by
 cases x with
 | v y =>
  simp only [enterC, Prod.mk.injEq] at he
  obtain ⟨rfl, rfl, rfl⟩ := he
  rw [RepT] at hr
  obtain ⟨rfl, h1, rfl, rfl⟩ := hr
  rw [List.append_nil]
  exact ⟨c, loc, O, R, In.refl h, by rw [RepC]; exact ⟨rfl, h1⟩, trivial⟩
 | z =>
  simp only [enterC, Prod.mk.injEq] at he
  obtain ⟨rfl, rfl, rfl⟩ := he
  rw [RepT] at hr
  obtain ⟨rfl, rfl, rfl⟩ := hr
  rw [List.append_nil]
  exact ⟨c, loc, O, R, In.refl h, by rw [RepC], trivial⟩
 | h => simp [known] at hk
 | l _ _ _ _ => rw [RepT] at hr; exact hr.elim
 | s e n xs =>
  simp only [enterC, Prod.mk.injEq] at he
  obtain ⟨rfl, rfl, rfl⟩ := he
  have hn := h.next (ob := ⟨.own, e, xs⟩) (show RepO P w l loc ⟨.own, e, xs⟩ v Ox Rx from ⟨n, hr⟩) hi
  refine ⟨_, _, _, _, hn, ?_, ⟨upd_same _ _ _, upd_same _ _ _, upd_same _ _ _, upd_same _ _ _⟩⟩
  obtain ⟨A, cc, us, O3, R3, hv, hnc, hcm, _⟩ := Row_cells (own := true) (show Row P w true e n xs v Ox Rx from hr)
  rw [RepC]
  exact ⟨⟨.own, e, xs⟩, (true, e, xs), v, lk_last h.1, by simp, by rw [down]; rfl, by rw [HdrAt, upd_same], by rw [hv]; exact SubHdr_self hnc hcm.1 hcm.2⟩
 | r e n xs =>
  simp only [enterC, Prod.mk.injEq] at he
  obtain ⟨rfl, rfl, rfl⟩ := he
  have hn := h.next (ob := ⟨.ro, e, xs⟩) (show RepO P w l loc ⟨.ro, e, xs⟩ v Ox Rx from ⟨n, hr⟩) hi
  refine ⟨_, _, _, _, hn, ?_, ⟨upd_same _ _ _, upd_same _ _ _, upd_same _ _ _⟩⟩
  obtain ⟨A, cc, us, O3, R3, hv, hnc, hcm, _⟩ := Row_cells (own := false) (show Row P w false e n xs v Ox Rx from hr)
  rw [RepC]
  exact ⟨⟨.ro, e, xs⟩, (false, e, xs), v, lk_last h.1, by simp, by rw [down]; rfl, by rw [HdrAt, upd_same], by rw [hv]; exact SubHdr_self hnc hcm.1 hcm.2⟩
theorem RepC_in (hT : ∀ j p, Tr w l loc w l' loc1 j p) {x : C} {v : Value} (h : RepC P w l loc x v) : RepC P w l' loc1 x v := c_rep (RepAV_tr0 hT (rep_c h))
theorem RepCs_in (hT : ∀ j p, Tr w l loc w l' loc1 j p) : ∀ {x : List C} {v : List Value}, RepCs P w l loc x v → RepCs P w l' loc1 x v
 | [], v, h => by rw [RepCs] at h ⊢; exact h
 | x :: xs, v, h => by
  rw [RepCs] at h ⊢
  obtain ⟨u, us, rfl, h1, h2⟩ := h
  exact ⟨u, us, rfl, RepC_in hT h1, RepCs_in hT h2⟩
theorem RepAVs_in (hT : ∀ j p, Tr w l loc w l' loc1 j p) : ∀ {x : List AV} {v : List Value}, RepAVs P w l loc x v → RepAVs P w l' loc1 x v
 | [], v, h => by rw [RepAVs] at h ⊢; exact h
 | x :: xs, v, h => by
  rw [RepAVs] at h ⊢
  obtain ⟨u, us, rfl, h1, h2⟩ := h
  exact ⟨u, us, rfl, RepAV_tr0 hT h1, RepAVs_in hT h2⟩
theorem enterCs_sound : ∀ {xs : List T} {vs : List Value} {Ox Rx : List Nat} {cs : List C} {os : OM} {l : OM} {id id' : Nat} {loc : Nat → Value} {O R : Nat → List Nat} {c : Ctx}, Ent P w m c l id loc O R → RepTs P w xs vs Ox Rx → xs.all known = true → Inc w m l O Ox Rx → enterCs id xs = (cs, id', os) →
  ∃ c' loc' O' R', In P w m c l id loc O c' (l ++ os) id' loc' O' R' Ox ∧ RepCs P w (l ++ os) loc' cs vs ∧ CameTs P w c' id xs vs Ox
 | [], vs, Ox, Rx, cs, os, l, id, id', loc, O, R, c, h, hr, hk, hi, he => by
  simp only [enterCs, Prod.mk.injEq] at he
  obtain ⟨rfl, rfl, rfl⟩ := he
  rw [RepTs] at hr
  obtain ⟨rfl, rfl, rfl⟩ := hr
  rw [List.append_nil]
  exact ⟨c, loc, O, R, In.refl h, by rw [RepCs], by rw [CameTs]; exact ⟨rfl, rfl⟩⟩
 | x :: xs, vs, Ox, Rx, cs, os, l, id, id', loc, O, R, c, h, hr, hk, hi, he => by
  rw [RepTs] at hr
  obtain ⟨u, us, O1, R1, O2, R2, rfl, h1, h2, rfl, rfl⟩ := hr
  simp only [List.all_cons, Bool.and_eq_true] at hk
  simp only [enterCs, Prod.mk.injEq] at he
  obtain ⟨rfl, rfl, rfl⟩ := he
  have he1 : enterC id x = ((enterC id x).1, (enterC id x).2.1, (enterC id x).2.2) := rfl
  have he2 : enterCs (enterC id x).2.1 xs = ((enterCs (enterC id x).2.1 xs).1, (enterCs (enterC id x).2.1 xs).2.1, (enterCs (enterC id x).2.1 xs).2.2) := rfl
  obtain ⟨c1, loc1, Oa, Ra, g1, g2, gc⟩ := enterC_sound h h1 hk.1 hi.left he1
  obtain ⟨c2, loc2, Ob, Rb, g3, g4, gd⟩ := enterCs_sound g1.1 h2 hk.2 (hi.right g1) he2
  rw [← List.append_assoc]
  exact ⟨c2, loc2, Ob, Rb, g1.trans g3, by rw [RepCs]; exact ⟨u, us, rfl, RepC_in g3.2.1 g2, g4⟩, by rw [CameTs]; exact ⟨u, us, _, _, _, rfl, h1, gc.mono g3.2.2.2.2, gd, rfl⟩⟩
theorem RepLs_cLink : ∀ {x : List C} {v : List Value}, RepCs P w o loc x v → RepLs P w o loc (x.map cLink) v := by
 intro x v h
 have : x.map cLink = x.map toL := List.map_congr_left fun c _ => by cases c <;> rfl
 rw [this]
 exact RepLs_toL h
mutual
theorem enter_sound : ∀ {x : A} {v : Value} {Ox Rx : List Nat} {av : AV} {os : OM} {l : OM} {id id' : Nat} {loc : Nat → Value} {O R : Nat → List Nat} {c : Ctx}, Ent P w m c l id loc O R → RepA P w x v Ox Rx → x.known = true → Inc w m l O Ox Rx → enter id x = (av, id', os) →
  ∃ c' loc' O' R', In P w m c l id loc O c' (l ++ os) id' loc' O' R' Ox ∧ RepAV P w (l ++ os) loc' av v ∧ Came P w c' id x v Ox
 | .c x, v, Ox, Rx, av, os, l, id, id', loc, O, R, c, h, hr, hk, hi, he => by
  simp only [enter, Prod.mk.injEq] at he
  obtain ⟨rfl, rfl, rfl⟩ := he
  rw [RepA] at hr
  rw [A.known] at hk
  obtain ⟨c1, loc1, Oa, Ra, g1, g2, gc⟩ := enterC_sound (id' := (enterC id x).2.1) h hr hk hi rfl
  exact ⟨c1, loc1, Oa, Ra, g1, rep_c g2, by rw [Came]; exact gc⟩
 | .agg xs, v, Ox, Rx, av, os, l, id, id', loc, O, R, c, h, hr, hk, hi, he => by
  simp only [enter, Prod.mk.injEq] at he
  obtain ⟨rfl, rfl, rfl⟩ := he
  rw [RepA] at hr
  obtain ⟨us, rfl, hr⟩ := hr
  rw [A.known] at hk
  obtain ⟨c1, loc1, Oa, Ra, g1, g2, gc⟩ := enterCs_sound (id' := (enterCs id xs).2.1) h hr hk hi rfl
  exact ⟨c1, loc1, Oa, Ra, g1, by rw [RepAV]; exact ⟨us, rfl, g2⟩, by rw [Came]; exact ⟨us, rfl, gc⟩⟩
 | .box e xs, v, Ox, Rx, av, os, l, id, id', loc, O, R, c, h, hr, hk, hi, he => by
  simp only [enter, Prod.mk.injEq] at he
  obtain ⟨rfl, rfl, rfl⟩ := he
  rw [RepA] at hr
  obtain ⟨g, cs, O1, rfl, hg, hr, rfl⟩ := hr
  rw [A.known] at hk
  have hi1 : Inc w m l O (O1 ++ [g]) (Rx ++ []) := by rw [List.append_nil]; exact hi
  obtain ⟨c1, loc1, Oa, Ra, g1, g2, gc⟩ := enterCs_sound (id' := (enterCs id xs).2.1) h hr hk hi1.left rfl
  have g3 := g1.1.next (ob := ⟨.box, e, (enterCs id xs).1.map cLink⟩) (v := .slice (some ⟨g, 0, none⟩) 1 1) (Ox := [g]) (Rx := []) ⟨g, cs, rfl, hg, rfl, rfl, RepLs_cLink g2⟩ (hi1.right g1)
  rw [List.append_assoc] at g3
  refine ⟨_, _, _, _, g1.trans g3, ?_, by rw [Came]; exact ⟨g, cs, O1, rfl, hg, gc.mono g3.2.2.2.2, upd_same _ _ _, upd_same _ _ _, upd_same _ _ _, rfl⟩⟩
  rw [RepAV]
  refine ⟨⟨.box, e, (enterCs id xs).1.map cLink⟩, (true, e, (enterCs id xs).1.map cLink), ⟨g, 0, none⟩, 1, 1, ?_, fun _ => rfl, by rw [down]; rfl, by rw [HdrAt, upd_same], rfl, by simp [Addr.add]⟩
  rw [← List.append_assoc]
  exact lk_last g1.1.1
 | .fn f as, v, Ox, Rx, av, os, l, id, id', loc, O, R, c, h, hr, hk, hi, he => by
  simp only [enter, Prod.mk.injEq] at he
  obtain ⟨rfl, rfl, rfl⟩ := he
  rw [RepA] at hr
  obtain ⟨us, rfl, hr⟩ := hr
  rw [A.known] at hk
  obtain ⟨c1, loc1, Oa, Ra, g1, g2, gc⟩ := enters_sound (id' := (enter.enters id as).2.1) h hr hk hi rfl
  exact ⟨c1, loc1, Oa, Ra, g1, by rw [RepAV]; exact ⟨us, rfl, g2⟩, by rw [Came]; exact ⟨us, rfl, gc⟩⟩
 | .gone, v, Ox, Rx, av, os, l, id, id', loc, O, R, c, h, hr, hk, hi, he => by simp [A.known] at hk
 | .nn, v, Ox, Rx, av, os, l, id, id', loc, O, R, c, h, hr, hk, hi, he => by simp [A.known] at hk
theorem enters_sound : ∀ {xs : List A} {vs : List Value} {Ox Rx : List Nat} {avs : List AV} {os : OM} {l : OM} {id id' : Nat} {loc : Nat → Value} {O R : Nat → List Nat} {c : Ctx}, Ent P w m c l id loc O R → RepAs P w xs vs Ox Rx → knowns xs = true → Inc w m l O Ox Rx → enter.enters id xs = (avs, id', os) →
  ∃ c' loc' O' R', In P w m c l id loc O c' (l ++ os) id' loc' O' R' Ox ∧ RepAVs P w (l ++ os) loc' avs vs ∧ Cames P w c' id xs vs Ox
 | [], vs, Ox, Rx, avs, os, l, id, id', loc, O, R, c, h, hr, hk, hi, he => by
  simp only [enter.enters, Prod.mk.injEq] at he
  obtain ⟨rfl, rfl, rfl⟩ := he
  rw [RepAs] at hr
  obtain ⟨rfl, rfl, rfl⟩ := hr
  rw [List.append_nil]
  exact ⟨c, loc, O, R, In.refl h, by rw [RepAVs], by rw [Cames]; exact ⟨rfl, rfl⟩⟩
 | x :: xs, vs, Ox, Rx, avs, os, l, id, id', loc, O, R, c, h, hr, hk, hi, he => by
  simp only [enter.enters, Prod.mk.injEq] at he
  obtain ⟨rfl, rfl, rfl⟩ := he
  rw [RepAs] at hr
  obtain ⟨u, us, O1, R1, O2, R2, rfl, h1, h2, rfl, rfl⟩ := hr
  rw [knowns, Bool.and_eq_true] at hk
  obtain ⟨c1, loc1, Oa, Ra, g1, g2, gc⟩ := enter_sound (id' := (enter id x).2.1) h h1 hk.1 hi.left rfl
  obtain ⟨c2, loc2, Ob, Rb, g3, g4, gd⟩ := enters_sound (id' := (enter.enters (enter id x).2.1 xs).2.1) g1.1 h2 hk.2 (hi.right g1) rfl
  rw [← List.append_assoc]
  exact ⟨c2, loc2, Ob, Rb, g1.trans g3, by rw [RepAVs]; exact ⟨u, us, rfl, RepAV_tr0 g3.2.1 g2, g4⟩, by rw [Cames]; exact ⟨u, us, _, _, _, rfl, h1, gc.mono g3.2.2.2.2, gd, rfl⟩⟩
end
end Go.Proofs.YtemghdnofgjnmaaDoor.VM

/- A function ends: what its arguments are then. -/
namespace Go.Proofs.YtemghdnofgjnmaaDoor.VM
open Go Go.Proofs.YtemghdnofgjnmaaDoorW.PrintWords
set_option linter.unusedVariables false
set_option linter.unusedSimpArgs false
variable {P : Program} {w w1 w2 w0 : World} {mine : Ctx} {o o1 o2 : OM} {loc loc1 loc2 : Nat → Value} {O R : Nat → List Nat} {σ σ1 σ2 : St} {a : Act} {c : Ctx}

/-- Blocks of objects between two keys. -/
def From (o : OM) (O : Nat → List Nat) (lo hi : Nat) (B : List Nat) : Prop := ∀ b ∈ B, ∃ j ob, lo ≤ j ∧ j < hi ∧ lk o j = some ob ∧ b ∈ O j
theorem From.nil {lo hi : Nat} : From o O lo hi [] := fun b hb => by simp at hb
theorem From.append {lo mid hi : Nat} {B C : List Nat} (h1 : From o O lo mid B) (h2 : From o O mid hi C) (hl : lo ≤ mid) (hh : mid ≤ hi) : From o O lo hi (B ++ C) := fun b hb => by
 rcases List.mem_append.1 hb with hb | hb
 ·obtain ⟨j, ob, k1, k2, k3, k4⟩ := h1 b hb
  exact ⟨j, ob, k1, by omega, k3, k4⟩
 ·obtain ⟨j, ob, k1, k2, k3, k4⟩ := h2 b hb
  exact ⟨j, ob, by omega, k2, k3, k4⟩
theorem From.nodup (I : Inv P w0 mine o w loc O R) {lo mid hi : Nat} {B C : List Nat} (h1 : From o O lo mid B) (h2 : From o O mid hi C) (n1 : B.Nodup) (n2 : C.Nodup) : (B ++ C).Nodup :=
 List.nodup_append.2 ⟨n1, n2, fun b hb c hc e => by
  subst e
  obtain ⟨j, ob, k1, k2, k3, k4⟩ := h1 b hb
  obtain ⟨j', ob', l1, l2, l3, l4⟩ := h2 b hc
  exact I.disj j j' ob ob' (by omega) k3 l3 b k4 l4⟩
theorem row_n {w w1 : World} {e e' : TypeId} {n n' : Nat} {xs ys : List T} {v : Value} {O1 R1 O2 R2 : List Nat} (h1 : RepT P w (.s e n xs) v O1 R1) (h2 : RepT P w1 (.s e' n' ys) v O2 R2) : n' = n := by
 rw [RepT] at h1 h2
 obtain ⟨_, _, q1, _⟩ := h1
 obtain ⟨_, _, q2, _⟩ := h2
 obtain ⟨A, c, rfl, _⟩ := o_slice q1
 obtain ⟨A', c', he, _⟩ := o_slice q2
 injection he with _ he _
 exact he.symm
/-- An own row of an argument, at the end. -/
theorem own_end (h : Cor P w c σ a w1 loc O R) {id : Nat} {e e' : TypeId} {n : Nat} {xs ys : List T} {v : Value} {O1 R1 : List Nat} (hr : RepT P w (.s e n xs) v O1 R1) (hc : CameT c id (.s e n xs) v O1) (hl : lk σ.o id = some ⟨.own, e', ys⟩) (hid : id < 64) :
  RepT P w1 (.s e n ys) v (O id) [] ∧ (∀ b ∈ O id, b ∈ O1 ∨ w.heap.size ≤ b) ∧ (O id).Nodup := by
 obtain ⟨p1, p2, p3, p4⟩ := h.par id _ hl hid
 obtain ⟨c1, c2, c3, c4⟩ := hc
 have hob := h.inv.obj id _ hl
 unfold RepO at hob
 obtain ⟨n', hob⟩ := hob
 have p3 : e' = c.e id := p3
 have hob : RepT P w1 (.s e' n' ys) (loc id) (O id) (R id) := hob
 rw [p1, c1] at hob
 have hn := row_n hr hob
 have hR := RepT_s hob
 rw [hR, hn, p3, c3] at hob
 exact ⟨hob, fun b hb => by have := p4 b hb; rw [c4] at this; exact this, h.inv.nodup id _ hl⟩
theorem leaveC_sound (h : Cor P w c σ a w1 loc O R) {id : Nat} {x : T} {v : Value} {O1 R1 : List Nat} (hr : RepT P w x v O1 R1) (hc : CameT c id x v O1) :
  ∃ O2, AfterT P w w1 x (σ.leaveC id x).1 v O1 O2 ∧ O2.Nodup ∧ From σ.o O id (enterC id x).2.1 O2 ∧ (σ.leaveC id x).2 = (enterC id x).2.1 := by
 cases x with
 | s e n xs =>
  simp only [St.leaveC, enterC]
  split
  ·rename_i e' ys hl
   split
   ·rename_i hid
    obtain ⟨k1, k2, k3⟩ := own_end h hr hc hl hid
    exact ⟨O id, ⟨rfl, rfl, k1, k2⟩, k3, fun b hb => ⟨id, _, Nat.le_refl _, Nat.lt_succ_self _, hl, hb⟩, rfl⟩
   ·exact ⟨[], by simp [AfterT], List.nodup_nil, From.nil, rfl⟩
  ·exact ⟨[], by simp [AfterT], List.nodup_nil, From.nil, rfl⟩
 | r e n xs => exact ⟨[], by simp [St.leaveC, AfterT], List.nodup_nil, From.nil, rfl⟩
 | v y => exact ⟨[], by simp [St.leaveC, AfterT], List.nodup_nil, From.nil, rfl⟩
 | z => exact ⟨[], by simp [St.leaveC, AfterT], List.nodup_nil, From.nil, rfl⟩
 | l _ _ _ _ => exact ⟨[], by simp [St.leaveC, AfterT], List.nodup_nil, From.nil, rfl⟩
 | h => exact ⟨[], by simp [St.leaveC, AfterT], List.nodup_nil, From.nil, rfl⟩
theorem leaveCs_sound (h : Cor P w c σ a w1 loc O R) : ∀ {xs : List T} {id : Nat} {us : List Value} {O1 : List Nat}, CameTs P w c id xs us O1 →
  ∃ O2, AfterTs P w w1 xs (σ.leaveCs id xs).1 us O1 O2 ∧ O2.Nodup ∧ From σ.o O id (enterCs id xs).2.1 O2 ∧ (σ.leaveCs id xs).2 = (enterCs id xs).2.1
 | [], id, us, O1, hc => by
  rw [CameTs] at hc
  exact ⟨[], by simp only [St.leaveCs, AfterTs]; exact ⟨hc.1, hc.2, trivial⟩, List.nodup_nil, From.nil, rfl⟩
 | x :: xs, id, us, O1, hc => by
  rw [CameTs] at hc
  obtain ⟨u, us', Oa, Ra, O', rfl, h0, h1, h2, rfl⟩ := hc
  obtain ⟨O2, k1, k2, k3, k4⟩ := leaveC_sound h h0 h1
  obtain ⟨O3, j1, j2, j3, j4⟩ := leaveCs_sound h h2
  rw [← k4] at j1 j4
  refine ⟨O2 ++ O3, ?_, From.nodup h.inv k3 j3 k2 j2, From.append k3 j3 enterC_le enterCs_le, ?_⟩
  ·show AfterTs P w w1 (x :: xs) ((σ.leaveC id x).1 :: (σ.leaveCs (σ.leaveC id x).2 xs).1) _ _ _
   rw [AfterTs]
   exact ⟨u, us', Oa, Ra, O', O2, O3, rfl, h0, k1, j1, rfl, rfl⟩
  ·show (σ.leaveCs (σ.leaveC id x).2 xs).2 = _
   rw [j4, k4]
   rfl
/-- A variable's cell whose link stands. -/
theorem leaveL_sound (h : Cor P w c σ a w1 loc O R) {id n : Nat} {x y : T} {u u' : Value} {O1 R1 : List Nat} (hr : RepT P w x u O1 R1) (hc : CameT c id x u O1) (hx : cLink (enterC id x).1 = .l id [] 0 n) (hz : RepC P w1 σ.o loc (.sl id [] 0 n) u') (hy : σ.leaveL id x = some y) :
  ∃ O2, AfterL P w w1 x y u u' O1 O2 ∧ O2.Nodup ∧ From σ.o O id (enterC id x).2.1 O2 := by
 rw [RepC] at hz
 obtain ⟨ob, d, hh, hl, hk, hd, hhd, hs⟩ := hz
 rw [down] at hd
 injection hd with hd
 subst hd
 rw [HdrAt] at hhd
 subst hhd
 cases x with
 | s e m xs =>
  simp only [enterC, cLink, T.l.injEq] at hx
  obtain ⟨_, _, _, rfl⟩ := hx
  simp only [St.leaveL] at hy
  split at hy
  ·rename_i e' ys hl'
   split at hy
   ·rename_i hid
    injection hy with hy
    subst hy
    obtain ⟨k1, k2, k3⟩ := own_end h hr hc hl' hid
    obtain ⟨p1, p2, p3, p4⟩ := h.par id _ hl hid
    obtain ⟨c1, c2, c3, c4⟩ := hc
    refine ⟨O id, ?_, k3, fun b hb => ⟨id, _, Nat.le_refl _, Nat.lt_succ_self _, hl, hb⟩⟩
    rw [AfterL]
    have hs' : SubHdr (P.cellsOf e) u 0 m u' := by rw [← c1, ← p1, ← c3, ← p3]; exact hs
    exact ⟨rfl, rfl, hs', k1, k2⟩
   ·simp at hy
  ·simp at hy
 | r e m xs =>
  simp only [enterC, cLink, T.l.injEq] at hx
  obtain ⟨_, _, _, rfl⟩ := hx
  simp only [St.leaveL] at hy
  split at hy
  ·rename_i hid
   injection hy with hy
   subst hy
   obtain ⟨p1, p2, p3, p4⟩ := h.par id _ hl hid
   obtain ⟨c1, c2, c3⟩ := hc
   refine ⟨[], ?_, List.nodup_nil, From.nil⟩
   rw [AfterL]
   have hs' : SubHdr (P.cellsOf e) u 0 m u' := by rw [← c1, ← p1, ← c3, ← p3]; exact hs
   exact ⟨rfl, rfl, hs', rfl⟩
  ·simp at hy
 | _ => simp [St.leaveL] at hy
theorem leaveCells_sound (h : Cor P w c σ a w1 loc O R) : ∀ {xs : List T} {id : Nat} {us us' : List Value} {O1 : List Nat} {zs ys : List T}, CameTs P w c id xs us O1 → RepLs P w1 σ.o loc zs us' → σ.leaveCells xs ((enterCs id xs).1.map cLink) zs = some ys →
  ∃ O2, AfterLs P w w1 xs ys us us' O1 O2 ∧ O2.Nodup ∧ From σ.o O id (enterCs id xs).2.1 O2
 | [], id, us, us', O1, zs, ys, hc, hz, hy => by
  rw [CameTs] at hc
  obtain ⟨rfl, rfl⟩ := hc
  cases zs with
  | nil =>
   rw [RepLs] at hz
   subst hz
   simp only [enterCs, List.map_nil, St.leaveCells, Option.some.injEq] at hy
   subst hy
   exact ⟨[], by simp [AfterLs], List.nodup_nil, From.nil⟩
  | cons t zs => cases t <;> simp [enterCs, St.leaveCells] at hy
 | x :: xs, id, us, us', O1, zs, ys, hc, hz, hy => by
  rw [CameTs] at hc
  obtain ⟨u, us1, Oa, Ra, O', rfl, h0, h1, h2, rfl⟩ := hc
  replace hy : σ.leaveCells (x :: xs) (cLink (enterC id x).1 :: (enterCs (enterC id x).2.1 xs).1.map cLink) zs = some ys := hy
  cases zs with
  | nil => simp [St.leaveCells] at hy
  | cons t zs =>
   rw [RepLs] at hz
   obtain ⟨u', us1', rfl, hz1, hz2⟩ := hz
   have fin : ∀ {y : T} {ys1 : List T} {O2 : List Nat}, AfterL P w w1 x y u u' Oa O2 → O2.Nodup → From σ.o O id (enterC id x).2.1 O2 → σ.leaveCells xs ((enterCs (enterC id x).2.1 xs).1.map cLink) zs = some ys1 → ys = y :: ys1 →
     ∃ O2, AfterLs P w w1 (x :: xs) ys (u :: us1) (u' :: us1') (Oa ++ O') O2 ∧ O2.Nodup ∧ From σ.o O id (enterCs id (x :: xs)).2.1 O2 := by
    intro y ys1 O2 k1 k2 k3 hys e
    subst e
    obtain ⟨O3, j1, j2, j3⟩ := leaveCells_sound h h2 hz2 hys
    exact ⟨O2 ++ O3, by rw [AfterLs]; exact ⟨u, us1, u', us1', Oa, Ra, O', O2, O3, rfl, rfl, h0, k1, j1, rfl, rfl⟩, From.nodup h.inv k3 j3 k2 j2, From.append k3 j3 enterC_le enterCs_le⟩
   cases t with
   | v y =>
    replace hy : (σ.leaveCells xs ((enterCs (enterC id x).2.1 xs).1.map cLink) zs).map (fun l => T.v y :: l) = some ys := by
     generalize hq : cLink (enterC id x).1 = q at hy
     cases q <;> simpa [St.leaveCells] using hy
    obtain ⟨ys1, hys, e⟩ := Option.map_eq_some_iff.1 hy
    rw [RepL] at hz1
    exact fin (y := .v y) (O2 := []) (by simp only [AfterL]; exact ⟨hz1.1, hz1.2, trivial⟩) List.nodup_nil From.nil hys e.symm
   | z =>
    cases hq : cLink (enterC id x).1 with
    | z =>
     rw [hq] at hy
     simp only [St.leaveCells] at hy
     obtain ⟨ys1, hys, e⟩ := Option.map_eq_some_iff.1 hy
     rw [RepL] at hz1
     exact fin (y := .z) (O2 := []) (by simp only [AfterL]; exact ⟨hz1, trivial⟩) List.nodup_nil From.nil hys e.symm
    | _ => rw [hq] at hy; simp [St.leaveCells] at hy
   | l i p o' n =>
    cases hq : cLink (enterC id x).1 with
    | l i' p' o2 n' =>
     rw [hq] at hy
     simp only [St.leaveCells] at hy
     split at hy
     ·rename_i he
      obtain ⟨rfl, rfl, rfl, rfl⟩ := he
      obtain ⟨y, hy1, hy⟩ := Option.bind_eq_some_iff.1 hy
      obtain ⟨ys1, hys, e⟩ := Option.map_eq_some_iff.1 hy
      have hform : i' = id ∧ p' = [] ∧ o2 = 0 := by
       cases x <;> simp [enterC, cLink] at hq <;> exact ⟨hq.1.symm, hq.2.1, hq.2.2.1.symm⟩
      obtain ⟨rfl, rfl, rfl⟩ := hform
      rw [RepL] at hz1
      obtain ⟨O2, k1, k2, k3⟩ := leaveL_sound h h0 h1 hq hz1 hy1
      exact fin k1 k2 k3 hys e.symm
     ·simp at hy
    | _ => rw [hq] at hy; simp [St.leaveCells] at hy
   | s _ _ _ => rw [RepL] at hz1; exact hz1.elim
   | r _ _ _ => rw [RepL] at hz1; exact hz1.elim
   | h =>
    generalize hq : cLink (enterC id x).1 = q at hy
    cases q <;> simp [St.leaveCells] at hy
mutual
theorem leave_sound (h : Cor P w c σ a w1 loc O R) : ∀ {x : A} {id : Nat} {v : Value} {O1 : List Nat}, (∃ R1, RepA P w x v O1 R1) → Came P w c id x v O1 →
  ∃ O2, AfterA P w w1 x (σ.leave id x).1 v O1 O2 ∧ O2.Nodup ∧ From σ.o O id (enter id x).2.1 O2 ∧ (σ.leave id x).2 = (enter id x).2.1
 | .c x, id, v, O1, hr, hc => by
  obtain ⟨R1, hr⟩ := hr
  rw [RepA] at hr
  rw [Came] at hc
  obtain ⟨O2, k1, k2, k3, k4⟩ := leaveC_sound h hr hc
  exact ⟨O2, by rw [St.leave]; simp only [AfterA]; exact k1, k2, k3, by rw [St.leave]; exact k4⟩
 | .agg xs, id, v, O1, hr, hc => by
  rw [Came] at hc
  obtain ⟨us, rfl, hc⟩ := hc
  obtain ⟨O2, k1, k2, k3, k4⟩ := leaveCs_sound h hc
  exact ⟨O2, by rw [St.leave]; simp only [AfterA]; exact ⟨us, rfl, k1⟩, k2, k3, by rw [St.leave]; exact k4⟩
 | .box e xs, id, v, O1, hr, hc => by
  rw [Came] at hc
  obtain ⟨g, cs, O', rfl, hg, hcs, hp, hkk, hee, rfl⟩ := hc
  rw [St.leave]
  unfold St.leaveB
  split
  ·rename_i ob hl
   split
   ·rename_i hid
    split
    ·rename_i ys hys
     obtain ⟨p1, p2, p3, p4⟩ := h.par _ _ hl hid
     have hob := h.inv.obj _ _ hl
     unfold RepO at hob
     rw [p2, hkk] at hob
     obtain ⟨g', cs', e1, e2, e3, e4, e5⟩ := hob
     rw [p1, hp] at e1
     injection e1 with e1
     injection e1 with e1
     injection e1 with e1
     subst e1
     rw [p3, hee] at e2
     obtain ⟨O2, k1, k2, k3⟩ := leaveCells_sound h hcs e5 hys
     have hf : From σ.o O (enterCs id xs).2.1 ((enterCs id xs).2.1 + 1) [g] := fun b hb => by
      simp at hb
      subst hb
      exact ⟨_, ob, Nat.le_refl _, Nat.lt_succ_self _, hl, by rw [e3]; simp⟩
     exact ⟨O2 ++ [g], by rw [AfterA]; exact ⟨g, cs, cs', O', O2, rfl, rfl, hg, e2, k1, rfl, rfl⟩, From.nodup h.inv k3 hf k2 (by simp), From.append k3 hf enterCs_le (Nat.le_succ _), rfl⟩
    ·exact ⟨[], by simp [AfterA], List.nodup_nil, From.nil, rfl⟩
   ·exact ⟨[], by simp [AfterA], List.nodup_nil, From.nil, rfl⟩
  ·exact ⟨[], by simp [AfterA], List.nodup_nil, From.nil, rfl⟩
 | .fn f as, id, v, O1, hr, hc => by
  rw [Came] at hc
  obtain ⟨us, rfl, hc⟩ := hc
  obtain ⟨O2, k1, k2, k3, k4⟩ := leaves_sound h hc
  exact ⟨O2, by rw [St.leave]; simp only [AfterA]; exact ⟨us, rfl, k1⟩, k2, k3, by rw [St.leave]; exact k4⟩
 | .gone, id, v, O1, hr, hc => by rw [Came] at hc; exact hc.elim
 | .nn, id, v, O1, hr, hc => by rw [Came] at hc; exact hc.elim
theorem leaves_sound (h : Cor P w c σ a w1 loc O R) : ∀ {xs : List A} {id : Nat} {us : List Value} {O1 : List Nat}, Cames P w c id xs us O1 →
  ∃ O2, AfterAs P w w1 xs (St.leave.leaves σ id xs).1 us O1 O2 ∧ O2.Nodup ∧ From σ.o O id (enter.enters id xs).2.1 O2 ∧ (St.leave.leaves σ id xs).2 = (enter.enters id xs).2.1
 | [], id, us, O1, hc => by
  rw [Cames] at hc
  exact ⟨[], by rw [St.leave.leaves, AfterAs]; exact ⟨hc.1, hc.2, rfl⟩, List.nodup_nil, From.nil, rfl⟩
 | x :: xs, id, us, O1, hc => by
  rw [Cames] at hc
  obtain ⟨u, us', Oa, Ra, O', rfl, h0, h1, h2, rfl⟩ := hc
  obtain ⟨O2, k1, k2, k3, k4⟩ := leave_sound h ⟨Ra, h0⟩ h1
  obtain ⟨O3, j1, j2, j3, j4⟩ := leaves_sound h h2
  rw [← k4] at j1 j4
  refine ⟨O2 ++ O3, ?_, From.nodup h.inv k3 j3 k2 j2, From.append k3 j3 enter_le enters_le, ?_⟩
  ·show AfterAs P w w1 (x :: xs) ((σ.leave id x).1 :: (St.leave.leaves σ (σ.leave id x).2 xs).1) _ _ _
   rw [AfterAs]
   exact ⟨u, us', Oa, Ra, O', O2, O3, rfl, h0, k1, j1, rfl, rfl⟩
  ·show (St.leave.leaves σ (σ.leave id x).2 xs).2 = _
   rw [j4, k4]
   rfl
end
end Go.Proofs.YtemghdnofgjnmaaDoor.VM

/- A function: what it answers. -/
namespace Go.Proofs.YtemghdnofgjnmaaDoor.VM
open Go Go.Proofs.YtemghdnofgjnmaaDoorW.PrintWords
set_option linter.unusedVariables false
set_option linter.unusedSimpArgs false
variable {P : Program} {w w1 w2 w0 : World} {mine : Ctx} {o o1 o2 : OM} {loc loc1 loc2 : Nat → Value} {O R : Nat → List Nat} {σ σ1 σ2 : St} {a : Act} {c : Ctx}

/-- A result. -/
structure Res (P : Program) (w : World) (σ σ1 : St) (O : Nat → List Nat) (xs : List A) (us : List Value) (O' : List Nat) : Prop where
 rep : RepAs P w xs us O' []
 nodup : O'.Nodup
 gone : ∀ b ∈ O', Gone σ.o σ1.o O b
theorem RepTs_one' {x : T} {v : Value} {O' R' : List Nat} (h : RepTs P w [x] [v] O' R') : RepT P w x v O' R' := by
 rw [RepTs] at h
 obtain ⟨u, us, O1, R1, O2, R2, he, h1, h2, rfl, rfl⟩ := h
 injection he with he _
 subst he
 rw [RepTs] at h2
 rw [h2.2.1, h2.2.2, List.append_nil, List.append_nil]
 exact h1
theorem RepAs_one {x : A} {v : Value} {O' R' : List Nat} (h : RepA P w x v O' R') : RepAs P w [x] [v] O' R' := by
 rw [RepAs]
 exact ⟨v, [], O', R', [], [], rfl, h, by rw [RepAs]; exact ⟨rfl, rfl, rfl⟩, by simp, by simp⟩
theorem allV_T : ∀ {xs : List T} {us : List Value}, allV xs = true → RepLs P w o loc xs us → RepTs P w xs us [] []
 | [], us, _, h => by rw [RepLs] at h; rw [RepTs]; exact ⟨h, rfl, rfl⟩
 | .v x :: l, us, hv, h => by
  rw [RepLs] at h
  obtain ⟨u, us', rfl, h1, h2⟩ := h
  rw [RepL] at h1
  rw [allV] at hv
  rw [RepTs]
  exact ⟨u, us', [], [], [], [], rfl, by rw [RepT]; exact ⟨h1.1, h1.2, rfl, rfl⟩, allV_T hv h2, rfl, rfl⟩
 | .s _ _ _ :: l, us, hv, h => by simp [allV] at hv
 | .r _ _ _ :: l, us, hv, h => by simp [allV] at hv
 | .z :: l, us, hv, h => by simp [allV] at hv
 | .l _ _ _ _ :: l, us, hv, h => by simp [allV] at hv
 | .h :: l, us, hv, h => by simp [allV] at hv
theorem result_sound (h : Cor P w0 mine σ a w loc O R) {t : TypeId} {av : AV} {v : Value} (hv : RepAV P w σ.o loc av v) {x : A} (hx : σ.result P t av = some (x, σ1)) :
  Cor P w0 mine σ1 a w loc O R ∧ Sub σ1.o σ.o ∧ ∃ O', Res P w σ σ1 O [x] [v] O' := by
 cases av with
 | c y =>
  simp only [St.result] at hx
  obtain ⟨⟨t', σ'⟩, hm, hx⟩ := Option.bind_eq_some_iff.1 hx
  simp only [Option.some.injEq, Prod.mk.injEq] at hx
  obtain ⟨rfl, rfl⟩ := hx
  obtain ⟨k1, k2, O', R', k3⟩ := move_sound h Sub.refl (c_rep hv) hm
  refine ⟨k1, k2, O', ⟨?_, k3.nodup, k3.gone⟩⟩
  have := k3.rep
  rw [k3.ro] at this
  exact RepAs_one (by rw [RepA]; exact RepTs_one' this)
 | agg ys =>
  simp only [St.result] at hx
  obtain ⟨⟨ts, σ'⟩, hm, hx⟩ := Option.bind_eq_some_iff.1 hx
  simp only [Option.some.injEq, Prod.mk.injEq] at hx
  obtain ⟨rfl, rfl⟩ := hx
  rw [RepAV] at hv
  obtain ⟨us, rfl, hv⟩ := hv
  obtain ⟨k1, k2, O', R', k3⟩ := moves_sound h Sub.refl hv hm
  refine ⟨k1, k2, O', ⟨?_, k3.nodup, k3.gone⟩⟩
  have := k3.rep
  rw [k3.ro] at this
  exact RepAs_one (by rw [RepA]; exact ⟨us, rfl, this⟩)
 | ptr id p off =>
  simp only [St.result] at hx
  split at hx
  ·rename_i he
   simp at he
  ·rename_i he
   simp at he
  ·rename_i id' he
   injection he with e1 e2 e3
   subst e1; subst e2; subst e3
   split at hx
   ·rename_i e xs hl
    split at hx
    ·rename_i hall
     simp only [Option.some.injEq, Prod.mk.injEq] at hx
     obtain ⟨rfl, rfl⟩ := hx
     obtain ⟨k1, k2, k3⟩ := h.kill id
     have hob := h.inv.obj id _ hl
     unfold RepO at hob
     obtain ⟨g, cs, e1, e2, e3, e4, e5⟩ := hob
     rw [RepAV] at hv
     obtain ⟨ob, d, ad, m, cc, hl', hb, hdn, hh, hsp, rfl⟩ := hv
     rw [HdrAt, e1] at hh
     injection hh with hh _ _
     injection hh with hh
     subst hh
     refine ⟨k1, Sub.kill h.so id, [g], ⟨?_, by simp, fun b hb => ⟨id, _, hl, k2, by rw [e3]; exact hb⟩⟩⟩
     refine RepAs_one ?_
     rw [RepA]
     exact ⟨g, cs, [], by simp [Addr.add], e2, allV_T hall e5, rfl⟩
    ·simp at hx
   ·simp at hx
  ·simp at hx
 | tup ys => simp [St.result] at hx
 | fn f ys => simp [St.result] at hx
 | u => simp [St.result] at hx
 | unk n => simp [St.result] at hx
 | nn => simp [St.result] at hx
/-- What a result's place holds. -/
def resSem (tmps : Array Value) : ResultVar → Sem Value
 | .tmp t => pure (tmps.getD t undef)
 | .cell a t => do loadVar t (← asAddr (tmps.getD a undef))
theorem resVal_sound (h : Cor P w0 mine σ a w loc O R) {r : ResultVar} {av : AV} (hr : σ.resVal P r = some av) : ∃ v, (resSem a.tmps r).run P w = .ok v w ∧ RepAV P w σ.o loc av v := by
 cases r with
 | tmp t => exact ⟨_, rfl, h.tm t av hr⟩
 | cell t ty =>
  simp only [St.resVal] at hr
  split at hr
  ·rename_i id p off hl
   have hp := h.tm t _ hl
   obtain ⟨v, k1, k2⟩ := run_loadAt h.inv hp hr
   refine ⟨v, ?_, k2⟩
   rw [RepAV] at hp
   obtain ⟨ob, d, ad, m, cc, hl', hb, hdn, hh, hsp, hp⟩ := hp
   rw [hp] at k1
   simp only [resSem, hp]
   have e1 : (asAddr (.pointer (some (ad.add off)))) = pure (ad.add off) := rfl
   have e2 : Instr.loadAt ty (.pointer (some (ad.add off))) = loadVar ty (ad.add off) := rfl
   rw [e1]
   rw [e2] at k1
   exact k1
  ·simp at hr
theorem results_sound : ∀ {ts : List TypeId} {rs : List ResultVar} {xs : List A} {σ σ1 : St}, Cor P w0 mine σ a w loc O R → σ.results P ts rs = some (xs, σ1) →
  Cor P w0 mine σ1 a w loc O R ∧ Sub σ1.o σ.o ∧ ∃ us O', Res P w σ σ1 O xs us O' ∧ (rs.mapM (resSem a.tmps)).run P w = .ok us w
 | [], [], xs, σ, σ1, h, hx => by
  simp only [St.results, Option.some.injEq, Prod.mk.injEq] at hx
  obtain ⟨rfl, rfl⟩ := hx
  exact ⟨h, Sub.refl, [], [], ⟨by rw [RepAs]; exact ⟨rfl, rfl, rfl⟩, List.nodup_nil, fun b hb => by simp at hb⟩, rfl⟩
 | t :: ts, r :: rs, xs, σ, σ2, h, hx => by
  simp only [St.results] at hx
  obtain ⟨av, h1, hx⟩ := Option.bind_eq_some_iff.1 hx
  obtain ⟨⟨x, σ1⟩, h2, hx⟩ := Option.bind_eq_some_iff.1 hx
  obtain ⟨⟨ys, σ3⟩, h3, hx⟩ := Option.bind_eq_some_iff.1 hx
  simp only [Option.some.injEq, Prod.mk.injEq] at hx
  obtain ⟨rfl, rfl⟩ := hx
  obtain ⟨v, g1, g2⟩ := resVal_sound h h1
  obtain ⟨k1, k2, O1, k3⟩ := result_sound h g2 h2
  obtain ⟨j1, j2, us, O2, j3, j4⟩ := results_sound k1 h3
  refine ⟨j1, j2.trans k2, v :: us, O1 ++ O2, ⟨?_, ?_, fun b hb => ?_⟩, ?_⟩
  ·have hk := k3.rep
   rw [RepAs] at hk
   obtain ⟨u, us', Oa, Ra, Ob, Rb, he, q1, q2, q3, q4⟩ := hk
   injection he with he he'
   subst he
   rw [RepAs] at q2
   have q4' := List.append_eq_nil_iff.1 q4.symm
   rw [q2.2.1, List.append_nil] at q3
   rw [q4'.1, ← q3] at q1
   rw [RepAs]
   exact ⟨v, us, O1, [], O2, [], rfl, q1, j3.rep, rfl, rfl⟩
  ·refine List.nodup_append.2 ⟨k3.nodup, j3.nodup, fun b hb c hc e => ?_⟩
   subst e
   obtain ⟨id, ob, p1, p2, p3⟩ := k3.gone b hb
   obtain ⟨id', ob', q1, q2, q3⟩ := j3.gone b hc
   obtain ⟨ob2, q4, _⟩ := k2 id' ob' q1
   have hne : id ≠ id' := fun e => by rw [e, q1] at p2; simp at p2
   exact h.inv.disj id id' ob ob2 hne p1 q4 b p3 q3
  ·rcases List.mem_append.1 hb with hb | hb
   ·exact (k3.gone b hb).more j2
   ·exact (j3.gone b hb).less k2
  ·rw [List.mapM_cons]
   simp only [Sem.run_bind, g1, Result.andThen_ok, j4]
   rfl
 | [], _ :: _, xs, σ, σ1, h, hx => by simp [St.results] at hx
 | _ :: _, [], xs, σ, σ1, h, hx => by simp [St.results] at hx
theorem hs_rep : ∀ {xs : List C} {us : List Value}, RepCs P w o loc xs us → RepTs P w (xs.map fun _ => .h) us [] []
 | [], us, h => by
  rw [RepCs] at h
  rw [List.map_nil, RepTs]
  exact ⟨h, rfl, rfl⟩
 | x :: l, us, h => by
  rw [RepCs] at h
  obtain ⟨u, us', rfl, h1, h2⟩ := h
  rw [List.map_cons, RepTs]
  exact ⟨u, us', [], [], [], [], rfl, by rw [RepT]; exact ⟨repC_one h1, rfl, rfl⟩, hs_rep h2, rfl, rfl⟩
theorem leftA_rep {av : AV} {v : Value} {x : A} (hv : RepAV P w o loc av v) (hx : leftA av = some x) : RepA P w x v [] [] := by
 cases av with
 | agg xs =>
  simp only [leftA, Option.some.injEq] at hx
  subst hx
  rw [RepAV] at hv
  obtain ⟨us, rfl, hv⟩ := hv
  rw [RepA]
  exact ⟨us, rfl, hs_rep hv⟩
 | _ => simp [leftA] at hx
theorem resultsS_sound {K : List Nat} : ∀ {ts : List TypeId} {rs : List ResultVar} {i : Nat} {xs : List A} {σ0 σ σ1 : St}, Cor P w0 mine σ0 a w loc O R → Cor P w0 mine σ a w loc O R → σ0.resultsS σ P K i ts rs = some (xs, σ1) →
  Cor P w0 mine σ1 a w loc O R ∧ Sub σ1.o σ.o ∧ ∃ us O', Res P w σ σ1 O xs us O' ∧ (rs.mapM (resSem a.tmps)).run P w = .ok us w
 | [], [], i, xs, σ0, σ, σ1, h0, h, hx => by
  simp only [St.resultsS, Option.some.injEq, Prod.mk.injEq] at hx
  obtain ⟨rfl, rfl⟩ := hx
  exact ⟨h, Sub.refl, [], [], ⟨by rw [RepAs]; exact ⟨rfl, rfl, rfl⟩, List.nodup_nil, fun b hb => by simp at hb⟩, rfl⟩
 | t :: ts, r :: rs, i, xs, σ0, σ, σ2, h0, h, hx => by
  simp only [St.resultsS] at hx
  split at hx
  ·obtain ⟨a0, ha0, hx⟩ := Option.bind_eq_some_iff.1 hx
   obtain ⟨av, hv1, hv2⟩ := Option.bind_eq_some_iff.1 ha0
   obtain ⟨⟨ys, σ3⟩, h3, hx⟩ := Option.bind_eq_some_iff.1 hx
   simp only [Option.some.injEq, Prod.mk.injEq] at hx
   obtain ⟨rfl, rfl⟩ := hx
   obtain ⟨v, g1, g2⟩ := resVal_sound h0 hv1
   obtain ⟨j1, j2, us, O2, j3, j4⟩ := resultsS_sound h0 h h3
   refine ⟨j1, j2, v :: us, O2, ⟨?_, j3.nodup, j3.gone⟩, ?_⟩
   ·rw [RepAs]
    exact ⟨v, us, [], [], O2, [], rfl, leftA_rep g2 hv2, j3.rep, rfl, rfl⟩
   ·rw [List.mapM_cons]
    simp only [Sem.run_bind, g1, Result.andThen_ok, j4]
    rfl
  ·obtain ⟨av, h1, hx⟩ := Option.bind_eq_some_iff.1 hx
   obtain ⟨⟨x, σ1⟩, h2, hx⟩ := Option.bind_eq_some_iff.1 hx
   obtain ⟨⟨ys, σ3⟩, h3, hx⟩ := Option.bind_eq_some_iff.1 hx
   simp only [Option.some.injEq, Prod.mk.injEq] at hx
   obtain ⟨rfl, rfl⟩ := hx
   obtain ⟨v, g1, g2⟩ := resVal_sound h h1
   obtain ⟨k1, k2, O1, k3⟩ := result_sound h g2 h2
   obtain ⟨j1, j2, us, O2, j3, j4⟩ := resultsS_sound h0 k1 h3
   refine ⟨j1, j2.trans k2, v :: us, O1 ++ O2, ⟨?_, ?_, fun b hb => ?_⟩, ?_⟩
   ·have hk := k3.rep
    rw [RepAs] at hk
    obtain ⟨u, us', Oa, Ra, Ob, Rb, he, q1, q2, q3, q4⟩ := hk
    injection he with he he'
    subst he
    rw [RepAs] at q2
    have q4' := List.append_eq_nil_iff.1 q4.symm
    rw [q2.2.1, List.append_nil] at q3
    rw [q4'.1, ← q3] at q1
    rw [RepAs]
    exact ⟨v, us, O1, [], O2, [], rfl, q1, j3.rep, rfl, rfl⟩
   ·refine List.nodup_append.2 ⟨k3.nodup, j3.nodup, fun b hb c hc e => ?_⟩
    subst e
    obtain ⟨id, ob, p1, p2, p3⟩ := k3.gone b hb
    obtain ⟨id', ob', q1, q2, q3⟩ := j3.gone b hc
    obtain ⟨ob2, q4, _⟩ := k2 id' ob' q1
    have hne : id ≠ id' := fun e => by rw [e, q1] at p2; simp at p2
    exact h.inv.disj id id' ob ob2 hne p1 q4 b p3 q3
   ·rcases List.mem_append.1 hb with hb | hb
    ·exact (k3.gone b hb).more j2
    ·exact (j3.gone b hb).less k2
   ·rw [List.mapM_cons]
    simp only [Sem.run_bind, g1, Result.andThen_ok, j4]
    rfl
 | [], _ :: _, i, xs, σ0, σ, σ1, h0, h, hx => by simp [St.resultsS] at hx
 | _ :: _, [], i, xs, σ0, σ, σ1, h0, h, hx => by simp [St.resultsS] at hx
theorem resultsK_sound {K : List Nat} {ts : List TypeId} {rs : List ResultVar} {xs : List A} (h : Cor P w0 mine σ a w loc O R) (hx : σ.resultsK P K ts rs = some (xs, σ1)) :
  Cor P w0 mine σ1 a w loc O R ∧ Sub σ1.o σ.o ∧ ∃ us O', Res P w σ σ1 O xs us O' ∧ (rs.mapM (resSem a.tmps)).run P w = .ok us w := by
 unfold St.resultsK at hx
 split at hx
 ·exact results_sound h hx
 ·split at hx
  ·rename_i hall
   exact resultsS_sound h h hx
  ·simp at hx
/-- Several results in one value. -/
def tupV : List Value → Value
 | [v] => v
 | l => .tuple l.toArray
theorem run_results {fn : Func} {tmps : Array Value} {us : List Value} (h : (fn.results.toList.mapM (resSem tmps)).run P w = .ok us w) : (results fn tmps).run P w = .ok (tupV us) w := by
 have e : (fn.results.mapM (resSem tmps)) = List.toArray <$> fn.results.toList.mapM (resSem tmps) := by
  rw [← List.mapM_toArray]
 have e2 : results fn tmps = (do
   let vs ← fn.results.mapM (resSem tmps)
   pure (if h : vs.size = 1 then vs[0] else .tuple vs)) := by
  unfold results resSem
  congr 1
 rw [e2, e]
 simp only [map_eq_pure_bind, Sem.run_bind, h, Result.andThen_ok, Sem.run_pure]
 congr 1
 match us with
 | [] => rfl
 | [v] => rfl
 | _ :: _ :: _ => simp [tupV]
/-- What a function leans on that is not its own: what some blocks hold. -/
structure Guard where
 holds : World → Prop
 zone : Nat → Prop
 still : ∀ w w' : World, holds w → (∀ b, zone b → w'.heap[b]? = w.heap[b]?) → holds w'
def Guard.on (gd : Guard) (w : World) (m : Nat → Prop) : Prop := gd.holds w ∧ ∀ b, gd.zone b → b < w.heap.size ∧ ¬ m b
def noGuard : Guard := ⟨fun _ => True, fun _ => False, fun _ _ _ _ => trivial⟩
theorem noGuard_on {w : World} {m : Nat → Prop} : noGuard.on w m := ⟨trivial, fun _ h => h.elim⟩
/-- What a call is given. -/
structure Given (gd : Guard) (P : Program) (w : World) (as : List A) (us : List Value) (Ox Rx : List Nat) : Prop where
 rep : RepAs P w as us Ox Rx
 known : knowns as = true
 nodup : Ox.Nodup
 own : ∀ b ∈ Ox, b < w.heap.size
 ro : ∀ b ∈ Rx, b < w.heap.size ∧ b ∉ Ox
 guard : gd.on w (fun b => b ∈ Ox)
/-- What a call leaves. -/
structure Left (P : Program) (w w' : World) (as : List A) (us : List Value) (Ox : List Nat) (rs as' : List A) (vs : List Value) (O1 O2 : List Nat) : Prop where
 rep : RepAs P w' rs vs O1 []
 after : AfterAs P w w' as as' us Ox O2
 nodup : (O1 ++ O2).Nodup
 size : w.heap.size ≤ w'.heap.size
 still : Still w w'
 kept : ∀ b, b < w.heap.size → b ∉ Ox → w'.heap[b]? = w.heap[b]?
 from_ : ∀ b ∈ O1 ++ O2, b < w'.heap.size ∧ (w.heap.size ≤ b ∨ b ∈ Ox)
def Answers (P : Program) (w : World) (as : List A) (us : List Value) (Ox : List Nat) (rs as' : List A) : Ending → World → Prop
 | .returned v, w' => ∃ vs O1 O2, v = tupV vs ∧ Left P w w' as us Ox rs as' vs O1 O2
 | _, _ => False
theorem lk_tmps0 : ∀ {vs : List AV} {i d : Nat} {v : AV}, lk (tmps0 i vs) d = some v → i ≤ d ∧ vs[d - i]? = some v
 | [], i, d, v, h => by simp [tmps0, lk] at h
 | x :: vs, i, d, v, h => by
  simp only [tmps0, lk] at h
  split at h
  ·rename_i e
   subst e
   injection h with h
   subst h
   simp
  ·rename_i e
   obtain ⟨h1, h2⟩ := lk_tmps0 h
   refine ⟨by omega, ?_⟩
   rw [show d - i = (d - (i + 1)) + 1 by omega]
   exact h2
theorem srt_tmps0 : ∀ {vs : List AV} {i : Nat}, Srt (tmps0 i vs)
 | [], i => List.Pairwise.nil
 | x :: vs, i => by
  refine List.pairwise_cons.2 ⟨fun b hb => ?_, srt_tmps0⟩
  have := mem_lk srt_tmps0 (show (b.1, b.2) ∈ tmps0 (i + 1) vs from hb)
  have := (lk_tmps0 this).1
  show i < b.1
  omega
theorem RepAVs_get : ∀ {xs : List AV} {us : List Value} {i : Nat} {x : AV}, RepAVs P w o loc xs us → xs[i]? = some x → ∃ u, us[i]? = some u ∧ RepAV P w o loc x u
 | [], us, i, x, h, hi => by simp at hi
 | y :: xs, us, i, x, h, hi => by
  rw [RepAVs] at h
  obtain ⟨u, us', rfl, h1, h2⟩ := h
  cases i with
  | zero => simp at hi; subst hi; exact ⟨u, rfl, h1⟩
  | succ i => simpa using RepAVs_get h2 (by simpa using hi)
theorem RepAVs_len : ∀ {xs : List AV} {us : List Value}, RepAVs P w o loc xs us → us.length = xs.length
 | [], us, h => by rw [RepAVs] at h; rw [h]; rfl
 | x :: xs, us, h => by
  rw [RepAVs] at h
  obtain ⟨u, us', rfl, _, h⟩ := h
  simp [RepAVs_len h]
def ctx0 (Ox : List Nat) : Ctx := ⟨fun b => b ∈ Ox, fun _ => undef, fun _ => .own, fun _ => 0, fun _ => []⟩
theorem func_sound {gd : Guard} {E : Env} (hcalls : ∀ (w0 : World) (mine : Ctx), gd.on w0 mine.m → CallsOk E w0 mine) (hdraws : ∀ (w0 : World) (mine : Ctx), gd.on w0 mine.m → DrawsOk E w0 mine) {k : Nat} {hint : Nat → List Nat × List Nat} {sk : List A → List Nat} {i0 : Nat} {f : FuncId} {fn : Func} (hf : E.P.funcs[f]? = some fn) (hok : ∀ c, fn.body = some c → codeOk c = true) (hn : E.n = fn.ntmps) {as rs as' : List A} (hx : Env.func E k hint sk i0 fn as = some (rs, as'))
  {us : List Value} {Ox Rx : List Nat} (hg : Given gd E.P w as us Ox Rx) : Calls E.P f us.toArray w (Answers E.P w as us Ox rs as') := by
 have hents : enter.enters i0 as = ((enter.enters i0 as).1, (enter.enters i0 as).2.1, (enter.enters i0 as).2.2) := rfl
 unfold Env.func at hx
 rw [hents] at hx
 simp only at hx
 split at hx
 ·simp at hx
 ·rename_i code hb
  split at hx
  ·simp at hx
  ·rename_i hlen
   obtain ⟨⟨x, σ⟩, he, hx⟩ := Option.bind_eq_some_iff.1 hx
   have h0 : Ent E.P w (fun b => b ∈ Ox) (ctx0 Ox) [] i0 (fun _ => undef) (fun _ => []) (fun _ => []) := by
    refine ⟨fun x hx => by simp at hx, rfl, ⟨⟨fun id ob hl => ?_, fun id ob hl => ?_, fun id id' ob ob' _ hl => ?_, fun id ob hl => ?_, fun id ob hl => ?_, fun b _ _ => rfl, Nat.le_refl _, Still.refl⟩, fun d v hd => ?_, List.Pairwise.nil, List.Pairwise.nil, fun id ob hl => ?_⟩⟩ <;> simp [lk] at *
   obtain ⟨c, loc, O, R, ⟨⟨hkeys, hm, hcor⟩, _⟩, hrep, hcame⟩ := enters_sound h0 hg.rep hg.known ⟨hg.nodup, fun j y hl => by simp [lk] at hl, fun b hb => ⟨hg.own b hb, hb⟩, fun b hb => hg.ro b hb⟩ hents
   rw [List.nil_append] at hcor hrep
   have hvl := RepAVs_len hrep
   refine calls_of_wp hf hb ?_
   have hstart : Cor E.P w c ⟨tmps0 0 (enter.enters i0 as).1, (enter.enters i0 as).2.2⟩ { tmps := us.toArray ++ Array.replicate (fn.ntmps - us.toArray.size) undef, defers := [] } w loc O R := by
    refine ⟨hcor.inv, fun d v hd => ?_, srt_tmps0, hcor.so, hcor.par⟩
    obtain ⟨_, hd⟩ := lk_tmps0 hd
    rw [Nat.sub_zero] at hd
    obtain ⟨u, hu, hr⟩ := RepAVs_get hrep hd
    have hdl := (List.getElem?_eq_some_iff.1 hu).1
    have e : (us.toArray ++ Array.replicate (fn.ntmps - us.toArray.size) undef).getD d undef = u := by
     rw [Array.getD_eq_getD_getElem?, Array.getElem?_append_left (by simpa using hdl)]
     simp [hu]
    show RepAV E.P w _ loc v ((us.toArray ++ Array.replicate (fn.ntmps - us.toArray.size) undef).getD d undef)
    rw [e]
    exact hr
   have hgd : gd.on w c.m := by rw [hm]; exact hg.guard
   refine exec_sound (hcalls w c hgd) (hdraws w c hgd) code (hok code hb) hstart (by simp; omega) he fun a' w' loc' O' R' hc hn' hd => ?_
   have fin : (σ.resultsK E.P (sk as) fn.resultTypes.toList fn.results.toList).bind (fun x => some (x.1, (St.leave.leaves x.2 i0 as).1)) = some (rs, as') → a'.defers = [] ∧ ∃ v, (results fn a'.tmps).run E.P w' = .ok v w' ∧ Answers E.P w as us Ox rs as' (.returned v) w' := by
    intro hx
    obtain ⟨⟨ys, σ1⟩, hres, hx⟩ := Option.bind_eq_some_iff.1 hx
    simp only [Option.some.injEq, Prod.mk.injEq] at hx
    obtain ⟨rfl, rfl⟩ := hx
    obtain ⟨k1, k2, vs, O1, k3, k4⟩ := resultsK_sound hc hres
    obtain ⟨O2, j1, j2, j3, j4⟩ := leaves_sound k1 hcame
    have hO1 : ∀ b ∈ O1, b < w'.heap.size ∧ (w.heap.size ≤ b ∨ b ∈ Ox) := fun b hb => by
     obtain ⟨id, ob, p1, p2, p3⟩ := k3.gone b hb
     have := hc.inv.own_ id ob p1 b p3
     exact ⟨this.1, this.2.imp (fun h => h) fun h => by have h : c.m b := h; rw [hm] at h; exact h⟩
    have hO2 : ∀ b ∈ O2, b < w'.heap.size ∧ (w.heap.size ≤ b ∨ b ∈ Ox) := fun b hb => by
     obtain ⟨id, ob, _, _, p1, p3⟩ := j3 b hb
     have := k1.inv.own_ id ob p1 b p3
     exact ⟨this.1, this.2.imp (fun h => h) fun h => by have h : c.m b := h; rw [hm] at h; exact h⟩
    refine ⟨hd, tupV vs, run_results k4, vs, O1, O2, rfl, k3.rep, j1, List.nodup_append.2 ⟨k3.nodup, j2, fun b hb c' hc' e => ?_⟩, hc.inv.size, hc.inv.still, fun b hb hb' => hc.inv.kept b hb (fun h => by have h : c.m b := h; rw [hm] at h; exact hb' h), fun b hb => (List.mem_append.1 hb).elim (hO1 b) (hO2 b)⟩
    subst e
    obtain ⟨id, ob, p1, p2, p3⟩ := k3.gone b hb
    obtain ⟨id', ob', _, _, q1, q3⟩ := j3 b hc'
    obtain ⟨ob2, q4, _⟩ := k2 id' ob' q1
    have hne : id ≠ id' := fun e => by rw [e, q1] at p2; simp at p2
    exact hc.inv.disj id id' ob ob2 hne p1 q4 b p3 q3
   cases x with
   | normal => exact fin hx
   | ret => exact fin hx
   | exit id => simp at hx
end Go.Proofs.YtemghdnofgjnmaaDoor.VM

/- A call's arguments. -/
namespace Go.Proofs.YtemghdnofgjnmaaDoor.VM
open Go Go.Proofs.YtemghdnofgjnmaaDoorW.PrintWords
set_option linter.unusedVariables false
set_option linter.unusedSimpArgs false
variable {P : Program} {w w1 w2 w0 : World} {mine : Ctx} {o o1 o2 : OM} {loc loc1 loc2 : Nat → Value} {O R : Nat → List Nat} {σ σ1 σ2 : St} {a : Act} {c : Ctx}

/-! ### what a foot leads to -/
/-- The row at a path. -/
def RowAt (P : Program) (w : World) (o : OM) (loc : Nat → Value) (O R : Nat → List Nat) (id : Nat) (p : List Nat) (own : Bool) (e : TypeId) (n : Nat) (xs : List T) (h : Value) (O' R' : List Nat) : Prop :=
 ∃ ob, lk o id = some ob ∧ ob.k ≠ .box ∧ down (ownB ob.k, ob.e, ob.xs) p = some (own, e, xs) ∧ HdrAt w (loc id) p h ∧ Row P w own e n xs h O' R' ∧ (∀ b ∈ O', b ∈ O id) ∧ (∀ b ∈ R', b ∈ R id ∨ (ob.k = .lnk ∧ b ∈ O id))
/-- A block behind a foot. -/
def FootB (P : Program) (w : World) (o : OM) (loc : Nat → Value) (O R : Nat → List Nat) (x : Foot) (b : Nat) : Prop :=
 (∃ ob, lk o x.2.1 = some ob ∧ (b ∈ O x.2.1 ∨ b ∈ R x.2.1)) ∧ ∀ i, x.2.2 = [i] → ∃ own e n xs h O' R', RowAt P w o loc O R x.2.1 [i] own e n xs h O' R' ∧ (b ∈ O' ∨ b ∈ R')
/-- What a foot leads to: its own blocks, what is read. -/
def Led (P : Program) (w : World) (o : OM) (loc : Nat → Value) (O R : Nat → List Nat) (x : Foot) (O1 R1 : List Nat) : Prop :=
 O1.Nodup ∧ (x.1 = true → R1 = []) ∧ (x.1 = false → O1 = []) ∧ (∀ b ∈ O1, b ∈ O x.2.1 ∧ ∃ ob, lk o x.2.1 = some ob ∧ ownB ob.k = true) ∧ ∀ b, b ∈ O1 ∨ b ∈ R1 → FootB P w o loc O R x b
def Leds (P : Program) (w : World) (o : OM) (loc : Nat → Value) (O R : Nat → List Nat) : List Foot → List Nat → List Nat → Prop
 | [], O1, R1 => O1 = [] ∧ R1 = []
 | x :: l, O1, R1 => ∃ Oa Ra Ob Rb, Led P w o loc O R x Oa Ra ∧ Leds P w o loc O R l Ob Rb ∧ O1 = Oa ++ Ob ∧ R1 = Ra ++ Rb
theorem Leds.append : ∀ {l1 l2 : List Foot} {O1 R1 O2 R2 : List Nat}, Leds P w o loc O R l1 O1 R1 → Leds P w o loc O R l2 O2 R2 → Leds P w o loc O R (l1 ++ l2) (O1 ++ O2) (R1 ++ R2)
 | [], l2, O1, R1, O2, R2, h1, h2 => by
  rw [Leds] at h1
  rw [h1.1, h1.2]
  exact h2
 | x :: l1, l2, O1, R1, O2, R2, h1, h2 => by
  rw [Leds] at h1
  obtain ⟨Oa, Ra, Ob, Rb, h3, h4, rfl, rfl⟩ := h1
  rw [List.cons_append, Leds]
  exact ⟨Oa, Ra, Ob ++ O2, Rb ++ R2, h3, h4.append h2, by rw [List.append_assoc], by rw [List.append_assoc]⟩
theorem Leds.nil : Leds P w o loc O R [] [] [] := by rw [Leds]; exact ⟨rfl, rfl⟩
theorem Leds.one {x : Foot} {O1 R1 : List Nat} (h : Led P w o loc O R x O1 R1) : Leds P w o loc O R [x] O1 R1 := by
 rw [Leds]
 exact ⟨O1, R1, [], [], h, Leds.nil, by simp, by simp⟩
theorem RepTs_two : ∀ {xs : List T} {us : List Value} {O1 R1 : List Nat} {i j : Nat} {x y : T} {u v : Value} {Ox Rx Oy Ry : List Nat}, RepTs P w xs us O1 R1 → O1.Nodup → i ≠ j → xs[i]? = some x → xs[j]? = some y → us[i]? = some u → us[j]? = some v → RepT P w x u Ox Rx → RepT P w y v Oy Ry → ∀ b ∈ Ox, b ∉ Oy
 | [], us, O1, R1, i, j, x, y, u, v, Ox, Rx, Oy, Ry, h, hn, hij, hx, hy, hu, hv, h1, h2 => by simp at hx
 | t :: xs, us, O1, R1, i, j, x, y, u, v, Ox, Rx, Oy, Ry, h, hn, hij, hx, hy, hu, hv, h1, h2 => by
  rw [RepTs] at h
  obtain ⟨u0, us', Oa, Ra, Ob, Rb, rfl, g1, g2, rfl, rfl⟩ := h
  have n := List.nodup_append.1 hn
  have sub : ∀ {k : Nat} {t : T} {q : Value} {Oq Rq : List Nat}, xs[k]? = some t → us'[k]? = some q → RepT P w t q Oq Rq → ∀ b ∈ Oq, b ∈ Ob := by
   intro k t q Oq Rq hk hq hr b hb
   obtain ⟨q', O5, R5, Oc, Od, Rc, Rd, k1, k2, k3, _⟩ := RepTs_get g2 hk
   rw [hq] at k1
   injection k1 with k1
   subst k1
   rw [(RepT_fun hr k2).1] at hb
   rw [k3]
   exact List.mem_append_left _ (List.mem_append_right _ hb)
  intro b hb hb'
  cases i with
  | zero =>
   cases j with
   | zero => exact hij rfl
   | succ j =>
    simp at hx hy hu hv
    subst hx; subst hu
    rw [(RepT_fun h1 g1).1] at hb
    exact n.2.2 b hb b (sub hy hv h2 b hb') rfl
  | succ i =>
   cases j with
   | zero =>
    simp at hx hy hu hv
    subst hy; subst hv
    rw [(RepT_fun h2 g1).1] at hb'
    exact n.2.2 b hb' b (sub hx hu h1 b hb) rfl
   | succ j =>
    simp at hx hy hu hv
    exact RepTs_two g2 n.2.1 (by omega) hx hy hu hv h1 h2 b hb hb'
theorem row_nr {w w1 : World} {e e' : TypeId} {n n' : Nat} {xs ys : List T} {v : Value} {O1 R1 O2 R2 : List Nat} (h1 : RepT P w (.r e n xs) v O1 R1) (h2 : RepT P w1 (.r e' n' ys) v O2 R2) : n' = n := by
 rw [RepT] at h1 h2
 obtain ⟨_, A, c, _, _, rfl, _⟩ := h1
 obtain ⟨_, A', c', _, _, he, _⟩ := h2
 injection he with _ he _
 exact he.symm
/-- An element's row in an own object. -/
theorem RowAt.cell {id i : Nat} {own : Bool} {e e0 : TypeId} {n n0 : Nat} {xs xs0 : List T} {h : Value} {O' R' Ous us} (hr : RowAt P w o loc O R id [i] own e n xs h O' R') (hl : lk o id = some ⟨.own, e0, xs0⟩) (hq : ORow w e0 (P.cellsOf e0) (loc id) n0 us) (hs : RepTs P w xs0 us Ous []) :
  ∃ x, xs0[i]? = some x ∧ us[i]? = some h ∧ RepT P w x h O' R' ∧ R' = [] := by
 obtain ⟨ob, hl', hk, hd, hh, hrow, _, _⟩ := hr
 rw [hl] at hl'
 injection hl' with hl'
 subst hl'
 rw [HdrAt] at hh
 obtain ⟨ad, m0, cc, u, he, hc, hh⟩ := hh
 rw [HdrAt] at hh
 subst hh
 have hus : ∀ x, xs0[i]? = some x → us[i]? = some h := fun x hx => by
  have hlen := RepTs_len hs
  have hi := (List.getElem?_eq_some_iff.1 hx).1
  have hy : us[i]? = some us[i] := List.getElem?_eq_getElem (by omega)
  have hn : 0 < n0 := by
   rcases Nat.eq_zero_or_pos n0 with rfl | h
   ·have := hq.1
    omega
   ·exact h
  obtain ⟨g, off, c1, he1, hb, hx2⟩ := o_cells hq hn
  have h2 := hx2 i _ hy
  rw [he] at he1
  injection he1 with he1 _ _
  injection he1 with he1
  subst he1
  rw [add_at, h2] at hc
  rw [hy]
  exact hc
 have fin : ∀ {x : T}, xs0[i]? = some x → RepT P w x h O' R' → ∃ x, xs0[i]? = some x ∧ us[i]? = some h ∧ RepT P w x h O' R' ∧ R' = [] := fun {x} hx hr => by
  obtain ⟨v, O1, R1, Oa, Ob, Ra, Rb, k1, k2, k3, k4⟩ := RepTs_get hs hx
  rw [hus x hx] at k1
  injection k1 with k1
  subst k1
  exact ⟨x, hx, hus x hx, hr, by rw [(RepT_fun hr k2).2]; exact (nil3 k4.symm).2.1⟩
 rw [down] at hd
 split at hd
 ·rename_i e2 n2 ys hx
  rw [down] at hd
  injection hd with hd
  injection hd with d1 hd
  injection hd with d2 d3
  subst d2; subst d3
  have d1 : own = true := d1.symm
  subst d1
  obtain ⟨v, O1, R1, _, _, _, _, k1, k2, _, _⟩ := RepTs_get hs hx
  rw [hus _ hx] at k1
  injection k1 with k1
  subst k1
  have hrow : RepT P w (.s e2 n ys) h O' R' := hrow
  have := row_n k2 hrow
  subst this
  exact fin hx hrow
 ·rename_i e2 n2 ys hx
  rw [down] at hd
  injection hd with hd
  injection hd with d1 hd
  injection hd with d2 d3
  subst d2; subst d3
  subst d1
  obtain ⟨v, O1, R1, _, _, _, _, k1, k2, _, _⟩ := RepTs_get hs hx
  rw [hus _ hx] at k1
  injection k1 with k1
  subst k1
  have hrow : RepT P w (.r e2 n ys) h O' R' := hrow
  have := row_nr k2 hrow
  subst this
  exact fin hx hrow
 ·simp at hd
/-- Feet that are apart lead to blocks that are apart. -/
theorem feet_apart (h : Cor P w0 mine σ a w loc O R) {x y : Foot} (hx : x.1 = true) (hap : apart1 x y = true) {O1 R1 : List Nat} (hl : Led P w σ.o loc O R x O1 R1) {b : Nat} (hb : b ∈ O1) (hy : FootB P w σ.o loc O R y b) : False := by
 obtain ⟨l1, l2, l3, l4, l5⟩ := hl
 obtain ⟨hbx, ob, hlx, hkx⟩ := l4 b hb
 obtain ⟨⟨ob', hly, hby⟩, hpy⟩ := hy
 obtain ⟨_, hpx⟩ := l5 b (.inl hb)
 unfold apart1 at hap
 rw [hx] at hap
 by_cases hid : x.2.1 = y.2.1
 ·rw [hid] at hap
  simp at hap
  split at hap
  ·rename_i i j hpi hpj
   obtain ⟨own1, e1, n1, xs1, h1, Oi, Ri, r1, r2⟩ := hpx i hpi
   obtain ⟨own2, e2, n2, xs2, h2, Oj, Rj, r3, r4⟩ := hpy j hpj
   rw [← hid] at r3
   have hkb : ob.k = .own := by
    obtain ⟨ob2, q1, q2, _⟩ := r1
    rw [hlx] at q1
    injection q1 with q1
    subst q1
    cases hk : ob.k with
    | own => rfl
    | box => exact absurd hk q2
    | ro => rw [hk] at hkx; simp [ownB] at hkx
    | lnk => rw [hk] at hkx; simp [ownB] at hkx
   have hob := h.inv.obj _ ob hlx
   unfold RepO at hob
   rw [hkb] at hob
   obtain ⟨n0, hob⟩ := hob
   have hob : RepT P w (.s ob.e n0 ob.xs) (loc x.2.1) (O x.2.1) (R x.2.1) := hob
   rw [RepT] at hob
   obtain ⟨us, Ous, hq, hs, hO, hR⟩ := hob
   rw [hR] at hs
   have hl2 : lk σ.o x.2.1 = some ⟨.own, ob.e, ob.xs⟩ := by rw [hlx, ← hkb]
   obtain ⟨x1, c1, c2, c3, c4⟩ := r1.cell hl2 hq hs
   obtain ⟨x2, d1, d2, d3, d4⟩ := r3.cell hl2 hq hs
   have hnd := h.inv.nodup _ ob hlx
   rw [hO] at hnd
   rw [c4] at r2
   rw [d4] at r4
   have hb1 : b ∈ Oi := r2.resolve_right (by simp)
   have hb2 : b ∈ Oj := r4.resolve_right (by simp)
   exact RepTs_two hs (List.nodup_append.1 hnd).2.1 (by simpa using hap) c1 d1 c2 d2 c3 d3 b hb1 hb2
  ·simp at hap
 ·rcases hby with hby | hby
  ·exact h.inv.disj _ _ ob ob' hid hlx hly b hbx hby
  ·exact h.ro_own hlx hly b hby hbx
theorem apart1_symm {x y : Foot} (h : apart1 x y = true) : apart1 y x = true := by
 unfold apart1 at h ⊢
 simp only [Bool.or_eq_true, Bool.and_eq_true] at h ⊢
 rcases h with (h | h) | h
 ·exact .inl (.inl ⟨h.2, h.1⟩)
 ·exact .inl (.inr (by simp only [bne_iff_ne, ne_eq] at h ⊢; exact fun e => h e.symm))
 ·right
  split at h
  ·rename_i i j h1 h2
   rw [h1, h2]
   simp only [bne_iff_ne, ne_eq] at h ⊢
   exact fun e => h e.symm
  ·simp at h
theorem Leds.mem : ∀ {l : List Foot} {O1 R1 : List Nat}, Leds P w o loc O R l O1 R1 → (∀ b ∈ O1, ∃ x Oa Ra, x ∈ l ∧ Led P w o loc O R x Oa Ra ∧ b ∈ Oa ∧ x.1 = true) ∧ ∀ b ∈ R1, ∃ x Oa Ra, x ∈ l ∧ Led P w o loc O R x Oa Ra ∧ b ∈ Ra ∧ x.1 = false
 | [], O1, R1, h => by
  rw [Leds] at h
  rw [h.1, h.2]
  exact ⟨fun b hb => by simp at hb, fun b hb => by simp at hb⟩
 | x :: l, O1, R1, h => by
  rw [Leds] at h
  obtain ⟨Oa, Ra, Ob, Rb, h1, h2, rfl, rfl⟩ := h
  obtain ⟨k1, k2⟩ := Leds.mem h2
  refine ⟨fun b hb => ?_, fun b hb => ?_⟩
  ·rcases List.mem_append.1 hb with hb | hb
   ·refine ⟨x, Oa, Ra, by simp, h1, hb, ?_⟩
    cases hx : x.1 with
    | true => rfl
    | false => rw [h1.2.2.1 hx] at hb; simp at hb
   ·obtain ⟨y, Oy, Ry, q1, q2⟩ := k1 b hb
    exact ⟨y, Oy, Ry, by simp [q1], q2⟩
  ·rcases List.mem_append.1 hb with hb | hb
   ·refine ⟨x, Oa, Ra, by simp, h1, hb, ?_⟩
    cases hx : x.1 with
    | false => rfl
    | true => rw [h1.2.1 hx] at hb; simp at hb
   ·obtain ⟨y, Oy, Ry, q1, q2⟩ := k2 b hb
    exact ⟨y, Oy, Ry, by simp [q1], q2⟩
theorem Leds.apart (h : Cor P w0 mine σ a w loc O R) : ∀ {l : List Foot} {O1 R1 : List Nat}, Leds P w σ.o loc O R l O1 R1 → aparts l = true → O1.Nodup ∧ ∀ b ∈ R1, b ∉ O1
 | [], O1, R1, hl, _ => by
  rw [Leds] at hl
  rw [hl.1, hl.2]
  exact ⟨List.nodup_nil, fun b hb => by simp at hb⟩
 | x :: l, O1, R1, hl, hap => by
  rw [Leds] at hl
  obtain ⟨Oa, Ra, Ob, Rb, h1, h2, rfl, rfl⟩ := hl
  rw [aparts, Bool.and_eq_true] at hap
  have hall := List.all_eq_true.1 hap.1
  obtain ⟨k1, k2⟩ := Leds.apart h h2 hap.2
  obtain ⟨m1, m2⟩ := h2.mem
  have own : ∀ b ∈ Oa, x.1 = true := fun b hb => by
   cases hx : x.1 with
   | true => rfl
   | false => rw [h1.2.2.1 hx] at hb; simp at hb
  have ro : ∀ b ∈ Ra, x.1 = false := fun b hb => by
   cases hx : x.1 with
   | false => rfl
   | true => rw [h1.2.1 hx] at hb; simp at hb
  refine ⟨List.nodup_append.2 ⟨h1.1, k1, fun b hb c hc e => ?_⟩, fun b hb hb' => ?_⟩
  ·subst e
   obtain ⟨y, Oy, Ry, q1, q2, q3, q4⟩ := m1 b hc
   exact feet_apart h (own b hb) (hall y q1) h1 hb (q2.2.2.2.2 b (.inl q3))
  ·rcases List.mem_append.1 hb with hb | hb
   ·rcases List.mem_append.1 hb' with hb' | hb'
    ·have e1 := own b hb'
     rw [ro b hb] at e1
     simp at e1
    ·obtain ⟨y, Oy, Ry, q1, q2, q3, q4⟩ := m1 b hb'
     exact feet_apart h q4 (apart1_symm (hall y q1)) q2 q3 (h1.2.2.2.2 b (.inr hb))
   ·obtain ⟨y, Oy, Ry, q1, q2, q3, q4⟩ := m2 b hb
    rcases List.mem_append.1 hb' with hb' | hb'
    ·exact feet_apart h (own b hb') (hall y q1) h1 hb' (q2.2.2.2.2 b (.inr q3))
    ·exact k2 b hb hb'
end Go.Proofs.YtemghdnofgjnmaaDoor.VM

/- A call's arguments: what is handed over. -/
namespace Go.Proofs.YtemghdnofgjnmaaDoor.VM
open Go Go.Proofs.YtemghdnofgjnmaaDoorW.PrintWords
set_option linter.unusedVariables false
set_option linter.unusedSimpArgs false
variable {P : Program} {w w1 w2 w0 : World} {mine : Ctx} {o o1 o2 : OM} {loc loc1 loc2 : Nat → Value} {O R : Nat → List Nat} {σ σ1 σ2 : St} {a : Act} {c : Ctx}

theorem argE_sound (h : Cor P w0 mine σ a w loc O R) {e : TypeId} {id off n : Nat} {p : List Nat} {v : Value} (hv : RepC P w σ.o loc (.sl id p off n) v) {x : T} (hx : σ.argE P e id p off n = some x) :
  ∃ R1, RepT P w x v [] R1 ∧ Led P w σ.o loc O R (false, id, p) [] R1 ∧ known x = true ∧ ∃ xs, x = .r e n xs := by
 unfold St.argE at hx
 obtain ⟨⟨own, ys⟩, hc, rfl⟩ := Option.map_eq_some_iff.1 hx
 obtain ⟨xs, hr, hok, hlen, rfl⟩ := cellsOf_some hc
 obtain ⟨i, z, hi, hz, hsz, _, _, hce⟩ := elemOk_some hok
 obtain ⟨ob, hl, hd⟩ := row_lk hr
 obtain ⟨ob', own', e', xs', mm, h', O', R', hl', hk, hd', hh, hrow, hO, hR, hsub⟩ := h.inv.sl hv
 rw [hl] at hl'
 injection hl' with hl'
 subst hl'
 rw [hd] at hd'
 injection hd' with hd'
 injection hd' with e1 hd'
 injection hd' with e2 e3
 subst e1; subst e2; subst e3
 obtain ⟨A, cc, us, O2, R2, rfl, hnc, hcm, hxl, hts, hO2, hR2, hcell⟩ := Row_cells hrow
 obtain ⟨A1, m1, c1, A', c', he, rfl, hnc', hcm', hle, hA⟩ := hsub
 injection he with he1 he2 he3
 subst he1; subst he2; subst he3
 obtain ⟨O3, R3, Oa, Ob, Ra, Rb, h3, e3, e4⟩ := RepTs_cut hts off (n * P.cellsOf e)
 obtain ⟨R4, h4, h5⟩ := ros_rep h3
 have hul := RepTs_len hts
 have hc0 : 0 < c' → 0 < cc := fun h0 => by
  rcases Nat.eq_zero_or_pos cc with h1 | h1
  ·subst h1
   rw [Nat.zero_mul] at hle
   have := Nat.mul_pos h0 (show 0 < P.cellsOf e by omega)
   omega
  ·exact h1
 have hrep : RepT P w (.r e n (ros ((xs.drop off).take (n * P.cellsOf e)))) (.slice A' n c') [] (hdrB A' n ++ R4) := by
  rw [RepT]
  refine ⟨rfl, A', c', (us.drop off).take (n * P.cellsOf e), R4, rfl, hnc', hcm', fun h0 => ?_, ?_, fun j y hj => ?_, h4, rfl⟩
  ·obtain ⟨ad, rfl, hs⟩ := hcm.2 (hc0 h0)
   rw [hA h0]
   exact ⟨_, rfl, by show (ad.add off).spot = none; rw [addr_eq hs, Addr.add_mid]⟩
  ·rw [List.length_take, List.length_drop]
   omega
  ·rw [List.getElem?_take] at hj
   split at hj
   ·rw [List.getElem?_drop] at hj
    rename_i hjn
    have hn : 0 < n := by
     rcases Nat.eq_zero_or_pos n with h0 | h0
     ·subst h0; rw [Nat.zero_mul] at hjn; omega
     ·exact h0
    obtain ⟨ad, rfl, hs, hcl, _⟩ := hcell (off + j) y hj
    rw [hA (by omega)]
    exact ⟨_, rfl, by rw [add_add]; exact hcl⟩
   ·simp at hj
 have hblk : ∀ b, b ∈ hdrB A' n ++ R4 → b ∈ O' ∨ b ∈ R' := fun b hb => by
  rcases List.mem_append.1 hb with hb | hb
  ·have hn : 0 < n := by
    rcases Nat.eq_zero_or_pos n with h0 | h0
    ·subst h0
     cases A' <;> simp [hdrB] at hb
    ·exact h0
   have hpos : 0 < n * P.cellsOf e := Nat.mul_pos hn (by omega)
   obtain ⟨y, hy⟩ : ∃ y, us[off]? = some y := ⟨us[off], List.getElem?_eq_getElem (by omega)⟩
   obtain ⟨ad, rfl, hs, hcl, hbb⟩ := hcell off y hy
   rw [hA (by omega)] at hb
   simp only [Option.map_some, hdrB] at hb
   rw [if_neg (by omega)] at hb
   have e5 : (ad.add off).block = ad.block := by unfold Addr.add; split <;> rfl
   rw [e5] at hb
   simp at hb
   subst hb
   exact hbb
  ·rcases h5 b hb with hb | hb
   ·exact .inl (hO2 b (by rw [e3]; exact List.mem_append_left _ (List.mem_append_right _ hb)))
   ·exact .inr (hR2 b (by rw [e4]; exact List.mem_append_left _ (List.mem_append_right _ hb)))
 refine ⟨_, hrep, ⟨List.nodup_nil, fun h => by simp at h, fun _ => rfl, fun b hb => by simp at hb, fun b hb => ?_⟩, rfl, _, rfl⟩
 have hb := hblk b (hb.resolve_left (by simp))
 refine ⟨⟨ob, hl, hb.elim (fun h => .inl (hO b h)) fun h => (hR b h).elim .inr fun h => .inl h.2⟩, fun i hi => ?_⟩
 subst hi
 exact ⟨own, e, mm, xs, _, O', R', ⟨ob, hl, hk, hd, hh, hrow, hO, hR⟩, hb⟩
theorem down_own {e e' : TypeId} {n : Nat} {xs zs : List T} {h : Value} {Oh Rh : List Nat} {p : List Nat} (hp : p.length ≤ 1) (hr : RepT P w (.s e n xs) h Oh Rh) (hd : down (true, e, xs) p = some (true, e', zs)) :
  ∃ h' n' Op, HdrAt w h p h' ∧ RepT P w (.s e' n' zs) h' Op [] ∧ Op.Sublist Oh := by
 match p with
 | [] =>
  rw [down] at hd
  injection hd with hd
  injection hd with _ hd
  injection hd with d1 d2
  subst d1; subst d2
  have := RepT_s hr
  subst this
  exact ⟨h, n, Oh, by rw [HdrAt], hr, List.Sublist.refl _⟩
 | [i] =>
  rw [down] at hd
  split at hd
  ·rename_i e2 n2 ys hx
   rw [down] at hd
   injection hd with hd
   injection hd with _ hd
   injection hd with d1 d2
   subst d1; subst d2
   obtain ⟨A, cc, us, O2, R2, rfl, hnc, hcm, hxl, hts, _, _, hcell⟩ := Row_cells (own := true) (show Row P w true e n xs h Oh Rh from hr)
   have hr2 := hr
   rw [RepT] at hr2
   obtain ⟨us2, O3, hq, hs, rfl, rfl⟩ := hr2
   obtain ⟨u, O1, R1, Oa, Ob, Ra, Rb, k1, k2, rfl, _⟩ := RepTs_get hs hx
   have hn : 0 < n := by
    rcases Nat.eq_zero_or_pos n with rfl | h
    ·have := hq.1
     have := (List.getElem?_eq_some_iff.1 k1).1
     omega
    ·exact h
   obtain ⟨g, off, c1, he, hb, hx2⟩ := o_cells hq hn
   have := RepT_s k2
   subst this
   refine ⟨u, n2, O1, ?_, k2, ?_⟩
   ·rw [HdrAt]
    refine ⟨_, n, c1, u, he, ?_, by rw [HdrAt]⟩
    rw [add_at]
    exact hx2 i u k1
   ·exact ((List.sublist_append_right Oa O1).trans (List.sublist_append_left (Oa ++ O1) Ob)).trans (List.sublist_append_right _ _)
  ·simp [down] at hd
  ·simp at hd
 | _ :: _ :: _ => simp at hp
theorem ownE_sound (h : Cor P w0 mine σ a w loc O R) {e : TypeId} {id off n : Nat} {p : List Nat} {v : Value} (hv : RepC P w σ.o loc (.sl id p off n) v) {x : T} (hx : σ.ownE P e id p off n = some x) :
  ∃ O1, RepT P w x v O1 [] ∧ Led P w σ.o loc O R (true, id, p) O1 [] ∧ known x = true ∧ off = 0 ∧ p.length ≤ 1 ∧ ∃ ob xs, x = .s e n xs ∧ lk σ.o id = some ob ∧ ob.k = .own ∧ down (true, ob.e, ob.xs) p = some (true, e, xs) ∧ ∃ h', HdrAt w (loc id) p h' ∧ RepT P w (.s e n xs) h' O1 [] ∧ SubHdr (P.cellsOf e) h' 0 n v ∧ 0 < P.cellsOf e := by
 unfold St.ownE at hx
 obtain ⟨⟨own, e', xs⟩, hr, hx1⟩ := Option.bind_eq_some_iff.1 hx
 clear hx
 simp only at hx1
 split at hx1
 ·rename_i hc
  injection hx1 with hx
  subst hx
  obtain ⟨rfl, rfl, rfl, hp, hok, hlen⟩ := hc
  obtain ⟨i, z, hi, hz, hsz, _, _, hce⟩ := elemOk_some hok
  have hpos : 0 < P.cellsOf e' := by omega
  obtain ⟨ob, hl, hd⟩ := row_lk hr
  obtain ⟨ob', own', e2, xs', mm, h', O', R', hl', hk, hd', hh, hrow, hO, hR, hsub⟩ := h.inv.sl hv
  rw [hl] at hl'
  injection hl' with hl'
  subst hl'
  rw [hd] at hd'
  injection hd' with hd'
  injection hd' with e1 hd'
  injection hd' with e2 e3
  subst e1; subst e2; subst e3
  have hkk : ob.k = .own := by
   cases hkk : ob.k with
   | own => rfl
   | box => exact absurd hkk hk
   | ro =>
    rw [hkk] at hd
    match p with
    | [] => rw [down] at hd; simp [ownB] at hd
    | [i] =>
     rw [down] at hd
     split at hd
     ·simp [down, ownB] at hd
     ·simp [down] at hd
     ·simp at hd
    | _ :: _ :: _ => simp at hp
   | lnk =>
    rw [hkk] at hd
    match p with
    | [] => rw [down] at hd; simp [ownB] at hd
    | [i] =>
     rw [down] at hd
     split at hd
     ·simp [down, ownB] at hd
     ·simp [down] at hd
     ·simp at hd
    | _ :: _ :: _ => simp at hp
  rw [hkk] at hd
  have hob := h.inv.obj _ ob hl
  unfold RepO at hob
  rw [hkk] at hob
  obtain ⟨n0, hob⟩ := hob
  have hob : RepT P w (.s ob.e n0 ob.xs) (loc id) (O id) (R id) := hob
  obtain ⟨h2, n2, Op, g1, g2, g3⟩ := down_own hp hob hd
  have := HdrAt_fun hh g1
  subst this
  have hrow : RepT P w (.s e' mm xs) h' O' R' := hrow
  have hmm := row_n g2 hrow
  subst hmm
  obtain ⟨rfl, rfl⟩ := RepT_fun g2 hrow
  have hmm : mm = n := by
   obtain ⟨A, cc, us, O2, R2, rfl, hnc, hcm, hxl, _⟩ := Row_cells (own := true) (show Row P w true e' mm xs h' Op [] from g2)
   exact Nat.eq_of_mul_eq_mul_right hpos (hxl.symm.trans hlen)
  subst hmm
  have hnd := (h.inv.nodup id ob hl).sublist g3
  obtain ⟨O2, R2, q1, q2, q3, q4⟩ := part_row (off := 0) (n := mm) g2 hnd hsub hpos (by omega)
  rw [List.drop_zero, List.take_of_length_le (by omega)] at q1
  subst q4
  -- the header's blocks are the same
  have hOO : O2 = Op := by
   obtain ⟨A, m', cc, A', c', he, rfl, hnc, hcm, hle, hA⟩ := hsub
   have g2' := g2
   rw [RepT] at g2' q1
   obtain ⟨us, Oc, qq, qs, rfl, _⟩ := g2'
   obtain ⟨us', Od, qq', qs', rfl, _⟩ := q1
   have hcc : c' = cc := Nat.eq_of_mul_eq_mul_right hpos (by omega)
   subst hcc
   subst he
   by_cases h0 : c' = 0
   ·subst h0
    have hm0 : mm = 0 := by omega
    subst hm0
    have l1 := qq.1
    have l2 := qq'.1
    rw [Nat.zero_mul] at l1 l2
    rw [List.eq_nil_of_length_eq_zero l1] at qs
    rw [List.eq_nil_of_length_eq_zero l2] at qs'
    rw [(RepTs_fun qs qs').1]
    have ob0 : ∀ (B : Option Addr) (k : Nat), oblk (.slice B k 0) = [] := fun B k => by cases B <;> rfl
    rw [ob0, ob0]
   ·have := hA (by omega)
    have hAA : A' = A := by
     rw [this]
     cases A with
     | none => rfl
     | some ad => simp [Addr.add]
    subst hAA
    have hm' : m' = mm := by
     obtain ⟨A2, c2, he2, _⟩ := o_slice qq
     injection he2
    subst hm'
    have := o_fun qq qq'
    subst this
    rw [(RepTs_fun qs qs').1]
  subst hOO
  refine ⟨O2, q1, ⟨q2, fun _ => rfl, fun h => by simp at h, fun b hb => ⟨hO b hb, ob, hl, by rw [hkk]; rfl⟩, fun b hb => ?_⟩, rfl, rfl, hp, ob, xs, rfl, hl, hkk, hd, h', hh, g2, hsub, hpos⟩
  have hb := hb.resolve_right (by simp)
  refine ⟨⟨ob, hl, .inl (hO b hb)⟩, fun i hi => ?_⟩
  subst hi
  exact ⟨true, e', mm, xs, h', O2, [], ⟨ob, hl, hk, by rw [hkk]; exact hd, hh, g2, hO, fun b hb => by simp at hb⟩, .inl hb⟩
 ·simp at hx1
theorem rowE_sound (h : Cor P w0 mine σ a w loc O R) {own : Bool} {e : TypeId} {id off n : Nat} {p : List Nat} {v : Value} (hv : RepC P w σ.o loc (.sl id p off n) v) {x : T} (hx : σ.rowE P own e id p off n = some x) :
  ∃ O1 R1, RepT P w x v O1 R1 ∧ Led P w σ.o loc O R (own, id, p) O1 R1 ∧ known x = true := by
 unfold St.rowE at hx
 cases own with
 | true =>
  obtain ⟨O1, k1, k2, k3, _⟩ := ownE_sound h hv hx
  exact ⟨O1, [], k1, k2, k3⟩
 | false =>
  obtain ⟨R1, k1, k2, k3, _⟩ := argE_sound h hv hx
  exact ⟨[], R1, k1, k2, k3⟩
theorem argC_sound (h : Cor P w0 mine σ a w loc O R) {own : Bool} {t : TypeId} {y : C} {v : Value} (hv : RepC P w σ.o loc y v) {x : T} (hx : σ.argC P own t y = some x) :
  ∃ O1 R1, RepT P w x v O1 R1 ∧ Leds P w σ.o loc O R (y.feet own) O1 R1 ∧ known x = true := by
 cases y with
 | v q =>
  simp only [St.argC, Option.some.injEq] at hx
  subst hx
  rw [RepC] at hv
  exact ⟨[], [], by rw [RepT]; exact ⟨hv.1, hv.2, rfl, rfl⟩, Leds.nil, rfl⟩
 | z =>
  simp only [St.argC, Option.some.injEq] at hx
  subst hx
  rw [RepC] at hv
  refine ⟨[], [], ?_, Leds.nil, rfl⟩
  rw [RepT]
  exact ⟨rfl, none, 0, [], [], hv, Nat.le_refl _, by simp [maxLen], fun h => by omega, by simp, fun j x hj => by simp at hj, by rw [RepTs]; exact ⟨rfl, rfl, rfl⟩, rfl⟩
 | sl id p off n =>
  obtain ⟨O1, R1, k1, k2, k3⟩ := rowE_sound h hv hx
  exact ⟨O1, R1, k1, (Leds.one k2), k3⟩
theorem argCs_sound (h : Cor P w0 mine σ a w loc O R) {own : Bool} : ∀ {ts : List TypeId} {ys : List C} {us : List Value} {xs : List T}, RepCs P w σ.o loc ys us → σ.argCs P own ts ys = some xs →
  ∃ O1 R1, RepTs P w xs us O1 R1 ∧ Leds P w σ.o loc O R (csFeet own ys) O1 R1 ∧ xs.all known = true
 | [], [], us, xs, hv, hx => by
  simp only [St.argCs, Option.some.injEq] at hx
  subst hx
  rw [RepCs] at hv
  exact ⟨[], [], by rw [RepTs]; exact ⟨hv, rfl, rfl⟩, Leds.nil, rfl⟩
 | t :: ts, y :: ys, us, xs, hv, hx => by
  simp only [St.argCs] at hx
  obtain ⟨x, h1, hx⟩ := Option.bind_eq_some_iff.1 hx
  obtain ⟨xs', h2, hx⟩ := Option.bind_eq_some_iff.1 hx
  injection hx with hx
  subst hx
  rw [RepCs] at hv
  obtain ⟨u, us', rfl, hv1, hv2⟩ := hv
  obtain ⟨O1, R1, k1, k2, k3⟩ := argC_sound h hv1 h1
  obtain ⟨O2, R2, j1, j2, j3⟩ := argCs_sound h hv2 h2
  exact ⟨O1 ++ O2, R1 ++ R2, by rw [RepTs]; exact ⟨u, us', O1, R1, O2, R2, rfl, k1, j1, rfl, rfl⟩, k2.append j2, by simp [k3, j3]⟩
 | [], _ :: _, us, xs, hv, hx => by simp [St.argCs] at hx
 | _ :: _, [], us, xs, hv, hx => by simp [St.argCs] at hx
theorem boxT_sound (h : Cor P w0 mine σ a w loc O R) {own : Bool} : ∀ {ys : List T} {us : List Value} {xs : List T}, RepLs P w σ.o loc ys us → σ.boxT P own ys = some xs →
  ∃ O1 R1, RepTs P w xs us O1 R1 ∧ Leds P w σ.o loc O R (tsFeet own ys) O1 R1 ∧ xs.all known = true
 | [], us, xs, hv, hx => by
  simp only [St.boxT, Option.some.injEq] at hx
  subst hx
  rw [RepLs] at hv
  exact ⟨[], [], by rw [RepTs]; exact ⟨hv, rfl, rfl⟩, Leds.nil, rfl⟩
 | y :: ys, us, xs, hv, hx => by
  rw [RepLs] at hv
  obtain ⟨u, us', rfl, hv1, hv2⟩ := hv
  have fin : ∀ {x : T} {xs' : List T} {O1 R1 : List Nat}, RepT P w x u O1 R1 → Leds P w σ.o loc O R (y.feet own) O1 R1 → known x = true → σ.boxT P own ys = some xs' → xs = x :: xs' →
    ∃ O1 R1, RepTs P w xs (u :: us') O1 R1 ∧ Leds P w σ.o loc O R (tsFeet own (y :: ys)) O1 R1 ∧ xs.all known = true := by
   intro x xs' O1 R1 k1 k2 k3 h2 e
   subst e
   obtain ⟨O2, R2, j1, j2, j3⟩ := boxT_sound h hv2 h2
   exact ⟨O1 ++ O2, R1 ++ R2, by rw [RepTs]; exact ⟨u, us', O1, R1, O2, R2, rfl, k1, j1, rfl, rfl⟩, k2.append j2, by simp [k3, j3]⟩
  cases y with
  | v q =>
   simp only [St.boxT] at hx
   obtain ⟨xs', h2, e⟩ := Option.map_eq_some_iff.1 hx
   rw [RepL] at hv1
   exact fin (x := .v q) (O1 := []) (R1 := []) (by rw [RepT]; exact ⟨hv1.1, hv1.2, rfl, rfl⟩) Leds.nil rfl h2 e.symm
  | z =>
   simp only [St.boxT] at hx
   obtain ⟨xs', h2, e⟩ := Option.map_eq_some_iff.1 hx
   rw [RepL] at hv1
   exact fin (x := .z) (O1 := []) (R1 := []) (by rw [RepT]; exact ⟨hv1, rfl, rfl⟩) Leds.nil rfl h2 e.symm
  | l id p off n =>
   simp only [St.boxT] at hx
   obtain ⟨⟨_, e, _⟩, h1, hx⟩ := Option.bind_eq_some_iff.1 hx
   obtain ⟨x, h2, hx⟩ := Option.bind_eq_some_iff.1 hx
   obtain ⟨xs', h3, e'⟩ := Option.map_eq_some_iff.1 hx
   rw [RepL] at hv1
   obtain ⟨O1, R1, k1, k2, k3⟩ := rowE_sound h hv1 h2
   exact fin k1 (Leds.one k2) k3 h3 e'.symm
  | s _ _ _ => simp [St.boxT] at hx
  | r _ _ _ => simp [St.boxT] at hx
  | h => simp [St.boxT] at hx
/-- A box in memory. -/
theorem box_at (h : Cor P w0 mine σ a w loc O R) {id : Nat} {e : TypeId} {xs : List T} {v : Value} (hv : RepAV P w σ.o loc (.ptr id [] 0) v) (hl : lk σ.o id = some ⟨.box, e, xs⟩) :
  ∃ g cs, v = .pointer (some ⟨g, 0, none⟩) ∧ w.heap[g]? = some (.cells cs e (0, 0)) ∧ O id = [g] ∧ R id = [] ∧ RepLs P w σ.o loc xs cs.toList ∧ loc id = .slice (some ⟨g, 0, none⟩) 1 1 := by
 have hob := h.inv.obj id _ hl
 unfold RepO at hob
 obtain ⟨g, cs, e1, e2, e3, e4, e5⟩ := hob
 rw [RepAV] at hv
 obtain ⟨ob, d, ad, m, cc, hl', hb, hdn, hh, hsp, rfl⟩ := hv
 rw [HdrAt, e1] at hh
 injection hh with hh _ _
 injection hh with hh
 subst hh
 exact ⟨g, cs, by simp [Addr.add], e2, e3, e4, e5, e1⟩
theorem argBox_sound (h : Cor P w0 mine σ a w loc O R) {own : Bool} {y : AV} {v : Value} (hv : RepAV P w σ.o loc y v) {x : A} (hx : σ.argBox P own y = some x) :
  ∃ O1 R1, RepA P w x v O1 R1 ∧ Leds P w σ.o loc O R (σ.boxFeet own y) O1 R1 ∧ x.known = true := by
 unfold St.argBox at hx
 split at hx
 ·rename_i id
  split at hx
  ·rename_i e ys hl
   obtain ⟨xs, h1, rfl⟩ := Option.map_eq_some_iff.1 hx
   obtain ⟨g, cs, rfl, k1, k2, k3, k4, _⟩ := box_at h hv hl
   obtain ⟨O1, R1, j1, j2, j3⟩ := boxT_sound h k4 h1
   refine ⟨O1 ++ [g], R1, by rw [RepA]; exact ⟨g, cs, O1, rfl, k1, j1, rfl⟩, ?_, by rw [A.known]; exact j3⟩
   simp only [St.boxFeet, hl]
   have hled : Led P w σ.o loc O R (true, id, []) [g] [] := by
    refine ⟨by simp, fun _ => rfl, fun h => by simp at h, fun b hb => ⟨by rw [k2]; exact hb, _, hl, rfl⟩, fun b hb => ⟨⟨_, hl, .inl (by rw [k2]; exact hb.resolve_right (by simp))⟩, fun i hi => by simp at hi⟩⟩
   have := j2.append (Leds.one hled)
   rw [List.append_nil] at this
   exact this
  ·simp at hx
 ·simp at hx
theorem argBoxes_sound (h : Cor P w0 mine σ a w loc O R) {own : Bool} : ∀ {ys : List AV} {us : List Value} {xs : List A}, RepAVs P w σ.o loc ys us → σ.argBoxes P own ys = some xs →
  ∃ O1 R1, RepAs P w xs us O1 R1 ∧ Leds P w σ.o loc O R (σ.boxesFeet own ys) O1 R1 ∧ knowns xs = true
 | [], us, xs, hv, hx => by
  simp only [St.argBoxes, Option.some.injEq] at hx
  subst hx
  rw [RepAVs] at hv
  exact ⟨[], [], by rw [RepAs]; exact ⟨hv, rfl, rfl⟩, Leds.nil, rfl⟩
 | y :: ys, us, xs, hv, hx => by
  simp only [St.argBoxes] at hx
  obtain ⟨x, h1, hx⟩ := Option.bind_eq_some_iff.1 hx
  obtain ⟨xs', h2, hx⟩ := Option.map_eq_some_iff.1 hx
  subst hx
  rw [RepAVs] at hv
  obtain ⟨u, us', rfl, hv1, hv2⟩ := hv
  obtain ⟨O1, R1, k1, k2, k3⟩ := argBox_sound h hv1 h1
  obtain ⟨O2, R2, j1, j2, j3⟩ := argBoxes_sound h hv2 h2
  exact ⟨O1 ++ O2, R1 ++ R2, by rw [RepAs]; exact ⟨u, us', O1, R1, O2, R2, rfl, k1, j1, rfl, rfl⟩, k2.append j2, by rw [knowns, k3, j3]; rfl⟩
theorem arg_sound (h : Cor P w0 mine σ a w loc O R) {own : Bool} {t : TypeId} {y : AV} {v : Value} (hv : RepAV P w σ.o loc y v) {x : A} (hx : σ.arg P own t y = some x) :
  ∃ O1 R1, RepA P w x v O1 R1 ∧ Leds P w σ.o loc O R (σ.feet own y) O1 R1 ∧ x.known = true := by
 cases y with
 | c y =>
  simp only [St.arg] at hx
  obtain ⟨q, h1, rfl⟩ := Option.map_eq_some_iff.1 hx
  obtain ⟨O1, R1, k1, k2, k3⟩ := argC_sound h (c_rep hv) h1
  exact ⟨O1, R1, by rw [RepA]; exact k1, k2, by rw [A.known]; exact k3⟩
 | agg ys =>
  simp only [St.arg] at hx
  obtain ⟨q, h1, rfl⟩ := Option.map_eq_some_iff.1 hx
  rw [RepAV] at hv
  obtain ⟨us, rfl, hv⟩ := hv
  obtain ⟨O1, R1, k1, k2, k3⟩ := argCs_sound h hv h1
  exact ⟨O1, R1, by rw [RepA]; exact ⟨us, rfl, k1⟩, k2, by rw [A.known]; exact k3⟩
 | fn f ys =>
  simp only [St.arg] at hx
  obtain ⟨q, h1, rfl⟩ := Option.map_eq_some_iff.1 hx
  rw [RepAV] at hv
  obtain ⟨us, rfl, hv⟩ := hv
  obtain ⟨O1, R1, k1, k2, k3⟩ := argBoxes_sound h hv h1
  exact ⟨O1, R1, by rw [RepA]; exact ⟨us, rfl, k1⟩, k2, by rw [A.known]; exact k3⟩
 | ptr id p off => exact argBox_sound (own := own) h hv hx
 | tup ys => exact argBox_sound (own := own) h hv hx
 | u => exact argBox_sound (own := own) h hv hx
 | unk n => exact argBox_sound (own := own) h hv hx
 | nn => exact argBox_sound (own := own) h hv hx
theorem args_sound (h : Cor P w0 mine σ a w loc O R) {own : Nat → Bool} : ∀ {i : Nat} {ts : List TypeId} {ys : List AV} {us : List Value} {xs : List A}, RepAVs P w σ.o loc ys us → σ.args P own i ts ys = some xs →
  ∃ O1 R1, RepAs P w xs us O1 R1 ∧ Leds P w σ.o loc O R (σ.feets own i ys) O1 R1 ∧ knowns xs = true
 | i, [], [], us, xs, hv, hx => by
  simp only [St.args, Option.some.injEq] at hx
  subst hx
  rw [RepAVs] at hv
  exact ⟨[], [], by rw [RepAs]; exact ⟨hv, rfl, rfl⟩, Leds.nil, rfl⟩
 | i, t :: ts, y :: ys, us, xs, hv, hx => by
  simp only [St.args] at hx
  obtain ⟨x, h1, hx⟩ := Option.bind_eq_some_iff.1 hx
  obtain ⟨xs', h2, hx⟩ := Option.bind_eq_some_iff.1 hx
  injection hx with hx
  subst hx
  rw [RepAVs] at hv
  obtain ⟨u, us', rfl, hv1, hv2⟩ := hv
  obtain ⟨O1, R1, k1, k2, k3⟩ := arg_sound h hv1 h1
  obtain ⟨O2, R2, j1, j2, j3⟩ := args_sound h hv2 h2
  exact ⟨O1 ++ O2, R1 ++ R2, by rw [RepAs]; exact ⟨u, us', O1, R1, O2, R2, rfl, k1, j1, rfl, rfl⟩, k2.append j2, by rw [knowns, k3, j3]; rfl⟩
 | i, [], _ :: _, us, xs, hv, hx => by simp [St.args] at hx
 | i, _ :: _, [], us, xs, hv, hx => by simp [St.args] at hx
theorem given_sound {gd : Guard} (hgd : gd.on w0 mine.m) (h : Cor P w0 mine σ a w loc O R) {own : Nat → Bool} {i : Nat} {ts : List TypeId} {ys : List AV} {us : List Value} {xs : List A} (hv : RepAVs P w σ.o loc ys us) (hx : σ.args P own i ts ys = some xs) (hap : aparts (σ.feets own i ys) = true) :
  ∃ O1 R1, Given gd P w xs us O1 R1 ∧ Leds P w σ.o loc O R (σ.feets own i ys) O1 R1 := by
 obtain ⟨O1, R1, k1, k2, k3⟩ := args_sound h hv hx
 obtain ⟨j1, j2⟩ := k2.apart h hap
 obtain ⟨m1, m2⟩ := k2.mem
 have hz : ∀ b, gd.zone b → b < w.heap.size ∧ b ∉ O1 := fun b hb => by
  obtain ⟨z1, z2⟩ := hgd.2 b hb
  refine ⟨Nat.lt_of_lt_of_le z1 h.inv.size, fun hO => ?_⟩
  obtain ⟨x, Oa, Ra, q1, q2, q3, q4⟩ := m1 b hO
  obtain ⟨p1, ob, p2, p3⟩ := q2.2.2.2.1 b q3
  rcases (h.inv.own_ _ ob p2 b p1).2 with h' | h'
  ·omega
  ·exact z2 h'
 refine ⟨O1, R1, ⟨k1, k3, j1, fun b hb => ?_, fun b hb => ⟨?_, j2 b hb⟩, gd.still w0 w hgd.1 fun b hb => h.inv.kept b (hgd.2 b hb).1 (hgd.2 b hb).2, hz⟩, k2⟩
 ·obtain ⟨x, Oa, Ra, q1, q2, q3, q4⟩ := m1 b hb
  obtain ⟨p1, ob, p2, p3⟩ := q2.2.2.2.1 b q3
  exact (h.inv.own_ _ ob p2 b p1).1
 ·obtain ⟨x, Oa, Ra, q1, q2, q3, q4⟩ := m2 b hb
  obtain ⟨⟨ob, p2, p3⟩, _⟩ := q2.2.2.2.2 b (.inr q3)
  rcases p3 with p3 | p3
  ·exact (h.inv.own_ _ ob p2 b p3).1
  ·exact Nat.lt_of_lt_of_le (h.inv.ro _ ob p2 b p3).1 h.inv.size
end Go.Proofs.YtemghdnofgjnmaaDoor.VM

/- Behind a call: an own row is as the callee left it. -/
namespace Go.Proofs.YtemghdnofgjnmaaDoor.VM
open Go Go.Proofs.YtemghdnofgjnmaaDoorW.PrintWords
set_option linter.unusedVariables false
set_option linter.unusedSimpArgs false
variable {P : Program} {w w1 w2 w0 W W' : World} {mine : Ctx} {o o1 o2 : OM} {loc loc1 loc2 : Nat → Value} {O R : Nat → List Nat} {σ σ1 σ2 σ' : St} {a : Act} {c : Ctx}

/-- Fewer links. -/
def ScrL : List T → List T → Prop
 | [], [] => True
 | x :: l, y :: m => (y = x ∨ y = .h) ∧ ScrL l m
 | _, _ => False
theorem ScrL.refl : ∀ {l : List T}, ScrL l l
 | [] => trivial
 | x :: l => ⟨.inl rfl, ScrL.refl⟩
theorem ScrL.scr {f : Nat → List Nat → Bool} : ∀ {l m : List T}, ScrL l m → ScrL l (m.map (T.scr f))
 | [], [], _ => trivial
 | x :: l, y :: m, h => by
  rw [List.map_cons]
  refine ⟨?_, ScrL.scr h.2⟩
  rcases h.1 with h | h
  ·subst h
   cases y with
   | l i p o n =>
    rw [T.scr]
    split
    ·exact .inr rfl
    ·exact .inl rfl
   | _ => exact .inl rfl
  ·subst h
   exact .inr rfl
 | [], _ :: _, h => h.elim
 | _ :: _, [], h => h.elim
/-- What awaits its turn behind a call. -/
inductive Item where
 | row (id : Nat) (p : List Nat) (n : Nat) (e : TypeId) (xs : List T) (v : Value) (B : List Nat)
 | box (id : Nat) (e : TypeId) (xs : List T) (g : Nat)
def Item.foot : Item → Foot
 | .row id p _ _ _ _ _ => (true, id, p)
 | .box id _ _ _ => (true, id, [])
def Item.B : Item → List Nat
 | .row _ _ _ _ _ _ B => B
 | .box _ _ _ g => [g]
def ItemOk (P : Program) (W : World) (o : OM) (loc : Nat → Value) : Item → Prop
 | .row id p n e xs v B => p.length ≤ 1 ∧ 0 < P.cellsOf e ∧ ∃ ob h, lk o id = some ob ∧ ob.k = .own ∧ down (true, ob.e, ob.xs) p = some (true, e, xs) ∧ HdrAt W (loc id) p h ∧ SubHdr (P.cellsOf e) h 0 n v ∧ RepT P W (.s e n xs) h B []
 | .box id e xs g => ∃ ob, lk o id = some ob ∧ ob.k = .box ∧ ob.e = e ∧ ScrL xs ob.xs ∧ loc id = .slice (some ⟨g, 0, none⟩) 1 1
/-- One step behind a call: one row or variable turns. -/
structure Turn (W W' : World) (σ σ' : St) (loc : Nat → Value) (O : Nat → List Nat) (id : Nat) (p : List Nat) (B : List Nat) : Prop where
 other : ∀ j ob, j ≠ id → lk σ.o j = some ob → ∃ ob', lk σ'.o j = some ob' ∧ ob'.k = ob.k ∧ ob'.e = ob.e ∧ (ob.k ≠ .box → ob' = ob) ∧ (ob.k = .box → ∀ xs, ScrL xs ob.xs → ScrL xs ob'.xs)
 same : ∀ i, p = [i] → ∃ ob ob' y, lk σ.o id = some ob ∧ lk σ'.o id = some ob' ∧ ob'.k = ob.k ∧ ob'.e = ob.e ∧ ob'.xs = ob.xs.set i y ∧ ∀ b ∈ oblk (loc id), b ∉ B
 keep : ∀ b, b ∉ B → W'.heap[b]? = W.heap[b]?
 sub : ∀ b ∈ B, b ∈ O id
 obj : ∃ ob, lk σ.o id = some ob
theorem ItemOk.stay (h : Cor P w0 mine σ a W loc O R) {id : Nat} {p B : List Nat} (hs : Turn W W' σ σ' loc O id p B) {q : Item} (hq : ItemOk P W σ.o loc q) (hap : apart1 q.foot (true, id, p) = true) (hd : ∀ b ∈ q.B, b ∉ B) : ItemOk P W' σ'.o loc q := by
 obtain ⟨ob0, hl0⟩ := hs.obj
 have far : ∀ {j : Nat} {x : Obj}, j ≠ id → lk σ.o j = some x → ∀ b, b ∈ O j ∨ b ∈ R j → W'.heap[b]? = W.heap[b]? := fun {j x} hne hl b hb => hs.keep b fun hb' => by
  rcases hb with hb | hb
  ·exact h.inv.disj j id x ob0 hne hl hl0 b hb (hs.sub b hb')
  ·exact h.ro_own hl0 hl b hb (hs.sub b hb')
 cases q with
 | box j e xs g =>
  obtain ⟨ob, hl, hk, he, hsc, hloc⟩ := hq
  have hne : j ≠ id := fun e => by
   subst e
   simp only [apart1, Item.foot, Bool.not_true, Bool.and_false, Bool.false_or, bne_self_eq_false] at hap
   simp at hap
  obtain ⟨ob', k1, k2, k3, k4, k5⟩ := hs.other j ob hne hl
  exact ⟨ob', k1, k2.trans hk, k3.trans he, k5 hk _ hsc, hloc⟩
 | row j pj n e xs v Bj =>
  obtain ⟨hp, hpos, ob, h', hl, hk, hdn, hh, hsub, hrep⟩ := hq
  have hrep' : RepT P W' (.s e n xs) h' Bj [] := RepT_move _ (fun b hb => hs.keep b (hd b (hb.resolve_right (by simp)))) hrep
  by_cases hne : j = id
  ·subst hne
   simp only [apart1, Item.foot, Bool.not_true, Bool.and_false, Bool.false_or, bne_self_eq_false] at hap
   split at hap
   ·rename_i _ _ k i
    obtain ⟨ob1, ob', z1, q1, q2, q3, q4, q5, q6⟩ := hs.same i rfl
    rw [hl] at q1
    injection q1 with q1
    subst q1
    refine ⟨hp, hpos, ob', h', q2, q3.trans hk, ?_, ?_, hsub, hrep'⟩
    ·rw [q5, q4]
     rw [down] at hdn ⊢
     rw [List.getElem?_set_ne (by simp at hap; omega)]
     exact hdn
    ·rw [HdrAt] at hh ⊢
     obtain ⟨ad, m, cc, u, he, hc, hh⟩ := hh
     rw [HdrAt] at hh
     subst hh
     refine ⟨ad, m, cc, h', he, ?_, by rw [HdrAt]⟩
     have hob := h.inv.obj j ob hl
     unfold RepO at hob
     rw [hk] at hob
     obtain ⟨n0, hob⟩ := hob
     have hob : RepT P W (.s ob.e n0 ob.xs) (loc j) (O j) (R j) := hob
     rw [RepT] at hob
     obtain ⟨us, O3, hq, hts, _, _⟩ := hob
     have hn : 0 < n0 := by
      rcases Nat.eq_zero_or_pos n0 with rfl | h0
      ·have h1 := hq.1
       have h2 := RepTs_len hts
       rw [down] at hdn
       cases hx : ob.xs[k]? with
       | none => rw [hx] at hdn; simp at hdn
       | some x =>
        have := (List.getElem?_eq_some_iff.1 hx).1
        omega
      ·exact h0
     obtain ⟨g, off, c1, he1, hb, _⟩ := o_cells hq hn
     rw [he] at he1
     injection he1 with he1 _ _
     injection he1 with he1
     subst he1
     rw [World.cell?_of_block (w' := W') (w := W) (by
      have hg : g ∉ B := q6 g (by rw [hb]; simp)
      rw [add_at]
      exact hs.keep g hg)]
     exact hc
   ·simp at hap
  ·obtain ⟨ob', k1, k2, k3, k4, k5⟩ := hs.other j ob hne hl
   have := k4 (by rw [hk]; simp)
   subst this
   have hob := h.inv.obj j ob' hl
   unfold RepO at hob
   rw [hk] at hob
   obtain ⟨n0, hob⟩ := hob
   exact ⟨hp, hpos, ob', h', k1, hk, hdn, HdrAt_move (far hne hl) (own := true) hob hdn hh, hsub, hrep'⟩
theorem scrub_other {f : Nat → List Nat → Bool} {id : Nat} {ob' : Obj} {t : List (Nat × AV)} {j : Nat} {ob : Obj} (hne : j ≠ id) (hl : lk o j = some ob) : ∃ ob1, lk ((⟨t, ins o id ob'⟩ : St).scrub f).o j = some ob1 ∧ ob1.k = ob.k ∧ ob1.e = ob.e ∧ (ob.k ≠ .box → ob1 = ob) ∧ (ob.k = .box → ∀ xs, ScrL xs ob.xs → ScrL xs ob1.xs) := by
 refine ⟨scrOb f ob, ?_, ?_⟩
 ·rw [scrub_eq]
  show lk (scrO f (ins o id ob')) j = _
  rw [lk_scrO, lk_ins, if_neg (fun e => hne e.symm), hl]
  rfl
 ·by_cases hb : ob.k = .box
  ·rw [scrOb_box hb]
   exact ⟨rfl, rfl, fun h => absurd hb h, fun _ xs h => h.scr⟩
  ·rw [scrOb_not hb]
   exact ⟨rfl, rfl, fun _ => rfl, fun h => absurd h hb⟩
/-- The header of the whole row. -/
theorem RepT_hdr {e : TypeId} {n : Nat} {xs : List T} {h v : Value} {B R1 : List Nat} {zs : List T} {B1 R2 : List Nat} (hs : SubHdr (P.cellsOf e) h 0 n v) (hpos : 0 < P.cellsOf e) (hh : RepT P W (.s e n zs) h B1 R2) (hr : RepT P W' (.s e n xs) v B R1) : RepT P W' (.s e n xs) h B R1 := by
 obtain ⟨A, m', cc, A', c', rfl, rfl, hnc, hcm, hle, hA⟩ := hs
 have hcc : c' = cc := Nat.eq_of_mul_eq_mul_right hpos (by omega)
 subst hcc
 rw [RepT] at hh hr ⊢
 obtain ⟨us0, Oc, qq, qs, _, _⟩ := hh
 obtain ⟨us, Od, q1, q2, rfl, rfl⟩ := hr
 have hm' : m' = n := by
  obtain ⟨A2, c2, he2, _⟩ := o_slice qq
  injection he2
 subst hm'
 by_cases h0 : c' = 0
 ·subst h0
  have ob0 : ∀ (B : Option Addr) (k : Nat), oblk (.slice B k 0) = [] := fun B k => by cases B <;> rfl
  refine ⟨us, Od, ⟨q1.1, A, 0, rfl, by omega, by simp [maxLen], .inl rfl⟩, q2, by rw [ob0, ob0], rfl⟩
 ·have hAA : A' = A := by
   rw [hA (by omega)]
   cases A with
   | none => rfl
   | some ad => simp [Addr.add]
  subst hAA
  exact ⟨us, Od, q1, q2, rfl, rfl⟩
theorem below_nil {q : List Nat} : below [] q = !q.isEmpty := rfl
/-- Places that are not behind a row lead where they led. -/
theorem set_tr {id : Nat} {p q : List Nat} {ob : Obj} {xs' ys zs : List T} {n : Nat} {e : TypeId} {Oh Rh : List Nat} {B : List Nat} {h : Value} {d : Bool × TypeId × List T} (hp : p.length ≤ 1) (hf : below p q = false) (hr : RepT P W (.s ob.e n ob.xs) (loc id) Oh Rh) (hn : Oh.Nodup) (hdn : down (true, ob.e, ob.xs) p = some (true, e, zs)) (hset : setAt ob.xs p ys = some xs')
  (hB : ∃ h' n', HdrAt W (loc id) p h' ∧ RepT P W (.s e n' zs) h' B []) (hk : ∀ b, b ∉ B → W'.heap[b]? = W.heap[b]?) (hd : down (true, ob.e, ob.xs) q = some d) (hh : HdrAt W (loc id) q h) :
  ∃ d', down (true, ob.e, xs') q = some d' ∧ d'.2.1 = d.2.1 ∧ HdrAt W' (loc id) q h := by
 match p with
 | [] =>
  rw [below_nil] at hf
  have : q = [] := by simpa using hf
  subst this
  rw [down] at hd ⊢
  injection hd with hd
  subst hd
  rw [HdrAt] at hh ⊢
  exact ⟨_, rfl, rfl, hh⟩
 | [i] =>
  match q with
  | [] =>
   rw [down] at hd ⊢
   injection hd with hd
   subst hd
   rw [HdrAt] at hh ⊢
   exact ⟨_, rfl, rfl, hh⟩
  | j :: q =>
   rw [setAt] at hset
   split at hset
   ·rename_i e2 n2 zs2 hx
    rw [setAt] at hset
    simp only [Option.bind_some, Option.some.injEq] at hset
    subst hset
    rw [down, hx] at hdn
    simp only [down, Option.some.injEq, Prod.mk.injEq, true_and] at hdn
    obtain ⟨rfl, rfl⟩ := hdn
    have hr2 := hr
    rw [RepT] at hr2
    obtain ⟨us, O3, hq, hts, rfl, rfl⟩ := hr2
    have hnd := List.nodup_append.1 hn
    have hn0 : 0 < n := by
     rcases Nat.eq_zero_or_pos n with rfl | h0
     ·have h1 := hq.1
      have h2 := RepTs_len hts
      have := (List.getElem?_eq_some_iff.1 hx).1
      omega
     ·exact h0
    obtain ⟨g, off, cc, he, hb, hcell⟩ := o_cells hq hn0
    obtain ⟨u, O1, R1, Oa, Ob, Ra, Rb, k1, k2, k3, _⟩ := RepTs_get hts hx
    have hBO : B = O1 := by
     obtain ⟨h', n', g1, g2⟩ := hB
     rw [HdrAt] at g1
     obtain ⟨ad, m, c3, u3, e3, hc3, g1⟩ := g1
     rw [HdrAt] at g1
     subst g1
     rw [he] at e3
     injection e3 with e3 _ _
     injection e3 with e3
     subst e3
     rw [add_at, hcell i u k1] at hc3
     injection hc3 with hc3
     subst hc3
     have := row_n k2 g2
     subst this
     exact (RepT_fun g2 k2).1
    have hgB : g ∉ B := fun hgB => by
     rw [hBO] at hgB
     exact hnd.2.2 g (by rw [hb]; simp) g (by rw [k3]; exact List.mem_append_left _ (List.mem_append_right _ hgB)) rfl
    rw [HdrAt] at hh
    obtain ⟨ad, m, c3, u3, e3, hc3, hh⟩ := hh
    rw [he] at e3
    injection e3 with e3 e4 e5
    injection e3 with e3
    subst e3
    have hc4 : W'.cell? ((⟨g, off, none⟩ : Addr).add j) = some u3 := by
     rw [World.cell?_of_block (w' := W') (w := W) (by rw [add_at]; exact hk g hgB)]
     exact hc3
    by_cases hij : i = j
    ·subst hij
     have hq0 : q = [] := by
      simp only [below, BEq.rfl, Bool.true_and] at hf
      simpa using hf
     subst hq0
     rw [down, hx] at hd
     simp only [down, Option.some.injEq] at hd
     subst hd
     refine ⟨(true, e2, ys), ?_, rfl, ?_⟩
     ·rw [down, List.getElem?_set_self (by exact (List.getElem?_eq_some_iff.1 hx).1)]
      rfl
     ·rw [HdrAt]
      exact ⟨_, m, c3, u3, by rw [he, e4, e5], hc4, by rw [HdrAt] at hh ⊢; exact hh⟩
    ·have hd' : down (true, ob.e, ob.xs.set i (.s e2 n2 ys)) (j :: q) = some d := by
      rw [down] at hd ⊢
      rw [List.getElem?_set_ne hij]
      exact hd
     refine ⟨d, hd', rfl, ?_⟩
     rw [HdrAt]
     refine ⟨_, m, c3, u3, by rw [he, e4, e5], hc4, ?_⟩
     rw [down] at hd
     have mv : ∀ {y : T} {own : Bool} {e4 : TypeId} {n4 : Nat} {ys4 : List T}, ob.xs[j]? = some y → (y = .s e4 n4 ys4 ∨ y = .r e4 n4 ys4) → down (own, e4, ys4) q = some d → (∀ O5 R5, RepT P W y u3 O5 R5 → Row P W own e4 n4 ys4 u3 O5 R5) → HdrAt W' u3 q h := by
      intro y own e4 n4 ys4 hy _ hdq hrow
      obtain ⟨u4, O5, R5, Oc, Od, Rc, Rd, j1, j2, j3, j4⟩ := RepTs_get hts hy
      rw [add_at, hcell j u4 j1] at hc3
      injection hc3 with hc3
      subst hc3
      have hR5 := (nil3 j4.symm).2.1
      refine HdrAt_move (w1 := W') (fun b hb => hk b fun hbB => ?_) (hrow O5 R5 j2) hdq hh
      rw [hR5] at hb
      have hb := hb.resolve_right (by simp)
      rw [hBO] at hbB
      exact RepTs_two hts hnd.2.1 hij hx hy k1 j1 k2 j2 b hbB hb
     split at hd
     ·rename_i e4 n4 ys4 hy
      exact mv hy (.inl rfl) hd (fun O5 R5 hr => hr)
     ·rename_i e4 n4 ys4 hy
      exact mv hy (.inr rfl) hd (fun O5 R5 hr => hr)
     ·simp at hd
   ·simp at hset
 | _ :: _ :: _ => simp at hp
end Go.Proofs.YtemghdnofgjnmaaDoor.VM

/- Behind a call: one row. -/
namespace Go.Proofs.YtemghdnofgjnmaaDoor.VM
open Go Go.Proofs.YtemghdnofgjnmaaDoorW.PrintWords
set_option linter.unusedVariables false
set_option linter.unusedSimpArgs false
variable {P : Program} {w w1 w2 w0 W W' : World} {mine : Ctx} {o o1 o2 : OM} {loc loc1 loc2 : Nat → Value} {O R : Nat → List Nat} {σ σ1 σ2 σ' : St} {a : Act} {c : Ctx}

/-- What a turn leaves: the relation, and where the objects' blocks come from. -/
def Turned (P : Program) (w0 : World) (mine : Ctx) (W W' : World) (σ σ' : St) (a : Act) (loc : Nat → Value) (O : Nat → List Nat) (id : Nat) (p : List Nat) (B O2 : List Nat) : Prop :=
 ∃ O' R', Cor P w0 mine σ' a W' loc O' R' ∧ Turn W W' σ σ' loc O id p B ∧ ∀ j ob, lk σ'.o j = some ob → ∀ b ∈ O' j, b ∈ O2 ∨ (b ∈ O j ∧ b ∉ B ∧ ∃ ob, lk σ.o j = some ob)
theorem row_set (h : Cor P w0 mine σ a W loc O R) (hz : W.heap.size ≤ W'.heap.size) (hst : Still W W') {id n : Nat} {p : List Nat} {e : TypeId} {xs ys : List T} {v : Value} {B O2 : List Nat} (hq : ItemOk P W σ.o loc (.row id p n e xs v B)) (hk : ∀ b, b ∉ B → W'.heap[b]? = W.heap[b]?) (hr : RepT P W' (.s e n ys) v O2 []) (hn2 : O2.Nodup)
  (hO2 : ∀ b ∈ O2, b < W'.heap.size ∧ (b ∈ B ∨ ((∀ j x, lk σ.o j = some x → b ∉ O j) ∧ w0.heap.size ≤ b))) (hset : σ.setRow id p ys = some σ1) :
  Turned P w0 mine W W' σ (σ1.scrub fun i q => i == id && below p q) a loc O id p B O2 := by
 obtain ⟨hp, hpos, ob, h', hl, hkk, hdn, hh, hsub, hrep⟩ := hq
 unfold St.setRow at hset
 rw [hl] at hset
 obtain ⟨xs', hs, hset⟩ := Option.bind_eq_some_iff.1 hset
 injection hset with hset
 subst hset
 have hob := h.inv.obj id ob hl
 unfold RepO at hob
 rw [hkk] at hob
 obtain ⟨n0, hroot⟩ := hob
 have hroot : RepT P W (.s ob.e n0 ob.xs) (loc id) (O id) (R id) := hroot
 have hnd := h.inv.nodup id ob hl
 obtain ⟨h2, n2, Oa, Op, Ob, Ra, Rp, Rb, g1, g2, hO, hR, g3⟩ := setAt_rep p hroot hnd (h.ro_own hl hl) hdn hs
 have := HdrAt_fun hh g1
 subst this
 have hnn := row_n g2 hrep
 subst hnn
 obtain ⟨hBp, _⟩ := RepT_fun hrep g2
 subst hBp
 have hRid := RepT_s hroot
 have hz3 := nil3' (hR.symm.trans hRid)
 have hr2 : RepT P W' (.s e n ys) h' O2 [] := RepT_hdr hsub hpos hrep hr
 have hBO : ∀ b ∈ B, b ∈ O id := fun b hb => by rw [hO]; exact List.mem_append_right _ (List.mem_append_left _ hb)
 have hfin := g3 W' O2 [] (fun b _ hb => hk b hb) hr2
 rw [hz3.1, hz3.2.2] at hfin
 rw [hO] at hnd
 have n1 := List.nodup_append.1 hnd
 have n3 := List.nodup_append.1 n1.2.1
 have hfar : ∀ b, b ∈ Oa ∨ b ∈ Ob → b ∉ O2 := fun b hb hb' => by
  have hbO : b ∈ O id := by
   rw [hO]
   rcases hb with hb | hb
   ·exact List.mem_append_left _ hb
   ·exact List.mem_append_right _ (List.mem_append_right _ hb)
  rcases (hO2 b hb').2 with h1 | h1
  ·rcases hb with hb | hb
   ·exact n1.2.2 b hb b (List.mem_append_left _ h1) rfl
   ·exact n3.2.2 b h1 b hb rfl
  ·exact h1.1 id ob hl hbO
 have hfarB : ∀ b, b ∈ Oa ∨ b ∈ Ob → b ∉ B := fun b hb h1 => by
  rcases hb with hb | hb
  ·exact n1.2.2 b hb b (List.mem_append_left _ h1) rfl
  ·exact n3.2.2 b h1 b hb rfl
 have hc := h.replace (w1 := W') (ob' := ⟨ob.k, ob.e, xs'⟩) (O' := Oa ++ (O2 ++ Ob)) (R' := []) hl rfl rfl (fun i q => i == id && below p q) hz hst (fun b _ hb => hk b fun hb' => hb (hBO b hb')) (fun _ => by
  rw [scrOb_not (by simp [hkk])]
  unfold RepO
  simp only [hkk]
  exact ⟨n0, hfin⟩) (List.nodup_append.2 ⟨n1.1, List.nodup_append.2 ⟨hn2, n3.2.1, fun b hb c hc e => hfar c (.inr hc) (by rw [← e]; exact hb)⟩, fun b hb c hc e => by
   subst e
   rcases List.mem_append.1 hc with hc | hc
   ·exact hfar b (.inl hb) hc
   ·exact n1.2.2 b hb b (List.mem_append_right _ hc) rfl⟩) (fun b hb => by
  rcases List.mem_append.1 hb with hb | hb
  ·exact .inl (by rw [hO]; exact List.mem_append_left _ hb)
  ·rcases List.mem_append.1 hb with hb | hb
   ·obtain ⟨k1, k2⟩ := hO2 b hb
    rcases k2 with k2 | k2
    ·exact .inl (hBO b k2)
    ·exact .inr ⟨k2.1, k1, .inl k2.2⟩
   ·exact .inl (by rw [hO]; exact List.mem_append_right _ (List.mem_append_right _ hb))) (fun b hb => by simp at hb) (fun _ b hb => by
  rcases List.mem_append.1 hb with hb | hb
  ·exact .inl (by rw [hO]; exact List.mem_append_left _ hb)
  ·rcases List.mem_append.1 hb with hb | hb
   ·obtain ⟨k1, k2⟩ := hO2 b hb
    rcases k2 with k2 | k2
    ·exact .inl (hBO b k2)
    ·exact .inr k2.2
   ·exact .inl (by rw [hO]; exact List.mem_append_right _ (List.mem_append_right _ hb))) (fun q d hq hf _ hd hh' => by
  rw [hkk] at hd ⊢
  exact set_tr (ob := ob) (Oh := O id) hp (by simpa using hf) hroot (by rw [hO]; exact hnd) hdn hs ⟨h', n, hh, hrep⟩ hk hd hh')
 refine ⟨_, _, hc, ⟨fun j obj hne hlj => scrub_other hne hlj, fun i hi => ?_, hk, hBO, ob, hl⟩, fun j obj hlj b hb => ?_⟩
 ·subst hi
  rw [setAt] at hs
  split at hs
  ·rename_i e2 n2 zs2 hx
   obtain ⟨zs', _, hs⟩ := Option.bind_eq_some_iff.1 hs
   injection hs with hs
   refine ⟨ob, ⟨ob.k, ob.e, xs'⟩, _, hl, ?_, rfl, rfl, hs.symm, fun b hb hb' => ?_⟩
   ·rw [scrub_eq]
    show lk (scrO _ (ins σ.o id _)) id = _
    rw [lk_scrO, lk_ins, if_pos rfl, Option.map_some, scrOb_not (by simp [hkk])]
   · -- the root's block is none of the element's
    rw [RepT] at hroot
    obtain ⟨us, O3, hq, hts, hO3, _⟩ := hroot
    obtain ⟨u, O1, R1, Oc, Od, Rc, Rd, k1, k2, k3, _⟩ := RepTs_get hts hx
    have hx2 := hdn
    rw [down, hx] at hx2
    simp only [down, Option.some.injEq, Prod.mk.injEq, true_and] at hx2
    obtain ⟨rfl, rfl⟩ := hx2
    have hB1 : B = O1 := by
     rw [HdrAt] at hh
     obtain ⟨ad, m, c3, u3, e3, hc3, hh⟩ := hh
     rw [HdrAt] at hh
     subst hh
     have hn0 : 0 < n0 := by
      rcases Nat.eq_zero_or_pos n0 with rfl | h0
      ·have h1 := hq.1
       have := (List.getElem?_eq_some_iff.1 k1).1
       omega
      ·exact h0
     obtain ⟨g, off, cc, he, _, hcell⟩ := o_cells hq hn0
     rw [he] at e3
     injection e3 with e3 _ _
     injection e3 with e3
     subst e3
     rw [add_at, hcell i u k1] at hc3
     injection hc3 with hc3
     subst hc3
     have := row_n k2 hrep
     subst this
     exact (RepT_fun hrep k2).1
    have hnd2 := h.inv.nodup id ob hl
    rw [hO3] at hnd2
    exact (List.nodup_append.1 hnd2).2.2 b hb b (by rw [k3, ← hB1]; exact List.mem_append_left _ (List.mem_append_right _ hb')) rfl
  ·simp at hs
 ·rw [scrub_eq] at hlj
  obtain ⟨ob1, hl1, _⟩ := scrO_k hlj
  have hl1 : lk (ins σ.o id ⟨ob.k, ob.e, xs'⟩) j = some ob1 := hl1
  by_cases hj : j = id
  ·subst hj
   rw [upd_same] at hb
   rcases List.mem_append.1 hb with hb | hb
   ·exact .inr ⟨by rw [hO]; exact List.mem_append_left _ hb, hfarB b (.inl hb), ob, hl⟩
   ·rcases List.mem_append.1 hb with hb | hb
    ·exact .inl hb
    ·exact .inr ⟨by rw [hO]; exact List.mem_append_right _ (List.mem_append_right _ hb), hfarB b (.inr hb), ob, hl⟩
  ·rw [upd_other _ _ hj] at hb
   rw [lk_ins, if_neg (fun e => hj e.symm)] at hl1
   exact .inr ⟨hb, fun h1 => h.inv.disj j id ob1 ob hj hl1 hl b hb (hBO b h1), ob1, hl1⟩
/-- A row that the callee has taken. -/
theorem row_kill (h : Cor P w0 mine σ a W loc O R) (hz : W.heap.size ≤ W'.heap.size) (hst : Still W W') {id n : Nat} {e : TypeId} {xs : List T} {v : Value} {B : List Nat} (hq : ItemOk P W σ.o loc (.row id [] n e xs v B)) (hk : ∀ b, b ∉ B → W'.heap[b]? = W.heap[b]?) :
  Turned P w0 mine W W' σ (σ.kill id) a loc O id [] B [] := by
 obtain ⟨hp, hpos, ob, h', hl, hkk, hdn, hh, hsub, hrep⟩ := hq
 have hob := h.inv.obj id ob hl
 unfold RepO at hob
 rw [hkk] at hob
 obtain ⟨n0, hroot⟩ := hob
 have hroot : RepT P W (.s ob.e n0 ob.xs) (loc id) (O id) (R id) := hroot
 rw [HdrAt] at hh
 subst hh
 rw [down] at hdn
 simp only [Option.some.injEq, Prod.mk.injEq, true_and] at hdn
 obtain ⟨rfl, rfl⟩ := hdn
 have := row_n hroot hrep
 subst this
 obtain ⟨hBp, _⟩ := RepT_fun hrep hroot
 subst hBp
 obtain ⟨k1, k2, k3⟩ := h.kill id
 have hc := k1.turn (w1 := W') (fun b => b ∈ O id) (fun j x hlj b hb hb' => by
  obtain ⟨hne, ob0, h0⟩ := k3 j x hlj
  exact h.inv.disj j id ob0 ob hne h0 hl b hb hb') (fun b hb => (h.inv.own_ id ob hl b hb).2) hz hst (fun b _ hb => hk b hb)
 refine ⟨O, R, hc, ⟨fun j obj hne hlj => ?_, fun i hi => by simp at hi, hk, fun b hb => hb, ob, hl⟩, fun j obj hlj b hb => ?_⟩
 ·have e : σ.kill id = (⟨σ.t, del σ.o id⟩ : St).scrub fun i _ => i == id := by unfold St.kill; rw [hl]
  rw [e, scrub_eq]
  have hd : lk (del σ.o id) j = some obj := by rw [lk_del _ _ _ h.so, if_neg (fun e => hne e.symm)]; exact hlj
  refine ⟨scrOb _ obj, by show lk (scrO _ (del σ.o id)) j = _; rw [lk_scrO, hd]; rfl, ?_⟩
  by_cases hb : obj.k = .box
  ·rw [scrOb_box hb]
   exact ⟨rfl, rfl, fun h => absurd hb h, fun _ xs h => h.scr⟩
  ·rw [scrOb_not hb]
   exact ⟨rfl, rfl, fun _ => rfl, fun h => absurd h hb⟩
 ·obtain ⟨hne, ob0, h0⟩ := k3 j obj hlj
  exact .inr ⟨hb, fun h1 => h.inv.disj j id ob0 ob hne h0 hl b hb h1, ob0, h0⟩
/-- An element's row that the callee has taken. -/
theorem row_hole (h : Cor P w0 mine σ a W loc O R) (hz : W.heap.size ≤ W'.heap.size) (hst : Still W W') {id i n : Nat} {e : TypeId} {xs : List T} {v : Value} {B : List Nat} (hq : ItemOk P W σ.o loc (.row id [i] n e xs v B)) (hk : ∀ b, b ∉ B → W'.heap[b]? = W.heap[b]?) (hs : σ.hole id i = some σ1) :
  Turned P w0 mine W W' σ σ1 a loc O id [i] B [] := by
 obtain ⟨hp, hpos, ob, h', hl, hkk, hdn, hh, hsub, hrep⟩ := hq
 have hob := h.inv.obj id ob hl
 unfold RepO at hob
 rw [hkk] at hob
 obtain ⟨n0, hroot⟩ := hob
 have hroot : RepT P W (.s ob.e n0 ob.xs) (loc id) (O id) (R id) := hroot
 rw [down] at hdn
 split at hdn
 ·rename_i e2 n2 ys hx
  simp only [down, Option.some.injEq, Prod.mk.injEq, true_and] at hdn
  obtain ⟨rfl, rfl⟩ := hdn
  obtain ⟨u, O1, R1, O2, R2, c1, c2, ⟨ad, m, cc, e3, hc3⟩, c5, c6, c7, c8, c9⟩ := hole_sound h hl hkk hx hs
  rw [HdrAt] at hh
  obtain ⟨ad', m', cc', u', e4, hc4, hh⟩ := hh
  rw [HdrAt] at hh
  subst hh
  rw [e3] at e4
  injection e4 with e4 _ _
  injection e4 with e4
  subst e4
  rw [hc3] at hc4
  injection hc4 with hc4
  subst hc4
  have := row_n c2 hrep
  subst this
  obtain ⟨hB, _⟩ := RepT_fun hrep c2
  subst hB
  have hs2 := hs
  unfold St.hole at hs2
  rw [hl] at hs2
  simp only [Option.some.injEq] at hs2
  have hcase : ∀ j x, lk σ1.o j = some x → ∃ y, lk σ.o j = some y := fun j x hj => c9 j ⟨x, hj⟩
  have hc := c1.turn (w1 := W') (fun b => b ∈ B) (fun j x hlj b hb hb' => by
   obtain ⟨y, hy⟩ := hcase j x hlj
   by_cases hj : j = id
   ·subst hj
    rw [upd_same] at hb
    exact (c6 b hb').2 hb
   ·rw [upd_other _ _ hj] at hb
    exact h.inv.disj j id y ob hj hy hl b hb (c6 b hb').1) (fun b hb => (h.inv.own_ id ob hl b (c6 b hb).1).2) hz hst (fun b _ hb => hk b hb)
  refine ⟨_, _, hc, ⟨fun j obj hne hlj => ?_, fun i' hi => ?_, hk, fun b hb => (c6 b hb).1, ob, hl⟩, fun j obj hlj b hb => ?_⟩
  ·rw [← hs2]
   exact scrub_other hne hlj
  ·injection hi with hi _
   subst hi
   refine ⟨ob, ⟨ob.k, ob.e, ob.xs.set i .h⟩, .h, hl, ?_, rfl, rfl, rfl, fun b hb hb' => ?_⟩
   ·rw [← hs2, scrub_eq]
    show lk (scrO _ (ins σ.o id _)) id = _
    rw [lk_scrO, lk_ins, if_pos rfl, Option.map_some, scrOb_not (by simp [hkk])]
   ·have hnd2 := h.inv.nodup id ob hl
    rw [RepT] at hroot
    obtain ⟨us, O3, hq, hts, hO3, _⟩ := hroot
    obtain ⟨u2, O5, R5, Oc, Od, Rc, Rd, k1, k2, k3, _⟩ := RepTs_get hts hx
    have hn0 : 0 < n0 := by
     rcases Nat.eq_zero_or_pos n0 with rfl | h0
     ·have h1 := hq.1
      have := (List.getElem?_eq_some_iff.1 k1).1
      omega
     ·exact h0
    obtain ⟨g, off, cc5, he, _, hcell⟩ := o_cells hq hn0
    rw [e3] at he
    injection he with he _ _
    injection he with he
    subst he
    rw [add_at, hcell i u2 k1] at hc3
    injection hc3 with hc3
    subst hc3
    rw [hO3] at hnd2
    exact (List.nodup_append.1 hnd2).2.2 b hb b (by rw [k3, ← (RepT_fun c2 k2).1]; exact List.mem_append_left _ (List.mem_append_right _ hb')) rfl
  ·obtain ⟨y, hy⟩ := hcase j obj hlj
   by_cases hj : j = id
   ·subst hj
    rw [upd_same] at hb
    exact .inr ⟨c8 b hb, fun h1 => (c6 b h1).2 hb, ob, hl⟩
   ·rw [upd_other _ _ hj] at hb
    exact .inr ⟨hb, fun h1 => h.inv.disj j id y ob hj hy hl b hb (c6 b h1).1, y, hy⟩
 ·simp [down] at hdn
 ·simp at hdn
/-- A row of an argument, behind the call. -/
theorem backC_sound (h : Cor P w0 mine σ a W loc O R) (hz : W.heap.size ≤ W'.heap.size) (hst : Still W W') {id n : Nat} {p : List Nat} {e : TypeId} {xs : List T} {y : T} {v : Value} {B O2 : List Nat} (hq : ItemOk P W σ.o loc (.row id p n e xs v B)) (hk : ∀ b, b ∉ B → W'.heap[b]? = W.heap[b]?)
  (ha : (∃ ys, y = .s e n ys ∧ RepT P W' (.s e n ys) v O2 []) ∨ ((∀ e n ys, y ≠ .s e n ys) ∧ O2 = [])) (hn2 : O2.Nodup) (hO2 : ∀ b ∈ O2, b < W'.heap.size ∧ (b ∈ B ∨ ((∀ j x, lk σ.o j = some x → b ∉ O j) ∧ w0.heap.size ≤ b))) (hb : σ.backC (.sl id p 0 n) y = some σ') :
  Turned P w0 mine W W' σ σ' a loc O id p B O2 := by
 rcases ha with ⟨ys, rfl, hr⟩ | ⟨hy, rfl⟩
 ·simp only [St.backC] at hb
  obtain ⟨σ1, h1, rfl⟩ := Option.map_eq_some_iff.1 hb
  exact row_set h hz hst hq hk hr hn2 hO2 h1
 ·have hp := hq.1
  match p with
  | [] =>
   have : σ.kill id = σ' := by
    cases y with
    | s e' n' ys => exact absurd rfl (hy e' n' ys)
    | _ => simpa [St.backC] using hb
   subst this
   exact row_kill h hz hst hq hk
  | [i] =>
   have : σ.hole id i = some σ' := by
    cases y with
    | s e' n' ys => exact absurd rfl (hy e' n' ys)
    | _ => simpa [St.backC] using hb
   exact row_hole h hz hst hq hk this
  | _ :: _ :: _ => simp at hp
end Go.Proofs.YtemghdnofgjnmaaDoor.VM

/- Behind a call: the memory turns one item at a time. -/
namespace Go.Proofs.YtemghdnofgjnmaaDoor.VM
open Go Go.Proofs.YtemghdnofgjnmaaDoorW.PrintWords
set_option linter.unusedVariables false
set_option linter.unusedSimpArgs false
variable {P : Program} {w w1 w2 w0 W W' : World} {mine : Ctx} {o o1 o2 : OM} {loc loc1 loc2 : Nat → Value} {O R : Nat → List Nat} {σ σ1 σ2 σ' : St} {a : Act} {c : Ctx}

/-- As it is behind the call, but for some blocks. -/
def mix (w w1 : World) (S : List Nat) : World := { w1 with heap := Array.ofFn (n := w1.heap.size) fun i => if i.1 ∈ S then (w.heap[i.1]?).getD w1.heap[i.1] else w1.heap[i.1] }
theorem mix_size (S : List Nat) : (mix w w1 S).heap.size = w1.heap.size := by simp [mix]
theorem mix_out {S : List Nat} {b : Nat} (hb : b ∉ S) : (mix w w1 S).heap[b]? = w1.heap[b]? := by
 unfold mix
 by_cases h : b < w1.heap.size
 ·rw [Array.getElem?_eq_getElem (by simpa using h), Array.getElem?_eq_getElem h]
  simp [hb]
 ·rw [Array.getElem?_eq_none (by simpa using h), Array.getElem?_eq_none (by omega)]
theorem mix_in {S : List Nat} {b : Nat} (hb : b ∈ S) (h0 : b < w.heap.size) (h1 : w.heap.size ≤ w1.heap.size) : (mix w w1 S).heap[b]? = w.heap[b]? := by
 unfold mix
 rw [Array.getElem?_eq_getElem (by simp; omega), Array.getElem?_eq_getElem h0]
 simp [hb, h0]
theorem mix_step {B S : List Nat} {b : Nat} (hb : b ∉ B) (h0 : ∀ b ∈ B ++ S, b < w.heap.size) (h1 : w.heap.size ≤ w1.heap.size) : (mix w w1 S).heap[b]? = (mix w w1 (B ++ S)).heap[b]? := by
 by_cases hs : b ∈ S
 ·rw [mix_in hs (h0 b (List.mem_append_right _ hs)) h1, mix_in (List.mem_append_right _ hs) (h0 b (List.mem_append_right _ hs)) h1]
 ·rw [mix_out hs, mix_out (by simp [hb, hs])]
def pend (Q : List Item) : List Nat := (Q.map Item.B).flatten
theorem pend_cons {q : Item} {Q : List Item} : pend (q :: Q) = q.B ++ pend Q := rfl
/-- In the midst of it. D: blocks that were handed over, and are done; B: those that are held of these, and new ones. -/
structure Mid (P : Program) (w0 : World) (mine : Ctx) (a : Act) (w w1 : World) (loc : Nat → Value) (σ : St) (O R : Nat → List Nat) (Q : List Item) (D B : List Nat) : Prop where
 cor : Cor P w0 mine σ a (mix w w1 (pend Q)) loc O R
 items : ∀ q ∈ Q, ItemOk P (mix w w1 (pend Q)) σ.o loc q
 apart : (Q.map Item.foot).Pairwise fun x y => apart1 x y = true
 nodup : (pend Q).Nodup
 below : ∀ b ∈ pend Q, b < w.heap.size
 size : w.heap.size ≤ w1.heap.size
 start : w0.heap.size ≤ w.heap.size
 fresh : ∀ j ob, lk σ.o j = some ob → ∀ b ∈ O j, (b ∈ D ∨ w.heap.size ≤ b) → b ∈ B
theorem Mid.turned {q : Item} {Q : List Item} {D B O2 : List Nat} (h : Mid P w0 mine a w w1 loc σ O R (q :: Q) D B) (ht : Turned P w0 mine (mix w w1 (pend (q :: Q))) (mix w w1 (pend Q)) σ σ' a loc O q.foot.2.1 q.foot.2.2 q.B O2) (hq : q.foot.1 = true) : ∃ O' R', Mid P w0 mine a w w1 loc σ' O' R' Q (D ++ q.B) (B ++ O2) := by
 obtain ⟨O', R', k1, k2, k3⟩ := ht
 have hn := h.nodup
 rw [pend_cons] at hn
 have hn := List.nodup_append.1 hn
 have hp := h.apart
 rw [List.map_cons] at hp
 have hp := List.pairwise_cons.1 hp
 refine ⟨O', R', k1, fun q' hq' => ?_, hp.2, hn.2.1, fun b hb => h.below b (by rw [pend_cons]; exact List.mem_append_right _ hb), h.size, h.start, fun j ob hl b hb hc => ?_⟩
 ·refine ItemOk.stay h.cor k2 (h.items q' (List.mem_cons_of_mem _ hq')) ?_ (fun b hb hb' => hn.2.2 b hb' b (List.mem_flatten.2 ⟨_, List.mem_map_of_mem hq', hb⟩) rfl)
  have := apart1_symm (hp.1 _ (List.mem_map_of_mem hq'))
  have e : q.foot = (true, q.foot.2.1, q.foot.2.2) := by rw [← hq]
  rw [← e]
  exact this
 ·rcases k3 j ob hl b hb with h1 | ⟨h1, h2, ob0, h3⟩
  ·exact List.mem_append_right _ h1
  ·refine List.mem_append_left _ (h.fresh j ob0 h3 b h1 ?_)
   rcases hc with hc | hc
   ·exact .inl ((List.mem_append.1 hc).resolve_right h2)
   ·exact .inr hc
theorem Mid.row {id n : Nat} {p : List Nat} {e : TypeId} {xs xs0 : List T} {v : Value} {B1 : List Nat} {Q : List Item} {D B O2 : List Nat} {y : T} (h : Mid P w0 mine a w w1 loc σ O R (.row id p n e xs v B1 :: Q) D B) (ha : AfterT P w w1 (.s e n xs0) y v B1 O2) (hn2 : O2.Nodup) (hlt : ∀ b ∈ O2, b < w1.heap.size) (hB : ∀ b ∈ O2, b ∉ B) (hb : σ.backC (.sl id p 0 n) y = some σ') :
  ∃ O' R', Mid P w0 mine a w w1 loc σ' O' R' Q (D ++ B1) (B ++ O2) := by
 have hnd := h.nodup
 rw [pend_cons] at hnd
 have hnd := List.nodup_append.1 hnd
 have hbel := h.below
 rw [pend_cons] at hbel
 have hcases : (∀ b ∈ O2, b ∈ B1 ∨ w.heap.size ≤ b) ∧ ((∃ ys, y = .s e n ys ∧ RepT P w1 (.s e n ys) v O2 []) ∨ ((∀ e n ys, y ≠ .s e n ys) ∧ O2 = [])) := by
  cases y with
  | s e' n' ys =>
   rw [AfterT] at ha
   obtain ⟨rfl, rfl, k1, k2⟩ := ha
   exact ⟨k2, .inl ⟨ys, rfl, k1⟩⟩
  | _ =>
   have : O2 = [] := by simpa [AfterT] using ha
   subst this
   exact ⟨fun b hb => by simp at hb, .inr ⟨fun e n ys h => by simp at h, rfl⟩⟩
 refine Mid.turned h ?_ rfl
 refine backC_sound (W' := mix w w1 (pend Q)) (v := v) (B := B1) (O2 := O2) h.cor (by rw [mix_size, mix_size]; exact Nat.le_refl _) ⟨rfl, rfl, rfl⟩ (h.items _ (List.mem_cons_self)) (fun b hb' => mix_step hb' hbel h.size) ?_ hn2 (fun b hb' => ?_) hb
 ·rcases hcases.2 with ⟨ys, rfl, k1⟩ | k1
  ·refine .inl ⟨ys, rfl, RepT_move _ (fun b hb' => mix_out fun hS => ?_) k1⟩
   have hb' := hb'.resolve_right (by simp)
   rcases hcases.1 b hb' with h1 | h1
   ·exact hnd.2.2 b h1 b hS rfl
   ·have := hbel b (List.mem_append_right _ hS)
    omega
  ·exact .inr k1
 ·rw [mix_size]
  refine ⟨hlt b hb', ?_⟩
  rcases hcases.1 b hb' with h1 | h1
  ·exact .inl h1
  ·exact .inr ⟨fun j x hl hbj => hB b hb' (h.fresh j x hl b hbj (.inr h1)), Nat.le_trans h.start h1⟩
/-! ### a variable -/
theorem sub_comp {s1 s2 : Nat} {h u u' : Value} {off n : Nat} (h1 : SubHdr s1 h off n u) (h2 : SubHdr s2 u 0 n u') (hpos : 0 < s2) : SubHdr s1 h off n u' := by
 obtain ⟨A, m, cc, A', c', rfl, rfl, hnc, hcm, hle, hA⟩ := h1
 obtain ⟨A2, m2, c2, A3, c3, he, rfl, hnc3, hcm3, hle3, hA3⟩ := h2
 injection he with e1 e2 e3
 subst e1; subst e2; subst e3
 have hcc : c3 = c' := Nat.eq_of_mul_eq_mul_right hpos (by omega)
 subst hcc
 refine ⟨A, m, cc, A3, c3, rfl, rfl, hnc3, hcm3, hle, fun h0 => ?_⟩
 rw [hA3 h0, hA h0]
 cases A with
 | none => rfl
 | some ad => simp [Addr.add]
/-- The elements of a tree's row have cells. -/
def posT (P : Program) : T → Prop
 | .s e _ _ => 0 < P.cellsOf e
 | .r e _ _ => 0 < P.cellsOf e
 | _ => True
theorem link_n {x : T} {u : Value} {O1 R1 : List Nat} {s off : Nat} {h : Value} {n m : Nat} {e : TypeId} {xs : List T} (hx : x = .s e m xs ∨ x = .r e m xs) (hr : RepT P w x u O1 R1) (hs : SubHdr s h off n u) : m = n := by
 obtain ⟨A, m', cc, A', c', rfl, rfl, _⟩ := hs
 rcases hx with rfl | rfl
 ·rw [RepT] at hr
  obtain ⟨_, _, q, _⟩ := hr
  obtain ⟨A2, c2, he, _⟩ := o_slice q
  injection he with _ he _
  exact he.symm
 ·rw [RepT] at hr
  obtain ⟨_, A2, c2, _, _, he, _⟩ := hr
  injection he with _ he _
  exact he.symm
theorem backBox_rep : ∀ {xs ys : List T} {us us' : List Value} {ts ts' : List T} {B1 O2 : List Nat}, AfterLs P w w1 xs ys us us' B1 O2 → (∀ x ∈ xs, posT P x) → RepLs P W o loc ts us → backBox ts ys = some ts' → RepLs P W o loc ts' us'
 | [], [], us, us', ts, ts', B1, O2, ha, hp, hr, hb => by
  rw [AfterLs] at ha
  obtain ⟨rfl, rfl, _, _⟩ := ha
  cases ts with
  | nil =>
   simp only [backBox, Option.some.injEq] at hb
   subst hb
   rw [RepLs]
  | cons t ts => cases t <;> simp [backBox] at hb
 | x :: xs, y :: ys, us, us', ts, ts', B1, O2, ha, hp, hr, hb => by
  rw [AfterLs] at ha
  obtain ⟨u, us1, u', us1', O1, R1, O', Oa, Ob, rfl, rfl, h0, h1, h2, rfl, rfl⟩ := ha
  cases ts with
  | nil => cases y <;> simp [backBox] at hb
  | cons t ts =>
   rw [RepLs] at hr
   obtain ⟨u2, us2, he, hr1, hr2⟩ := hr
   injection he with e1 e2
   subst e1; subst e2
   have hpx := hp x (by simp)
   have fin : ∀ {t' : T} {l : List T}, RepL P W o loc t' u' → backBox ts ys = some l → ts' = t' :: l → RepLs P W o loc ts' (u' :: us1') := by
    intro t' l k1 k2 e
    subst e
    rw [RepLs]
    exact ⟨u', us1', rfl, k1, backBox_rep h2 (fun x hx => hp x (by simp [hx])) hr2 k2⟩
   -- a slice's link
   have sub : ∀ {e : TypeId} {m : Nat} {zs : List T}, (x = .s e m zs ∨ x = .r e m zs) → SubHdr (P.cellsOf e) u 0 m u' → 0 < P.cellsOf e → (t = .h ∨ ∃ i p off n, t = .l i p off n) → RepL P W o loc t u' := by
    intro e m zs hx hs hpos ht
    rcases ht with rfl | ⟨i, p, off, n, rfl⟩
    ·rw [RepL]
     obtain ⟨A, m', cc, A', c', _, rfl, _⟩ := hs
     rfl
    ·rw [RepL] at hr1 ⊢
     rw [RepC] at hr1 ⊢
     obtain ⟨ob, d, hh, q1, q2, q3, q4, q5⟩ := hr1
     have := link_n hx h0 q5
     subst this
     exact ⟨ob, d, hh, q1, q2, q3, q4, sub_comp q5 hs hpos⟩
   cases y with
   | v z =>
    rw [AfterL] at h1
    cases t with
    | v q =>
     simp only [backBox] at hb
     obtain ⟨l, k1, k2⟩ := Option.map_eq_some_iff.1 hb
     exact fin (t' := .v z) (by rw [RepL]; exact ⟨h1.1, h1.2.1⟩) k1 k2.symm
    | _ => simp [backBox] at hb
   | z =>
    rw [AfterL] at h1
    cases t with
    | z =>
     simp only [backBox] at hb
     obtain ⟨l, k1, k2⟩ := Option.map_eq_some_iff.1 hb
     exact fin (t' := .z) (by rw [RepL]; exact h1.1) k1 k2.symm
    | _ => simp [backBox] at hb
   | r e' n' zs =>
    cases x with
    | r e n zs0 =>
     rw [AfterL] at h1
     obtain ⟨rfl, rfl, k, _⟩ := h1
     cases t with
     | l i p off m =>
      simp only [backBox] at hb
      obtain ⟨l, k1, k2⟩ := Option.map_eq_some_iff.1 hb
      exact fin (sub (.inr rfl) k hpx (.inr ⟨i, p, off, m, rfl⟩)) k1 k2.symm
     | h =>
      simp only [backBox] at hb
      obtain ⟨l, k1, k2⟩ := Option.map_eq_some_iff.1 hb
      exact fin (sub (.inr rfl) k hpx (.inl rfl)) k1 k2.symm
     | _ => simp [backBox] at hb
    | _ => simp [AfterL] at h1
   | s e' n' zs =>
    cases x with
    | s e n zs0 =>
     rw [AfterL] at h1
     obtain ⟨rfl, rfl, k, _⟩ := h1
     cases t with
     | l i p off m =>
      simp only [backBox] at hb
      obtain ⟨l, k1, k2⟩ := Option.map_eq_some_iff.1 hb
      exact fin (sub (.inl rfl) k hpx (.inr ⟨i, p, off, m, rfl⟩)) k1 k2.symm
     | h =>
      simp only [backBox] at hb
      obtain ⟨l, k1, k2⟩ := Option.map_eq_some_iff.1 hb
      exact fin (sub (.inl rfl) k hpx (.inl rfl)) k1 k2.symm
     | _ => simp [backBox] at hb
    | _ => simp [AfterL] at h1
   | l _ _ _ _ => cases x <;> simp [AfterL] at h1
   | h => cases x <;> simp [AfterL] at h1
 | [], _ :: _, us, us', ts, ts', B1, O2, ha, hp, hr, hb => by rw [AfterLs] at ha; exact ha.elim; all_goals simp
 | _ :: _, [], us, us', ts, ts', B1, O2, ha, hp, hr, hb => by rw [AfterLs] at ha; exact ha.elim; all_goals simp
theorem RepO_box {ob : Obj} {hd : Value} {Ox Rx : List Nat} (hk : ob.k = .box) (h : ∃ g cs, hd = .slice (some ⟨g, 0, none⟩) 1 1 ∧ W.heap[g]? = some (.cells cs ob.e (0, 0)) ∧ Ox = [g] ∧ Rx = [] ∧ RepLs P W o loc ob.xs cs.toList) : RepO P W o loc ob hd Ox Rx := by
 unfold RepO
 rw [hk]
 exact h
theorem Mid.box {id g : Nat} {e : TypeId} {xs ys xs0 : List T} {cs cs' : Array Value} {B1 : List Nat} {Q : List Item} {D B O2 : List Nat} {ob : Obj} {ts' : List T} (h : Mid P w0 mine a w w1 loc σ O R (.box id e xs g :: Q) D B) (hw : w.heap[g]? = some (.cells cs e (0, 0))) (hw1 : w1.heap[g]? = some (.cells cs' e (0, 0))) (ha : AfterLs P w w1 xs0 ys cs.toList cs'.toList B1 O2) (hp : ∀ x ∈ xs0, posT P x) (hg : g ∉ B)
  (hl : lk σ.o id = some ob) (hb : backBox ob.xs ys = some ts') :
  ∃ O' R', Mid P w0 mine a w w1 loc ⟨σ.t, ins σ.o id ⟨ob.k, ob.e, ts'⟩⟩ O' R' Q (D ++ [g]) (B ++ [g]) := by
 obtain ⟨ob', hl', hk, he, hsc, hloc⟩ := h.items _ (List.mem_cons_self)
 rw [hl] at hl'
 injection hl' with hl'
 subst hl'
 have hnd := h.nodup
 rw [pend_cons] at hnd
 have hnd := List.nodup_append.1 hnd
 have hbel := h.below
 rw [pend_cons] at hbel
 have hob := h.cor.inv.obj id ob hl
 unfold RepO at hob
 rw [hk] at hob
 obtain ⟨g', cs0, e1, e2, e3, e4, e5⟩ := hob
 rw [hloc] at e1
 injection e1 with e1
 injection e1 with e1
 injection e1 with e1
 subst e1
 have hcs : cs0 = cs := by
  rw [mix_in (by rw [pend_cons]; simp [Item.B]) (hbel g (by simp [Item.B])) h.size, hw] at e2
  injection e2 with e2
  injection e2 with e2
  exact e2.symm
 subst hcs
 have hgS : g ∉ pend Q := fun hS => hnd.2.2 g (by simp [Item.B]) g hS rfl
 have hrep := backBox_rep ha hp e5 hb
 refine Mid.turned h (σ' := ⟨σ.t, ins σ.o id ⟨ob.k, ob.e, ts'⟩⟩) ?_ rfl
 have hkeep : ∀ b, b ∉ [g] → (mix w w1 (pend Q)).heap[b]? = (mix w w1 (pend (.box id e xs g :: Q))).heap[b]? := fun b hb' => mix_step hb' hbel h.size
 have hc := h.cor.replace (w1 := mix w w1 (pend Q)) (ob' := ⟨ob.k, ob.e, ts'⟩) (O' := [g]) (R' := []) hl rfl rfl (fun _ _ => false) (by rw [mix_size, mix_size]; exact Nat.le_refl _) ⟨rfl, rfl, rfl⟩ (fun b _ hb' => hkeep b (by rw [e3] at hb'; exact hb')) (fun hT => by
  rw [scrOb_box (by exact hk)]
  refine RepO_box hk ?_
  refine ⟨g, cs', hloc, ?_, rfl, rfl, RepLs_tr (fun j p hf => (hT j p hf).trans (Tr_scrO j p)) hrep⟩
  rw [mix_out hgS, he]
  exact hw1) (by simp) (fun b hb' => .inl (by rw [e3]; exact hb')) (fun b hb' => by simp at hb') (fun _ b hb' => .inl (by rw [e3]; exact hb')) (fun p d h0 _ hbx hd hh => by
  have := hbx hk
  subst this
  rw [down] at hd ⊢
  injection hd with hd
  subst hd
  rw [HdrAt] at hh ⊢
  exact ⟨_, rfl, rfl, hh⟩)
 rw [scrub_none] at hc
 refine ⟨_, _, hc, ⟨fun j obj hne hlj => ⟨obj, by show lk (ins σ.o id _) j = _; rw [lk_ins, if_neg (fun e => hne e.symm)]; exact hlj, rfl, rfl, fun _ => rfl, fun _ _ h => h⟩, fun i hi => by simp [Item.foot] at hi, hkeep, fun b hb' => by
  show b ∈ O id
  rw [e3]
  exact hb', ob, hl⟩, fun j obj hlj b hb' => ?_⟩
 have hlj : lk (ins σ.o id ⟨ob.k, ob.e, ts'⟩) j = some obj := hlj
 by_cases hj : j = id
 ·subst hj
  rw [upd_same] at hb'
  exact .inl hb'
 ·rw [upd_other _ _ hj] at hb'
  rw [lk_ins, if_neg (fun e => hj e.symm)] at hlj
  exact .inr ⟨hb', fun h1 => h.cor.inv.disj j id obj ob hj hlj hl b hb' (by rw [e3]; exact h1), obj, hlj⟩
end Go.Proofs.YtemghdnofgjnmaaDoor.VM

/- Behind a call: all arguments. -/
namespace Go.Proofs.YtemghdnofgjnmaaDoor.VM
open Go Go.Proofs.YtemghdnofgjnmaaDoorW.PrintWords
set_option linter.unusedVariables false
set_option linter.unusedSimpArgs false
variable {P : Program} {w w1 w2 w0 W W' : World} {mine : Ctx} {o o1 o2 : OM} {loc loc1 loc2 : Nat → Value} {O R : Nat → List Nat} {σ σ1 σ2 σ' : St} {a : Act} {c : Ctx}

abbrev Lnk := Option (Nat × List Nat × Nat × Nat)
def C.at : C → Lnk
 | .sl id p off n => some (id, p, off, n)
 | _ => none
def T.at : T → Lnk
 | .l id p off n => some (id, p, off, n)
 | _ => none
/-- What awaits its turn of a cell of an argument. -/
def PndT (P : Program) (own : Bool) (s : Lnk) (x : T) (v : Value) (B : List Nat) (L : List Item) : Prop :=
 match own, s with
 | true, some (id, p, off, n) => off = 0 ∧ ∃ e xs, x = .s e n xs ∧ L = [.row id p n e xs v B]
 | _, _ => (∀ e n xs, x ≠ .s e n xs) ∧ B = [] ∧ L = []
def PndTs (P : Program) (w : World) (own : Bool) : List Lnk → List T → List Value → List Nat → List Item → Prop
 | [], [], us, B, L => us = [] ∧ B = [] ∧ L = []
 | s :: ss, x :: xs, us, B, L => ∃ u us' B1 R1 B' L1 L', us = u :: us' ∧ RepT P w x u B1 R1 ∧ PndT P own s x u B1 L1 ∧ PndTs P w own ss xs us' B' L' ∧ B = B1 ++ B' ∧ L = L1 ++ L'
 | _, _, _, _, _ => False
def PndB (P : Program) (w : World) (own : Bool) (y : AV) (x : A) (v : Value) (B : List Nat) (L : List Item) : Prop :=
 ∃ id g e ts xs B' L' cs, y = .ptr id [] 0 ∧ x = .box e xs ∧ v = .pointer (some ⟨g, 0, none⟩) ∧ w.heap[g]? = some (.cells cs e (0, 0)) ∧ PndTs P w own (ts.map T.at) xs cs.toList B' L' ∧ (∀ x ∈ xs, posT P x) ∧ B = B' ++ [g] ∧ L = L' ++ [.box id e ts g]
def PndBs (P : Program) (w : World) (own : Bool) : List AV → List A → List Value → List Nat → List Item → Prop
 | [], [], us, B, L => us = [] ∧ B = [] ∧ L = []
 | y :: ys, x :: xs, us, B, L => ∃ u us' B1 R1 B' L1 L', us = u :: us' ∧ RepA P w x u B1 R1 ∧ PndB P w own y x u B1 L1 ∧ PndBs P w own ys xs us' B' L' ∧ B = B1 ++ B' ∧ L = L1 ++ L'
 | _, _, _, _, _ => False
def Pnd (P : Program) (w : World) (own : Bool) : AV → A → Value → List Nat → List Item → Prop
 | .c y, x, v, B, L => ∃ x', x = .c x' ∧ PndT P own y.at x' v B L
 | .agg ys, x, v, B, L => ∃ (xs : List T) (us : List Value), x = .agg xs ∧ v = .agg us.toArray ∧ PndTs P w own (ys.map C.at) xs us B L
 | .fn f ys, x, v, B, L => ∃ (as : List A) (us : List Value), x = .fn f as ∧ v = .func (.func f) #[] us.toArray ∧ PndBs P w own ys as us B L
 | y, x, v, B, L => PndB P w own y x v B L
def Pnds (P : Program) (w : World) (own : Nat → Bool) : Nat → List AV → List A → List Value → List Nat → List Item → Prop
 | _, [], [], us, B, L => us = [] ∧ B = [] ∧ L = []
 | i, y :: ys, x :: xs, us, B, L => ∃ u us' B1 R1 B' L1 L', us = u :: us' ∧ RepA P w x u B1 R1 ∧ Pnd P w (own i) y x u B1 L1 ∧ Pnds P w own (i + 1) ys xs us' B' L' ∧ B = B1 ++ B' ∧ L = L1 ++ L'
 | _, _, _, _, _, _ => False
/-- The items, and what they lead to. -/
def Pds (P : Program) (w : World) (o : OM) (loc : Nat → Value) (L : List Item) (B : List Nat) (F : List Foot) : Prop :=
 (∀ q ∈ L, ItemOk P w o loc q) ∧ (L.map Item.foot).Sublist F ∧ pend L = B
theorem Pds.nil {F : List Foot} : Pds P w o loc [] [] F := ⟨fun q hq => by simp at hq, List.nil_sublist _, rfl⟩
theorem pend_append {L1 L2 : List Item} : pend (L1 ++ L2) = pend L1 ++ pend L2 := by simp [pend]
theorem Pds.append {L1 L2 : List Item} {B1 B2 : List Nat} {F1 F2 : List Foot} (h1 : Pds P w o loc L1 B1 F1) (h2 : Pds P w o loc L2 B2 F2) : Pds P w o loc (L1 ++ L2) (B1 ++ B2) (F1 ++ F2) := by
 refine ⟨fun q hq => (List.mem_append.1 hq).elim (h1.1 q) (h2.1 q), ?_, ?_⟩
 ·rw [List.map_append]
  exact List.Sublist.append h1.2.1 h2.2.1
 ·rw [pend_append, h1.2.2, h2.2.2]
theorem rowE_pend (h : Cor P w0 mine σ a w loc O R) {own : Bool} {e : TypeId} {id off n : Nat} {p : List Nat} {v : Value} (hv : RepC P w σ.o loc (.sl id p off n) v) {x : T} (hx : σ.rowE P own e id p off n = some x) {B R1 : List Nat} (hr : RepT P w x v B R1) :
  ∃ L, PndT P own (some (id, p, off, n)) x v B L ∧ Pds P w σ.o loc L B [(own, id, p)] ∧ posT P x := by
 unfold St.rowE at hx
 cases own with
 | true =>
  obtain ⟨O1, k1, k2, k3, rfl, k5, ob, xs, rfl, k6, k7, k8, h', k9, k10, k11, k12⟩ := ownE_sound h hv hx
  obtain ⟨rfl, _⟩ := RepT_fun hr k1
  exact ⟨_, ⟨rfl, e, xs, rfl, rfl⟩, ⟨fun q hq => by
   simp at hq
   subst hq
   exact ⟨k5, k12, ob, h', k6, k7, k8, k9, k11, k10⟩, by simp [Item.foot], by simp [pend, Item.B]⟩, k12⟩
 | false =>
  have hx2 : σ.argE P e id p off n = some x := hx
  obtain ⟨R2, k1, k2, k3, xs, rfl⟩ := argE_sound h hv hx2
  obtain ⟨rfl, _⟩ := RepT_fun hr k1
  have hpos : 0 < P.cellsOf e := by
   unfold St.argE at hx2
   obtain ⟨⟨own, ys⟩, hc, _⟩ := Option.map_eq_some_iff.1 hx2
   obtain ⟨xs, _, hok, _, _⟩ := cellsOf_some hc
   obtain ⟨i, z, _, _, hsz, _, _, hce⟩ := elemOk_some hok
   omega
  exact ⟨[], ⟨fun e n xs h => by simp at h, rfl, rfl⟩, Pds.nil, hpos⟩
theorem none_pend {own : Bool} {x : T} {v : Value} (hx : ∀ e n xs, x ≠ .s e n xs) : PndT P own none x v [] [] := by
 cases own <;> exact ⟨hx, rfl, rfl⟩
theorem argC_pend (h : Cor P w0 mine σ a w loc O R) {own : Bool} {t : TypeId} {y : C} {v : Value} (hv : RepC P w σ.o loc y v) {x : T} (hx : σ.argC P own t y = some x) {B R1 : List Nat} (hr : RepT P w x v B R1) :
  ∃ L, PndT P own y.at x v B L ∧ Pds P w σ.o loc L B (y.feet own) := by
 cases y with
 | v q =>
  simp only [St.argC, Option.some.injEq] at hx
  subst hx
  rw [RepT] at hr
  obtain ⟨_, _, rfl, _⟩ := hr
  exact ⟨[], none_pend (fun e n xs h => by simp at h), Pds.nil⟩
 | z =>
  simp only [St.argC, Option.some.injEq] at hx
  subst hx
  rw [RepT] at hr
  obtain ⟨rfl, _⟩ := hr
  exact ⟨[], none_pend (fun e n xs h => by simp at h), Pds.nil⟩
 | sl id p off n =>
  obtain ⟨L, k1, k2, _⟩ := rowE_pend h hv hx hr
  exact ⟨L, k1, k2⟩
theorem argCs_pend (h : Cor P w0 mine σ a w loc O R) {own : Bool} : ∀ {ts : List TypeId} {ys : List C} {us : List Value} {xs : List T} {B R1 : List Nat}, RepCs P w σ.o loc ys us → σ.argCs P own ts ys = some xs → RepTs P w xs us B R1 →
  ∃ L, PndTs P w own (ys.map C.at) xs us B L ∧ Pds P w σ.o loc L B (csFeet own ys)
 | [], [], us, xs, B, R1, hv, hx, hr => by
  simp only [St.argCs, Option.some.injEq] at hx
  subst hx
  rw [RepTs] at hr
  obtain ⟨rfl, rfl, _⟩ := hr
  exact ⟨[], by rw [List.map_nil, PndTs]; exact ⟨rfl, rfl, rfl⟩, Pds.nil⟩
 | t :: ts, y :: ys, us, xs, B, R1, hv, hx, hr => by
  simp only [St.argCs] at hx
  obtain ⟨x, h1, hx⟩ := Option.bind_eq_some_iff.1 hx
  obtain ⟨xs', h2, hx⟩ := Option.bind_eq_some_iff.1 hx
  injection hx with hx
  subst hx
  rw [RepCs] at hv
  obtain ⟨u, us', rfl, hv1, hv2⟩ := hv
  rw [RepTs] at hr
  obtain ⟨u2, us2, O1, Ra, O2, Rb, he, r1, r2, rfl, rfl⟩ := hr
  injection he with e1 e2
  subst e1; subst e2
  obtain ⟨L1, k1, k2⟩ := argC_pend h hv1 h1 r1
  obtain ⟨L2, j1, j2⟩ := argCs_pend h hv2 h2 r2
  exact ⟨L1 ++ L2, by rw [List.map_cons, PndTs]; exact ⟨u, us', O1, Ra, O2, L1, L2, rfl, r1, k1, j1, rfl, rfl⟩, k2.append j2⟩
 | [], _ :: _, us, xs, B, R1, hv, hx, hr => by simp [St.argCs] at hx
 | _ :: _, [], us, xs, B, R1, hv, hx, hr => by simp [St.argCs] at hx
theorem boxT_pend (h : Cor P w0 mine σ a w loc O R) {own : Bool} : ∀ {ys : List T} {us : List Value} {xs : List T} {B R1 : List Nat}, RepLs P w σ.o loc ys us → σ.boxT P own ys = some xs → RepTs P w xs us B R1 →
  ∃ L, PndTs P w own (ys.map T.at) xs us B L ∧ Pds P w σ.o loc L B (tsFeet own ys) ∧ ∀ x ∈ xs, posT P x
 | [], us, xs, B, R1, hv, hx, hr => by
  simp only [St.boxT, Option.some.injEq] at hx
  subst hx
  rw [RepTs] at hr
  obtain ⟨rfl, rfl, _⟩ := hr
  exact ⟨[], by rw [List.map_nil, PndTs]; exact ⟨rfl, rfl, rfl⟩, Pds.nil, fun x hx => by simp at hx⟩
 | y :: ys, us, xs, B, R1, hv, hx, hr => by
  rw [RepLs] at hv
  obtain ⟨u, us', rfl, hv1, hv2⟩ := hv
  have fin : ∀ {x : T} {xs' : List T}, σ.boxT P own ys = some xs' → xs = x :: xs' → posT P x → (∀ O1 Ra, RepT P w x u O1 Ra → ∃ L1, PndT P own y.at x u O1 L1 ∧ Pds P w σ.o loc L1 O1 (y.feet own)) →
    ∃ L, PndTs P w own ((y :: ys).map T.at) xs (u :: us') B L ∧ Pds P w σ.o loc L B (tsFeet own (y :: ys)) ∧ ∀ x ∈ xs, posT P x := by
   intro x xs' h2 e hp hk
   subst e
   rw [RepTs] at hr
   obtain ⟨u2, us2, O1, Ra, O2, Rb, he, r1, r2, rfl, rfl⟩ := hr
   injection he with e1 e2
   subst e1; subst e2
   obtain ⟨L1, k1, k2⟩ := hk O1 Ra r1
   obtain ⟨L2, j1, j2, j3⟩ := boxT_pend h hv2 h2 r2
   exact ⟨L1 ++ L2, by rw [List.map_cons, PndTs]; exact ⟨u, us', O1, Ra, O2, L1, L2, rfl, r1, k1, j1, rfl, rfl⟩, k2.append j2, fun q hq => (List.mem_cons.1 hq).elim (fun e => by rw [e]; exact hp) (j3 q)⟩
  cases y with
  | v q =>
   simp only [St.boxT] at hx
   obtain ⟨xs', h2, e⟩ := Option.map_eq_some_iff.1 hx
   refine fin h2 e.symm trivial fun O1 Ra r => ?_
   rw [RepT] at r
   obtain ⟨_, _, rfl, _⟩ := r
   exact ⟨[], none_pend (fun e n xs h => by simp at h), Pds.nil⟩
  | z =>
   simp only [St.boxT] at hx
   obtain ⟨xs', h2, e⟩ := Option.map_eq_some_iff.1 hx
   refine fin h2 e.symm trivial fun O1 Ra r => ?_
   rw [RepT] at r
   obtain ⟨_, rfl, _⟩ := r
   exact ⟨[], none_pend (fun e n xs h => by simp at h), Pds.nil⟩
  | l id p off n =>
   simp only [St.boxT] at hx
   obtain ⟨⟨_, e, _⟩, h1, hx⟩ := Option.bind_eq_some_iff.1 hx
   obtain ⟨x, h2, hx⟩ := Option.bind_eq_some_iff.1 hx
   obtain ⟨xs', h3, e'⟩ := Option.map_eq_some_iff.1 hx
   rw [RepL] at hv1
   obtain ⟨O1, R2, q1, _, _⟩ := rowE_sound h hv1 h2
   obtain ⟨_, _, _, q2⟩ := rowE_pend h hv1 h2 q1
   refine fin h3 e'.symm q2 fun O1 Ra r => ?_
   obtain ⟨L, k1, k2, _⟩ := rowE_pend h hv1 h2 r
   exact ⟨L, k1, k2⟩
  | s _ _ _ => simp [St.boxT] at hx
  | r _ _ _ => simp [St.boxT] at hx
  | h => simp [St.boxT] at hx
theorem argBox_pend (h : Cor P w0 mine σ a w loc O R) {own : Bool} {y : AV} {v : Value} (hv : RepAV P w σ.o loc y v) {x : A} (hx : σ.argBox P own y = some x) {B R1 : List Nat} (hr : RepA P w x v B R1) :
  ∃ L, PndB P w own y x v B L ∧ Pds P w σ.o loc L B (σ.boxFeet own y) := by
 unfold St.argBox at hx
 split at hx
 ·rename_i id
  split at hx
  ·rename_i e ys hl
   obtain ⟨xs, h1, rfl⟩ := Option.map_eq_some_iff.1 hx
   obtain ⟨g, cs, rfl, k1, k2, k3, k4, k5⟩ := box_at h hv hl
   rw [RepA] at hr
   obtain ⟨g', cs', O', he, hg, r1, rfl⟩ := hr
   injection he with he
   injection he with he
   injection he with he
   subst he
   rw [k1] at hg
   injection hg with hg
   injection hg with hg
   subst hg
   obtain ⟨L, j1, j2, j3⟩ := boxT_pend h k4 h1 r1
   refine ⟨L ++ [.box id e ys g], ⟨id, g, e, ys, xs, O', L, cs, rfl, rfl, rfl, k1, j1, j3, rfl, rfl⟩, ?_⟩
   simp only [St.boxFeet, hl]
   refine j2.append (B2 := [g]) ⟨fun q hq => ?_, by simp [Item.foot], by simp [pend, Item.B]⟩
   simp at hq
   subst hq
   exact ⟨_, hl, rfl, rfl, ScrL.refl, k5⟩
  ·simp at hx
 ·simp at hx
theorem argBoxes_pend (h : Cor P w0 mine σ a w loc O R) {own : Bool} : ∀ {ys : List AV} {us : List Value} {xs : List A} {B R1 : List Nat}, RepAVs P w σ.o loc ys us → σ.argBoxes P own ys = some xs → RepAs P w xs us B R1 →
  ∃ L, PndBs P w own ys xs us B L ∧ Pds P w σ.o loc L B (σ.boxesFeet own ys)
 | [], us, xs, B, R1, hv, hx, hr => by
  simp only [St.argBoxes, Option.some.injEq] at hx
  subst hx
  rw [RepAs] at hr
  obtain ⟨rfl, rfl, _⟩ := hr
  exact ⟨[], by rw [PndBs]; exact ⟨rfl, rfl, rfl⟩, Pds.nil⟩
 | y :: ys, us, xs, B, R1, hv, hx, hr => by
  simp only [St.argBoxes] at hx
  obtain ⟨x, h1, hx⟩ := Option.bind_eq_some_iff.1 hx
  obtain ⟨xs', h2, hx⟩ := Option.map_eq_some_iff.1 hx
  subst hx
  rw [RepAVs] at hv
  obtain ⟨u, us', rfl, hv1, hv2⟩ := hv
  rw [RepAs] at hr
  obtain ⟨u2, us2, O1, Ra, O2, Rb, he, r1, r2, rfl, rfl⟩ := hr
  injection he with e1 e2
  subst e1; subst e2
  obtain ⟨L1, k1, k2⟩ := argBox_pend h hv1 h1 r1
  obtain ⟨L2, j1, j2⟩ := argBoxes_pend h hv2 h2 r2
  exact ⟨L1 ++ L2, by rw [PndBs]; exact ⟨u, us', O1, Ra, O2, L1, L2, rfl, r1, k1, j1, rfl, rfl⟩, k2.append j2⟩
theorem arg_pend (h : Cor P w0 mine σ a w loc O R) {own : Bool} {t : TypeId} {y : AV} {v : Value} (hv : RepAV P w σ.o loc y v) {x : A} (hx : σ.arg P own t y = some x) {B R1 : List Nat} (hr : RepA P w x v B R1) :
  ∃ L, Pnd P w own y x v B L ∧ Pds P w σ.o loc L B (σ.feet own y) := by
 cases y with
 | c y =>
  simp only [St.arg] at hx
  obtain ⟨q, h1, rfl⟩ := Option.map_eq_some_iff.1 hx
  rw [RepA] at hr
  obtain ⟨L, k1, k2⟩ := argC_pend h (c_rep hv) h1 hr
  exact ⟨L, ⟨q, rfl, k1⟩, k2⟩
 | agg ys =>
  simp only [St.arg] at hx
  obtain ⟨q, h1, rfl⟩ := Option.map_eq_some_iff.1 hx
  rw [RepAV] at hv
  obtain ⟨us, rfl, hv⟩ := hv
  rw [RepA] at hr
  obtain ⟨us', he, hr⟩ := hr
  have e : us = us' := by
   injection he with he
   simpa using he
  subst e
  obtain ⟨L, k1, k2⟩ := argCs_pend h hv h1 hr
  exact ⟨L, ⟨q, us, rfl, rfl, k1⟩, k2⟩
 | fn f ys =>
  simp only [St.arg] at hx
  obtain ⟨q, h1, rfl⟩ := Option.map_eq_some_iff.1 hx
  rw [RepAV] at hv
  obtain ⟨us, rfl, hv⟩ := hv
  rw [RepA] at hr
  obtain ⟨us', he, hr⟩ := hr
  have e : us = us' := by
   injection he with _ _ he
   simpa using he
  subst e
  obtain ⟨L, k1, k2⟩ := argBoxes_pend h hv h1 hr
  exact ⟨L, ⟨q, us, rfl, rfl, k1⟩, k2⟩
 | ptr id p off => exact argBox_pend (own := own) h hv hx hr
 | tup ys => exact argBox_pend (own := own) h hv hx hr
 | u => exact argBox_pend (own := own) h hv hx hr
 | unk n => exact argBox_pend (own := own) h hv hx hr
 | nn => exact argBox_pend (own := own) h hv hx hr
theorem args_pend (h : Cor P w0 mine σ a w loc O R) {own : Nat → Bool} : ∀ {i : Nat} {ts : List TypeId} {ys : List AV} {us : List Value} {xs : List A} {B R1 : List Nat}, RepAVs P w σ.o loc ys us → σ.args P own i ts ys = some xs → RepAs P w xs us B R1 →
  ∃ L, Pnds P w own i ys xs us B L ∧ Pds P w σ.o loc L B (σ.feets own i ys)
 | i, [], [], us, xs, B, R1, hv, hx, hr => by
  simp only [St.args, Option.some.injEq] at hx
  subst hx
  rw [RepAs] at hr
  obtain ⟨rfl, rfl, _⟩ := hr
  exact ⟨[], by rw [Pnds]; exact ⟨rfl, rfl, rfl⟩, Pds.nil⟩
 | i, t :: ts, y :: ys, us, xs, B, R1, hv, hx, hr => by
  simp only [St.args] at hx
  obtain ⟨x, h1, hx⟩ := Option.bind_eq_some_iff.1 hx
  obtain ⟨xs', h2, hx⟩ := Option.bind_eq_some_iff.1 hx
  injection hx with hx
  subst hx
  rw [RepAVs] at hv
  obtain ⟨u, us', rfl, hv1, hv2⟩ := hv
  rw [RepAs] at hr
  obtain ⟨u2, us2, O1, Ra, O2, Rb, he, r1, r2, rfl, rfl⟩ := hr
  injection he with e1 e2
  subst e1; subst e2
  obtain ⟨L1, k1, k2⟩ := arg_pend h hv1 h1 r1
  obtain ⟨L2, j1, j2⟩ := args_pend h hv2 h2 r2
  exact ⟨L1 ++ L2, by rw [Pnds]; exact ⟨u, us', O1, Ra, O2, L1, L2, rfl, r1, k1, j1, rfl, rfl⟩, k2.append j2⟩
 | i, [], _ :: _, us, xs, B, R1, hv, hx, hr => by simp [St.args] at hx
 | i, _ :: _, [], us, xs, B, R1, hv, hx, hr => by simp [St.args] at hx
theorem aparts_pairwise : ∀ {l : List Foot}, aparts l = true → l.Pairwise fun x y => apart1 x y = true
 | [], _ => List.Pairwise.nil
 | x :: l, h => by
  rw [aparts, Bool.and_eq_true] at h
  exact List.pairwise_cons.2 ⟨fun y hy => List.all_eq_true.1 h.1 y hy, aparts_pairwise h.2⟩
/-- In the beginning. -/
theorem mid_start (h : Cor P w0 mine σ a w loc O R) {own : Nat → Bool} {i : Nat} {ts : List TypeId} {ys : List AV} {us : List Value} {xs : List A} (hv : RepAVs P w σ.o loc ys us) (hx : σ.args P own i ts ys = some xs) (hap : aparts (σ.feets own i ys) = true) {Ox Rx : List Nat} {gd : Guard} (hg : Given gd P w xs us Ox Rx) (hz : w.heap.size ≤ w1.heap.size) (hst : Still w w1) (hk : ∀ b, b < w.heap.size → b ∉ Ox → w1.heap[b]? = w.heap[b]?) :
  ∃ L, Pnds P w own i ys xs us Ox L ∧ Mid P w0 mine a w w1 loc σ O R L [] [] := by
 obtain ⟨L, k1, k2, k3, k4⟩ := args_pend h hv hx hg.rep
 have hmix : ∀ b, b < w.heap.size → (mix w w1 (pend L)).heap[b]? = w.heap[b]? := fun b hb => by
  by_cases hS : b ∈ pend L
  ·exact mix_in hS hb hz
  ·rw [mix_out hS]
   exact hk b hb (by rw [← k4]; exact hS)
 refine ⟨L, k1, ⟨h.grow (by rw [mix_size]; exact hz) ⟨hst.os, hst.tape, hst.output⟩ hmix, fun q hq => ?_, (aparts_pairwise hap).sublist k3, by rw [k4]; exact hg.nodup, fun b hb => hg.own b (by rw [← k4]; exact hb), hz, h.inv.size, fun j ob hl b hb hc => ?_⟩⟩
 ·have := k2 q hq
  cases q with
  | box id e ts g => exact this
  | row id p n e zs v B =>
   obtain ⟨q1, q2, ob, h', q3, q4, q5, q6, q7, q8⟩ := this
   have hob := h.inv.obj id ob q3
   unfold RepO at hob
   rw [q4] at hob
   obtain ⟨n0, hob⟩ := hob
   have hB : ∀ b ∈ B, b ∈ pend L := fun b hb => List.mem_flatten.2 ⟨B, List.mem_map.2 ⟨_, hq, rfl⟩, hb⟩
   refine ⟨q1, q2, ob, h', q3, q4, q5, HdrAt_move (own := true) (fun b hb => hmix b ?_) hob q5 q6, q7, RepT_move _ (fun b hb => hmix b (hg.own b (by rw [← k4]; exact hB b (hb.resolve_right (by simp))))) q8⟩
   rcases hb with hb | hb
   ·exact (h.inv.own_ id ob q3 b hb).1
   ·exact Nat.lt_of_lt_of_le (h.inv.ro id ob q3 b hb).1 h.inv.size
 ·rcases hc with hc | hc
  ·simp at hc
  ·have := (h.inv.own_ j ob hl b hb).1
   omega
end Go.Proofs.YtemghdnofgjnmaaDoor.VM

/- Behind a call: all arguments have their turn. -/
namespace Go.Proofs.YtemghdnofgjnmaaDoor.VM
open Go Go.Proofs.YtemghdnofgjnmaaDoorW.PrintWords
set_option linter.unusedVariables false
set_option linter.unusedSimpArgs false
variable {P : Program} {w w1 w2 w0 W W' : World} {mine : Ctx} {o o1 o2 : OM} {loc loc1 loc2 : Nat → Value} {O R : Nat → List Nat} {σ σ1 σ2 σ' : St} {a : Act} {c : Ctx}

/-- New blocks: what is held behind the call. -/
structure New (w1 : World) (O2 B0 : List Nat) : Prop where
 nodup : O2.Nodup
 lt : ∀ b ∈ O2, b < w1.heap.size
 far : ∀ b ∈ O2, b ∉ B0
theorem New.left {Oa Ob B0 : List Nat} (h : New w1 (Oa ++ Ob) B0) : New w1 Oa B0 := ⟨(List.nodup_append.1 h.nodup).1, fun b hb => h.lt b (List.mem_append_left _ hb), fun b hb => h.far b (List.mem_append_left _ hb)⟩
theorem New.right {Oa Ob B0 : List Nat} (h : New w1 (Oa ++ Ob) B0) : New w1 Ob (B0 ++ Oa) := by
 have hn := List.nodup_append.1 h.nodup
 refine ⟨hn.2.1, fun b hb => h.lt b (List.mem_append_right _ hb), fun b hb hb' => ?_⟩
 rcases List.mem_append.1 hb' with hb' | hb'
 ·exact h.far b (List.mem_append_right _ hb) hb'
 ·exact hn.2.2 b hb' b hb rfl
/-- Some of it has had its turn. -/
def Done (P : Program) (w0 : World) (mine : Ctx) (a : Act) (w w1 : World) (loc : Nat → Value) (σ' : St) (Q : List Item) (D B : List Nat) : Prop := ∃ O' R', Mid P w0 mine a w w1 loc σ' O' R' Q D B
theorem pndT_none {own : Bool} {s : Lnk} {x : T} {v : Value} {B : List Nat} {L : List Item} (h : PndT P own s x v B L) (hs : own = false ∨ s = none ∨ ∀ e n xs, x ≠ .s e n xs) : (∀ e n xs, x ≠ .s e n xs) ∧ B = [] ∧ L = [] := by
 unfold PndT at h
 split at h
 ·rename_i id p off n
  obtain ⟨_, e, xs, rfl, _⟩ := h
  rcases hs with hs | hs | hs
  ·simp at hs
  ·simp at hs
  ·exact absurd rfl (hs e n xs)
 ·exact h
theorem afterT_none {x y : T} {v : Value} {B O2 : List Nat} (hx : ∀ e n xs, x ≠ .s e n xs) (h : AfterT P w w1 x y v B O2) : O2 = [] := by
 cases x with
 | s e n xs => exact absurd rfl (hx e n xs)
 | _ => cases y <;> simpa [AfterT] using h
theorem stay {L Q : List Item} {D B0 : List Nat} (h : Mid P w0 mine a w w1 loc σ O R (L ++ Q) D B0) {B O2 : List Nat} (hL : L = []) (hB : B = []) (hO : O2 = []) : Done P w0 mine a w w1 loc σ Q (D ++ B) (B0 ++ O2) := by
 subst hL; subst hB; subst hO
 rw [List.append_nil, List.append_nil]
 exact ⟨O, R, h⟩
theorem backC_done {own : Bool} {y : C} {x t : T} {v : Value} {B O2 D B0 : List Nat} {L Q : List Item} (h : Mid P w0 mine a w w1 loc σ O R (L ++ Q) D B0) (hp : PndT P own y.at x v B L) (ha : AfterT P w w1 x t v B O2) (hn : New w1 O2 B0) (hb : (if own = true then σ.backC y t else some σ) = some σ') : Done P w0 mine a w w1 loc σ' Q (D ++ B) (B0 ++ O2) := by
 cases own with
 | false =>
  obtain ⟨h1, h2, h3⟩ := pndT_none hp (.inl rfl)
  simp only [Bool.false_eq_true, if_false, Option.some.injEq] at hb
  subst hb
  exact stay h h3 h2 (afterT_none h1 ha)
 | true =>
  simp only [if_true] at hb
  cases y with
  | v q =>
   obtain ⟨h1, h2, h3⟩ := pndT_none hp (.inr (.inl rfl))
   have hb : some σ = some σ' := by cases t <;> exact hb
   injection hb with hb
   subst hb
   exact stay h h3 h2 (afterT_none h1 ha)
  | z =>
   obtain ⟨h1, h2, h3⟩ := pndT_none hp (.inr (.inl rfl))
   have hb : some σ = some σ' := by cases t <;> exact hb
   injection hb with hb
   subst hb
   exact stay h h3 h2 (afterT_none h1 ha)
  | sl id p off n =>
   obtain ⟨rfl, e, xs, rfl, rfl⟩ := hp
   exact Mid.row h ha hn.nodup hn.lt hn.far hb
theorem backCs_done {own : Bool} : ∀ {ys : List C} {xs ts : List T} {us : List Value} {B O2 D B0 : List Nat} {L Q : List Item} {σ σ' : St} {O R : Nat → List Nat}, Mid P w0 mine a w w1 loc σ O R (L ++ Q) D B0 → PndTs P w own (ys.map C.at) xs us B L → AfterTs P w w1 xs ts us B O2 → New w1 O2 B0 → (if own = true then σ.backCs ys ts else some σ) = some σ' → Done P w0 mine a w w1 loc σ' Q (D ++ B) (B0 ++ O2)
 | [], [], ts, us, B, O2, D, B0, L, Q, σ, σ', O, R, h, hp, ha, hn, hb => by
  rw [List.map_nil, PndTs] at hp
  obtain ⟨_, rfl, rfl⟩ := hp
  cases ts with
  | nil =>
   rw [AfterTs] at ha
   have hb : some σ = some σ' := by cases own <;> exact hb
   injection hb with hb
   subst hb
   exact stay h rfl rfl ha.2.2
  | cons t ts => rw [AfterTs] at ha; exact ha.elim; all_goals simp
 | y :: ys, x :: xs, ts, us, B, O2, D, B0, L, Q, σ, σ', O, R, h, hp, ha, hn, hb => by
  rw [List.map_cons, PndTs] at hp
  obtain ⟨u, us', B1, R1, B', L1, L', rfl, p1, p2, p3, rfl, rfl⟩ := hp
  cases ts with
  | nil => rw [AfterTs] at ha; exact ha.elim; all_goals simp
  | cons t ts =>
   rw [AfterTs] at ha
   obtain ⟨u2, us2, O1, R2, O', Oa, Ob, he, a1, a2, a3, e3, rfl⟩ := ha
   injection he with e1 e2
   subst e1; subst e2
   obtain ⟨rfl, _⟩ := RepT_fun p1 a1
   have e3 := List.append_cancel_left e3
   subst e3
   rw [List.append_assoc] at h
   cases own with
   | false =>
    obtain ⟨O5, R5, k⟩ := backC_done (y := y) h p2 a2 hn.left (σ' := σ) rfl
    have := backCs_done (own := false) (ys := ys) k p3 a3 hn.right (σ' := σ') hb
    rw [List.append_assoc, List.append_assoc] at this
    exact this
   | true =>
    simp only [if_true, St.backCs] at hb
    obtain ⟨σ1, h1, hb⟩ := Option.bind_eq_some_iff.1 hb
    obtain ⟨O5, R5, k⟩ := backC_done (y := y) h p2 a2 hn.left (σ' := σ1) h1
    have := backCs_done (own := true) (ys := ys) k p3 a3 hn.right (σ' := σ') hb
    rw [List.append_assoc, List.append_assoc] at this
    exact this
 | [], _ :: _, ts, us, B, O2, D, B0, L, Q, σ, σ', O, R, h, hp, ha, hn, hb => by rw [List.map_nil, PndTs] at hp; exact hp.elim; all_goals simp
 | _ :: _, [], ts, us, B, O2, D, B0, L, Q, σ, σ', O, R, h, hp, ha, hn, hb => by rw [List.map_cons, PndTs] at hp; exact hp.elim; all_goals simp
theorem backRows_done {own : Bool} : ∀ {ls : List T} {l : List T} {xs ts : List T} {us us' : List Value} {B O2 D B0 : List Nat} {L Q : List Item} {σ σ' : St} {O R : Nat → List Nat}, Mid P w0 mine a w w1 loc σ O R (L ++ Q) D B0 → PndTs P w own (ls.map T.at) xs us B L → ScrL ls l → AfterLs P w w1 xs ts us us' B O2 → New w1 O2 B0 → σ.backRows l ts = some σ' → Done P w0 mine a w w1 loc σ' Q (D ++ B) (B0 ++ O2)
 | [], l, [], ts, us, us', B, O2, D, B0, L, Q, σ, σ', O, R, h, hp, hsc, ha, hn, hb => by
  rw [List.map_nil, PndTs] at hp
  obtain ⟨_, rfl, rfl⟩ := hp
  cases l with
  | cons _ _ => exact hsc.elim
  | nil =>
   cases ts with
   | nil =>
    rw [AfterLs] at ha
    simp only [St.backRows, Option.some.injEq] at hb
    subst hb
    exact stay h rfl rfl ha.2.2.2
   | cons t ts => rw [AfterLs] at ha; exact ha.elim; all_goals simp
 | l0 :: ls, l, x :: xs, ts, us, us', B, O2, D, B0, L, Q, σ, σ', O, R, h, hp, hsc, ha, hn, hb => by
  rw [List.map_cons, PndTs] at hp
  obtain ⟨u, us1, B1, R1, B', L1, L', rfl, p1, p2, p3, rfl, rfl⟩ := hp
  cases l with
  | nil => exact hsc.elim
  | cons y l =>
  cases ts with
  | nil => rw [AfterLs] at ha; exact ha.elim; all_goals simp
  | cons t ts =>
   rw [AfterLs] at ha
   obtain ⟨u2, us2, u', us1', O1, R2, O', Oa, Ob, he, rfl, a1, a2, a3, e3, rfl⟩ := ha
   injection he with e1 e2
   subst e1; subst e2
   obtain ⟨rfl, _⟩ := RepT_fun p1 a1
   have e3 := List.append_cancel_left e3
   subst e3
   rw [List.append_assoc] at h
   obtain ⟨hs1, hs2⟩ := hsc
   have next : ∀ {σ1 : St}, Done P w0 mine a w w1 loc σ1 (L' ++ Q) (D ++ B1) (B0 ++ Oa) → σ1.backRows l ts = some σ' → Done P w0 mine a w w1 loc σ' Q (D ++ (B1 ++ B')) (B0 ++ (Oa ++ Ob)) := by
    intro σ1 k hb
    obtain ⟨O5, R5, k⟩ := k
    have := backRows_done k p3 hs2 a3 hn.right hb
    rw [List.append_assoc, List.append_assoc] at this
    exact this
   -- a cell that is no own row
   have skip : (∀ e n xs, x ≠ .s e n xs) → Oa = [] → σ.backRows l ts = some σ' → Done P w0 mine a w w1 loc σ' Q (D ++ (B1 ++ B')) (B0 ++ (Oa ++ Ob)) := by
    intro hx hO hb
    obtain ⟨_, h2, h3⟩ := pndT_none p2 (.inr (.inr hx))
    exact next (stay h h3 h2 hO) hb
   cases y with
   | l i p off n =>
    cases t with
    | s e m zs =>
     simp only [St.backRows] at hb
     obtain ⟨σ1, h1, hb2⟩ := Option.bind_eq_some_iff.1 hb
     rcases hs1 with hs1 | hs1
     ·subst hs1
      cases x with
      | s e0 m0 zs0 =>
       rw [AfterL] at a2
       obtain ⟨rfl, rfl, q1, q2, q3⟩ := a2
       have hat : AfterT P w w1 (.s e m zs0) (.s e m zs) u B1 Oa := ⟨rfl, rfl, q2, q3⟩
       unfold PndT at p2
       cases own with
       | false => exact absurd rfl (p2.1 e m zs0)
       | true =>
        obtain ⟨rfl, e5, xs5, hx5, rfl⟩ := p2
        injection hx5 with h5 h6 h7
        subst h5; subst h6; subst h7
        exact next (Mid.row h hat hn.left.nodup hn.left.lt hn.left.far h1) hb2
      | _ => simp [AfterL] at a2
     ·simp at hs1
    | r e m zs =>
     simp only [St.backRows] at hb
     cases x with
     | r e0 m0 zs0 =>
      rw [AfterL] at a2
      exact skip (fun e n xs h => by simp at h) a2.2.2.2 hb
     | _ => simp [AfterL] at a2
    | _ => simp [St.backRows] at hb
   | h =>
    cases t with
    | r e m zs =>
     simp only [St.backRows] at hb
     cases x with
     | r e0 m0 zs0 =>
      rw [AfterL] at a2
      exact skip (fun e n xs h => by simp at h) a2.2.2.2 hb
     | _ => simp [AfterL] at a2
    | _ => simp [St.backRows] at hb
   | v q =>
    cases t with
    | v q' =>
     simp only [St.backRows] at hb
     have hl0 : l0 = .v q := by
      rcases hs1 with hs1 | hs1
      ·exact hs1.symm
      ·simp at hs1
     subst hl0
     obtain ⟨h1, h2, h3⟩ := pndT_none p2 (.inr (.inl rfl))
     have hO : Oa = [] := by rw [AfterL] at a2; exact a2.2.2
     exact skip h1 hO hb
    | _ => simp [St.backRows] at hb
   | z =>
    cases t with
    | z =>
     simp only [St.backRows] at hb
     have hl0 : l0 = .z := by
      rcases hs1 with hs1 | hs1
      ·exact hs1.symm
      ·simp at hs1
     subst hl0
     obtain ⟨h1, h2, h3⟩ := pndT_none p2 (.inr (.inl rfl))
     have hO : Oa = [] := by rw [AfterL] at a2; exact a2.2
     exact skip h1 hO hb
    | _ => simp [St.backRows] at hb
   | s _ _ _ => cases t <;> simp [St.backRows] at hb
   | r _ _ _ => cases t <;> simp [St.backRows] at hb
 | [], _, _ :: _, ts, us, us', B, O2, D, B0, L, Q, σ, σ', O, R, h, hp, hsc, ha, hn, hb => by rw [List.map_nil, PndTs] at hp; exact hp.elim; all_goals simp
 | _ :: _, _, [], ts, us, us', B, O2, D, B0, L, Q, σ, σ', O, R, h, hp, hsc, ha, hn, hb => by rw [List.map_cons, PndTs] at hp; exact hp.elim; all_goals simp
theorem backB_done {own : Bool} {y : AV} {x t : A} {v : Value} {B O2 D B0 : List Nat} {L Q : List Item} (h : Mid P w0 mine a w w1 loc σ O R (L ++ Q) D B0) (hp : PndB P w own y x v B L) (ha : AfterA P w w1 x t v B O2) (hn : New w1 O2 B0) (hb : σ.backB y t = some σ') : Done P w0 mine a w w1 loc σ' Q (D ++ B) (B0 ++ O2) := by
 obtain ⟨id, g, e, ts, xs, B', L', cs, rfl, rfl, rfl, hg, p1, p2, rfl, rfl⟩ := hp
 cases t with
 | box e' zs =>
  rw [AfterA] at ha
  obtain ⟨g', cs1, cs', O', O2', rfl, he, w1', w2', a1, e3, rfl⟩ := ha
  injection he with he
  injection he with he
  injection he with he
  subst he
  rw [hg] at w1'
  injection w1' with w1'
  injection w1' with w1'
  subst w1'
  have e3 := List.append_cancel_right e3
  subst e3
  simp only [St.backB] at hb
  split at hb
  ·rename_i ob hl
   obtain ⟨σ1, h1, hb⟩ := Option.bind_eq_some_iff.1 hb
   split at hb
   ·rename_i ob1 hl1
    obtain ⟨ts', h2, rfl⟩ := Option.map_eq_some_iff.1 hb
    rw [List.append_assoc] at h
    obtain ⟨ob', q1, q2, q3, q4, q5⟩ := h.items (.box id e' ts g) (by simp)
    rw [hl] at q1
    injection q1 with q1
    subst q1
    obtain ⟨O5, R5, k⟩ := backRows_done h p1 q4 a1 hn.left h1
    have hgB : g ∉ B0 ++ O2' := hn.right.far g (by simp)
    obtain ⟨O6, R6, k⟩ := Mid.box k hg w2' a1 p2 hgB hl1 h2
    rw [List.append_assoc, List.append_assoc] at k
    exact ⟨O6, R6, k⟩
   ·simp at hb
  ·simp at hb
 | _ => simp [St.backB] at hb
theorem backBs_done {own : Bool} : ∀ {ys : List AV} {xs ts : List A} {us : List Value} {B O2 D B0 : List Nat} {L Q : List Item} {σ σ' : St} {O R : Nat → List Nat}, Mid P w0 mine a w w1 loc σ O R (L ++ Q) D B0 → PndBs P w own ys xs us B L → AfterAs P w w1 xs ts us B O2 → New w1 O2 B0 → σ.backBs ys ts = some σ' → Done P w0 mine a w w1 loc σ' Q (D ++ B) (B0 ++ O2)
 | [], [], ts, us, B, O2, D, B0, L, Q, σ, σ', O, R, h, hp, ha, hn, hb => by
  rw [PndBs] at hp
  obtain ⟨_, rfl, rfl⟩ := hp
  cases ts with
  | nil =>
   rw [AfterAs] at ha
   simp only [St.backBs, Option.some.injEq] at hb
   subst hb
   exact stay h rfl rfl ha.2.2
  | cons t ts => rw [AfterAs] at ha; exact ha.elim; all_goals simp
 | y :: ys, x :: xs, ts, us, B, O2, D, B0, L, Q, σ, σ', O, R, h, hp, ha, hn, hb => by
  rw [PndBs] at hp
  obtain ⟨u, us', B1, R1, B', L1, L', rfl, p1, p2, p3, rfl, rfl⟩ := hp
  cases ts with
  | nil => rw [AfterAs] at ha; exact ha.elim; all_goals simp
  | cons t ts =>
   rw [AfterAs] at ha
   obtain ⟨u2, us2, O1, R2, O', Oa, Ob, he, a1, a2, a3, e3, rfl⟩ := ha
   injection he with e1 e2
   subst e1; subst e2
   obtain ⟨rfl, _⟩ := RepA_fun p1 a1
   have e3 := List.append_cancel_left e3
   subst e3
   rw [List.append_assoc] at h
   simp only [St.backBs] at hb
   obtain ⟨σ1, h1, hb⟩ := Option.bind_eq_some_iff.1 hb
   obtain ⟨O5, R5, k⟩ := backB_done h p2 a2 hn.left h1
   have := backBs_done k p3 a3 hn.right hb
   rw [List.append_assoc, List.append_assoc] at this
   exact this
 | [], _ :: _, ts, us, B, O2, D, B0, L, Q, σ, σ', O, R, h, hp, ha, hn, hb => by rw [PndBs] at hp; exact hp.elim; all_goals simp
 | _ :: _, [], ts, us, B, O2, D, B0, L, Q, σ, σ', O, R, h, hp, ha, hn, hb => by rw [PndBs] at hp; exact hp.elim; all_goals simp
theorem back_done {own : Bool} {y : AV} {x t : A} {v : Value} {B O2 D B0 : List Nat} {L Q : List Item} (h : Mid P w0 mine a w w1 loc σ O R (L ++ Q) D B0) (hp : Pnd P w own y x v B L) (ha : AfterA P w w1 x t v B O2) (hn : New w1 O2 B0) (hb : σ.back own y t = some σ') : Done P w0 mine a w w1 loc σ' Q (D ++ B) (B0 ++ O2) := by
 cases y with
 | c y =>
  obtain ⟨x', rfl, hp⟩ := hp
  cases t with
  | c t =>
   simp only [AfterA] at ha
   exact backC_done h hp ha hn hb
  | _ => simp [St.back] at hb
 | agg ys =>
  obtain ⟨xs, us, rfl, rfl, hp⟩ := hp
  cases t with
  | agg ts =>
   simp only [AfterA] at ha
   obtain ⟨us', he, ha⟩ := ha
   have e : us = us' := by
    injection he with he
    simpa using he
   subst e
   exact backCs_done h hp ha hn hb
  | _ => simp [St.back] at hb
 | fn f ys =>
  obtain ⟨xs, us, rfl, rfl, hp⟩ := hp
  cases t with
  | fn g ts =>
   simp only [AfterA] at ha
   obtain ⟨us', he, ha⟩ := ha
   have e : us = us' := by
    injection he with _ _ he
    simpa using he
   subst e
   exact backBs_done h hp ha hn hb
  | _ => simp [St.back] at hb
 | ptr id p off =>
  have hb : σ.backB (.ptr id p off) t = some σ' := by cases t <;> exact hb
  exact backB_done h hp ha hn hb
 | tup ys =>
  obtain ⟨id, g, e, ts, xs, B', L', cs, hy, _⟩ := hp
  simp at hy
 | u =>
  obtain ⟨id, g, e, ts, xs, B', L', cs, hy, _⟩ := hp
  simp at hy
 | unk n =>
  obtain ⟨id, g, e, ts, xs, B', L', cs, hy, _⟩ := hp
  simp at hy
 | nn =>
  obtain ⟨id, g, e, ts, xs, B', L', cs, hy, _⟩ := hp
  simp at hy
theorem backs_done {own : Nat → Bool} : ∀ {i : Nat} {ys : List AV} {xs ts : List A} {us : List Value} {B O2 D B0 : List Nat} {L Q : List Item} {σ σ' : St} {O R : Nat → List Nat}, Mid P w0 mine a w w1 loc σ O R (L ++ Q) D B0 → Pnds P w own i ys xs us B L → AfterAs P w w1 xs ts us B O2 → New w1 O2 B0 → σ.backs own i ys ts = some σ' → Done P w0 mine a w w1 loc σ' Q (D ++ B) (B0 ++ O2)
 | i, [], [], ts, us, B, O2, D, B0, L, Q, σ, σ', O, R, h, hp, ha, hn, hb => by
  rw [Pnds] at hp
  obtain ⟨_, rfl, rfl⟩ := hp
  cases ts with
  | nil =>
   rw [AfterAs] at ha
   simp only [St.backs, Option.some.injEq] at hb
   subst hb
   exact stay h rfl rfl ha.2.2
  | cons t ts => rw [AfterAs] at ha; exact ha.elim; all_goals simp
 | i, y :: ys, x :: xs, ts, us, B, O2, D, B0, L, Q, σ, σ', O, R, h, hp, ha, hn, hb => by
  rw [Pnds] at hp
  obtain ⟨u, us', B1, R1, B', L1, L', rfl, p1, p2, p3, rfl, rfl⟩ := hp
  cases ts with
  | nil => rw [AfterAs] at ha; exact ha.elim; all_goals simp
  | cons t ts =>
   rw [AfterAs] at ha
   obtain ⟨u2, us2, O1, R2, O', Oa, Ob, he, a1, a2, a3, e3, rfl⟩ := ha
   injection he with e1 e2
   subst e1; subst e2
   obtain ⟨rfl, _⟩ := RepA_fun p1 a1
   have e3 := List.append_cancel_left e3
   subst e3
   rw [List.append_assoc] at h
   simp only [St.backs] at hb
   obtain ⟨σ1, h1, hb⟩ := Option.bind_eq_some_iff.1 hb
   obtain ⟨O5, R5, k⟩ := back_done h p2 a2 hn.left h1
   have := backs_done k p3 a3 hn.right hb
   rw [List.append_assoc, List.append_assoc] at this
   exact this
 | i, [], _ :: _, ts, us, B, O2, D, B0, L, Q, σ, σ', O, R, h, hp, ha, hn, hb => by rw [Pnds] at hp; exact hp.elim; all_goals simp
 | i, _ :: _, [], ts, us, B, O2, D, B0, L, Q, σ, σ', O, R, h, hp, ha, hn, hb => by rw [Pnds] at hp; exact hp.elim; all_goals simp
end Go.Proofs.YtemghdnofgjnmaaDoor.VM
