/- The law FnReplay. -/
import Derived.Test.YtkgkbkpgpbpjhaaK26w
import Derived.Test.YtkgkbkpgpbpjhaaK27w
import Derived.Test.YtkgkbkpgpbpjhaaK8w
import Derived.Test.YtkgkbkpgpbpjhaaK17w
namespace Go.Proofs.Ytkgkbkpgpbpjhaa.VM
open Go Go.Proofs
set_option linter.unusedSimpArgs false
set_option linter.unusedVariables false
set_option maxRecDepth 100000
set_option maxHeartbeats 40000000
/-- A state's code, and what it printed. -/
def Told (s : Sta) : Prop := (0 ≤ s.code ∧ s.code ≤ 2) ∧ ∀ v ∈ s.out, numB v = true
theorem goF_told {n : Nat} {s : Sta} (h : Told s) (k : Int) : Told (goF n s k) := by
 unfold goF
 split
 ·exact h
 ·exact ⟨by simp, h.2⟩
theorem step_told {l : List Ins} {s : Sta} {e : Ev} (h : Rok l s) (t : Told s) (hc : comesB e (nextE (insAt l s.at_) s.regs) = true) : Told (stepS l s e) := by
 unfold stepS didF
 split
 ·exact goF_told (s := ⟨s.at_, s.regs.set (insAt l s.at_).r.toNat e.v, s.out, s.code⟩) t _
 split
 ·rename_i o7 o8
  split
  ·exact ⟨by simp, t.2⟩
  ·refine goF_told (s := ⟨s.at_, s.regs, s.out ++ [e.v], s.code⟩) ⟨t.1, fun v hv => ?_⟩ _
   simp only [List.mem_append, List.mem_singleton] at hv
   rcases hv with hv | rfl
   ·exact t.2 v hv
   ·have hn : nextE (insAt l s.at_) s.regs = ⟨4, 0, (s.regs[(insAt l s.at_).a.toNat]?).getD 0⟩ := by
     unfold nextE
     rw [if_neg (by rw [o8]; decide), if_neg (by rw [o8]; decide), if_pos o8]
    rw [hn, comes_not (by simp)] at hc
    simp [evB] at hc
    rw [hc.2.2]
    cases hg : s.regs[(insAt l s.at_).a.toNat]? with
    | none => rfl
    | some x => exact h.nums x (List.mem_of_getElem? hg)
 split
 ·exact goF_told t _
 split
 ·split <;> exact goF_told t _
 split
 ·exact ⟨by simp, t.2⟩
 split
 ·exact goF_told t _
 split
 ·exact goF_told (s := ⟨s.at_, s.regs.set (insAt l s.at_).r.toNat (valF (insAt l s.at_) s.regs), s.out, s.code⟩) t _
 ·exact ⟨by simp, t.2⟩
theorem st_told {l : List Ins} {es : List Ev} (hp : progB l 4 = true) : ∀ {n : Nat}, (∀ i, i < n → canB l (stAt l es i) (evAt es i) = true) → Told (stAt l es n)
 | 0, _ => ⟨by simp [stAt, s0], fun v hv => by simp [stAt, s0] at hv⟩
 | n + 1, h => by
  have hn := h n (by omega)
  simp only [canB, Bool.and_eq_true] at hn
  exact step_told (st_rok hp fun i hi => h i (by omega)) (st_told hp fun i hi => h i (by omega)) hn.2
theorem rok_ok {l : List Ins} {s : Sta} (h : Rok l s) (t : Told s) : stOkB l.length s.at_ s.regs s.out s.code = true := by
 unfold stOkB
 simp only [Bool.and_eq_true, decide_eq_true_eq, List.all_eq_true]
 have h0 := h.at0
 have t1 := t.1
 refine ⟨⟨⟨⟨⟨h.regs, by simp [inB]; omega⟩, by simp [inB]; omega⟩, h.out⟩, h.nums⟩, t.2⟩
theorem do_step {l : List Ins} {s : Sta} {e : Ev} (hp : progB l 4 = true) (h : Rok l s) (t : Told s) (hc : canB l s e = true) : doB l s e = true ∧ doS l s e = stepS l s e := by
 simp only [canB, Bool.and_eq_true] at hc
 have ho : okN l s.at_ s.code s.regs s.out = true := by
  unfold okN
  rw [hp, rok_ok h t, hc.1]
  rfl
 have hc2 : comesB e (nextE ((l[s.at_.toNat]?).getD ⟨0, 0, 0, 0, 0⟩) s.regs) = true := hc.2
 refine ⟨by unfold doB; rw [ho, hc2]; rfl, ?_⟩
 unfold doS
 rw [if_pos ho]
 unfold oneF
 rw [if_pos hc2]
 rfl
theorem fm_put {α : Type} {tr : α → List T} {k : Nat} (h : ∀ x, (tr x).length = k) {xs : List α} {i o : Nat} (hi : i < xs.length) (ho : o < k) {y : α} {v : T} (e : tr y = (tr xs[i]).set o v) : (xs.flatMap tr).set (i * k + o) v = (xs.set i y).flatMap tr := by
 have l1 : (xs.flatMap tr).length = xs.length * k := fm_len h xs
 have l2 : ((xs.set i y).flatMap tr).length = xs.length * k := by rw [fm_len h, List.length_set]
 have hik : i * k + k ≤ xs.length * k := by
  have := Nat.mul_le_mul_right k (show i + 1 ≤ xs.length from hi)
  rw [Nat.add_mul, Nat.one_mul] at this
  exact this
 apply List.ext_getElem?
 intro j
 rw [List.getElem?_set]
 have hy : i < (xs.set i y).length := by rw [List.length_set]; exact hi
 by_cases ej : i * k + o = j
 ·subst ej
  rw [if_pos rfl, if_pos (by rw [l1]; omega), fm_get h hy ho, List.getElem_set_self, e, List.getElem?_set_self (by rw [h]; exact ho)]
 ·rw [if_neg ej]
  rcases Nat.lt_or_ge j (xs.length * k) with hj | hj
  ·have hk : 0 < k := by omega
   have hm : j / k < xs.length := by
    rw [Nat.div_lt_iff_lt_mul hk]
    exact hj
   have hq : j % k < k := Nat.mod_lt _ hk
   have ej' : j = j / k * k + j % k := by rw [Nat.mul_comm]; exact (Nat.div_add_mod j k).symm
   generalize j / k = m at *
   generalize j % k = q at *
   subst ej'
   have hm2 : m < (xs.set i y).length := by rw [List.length_set]; exact hm
   rw [fm_get h hm hq, fm_get h hm2 hq]
   by_cases em : i = m
   ·subst em
    rw [List.getElem_set_self, e, List.getElem?_set_ne (fun x => ej (by rw [x]))]
   ·rw [List.getElem_set_ne em]
  ·rw [List.getElem?_eq_none (by rw [l1]; exact hj), List.getElem?_eq_none (by rw [l2]; exact hj)]
theorem run_at1 {j : Nat} (bs : List Int) (hb : bs.length ≤ 1048576) (hB : ∀ n ∈ bs, 0 ≤ n ∧ n ≤ 255) (i : Nat) (hi : i ≤ 2) : ∃ v : Int, (0 ≤ v ∧ v ≤ 255) ∧ M.run (j + 1) 35 [.c (.r 5 bs.length (octT bs)), .c (.v (.int .i64 i))] = some ([.c (.v (.int .i64 v))], [.c (.r 5 bs.length (octT bs)), .c (.v (.int .i64 i))]) := by
 by_cases h : i < bs.length
 ·have hv := hB _ (List.getElem_mem h)
  refine ⟨bs[i], hv, ?_⟩
  have o1 := oct_at h
  rw [m_run (fn := Try.f35) (i0 := 0) rfl Try.func35 rfl rfl (by simp)]
  simp -implicitDefEqProofs [own1, h, o1, gq o1, w64 (x := bs[i]) (by omega)]
 ·have hm : 0 ≤ Int.tmod ((i : Int) * 7 + bs.length) 256 ∧ Int.tmod ((i : Int) * 7 + bs.length) 256 ≤ 255 := by
   rw [Int.tmod_eq_emod_of_nonneg (by omega)]
   omega
  refine ⟨Int.tmod ((i : Int) * 7 + bs.length) 256, hm, ?_⟩
  rw [m_run (fn := Try.f35) (i0 := 0) rfl Try.func35 rfl rfl (by simp)]
  simp -implicitDefEqProofs [own1, h, w64 (x := (i : Int) * 7) (by omega), w64 (x := (i : Int) * 7 + bs.length) (by omega)]
theorem run_drawReplay {j : Nat} (hj : big ≤ j) (bs : List Int) (hb : bs.length ≤ 1048576) : ∃ (l : List Ins) (es : List Ev), l.length ≤ 100 ∧ es.length ≤ 24 ∧ M.run (j + 8) 32 [.c (.r 5 bs.length (octT bs))] = some ([.c (.s 29 l.length (insT l)), .c (.s 42 es.length (evT es))], [.c (.r 5 bs.length (octT bs))]) := by
 have e0 := run_new (j := j + 6) hb
 have k0 := new_cur hb
 generalize hashK bs (min bs.length 4000) = h0 at *
 obtain ⟨l, i1, h1, k1, ⟨p1, p2, _⟩, e1⟩ := drawAny_ex k0
 have e1 := e1 (j + 1) (by omega)
 obtain ⟨es, ⟨b2, i2, h2⟩, k2, hb2, hl, e2⟩ := run_drawEvents (j := j) hj ⟨bs, i1, h1⟩ k1 l (by omega)
 simp only at hb2
 subst hb2
 have tkl : (insT l).take (l.length * 5) = insT l := List.take_of_length_le (by simp)
 have tk : (evT es).take (es.length * 3) = evT es := List.take_of_length_le (by simp)
 by_cases hz : es.length = 0
 ·refine ⟨l, es, p2, hl, ?_⟩
  rw [m_run (fn := Try.f32) (i0 := 0) rfl Try.func32 rfl rfl (by simp)]
  obtain rfl := List.eq_nil_of_length_eq_zero hz
  simp only [curT, curA, z0] at e1 e2 ⊢
  simp -implicitDefEqProofs [evT] at e2
  simp -implicitDefEqProofs [own1, St.make, maker, e0, e1, e2, evT, tkl]
 ·have hp : (0 : Int) < es.length := by omega
  have hp' : 0 < es.length := by omega
  obtain ⟨v, i3, h3, k3, _, lv, e3⟩ := below_ex k2 es.length
  have lv := lv hp
  obtain ⟨m, rfl⟩ : ∃ m : Nat, v = m := ⟨v.toNat, by omega⟩
  have hm : m < es.length := by omega
  obtain ⟨w, i4, h4, k4, _, lw, e4⟩ := below_ex k3 8
  have lw := lw (by omega)
  have e3 := e3 (j + 5)
  have e4 := e4 (j + 5)
  have hw : w = 0 ∨ w = 1 ∨ w = 2 ∨ 3 ≤ w := by omega
  rcases hw with rfl | rfl | rfl | hw
  ·obtain ⟨u, i5, h5, k5, _, _, e5⟩ := below_ex k4 6
   have e5 := e5 (j + 5)
   have hs := fm_put (tr := tEv) (xs := es) (i := m) (o := 0) tEv_len hm (by omega) (y := ⟨u, es[m].peer, es[m].v⟩) (v := .v (.int .i64 u)) rfl
   have hs : (evT es).set (m * 3) (.v (.int .i64 u)) = evT (es.set m ⟨u, es[m].peer, es[m].v⟩) := hs
   have tk2 : (evT (es.set m ⟨u, es[m].peer, es[m].v⟩)).take (es.length * 3) = evT (es.set m ⟨u, es[m].peer, es[m].v⟩) := List.take_of_length_le (by simp)
   refine ⟨l, es.set m ⟨u, es[m].peer, es[m].v⟩, p2, by rw [List.length_set]; exact hl, ?_⟩
   rw [m_run (fn := Try.f32) (i0 := 0) rfl Try.func32 rfl rfl (by simp)]
   simp only [curT, curA, z0] at e1 e2 e3 e4 e5 ⊢
   simp -implicitDefEqProofs [own1, St.make, maker, e0, e1, e2, e3, e4, e5, hp, hp', hm, hs, tk, tk2, tkl, show m * 3 + 1 ≤ es.length * 3 by omega, show m * 3 + 3 ≤ es.length * 3 by omega]
  ·obtain ⟨u, i5, h5, k5, _, _, e5⟩ := below_ex k4 5
   have e5 := e5 (j + 5)
   have hs := fm_put (tr := tEv) (xs := es) (i := m) (o := 2) tEv_len hm (by omega) (y := ⟨es[m].kind, es[m].peer, u⟩) (v := .v (.int .i64 u)) rfl
   have hs : (evT es).set (m * 3 + 2) (.v (.int .i64 u)) = evT (es.set m ⟨es[m].kind, es[m].peer, u⟩) := hs
   have tk2 : (evT (es.set m ⟨es[m].kind, es[m].peer, u⟩)).take (es.length * 3) = evT (es.set m ⟨es[m].kind, es[m].peer, u⟩) := List.take_of_length_le (by simp)
   refine ⟨l, es.set m ⟨es[m].kind, es[m].peer, u⟩, p2, by rw [List.length_set]; exact hl, ?_⟩
   rw [m_run (fn := Try.f32) (i0 := 0) rfl Try.func32 rfl rfl (by simp)]
   simp only [curT, curA, z0] at e1 e2 e3 e4 e5 ⊢
   simp -implicitDefEqProofs [own1, St.make, maker, e0, e1, e2, e3, e4, e5, hp, hp', hm, hs, tk, tk2, tkl, show m * 3 + 2 + 1 ≤ es.length * 3 by omega, show m * 3 + 3 ≤ es.length * 3 by omega]
  ·obtain ⟨r, hr⟩ : ∃ r, es.length = m + 1 + r := ⟨es.length - (m + 1), by omega⟩
   have hd : (es.drop (m + 1)).length = r := by rw [List.length_drop]; omega
   have ha : evT (es.take m) ++ evT (es.drop (m + 1)) = evT (es.take m ++ es.drop (m + 1)) := by simp [evT]
   have hlen : (es.take m ++ es.drop (m + 1)).length = m + r := by rw [List.length_append, List.length_take, hd]; omega
   have tk2 : (evT (es.take m ++ es.drop (m + 1))).take ((m + r) * 3) = evT (es.take m ++ es.drop (m + 1)) := List.take_of_length_le (by rw [evT_len, hlen]; exact Nat.le_refl _)
   have tk3 : (evT (es.drop (m + 1))).take (r * 3) = evT (es.drop (m + 1)) := List.take_of_length_le (by rw [evT_len, hd]; exact Nat.le_refl _)
   refine ⟨l, es.take m ++ es.drop (m + 1), p2, by rw [hlen]; omega, ?_⟩
   rw [m_run (fn := Try.f32) (i0 := 0) rfl Try.func32 rfl rfl (by simp)]
   have hm1 : (m : Int) ≤ es.length := by omega
   have hm2 : (m : Int) + 1 ≤ es.length := by omega
   simp only [curT, curA, z0] at e1 e2 e3 e4 ⊢
   rw [hlen]
   have mn : min m es.length = m := by omega
   have rn : es.length - (m + 1) = r := by omega
   have rn2 : ((es.length : Int) - (m + 1)).toNat = r := by omega
   simp -implicitDefEqProofs [own1, St.make, maker, e0, e1, e2, e3, e4, hp, hp', hm, hm1, hm2, show (0 : Int) ≤ m + 1 by omega, ha, hlen, tk, tk2, tk3, tkl, mn, rn, rn2, hd, show m * 3 ≤ es.length * 3 by omega, show (m + 1) * 3 + r * 3 ≤ es.length * 3 by omega, le_most (n := (m + r) * 3) (by omega), le_most (n := m * 3 + r * 3) (by omega), w64 (x := (m : Int) + 1) (by omega)]
   rw [if_pos (by decide +kernel)]
   simp -implicitDefEqProofs [own1, St.make, maker, e0, e1, e2, e3, e4, hp, hp', hm, hm1, hm2, show (0 : Int) ≤ m + 1 by omega, ha, hlen, tk, tk2, tk3, tkl, mn, rn, rn2, hd, show m * 3 ≤ es.length * 3 by omega, show (m + 1) * 3 + r * 3 ≤ es.length * 3 by omega, le_most (n := (m + r) * 3) (by omega), le_most (n := m * 3 + r * 3) (by omega), w64 (x := (m : Int) + 1) (by omega)]
  ·refine ⟨l, es, p2, hl, ?_⟩
   rw [m_run (fn := Try.f32) (i0 := 0) rfl Try.func32 rfl rfl (by simp)]
   simp only [curT, curA, z0] at e1 e2 e3 e4 ⊢
   simp -implicitDefEqProofs [own1, St.make, maker, e0, e1, e2, e3, e4, hp, hp', hm, tk, tkl, show ¬ w = 0 by omega, show ¬ w = 1 by omega, show ¬ w = 2 by omega]
def H_rp (bs : List Int) (l : List Ins) (es : List Ev) (s t : Sta) (i : Nat) : St := ⟨[(3, .c (.sl 1152 [] 0 l.length)), (4, .c (.sl 1153 [] 0 es.length)), (5, .ptr 384 [] 0), (10, .ptr 704 [] 0), (11, .c (.v (.bool true))), (12, .c (.v (.int .i64 i)))], [(0, ⟨.ro, 5, octT bs⟩), (384, ⟨.box, 44, [.v (.int .i64 s.at_), .l 1537 [] 0 s.regs.length, .l 1538 [] 0 s.out.length, .v (.int .i64 s.code)]⟩), (704, ⟨.box, 44, [.v (.int .i64 t.at_), .l 3393 [] 0 t.regs.length, .l 3394 [] 0 t.out.length, .v (.int .i64 t.code)]⟩), (1152, ⟨.own, 29, insT l⟩), (1153, ⟨.own, 42, evT es⟩), (1537, ⟨.own, 3, ints s.regs⟩), (1538, ⟨.own, 3, ints s.out⟩), (3393, ⟨.own, 3, ints t.regs⟩), (3394, ⟨.own, 3, ints t.out⟩)]⟩
theorem stAt_take {l : List Ins} {es : List Ev} {k : Nat} : ∀ {i : Nat}, i ≤ k → stAt l (es.take k) i = stAt l es i
 | 0, _ => rfl
 | i + 1, h => by
  rw [stAt, stAt, stAt_take (by omega)]
  congr 1
  unfold evAt
  rw [List.getElem?_take, if_pos (by omega)]
theorem run_FnReplay {j : Nat} (hj : big ≤ j) (bs : List Int) (hb : bs.length ≤ 9223372036854775807) (hB : ∀ n ∈ bs, 0 ≤ n ∧ n ≤ 255) : M.run (j + 11) 6 [.c (.r 5 bs.length (octT bs))] = some ([.c (.v (.bool true))], [.c (.r 5 bs.length (octT bs))]) := by
 have e0 := run_big (j := j + 9) bs.length (octT bs) hb
 rw [m_run (fn := Try.f6) (i0 := 0) rfl Try.func6 rfl rfl (by simp)]
 by_cases h1 : 1048576 < bs.length
 ·rw [decide_eq_true h1] at e0
  simp -implicitDefEqProofs [own1, e0]
 rw [decide_eq_false h1] at e0
 obtain ⟨l, es, hl, hes, e1⟩ := run_drawReplay (j := j + 2) (by omega) bs (by omega)
 have e2 := run_implReplay (j := j + 2) (by omega) l es (by omega) (by omega)
 have e3 := run_specReplay (j := j + 4) (by omega) l es (by omega) (by omega)
 have tkl : (insT l).take (l.length * 5) = insT l := List.take_of_length_le (by simp)
 have tk : (evT es).take (es.length * 3) = evT es := List.take_of_length_le (by simp)
 cases hq : replayB l es
 ·rw [hq] at e2 e3
  have hz : replayS l es = ⟨0, [], [], 0⟩ := by
   unfold replayB at hq
   unfold replayS
   split
   ·rename_i hc
    rw [Bool.and_eq_true] at hc
    rw [hc.1, hc.2, Bool.true_and, Bool.true_and] at hq
    unfold repS
    rw [if_neg (by rw [hq]; simp)]
   ·rfl
  rw [hz] at e2 e3
  simp only [sSta, stS] at e2 e3
  simp -implicitDefEqProofs [ints] at e2 e3
  simp -implicitDefEqProofs (maxSteps := 10000000) [own1, e0, e1, e2, e3, tk, tkl]
 rw [hq] at e2 e3
 unfold replayB at hq
 simp only [Bool.and_eq_true, decide_eq_true_eq] at hq
 obtain ⟨hp, h200, hr⟩ := hq
 have hz : ∀ k, k ≤ es.length → replayB l (es.take k) = true ∧ replayS l (es.take k) = stAt l es k := fun k hk => by
  have hlen : (es.take k).length = k := by rw [List.length_take]; omega
  have hr2 : repB l (es.take k) = true := by
   unfold repB
   rw [hlen]
   refine allTo_to fun i hi => ?_
   have := allTo_of hr i (by omega)
   rw [stAt_take (by omega)]
   rw [show evAt (es.take k) i = evAt es i by unfold evAt; rw [List.getElem?_take, if_pos hi]]
   exact this
  refine ⟨by unfold replayB; rw [hp, hr2, hlen, decide_eq_true (by omega)]; rfl, ?_⟩
  unfold replayS
  rw [if_pos (by rw [hp, hlen, decide_eq_true (by omega)]; rfl)]
  unfold repS
  rw [if_pos hr2, hlen]
  exact stAt_take (Nat.le_refl _)
 have can := fun i (hi : i < es.length) => allTo_of hr i hi
 have rok := fun n (hn : n ≤ es.length) => st_rok (n := n) hp fun i hi => can i (by omega)
 have tol := fun n (hn : n ≤ es.length) => st_told (n := n) hp fun i hi => can i (by omega)
 have hfull := (hz es.length (Nat.le_refl _)).2
 rw [List.take_of_length_le (Nat.le_refl _)] at hfull
 rw [hfull] at e2 e3
 obtain ⟨v, hv, e4⟩ := run_at1 (j := j + 9) bs (by omega) hB 1 (by omega)
 have hk : 0 ≤ Int.tmod v ((es.length : Int) + 1) ∧ Int.tmod v ((es.length : Int) + 1) ≤ es.length := by
  rw [Int.tmod_eq_emod_of_nonneg (by omega)]
  have h1 := Int.emod_nonneg v (show (es.length : Int) + 1 ≠ 0 by omega)
  have h2 := Int.emod_lt_of_pos v (show 0 < (es.length : Int) + 1 by omega)
  omega
 obtain ⟨k, hkk⟩ : ∃ k : Nat, Int.tmod v ((es.length : Int) + 1) = k := ⟨(Int.tmod v ((es.length : Int) + 1)).toNat, by omega⟩
 have hk2 : k ≤ es.length := by omega
 have e5 := run_implReplay (j := j + 2) (by omega) l (es.take k) (by omega) (by rw [List.length_take]; omega)
 rw [(hz k hk2).1, (hz k hk2).2, List.length_take, Nat.min_eq_left hk2] at e5
 have sr := rok es.length (Nat.le_refl _)
 have so := sr.out
 have srr := sr.regs
 have e6 := run_sameSt (j := j + 8) (by omega) (stAt l es es.length) (by omega) (by omega)
 have e7 := run47 (j := j + 3) (by omega) l (stAt l es es.length).at_ (stAt l es es.length).code (stAt l es es.length).regs (stAt l es es.length).out (by omega) (by omega) (by omega)
 rw [rok_ok sr (tol _ (Nat.le_refl _))] at e7
 have n1 : ¬ ((es.length : Int) + 1 = 0) := by omega
 have r1 : ∀ s : Sta, (ints s.regs).take s.regs.length = ints s.regs := fun s => List.take_of_length_le (by simp)
 have r2 : ∀ s : Sta, (ints s.out).take s.out.length = ints s.out := fun s => List.take_of_length_le (by simp)
 have tkk : (evT (es.take k)).take (k * 3) = evT (es.take k) := List.take_of_length_le (by rw [evT_len, List.length_take]; omega)
 generalize hS : stAt l es es.length = s at *
 have hT : stAt l es k = stAt l es (k + 0) := rfl
 rw [hT] at e5
 simp only [sSta, stS] at e2 e3 e5
 simp only [tSta, stR] at e6 e7
 simp -implicitDefEqProofs at e4
 simp -implicitDefEqProofs (maxSteps := 10000000) [own1, e0, e1, e2, e3, e4, e5, n1, hkk, hk2, tk, tkl, tkk, r1, r2, show k * 3 ≤ es.length * 3 by omega, w64 (x := (es.length : Int) + 1) (by omega)]
 rw [loop_then (fun i => H_rp bs l es s (stAt l es (k + i)) (k + i)) (es.length - k) (by simp -implicitDefEqProofs [H_rp, hint1]) (by simp [big] at hj; omega) (fun i hi => by
  have hki : k + i < es.length := by omega
  have hki' : ((k + i : Nat) : Int) < es.length := by omega
  have rk := rok (k + i) (by omega)
  have ro := rk.out
  have rr := rk.regs
  have st : stAt l es (k + (i + 1)) = stepS l (stAt l es (k + i)) (evAt es (k + i)) := rfl
  obtain ⟨d1, d2⟩ := do_step hp rk (tol (k + i) (by omega)) (can (k + i) hki)
  have e8 := run_Do (j := j + 1) (by omega) l (stAt l es (k + i)) (evAt es (k + i)) (by omega) (by omega) (by omega)
  rw [d1, d2, ← st, evAt_of hki] at e8
  rw [show k + (i + 1) = k + i + 1 from rfl] at e8 ⊢
  generalize stAt l es (k + i) = t at *
  generalize stAt l es (k + i + 1) = t' at *
  generalize k + i = q at *
  simp only [sSta, stS, tSta, stR, tEv] at e8
  simp -implicitDefEqProofs (maxSteps := 10000000) [H_rp, hint1, own1, hki, hki', e8, tEv, tk, tkl, r1, r2, show q * 3 + 3 ≤ es.length * 3 by omega, w64 (x := (q : Int) + 1) (by omega)])]
 have hend : k + (es.length - k) = es.length := by omega
 rw [hend, hS]
 simp -implicitDefEqProofs (maxSteps := 10000000) [H_rp, own1, e6, e7, tk, tkl, r1, r2]
theorem law_FnReplay (bs : List Int) (hb : (∀ n ∈ bs, 0 ≤ n ∧ n ≤ 255) ∧ bs.length ≤ maxLen) : ∃ k xs, M.run k 6 [.c (.r 5 bs.length (octT bs))] = some ([.c (.v (.bool true))], xs) :=
 ⟨_, _, run_FnReplay (Nat.le_refl _) bs (by have := hb.2; unfold maxLen at this; omega) hb.1⟩
end Go.Proofs.Ytkgkbkpgpbpjhaa.VM
