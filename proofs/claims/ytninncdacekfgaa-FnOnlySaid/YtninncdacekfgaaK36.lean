/- The law FnReplay. -/
import Derived.Test.YtninncdacekfgaaK26
import Derived.Test.YtninncdacekfgaaK27
import Derived.Test.YtninncdacekfgaaK8
import Derived.Test.YtninncdacekfgaaK17
/- The law FnReplay, reckoned. -/
namespace Go.Proofs.Ytninncdacekfgaa.VM
open Go Go.Proofs
set_option linter.unusedSimpArgs false
set_option linter.unusedVariables false
set_option maxRecDepth 100000
set_option maxHeartbeats 40000000
/-- A state's code, and what it printed. -/
def Told (s : Sta) : Prop := (0 ≤ s.code ∧ s.code ≤ 2) ∧ ∀ v ∈ s.out, numB v = true
theorem goF_told {n : Nat} {s : Sta} (h : Told s) (k : Int) : Told (goF n s k) := by
 unfold goF
 split
 ·exact h
 ·exact ⟨by simp, h.2⟩
theorem step_told {l : List Ins} {s : Sta} {e : Ev} (h : Rok l s) (t : Told s) (hc : comesB e (nextE (insAt l s.at_) s.regs) = true) : Told (stepS l s e) := by
 unfold stepS didF
 split
 ·exact goF_told (s := ⟨s.at_, s.regs.set (insAt l s.at_).r.toNat e.v, s.out, s.code⟩) t _
 split
 ·rename_i o7 o8
  split
  ·exact ⟨by simp, t.2⟩
  ·refine goF_told (s := ⟨s.at_, s.regs, s.out ++ [e.v], s.code⟩) ⟨t.1, fun v hv => ?_⟩ _
   simp only [List.mem_append, List.mem_singleton] at hv
   rcases hv with hv | rfl
   ·exact t.2 v hv
   ·have hn : nextE (insAt l s.at_) s.regs = ⟨4, 0, (s.regs[(insAt l s.at_).a.toNat]?).getD 0⟩ := by
     unfold nextE
     rw [if_neg (by rw [o8]; decide), if_neg (by rw [o8]; decide), if_pos o8]
    rw [hn, comes_not (by simp)] at hc
    simp [evB] at hc
    rw [hc.2.2]
    cases hg : s.regs[(insAt l s.at_).a.toNat]? with
    | none => rfl
    | some x => exact h.nums x (List.mem_of_getElem? hg)
 split
 ·exact goF_told t _
 split
 ·split <;> exact goF_told t _
 split
 ·exact ⟨by simp, t.2⟩
 split
 ·exact goF_told t _
 split
 ·exact goF_told (s := ⟨s.at_, s.regs.set (insAt l s.at_).r.toNat (valF (insAt l s.at_) s.regs), s.out, s.code⟩) t _
 ·exact ⟨by simp, t.2⟩
theorem st_told {l : List Ins} {es : List Ev} (hp : progB l 4 = true) : ∀ {n : Nat}, (∀ i, i < n → canB l (stAt l es i) (evAt es i) = true) → Told (stAt l es n)
 | 0, _ => ⟨by simp [stAt, s0], fun v hv => by simp [stAt, s0] at hv⟩
 | n + 1, h => by
  have hn := h n (by omega)
  simp only [canB, Bool.and_eq_true] at hn
  exact step_told (st_rok hp fun i hi => h i (by omega)) (st_told hp fun i hi => h i (by omega)) hn.2
theorem rok_ok {l : List Ins} {s : Sta} (h : Rok l s) (t : Told s) : stOkB l.length s.at_ s.regs s.out s.code = true := by
 unfold stOkB
 simp only [Bool.and_eq_true, decide_eq_true_eq, List.all_eq_true]
 have h0 := h.at0
 have t1 := t.1
 refine ⟨⟨⟨⟨⟨h.regs, by simp [inB]; omega⟩, by simp [inB]; omega⟩, h.out⟩, h.nums⟩, t.2⟩
theorem do_step {l : List Ins} {s : Sta} {e : Ev} (hp : progB l 4 = true) (h : Rok l s) (t : Told s) (hc : canB l s e = true) : doB l s e = true ∧ doS l s e = stepS l s e := by
 simp only [canB, Bool.and_eq_true] at hc
 have ho : okN l s.at_ s.code s.regs s.out = true := by
  unfold okN
  rw [hp, rok_ok h t, hc.1]
  rfl
 have hc2 : comesB e (nextE ((l[s.at_.toNat]?).getD ⟨0, 0, 0, 0, 0⟩) s.regs) = true := hc.2
 refine ⟨by unfold doB; rw [ho, hc2]; rfl, ?_⟩
 unfold doS
 rw [if_pos ho]
 unfold oneF
 rw [if_pos hc2]
 rfl
theorem fm_put {α : Type} {tr : α → List T} {k : Nat} (h : ∀ x, (tr x).length = k) {xs : List α} {i o : Nat} (hi : i < xs.length) (ho : o < k) {y : α} {v : T} (e : tr y = (tr xs[i]).set o v) : (xs.flatMap tr).set (i * k + o) v = (xs.set i y).flatMap tr := by
 have l1 : (xs.flatMap tr).length = xs.length * k := fm_len h xs
 have l2 : ((xs.set i y).flatMap tr).length = xs.length * k := by rw [fm_len h, List.length_set]
 have hik : i * k + k ≤ xs.length * k := by
  have := Nat.mul_le_mul_right k (show i + 1 ≤ xs.length from hi)
  rw [Nat.add_mul, Nat.one_mul] at this
  exact this
 apply List.ext_getElem?
 intro j
 rw [List.getElem?_set]
 have hy : i < (xs.set i y).length := by rw [List.length_set]; exact hi
 by_cases ej : i * k + o = j
 ·subst ej
  rw [if_pos rfl, if_pos (by rw [l1]; omega), fm_get h hy ho, List.getElem_set_self, e, List.getElem?_set_self (by rw [h]; exact ho)]
 ·rw [if_neg ej]
  rcases Nat.lt_or_ge j (xs.length * k) with hj | hj
  ·have hk : 0 < k := by omega
   have hm : j / k < xs.length := by
    rw [Nat.div_lt_iff_lt_mul hk]
    exact hj
   have hq : j % k < k := Nat.mod_lt _ hk
   have ej' : j = j / k * k + j % k := by rw [Nat.mul_comm]; exact (Nat.div_add_mod j k).symm
   generalize j / k = m at *
   generalize j % k = q at *
   subst ej'
   have hm2 : m < (xs.set i y).length := by rw [List.length_set]; exact hm
   rw [fm_get h hm hq, fm_get h hm2 hq]
   by_cases em : i = m
   ·subst em
    rw [List.getElem_set_self, e, List.getElem?_set_ne (fun x => ej (by rw [x]))]
   ·rw [List.getElem_set_ne em]
  ·rw [List.getElem?_eq_none (by rw [l1]; exact hj), List.getElem?_eq_none (by rw [l2]; exact hj)]
theorem run_at1 {j : Nat} (bs : List Int) (hb : bs.length ≤ 1048576) (hB : ∀ n ∈ bs, 0 ≤ n ∧ n ≤ 255) (i : Nat) (hi : i ≤ 2) : ∃ v : Int, (0 ≤ v ∧ v ≤ 255) ∧ M.run (j + 1) 14 [.c (.r 5 bs.length (octT bs)), .c (.v (.int .i64 i))] = some ([.c (.v (.int .i64 v))], [.c (.r 5 bs.length (octT bs)), .c (.v (.int .i64 i))]) := by
 by_cases h : i < bs.length
 ·have hv := hB _ (List.getElem_mem h)
  refine ⟨bs[i], hv, ?_⟩
  have o1 := oct_at h
  rw [m_run (fn := Try.f14) (i0 := 0) rfl Try.func14 rfl rfl (by simp)]
  simp -implicitDefEqProofs [own1, h, o1, gq o1, w64 (x := bs[i]) (by omega)]
 ·have hm : 0 ≤ Int.tmod ((i : Int) * 7 + bs.length) 256 ∧ Int.tmod ((i : Int) * 7 + bs.length) 256 ≤ 255 := by
   rw [Int.tmod_eq_emod_of_nonneg (by omega)]
   omega
  refine ⟨Int.tmod ((i : Int) * 7 + bs.length) 256, hm, ?_⟩
  rw [m_run (fn := Try.f14) (i0 := 0) rfl Try.func14 rfl rfl (by simp)]
  simp -implicitDefEqProofs [own1, h, w64 (x := (i : Int) * 7) (by omega), w64 (x := (i : Int) * 7 + bs.length) (by omega)]
def H_rp (bs : List Int) (l : List Ins) (es : List Ev) (s t : Sta) (i : Nat) : St := ⟨[(3, .c (.sl 1152 [] 0 l.length)), (4, .c (.sl 1153 [] 0 es.length)), (5, .ptr 384 [] 0), (10, .ptr 704 [] 0), (11, .c (.v (.bool true))), (12, .c (.v (.int .i64 i)))], [(0, ⟨.ro, 5, octT bs⟩), (384, ⟨.box, 27, [.v (.int .i64 s.at_), .l 1537 [] 0 s.regs.length, .l 1538 [] 0 s.out.length, .v (.int .i64 s.code)]⟩), (704, ⟨.box, 27, [.v (.int .i64 t.at_), .l 3393 [] 0 t.regs.length, .l 3394 [] 0 t.out.length, .v (.int .i64 t.code)]⟩), (1152, ⟨.own, 40, insT l⟩), (1153, ⟨.own, 29, evT es⟩), (1537, ⟨.own, 3, ints s.regs⟩), (1538, ⟨.own, 3, ints s.out⟩), (3393, ⟨.own, 3, ints t.regs⟩), (3394, ⟨.own, 3, ints t.out⟩)]⟩
theorem stAt_take {l : List Ins} {es : List Ev} {k : Nat} : ∀ {i : Nat}, i ≤ k → stAt l (es.take k) i = stAt l es i
 | 0, _ => rfl
 | i + 1, h => by
  rw [stAt, stAt, stAt_take (by omega)]
  congr 1
  unfold evAt
  rw [List.getElem?_take, if_pos (by omega)]
end Go.Proofs.Ytninncdacekfgaa.VM
