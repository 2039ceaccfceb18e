/- A system that is taken back: reckoned. -/
import Derived.Test.YtninncdacekfgaaGreatK14s
import Derived.Test.YtninncdacekfgaaGreatK16s
import Derived.Test.YtninncdacekfgaaGreatK6s
import Derived.Test.YtninncdacekfgaaGreatK13s
import Derived.Test.YtninncdacekfgaaGreatV3d
import Derived.Test.YtninncdacekfgaaGreatFxd
import Derived.Test.YtninncdacekfgaaGreatMkd
import Derived.Test.YtninncdacekfgaaGreatTabd
import Derived.Test.YtninncdacekfgaaGreatK0d
import Derived.Test.YtninncdacekfgaaGreatK2d
import Derived.Test.YtninncdacekfgaaGreatK4d
import Derived.Test.YtninncdacekfgaaGreatK5d
import Derived.Test.YtninncdacekfgaaGreatK6d
import Derived.Test.YtninncdacekfgaaGreatK7d
import Derived.Test.YtninncdacekfgaaGreatK13d
import Derived.Test.YtninncdacekfgaaGreatK16d
import Derived.Test.YtninncdacekfgaaGreatK17d
import Derived.Test.YtninncdacekfgaaGreatK18d
import Derived.Test.YtninncdacekfgaaGreatK19d
import Derived.Test.YtninncdacekfgaaGreatK20d
import Derived.Test.YtninncdacekfgaaGreatK21d
import Derived.Test.YtninncdacekfgaaGreatK23d
import Derived.Test.YtninncdacekfgaaGreatK24d
import Derived.Test.YtninncdacekfgaaGreatK25d
import Derived.Test.YtninncdacekfgaaGreatK29d
import Derived.Test.YtninncdacekfgaaGreatK32d
import Derived.Test.YtninncdacekfgaaGreatK33d
import Derived.Test.YtninncdacekfgaaGreatK34d
set_option linter.unusedSimpArgs false
set_option linter.unusedVariables false
set_option maxRecDepth 100000
set_option maxHeartbeats 80000000
namespace Go.Proofs.YtninncdacekfgaaGreat.VM
open Go Go.Proofs
def hC (S : Sy) (c : List Int) (i : Nat) : List (List Ev) := (List.range i).map fun p => (rowH S.hist p).take (cAt c p)
def sC (S : Sy) (c : List Int) (i : Nat) : List Sta := (List.range i).map fun p => replayS (progOf S p) ((rowH S.hist p).take (cAt c p))
theorem hC_len (S : Sy) (c : List Int) (i : Nat) : (hC S c i).length = i := by simp [hC]
theorem sC_len (S : Sy) (c : List Int) (i : Nat) : (sC S c i).length = i := by simp [sC]
theorem hC_succ (S : Sy) (c : List Int) (i : Nat) : hC S c (i + 1) = hC S c i ++ [(rowH S.hist i).take (cAt c i)] := by simp [hC, List.range_succ]
theorem sC_succ (S : Sy) (c : List Int) (i : Nat) : sC S c (i + 1) = sC S c i ++ [replayS (progOf S i) ((rowH S.hist i).take (cAt c i))] := by simp [sC, List.range_succ]
theorem hC_row {S : Sy} {c : List Int} {i p : Nat} (hp : p < i) : rowH (hC S c i) p = (rowH S.hist p).take (cAt c p) := by
 unfold hC
 conv => lhs; unfold rowH
 rw [List.getElem?_map, List.getElem?_range hp]
 rfl
def sentC (h : List (List Ev)) (a b : Nat) : List Int := valsE (rowH h a) 2 b
def tookC (h : List (List Ev)) (a b : Nat) : Nat := (valsE (rowH h b) 3 a).length
def itm (v : Int) : Itm := ⟨false, v⟩
def wyF (h : List (List Ev)) (a b : Nat) : List Itm := ((sentC h a b).drop (tookC h a b)).map itm
def wyK (h : List (List Ev)) (n k : Nat) : List (List Itm) := (List.range (n * n)).map fun w => if w < k then wyF h (w / n) (w % n) else []
theorem wyK_len (h : List (List Ev)) (n k : Nat) : (wyK h n k).length = n * n := by simp [wyK]
theorem wyK_0 (h : List (List Ev)) (n : Nat) : wyK h n 0 = List.replicate (n * n) [] := by
 unfold wyK
 simp [List.map_const']
theorem flat_lt {a b n : Nat} (ha : a < n) (hb : b < n) : a * n + b < n * n := by
 have h1 : (a + 1) * n ≤ n * n := Nat.mul_le_mul_right n ha
 rw [Nat.add_mul, Nat.one_mul] at h1
 omega
theorem wyK_at {h : List (List Ev)} {n a b : Nat} (ha : a < n) (hb : b < n) : (wyK h n (a * n + b))[a * n + b]? = some [] := by
 unfold wyK
 rw [List.getElem?_map, List.getElem?_range (flat_lt ha hb)]
 simp
theorem wyK_set {h : List (List Ev)} {n a b : Nat} (ha : a < n) (hb : b < n) : (wyK h n (a * n + b)).set (a * n + b) (wyF h a b) = wyK h n (a * n + b + 1) := by
 apply List.ext_getElem?
 intro w
 rw [List.getElem?_set]
 by_cases e : a * n + b = w
 ·subst e
  rw [if_pos rfl, wyK_len, if_pos (flat_lt ha hb)]
  unfold wyK
  rw [List.getElem?_map, List.getElem?_range (flat_lt ha hb)]
  have h1 : (a * n + b) / n = a := by
   rw [Nat.mul_comm, Nat.mul_add_div (by omega), Nat.div_eq_of_lt hb]
   rfl
  have h2 : (a * n + b) % n = b := by
   rw [Nat.mul_comm, Nat.mul_add_mod, Nat.mod_eq_of_lt hb]
  simp [h1, h2]
 ·rw [if_neg e]
  unfold wyK
  rw [List.getElem?_map, List.getElem?_map]
  rcases Nat.lt_or_ge w (n * n) with h' | h'
  ·rw [List.getElem?_range h']
   simp only [Option.map_some]
   congr 1
   by_cases h1 : w < a * n + b
   ·rw [if_pos h1, if_pos (by omega)]
   ·rw [if_neg h1, if_neg (by omega)]
  ·rw [List.getElem?_eq_none (by simpa using h')]
   rfl
def okW (h : List (List Ev)) (n a : Nat) : Bool := allTo (fun b => decide ((sentC h a b).length ≤ 12 + tookC h a b)) n
noncomputable def atF (S : Sy) (c : List Int) : Sy × Bool :=
 if allTo (okW (hC S c S.progs.length) S.progs.length) S.progs.length = true then (⟨S.progs, sC S c S.progs.length, wyK (hC S c S.progs.length) S.progs.length (S.progs.length * S.progs.length), hC S c S.progs.length⟩, true) else (zSy, false)
def H_a1 (S : Sy) (c : List Int) (i : Nat) : St := ⟨[(1, .c (.sl 4 [] 0 c.length)), (2, .ptr 192 [] 0), (4, .ptr 320 [] 0), (6, .c (.v (.int .i64 S.progs.length))), (7, .ptr 512 [] 0), (8, .c (.v (.int .i64 i)))], sysO S ++ ([(4, ⟨.ro, 3, ints c⟩), (192, sysX S), (320, zBox), (512, ⟨.box, 29, [.l 1472 [] 0 S.progs.length, lkZ 4224 i, .l 1728 [] 0 (S.progs.length * S.progs.length), lkZ 3840 i]⟩), (1472, ⟨.own, 100, S.progs.map (sIns 105)⟩), (1728, ⟨.own, 97, List.replicate (S.progs.length * S.progs.length) (.s 99 0 [])⟩)] ++ (obZ 3840 i ⟨.own, 68, (hC S c i).map (sEvent 96)⟩ ++ obZ 4224 i ⟨.own, 71, ssT (sC S c i)⟩))⟩
def atO (S : Sy) (h : List (List Ev)) (st : List Sta) (W : List (List Itm)) : List (Nat × Obj) := [(320, zBox), (512, ⟨.box, 29, [.l 1472 [] 0 S.progs.length, .l 4224 [] 0 S.progs.length, .l 1728 [] 0 (S.progs.length * S.progs.length), .l 3840 [] 0 S.progs.length]⟩), (1472, ⟨.own, 100, S.progs.map (sIns 105)⟩), (1728, ⟨.own, 97, W.map (sItem 99)⟩), (3840, ⟨.own, 68, h.map (sEvent 96)⟩), (4224, ⟨.own, 71, ssT st⟩)]
def H_a2 (S : Sy) (h : List (List Ev)) (st : List Sta) (a : Nat) : St := ⟨[(4, .ptr 320 [] 0), (6, .c (.v (.int .i64 S.progs.length))), (7, .ptr 512 [] 0), (12, .c (.v (.int .i64 a)))], atO S h st (wyK h S.progs.length (a * S.progs.length))⟩
def H_a3 (S : Sy) (h : List (List Ev)) (st : List Sta) (a b : Nat) : St := ⟨[(4, .ptr 320 [] 0), (6, .c (.v (.int .i64 S.progs.length))), (7, .ptr 512 [] 0), (12, .c (.v (.int .i64 a))), (13, .c (.v (.int .i64 b)))], atO S h st (wyK h S.progs.length (a * S.progs.length + b))⟩
def parW (h : List (List Ev)) (a b i : Nat) : List Itm := (((sentC h a b).drop (tookC h a b)).take i).map itm
def H_a4 (S : Sy) (h : List (List Ev)) (st : List Sta) (a b i : Nat) : St := ⟨[(4, .ptr 320 [] 0), (6, .c (.v (.int .i64 S.progs.length))), (7, .ptr 512 [] 0), (12, .c (.v (.int .i64 a))), (13, .c (.v (.int .i64 b))), (14, .c (.sl 5376 [] 0 (sentC h a b).length)), (15, .c (.v (.int .i64 (tookC h a b)))), (16, .c (.v (.int .i64 (tookC h a b + i : Nat))))], atO S h st ((wyK h S.progs.length (a * S.progs.length + b)).set (a * S.progs.length + b) (parW h a b i)) ++ [(5376, ⟨.own, 3, ints (sentC h a b)⟩)]⟩
theorem parW_succ {h : List (List Ev)} {a b i : Nat} (hi : tookC h a b + i < (sentC h a b).length) : parW h a b (i + 1) = parW h a b i ++ [itm ((sentC h a b)[tookC h a b + i])] := by
 unfold parW
 rw [List.take_add_one, List.map_append, List.getElem?_drop, List.getElem?_eq_getElem hi]
 rfl
theorem parW_len {h : List (List Ev)} {a b i : Nat} (hi : tookC h a b + i ≤ (sentC h a b).length) : (parW h a b i).length = i := by
 unfold parW
 rw [List.length_map, List.length_take, List.length_drop]
 omega
theorem parW_all {h : List (List Ev)} {a b : Nat} : parW h a b ((sentC h a b).length - tookC h a b) = wyF h a b := by
 unfold parW wyF
 rw [List.take_of_length_le (by rw [List.length_drop]; exact Nat.le_refl _)]
theorem itT_snoc (l : List Itm) (v : Int) : itT l ++ [.v (.bool false), .v (.int .i64 v)] = itT (l ++ [itm v]) := by simp [itT, tItem, itm]
theorem sItem_set {l : List (List Itm)} {e : TypeId} {m : Nat} (r : List Itm) : (l.map (sItem e)).set m (.s e r.length (itT r)) = (l.set m r).map (sItem e) := by
 rw [List.map_set]
 rfl
theorem run_l8At {j : Nat} (hj : big ≤ j) (S : Sy) (R : Right S) (c : List Int) (I : CutI S.hist c) : M.run (j + 7) 42 [.agg (syR S), .c (.r 3 c.length (ints c))] = some ([.agg (syS (atF S c).1), .c (.v (.bool (atF S c).2))], [.agg (syR S), .c (.r 3 c.length (ints c))]) := by
 have h := R.small
 have n4 := R.n4
 have n1 := R.n1
 have hh := R.hi
 have nn : S.progs.length * S.progs.length ≤ 16 := Nat.mul_le_mul n4 n4
 have hcl : c.length = S.progs.length := by rw [I.len, hh]
 have e1 := run_l4Ins (j := j + 5) (by omega) S.progs h.progs (fun x hx => by obtain ⟨i, hi, rfl⟩ := List.getElem_of_mem hx; exact h.prog hi)
 have w1 : ∀ l : List (List Ins), (l.map (sIns 105)).take l.length = l.map (sIns 105) := fun l => List.take_of_length_le (by simp)
 have hnn : ((S.progs.length : Int) * (S.progs.length : Int)) = ((S.progs.length * S.progs.length : Nat) : Int) := (Int.natCast_mul _ _).symm
 have w := w64 (x := (S.progs.length : Int) * (S.progs.length : Int)) (by rw [hnn]; omega)
 have hpn : 0 ≤ (S.progs.length : Int) * (S.progs.length : Int) := by rw [hnn]; omega
 have htn : ((S.progs.length : Int) * (S.progs.length : Int)).toNat = S.progs.length * S.progs.length := by rw [hnn]; rfl
 have hle : (S.progs.length : Int) * (S.progs.length : Int) ≤ most := by rw [hnn]; unfold most; omega
 rw [m_run (fn := Tryz.f42) (i0 := 0) rfl Tryz.func42 rfl rfl (by simp [syR])]
 simp only [syR]
 simp -implicitDefEqProofs [own1, e1, w, hpn, htn, hle, w1, -List.map_take]
 rw [loop_then (H_a1 S c) S.progs.length (by simp -implicitDefEqProofs [H_a1, sysO, sysX, zBox, hint1]) (by simp [big] at hj; omega) (fun i hi => by
  have hi3 : i < S.hist.length := by omega
  have hic : i < c.length := by omega
  obtain ⟨ci, li⟩ := I.at_ hic
  rw [rowH_of hi3] at li
  have tb := h.his hi3
  have gi := ints_get hic
  rw [ci] at gi
  have hpg : progOf S i = S.progs[i] := by unfold progOf; rw [List.getElem?_eq_getElem hi]; rfl
  have e3 := run_specReplay (j := j) hj S.progs[i] (S.hist[i].take (cAt c i)) (h.prog hi) (by rw [List.length_take]; omega)
  rw [List.length_take, Nat.min_eq_left li] at e3
  have hhs := hC_succ S c i
  have hss := sC_succ S c i
  rw [rowH_of hi3] at hhs hss
  rw [hpg] at hss
  have hl := hC_len S c i
  have sl := sC_len S c i
  generalize replayS S.progs[i] (S.hist[i].take (cAt c i)) = D at *
  have tkh : ((hC S c i).map (sEvent 96)).take i = (hC S c i).map (sEvent 96) := List.take_of_length_le (by simp [hl])
  have tks : (ssT (sC S c i)).take (i * 4) = ssT (sC S c i) := List.take_of_length_le (by rw [ssT_len, sl]; exact Nat.le_refl _)
  have tke : (evT (S.hist[i].take (cAt c i))).take (cAt c i * 3) = evT (S.hist[i].take (cAt c i)) := List.take_of_length_le (by rw [evT_len, List.length_take]; omega)
  have d1 : (ints D.regs).take D.regs.length = ints D.regs := List.take_of_length_le (by simp)
  have d2 : (ints D.out).take D.out.length = ints D.out := List.take_of_length_le (by simp)
  have lm' : i * 4 + 4 ≤ most := by unfold most; omega
  have l4 : 4 ≤ most := by unfold most; omega
  have l1 : 1 ≤ most := by unfold most; omega
  have lc : cAt c i * 3 ≤ most := by unfold most; omega
  have lm := le_most (n := i + 1) (by omega)
  have se : sEvent 96 (S.hist[i].take (cAt c i)) = .s 96 (cAt c i) (evT (S.hist[i].take (cAt c i))) := by unfold sEvent; rw [List.length_take, Nat.min_eq_left li]
  have hssT : ssT (sC S c (i + 1)) = ssT (sC S c i) ++ [.v (.int .i64 D.at_), .s 3 D.regs.length (ints D.regs), .s 3 D.out.length (ints D.out), .v (.int .i64 D.code)] := by
   rw [hss]
   simp [ssT, sSta, stS]
  have wo := w64 (x := 1) (by omega)
  simp only [sSta, stS] at e3
  by_cases hz : i = 0
  ·subst hz
   have z1 : hC S c 0 = [] := rfl
   have z2 : sC S c 0 = [] := rfl
   rw [z1, List.nil_append] at hhs
   rw [z2, show ssT [] = [] from rfl, List.nil_append] at hssT
   simp -implicitDefEqProofs (maxSteps := 10000000) [H_a1, sysO, sysX, zBox, hint1, hi, hi3, hic, own1, hhs, hssT, z1, z2, se, wo, rEvent_at hi3, rEvent, rIns_at hi, rIns, gi, ci, li, lc, l4, l1, tke, d1, d2, e3, show cAt c 0 * 3 ≤ S.hist[0].length * 3 by omega]
  ·simp -implicitDefEqProofs (maxSteps := 10000000) [H_a1, sysO, sysX, zBox, hint1, hi, hi3, hic, own1, hhs, hssT, hl, sl, tkh, tks, se, wo, lkZ_of hz, obZ_of hz, rEvent_at hi3, rEvent, rIns_at hi, rIns, gi, ci, li, lc, lm, lm', l4, l1, tke, d1, d2, e3, show cAt c i * 3 ≤ S.hist[i].length * 3 by omega, w64 (x := (i : Int) + 1) (by omega), -List.map_take])]
 have hr : ∀ p, p < S.progs.length → (rowH (hC S c S.progs.length) p).length ≤ 1048576 := fun p hp => by
  rw [hC_row hp, List.length_take, rowH_of (by omega)]
  have := h.his (show p < S.hist.length by omega)
  omega
 unfold atF
 have hl := hC_len S c S.progs.length
 have sl := sC_len S c S.progs.length
 have hz : S.progs.length ≠ 0 := by omega
 simp -implicitDefEqProofs (maxSteps := 10000000) [H_a1, sysO, sysX, zBox, lkZ_of hz, obZ_of hz]
 generalize hC S c S.progs.length = hh' at *
 generalize sC S c S.progs.length = st at *
 have body : ∀ a b, a < S.progs.length → b < S.progs.length → ∀ j', big ≤ j' → (M.run (j' + 1) 89 [.c (.r 96 (rowH hh' a).length (evT (rowH hh' a))), .c (.v (.int .i64 2)), .c (.v (.int .i64 b))] = some ([.c (.s 3 (sentC hh' a b).length (ints (sentC hh' a b)))], [.c (.r 96 (rowH hh' a).length (evT (rowH hh' a))), .c (.v (.int .i64 2)), .c (.v (.int .i64 b))])) ∧ M.run (j' + 2) 99 [.c (.r 96 (rowH hh' b).length (evT (rowH hh' b))), .c (.v (.int .i64 3)), .c (.v (.int .i64 a))] = some ([.c (.v (.int .i64 (tookC hh' a b)))], [.c (.r 96 (rowH hh' b).length (evT (rowH hh' b))), .c (.v (.int .i64 3)), .c (.v (.int .i64 a))]) := fun a b ha hb j' hj' => ⟨run_specValues hj' _ 2 b (hr a ha), run_specCount hj' _ 3 a (hr b hb)⟩
 have vl : ∀ a b, a < S.progs.length → b < S.progs.length → (sentC hh' a b).length ≤ 1048576 ∧ tookC hh' a b ≤ 1048576 := fun a b ha hb => by
  have h1 := valsE_le (rowH hh' a) 2 b
  have h2 := valsE_le (rowH hh' b) 3 a
  have h3 := hr a ha
  have h4 := hr b hb
  unfold sentC tookC
  omega
 have set_self' : ∀ {l : List (List Itm)} {i : Nat}, l[i]? = some [] → l.set i [] = l := fun {l i} h => by
  obtain ⟨hi, e⟩ := List.getElem?_eq_some_iff.1 h
  rw [← e]
  exact List.set_getElem_self hi
 have ab_le : ∀ {a : Nat}, a < S.progs.length → S.progs.length ≤ 4 → a * S.progs.length ≤ 16 := fun {a} h1 h2 => Nat.mul_le_mul (show a ≤ 4 by omega) h2
 have w0 := wyK_0 hh' S.progs.length
 have wm0 : (wyK hh' S.progs.length 0).map (sItem 99) = List.replicate (S.progs.length * S.progs.length) (.s 99 0 []) := by
  rw [w0, List.map_replicate]
  rfl
 obtain ⟨A, hA, ag, hA'⟩ := firstN (okW hh' S.progs.length) S.progs.length
 rw [loop_then (H_a2 S hh' st) A (by simp -implicitDefEqProofs [H_a2, atO, zBox, hint1, wm0]) (by simp [big] at hj; omega) (fun a ha => by
  have ha' : a < S.progs.length := by omega
  have gg := allTo_of (ag a ha)
  simp -implicitDefEqProofs (maxSteps := 10000000) [H_a2, atO, zBox, hint1, ha']
  rw [loop_then (H_a3 S hh' st a) S.progs.length (by simp -implicitDefEqProofs [H_a3, atO, zBox, hint1]) (by simp [big] at hj; omega) (fun b hb => by
   have g := of_decide_eq_true (gg b hb)
   have ha3 : a < hh'.length := by omega
   have hb3 : b < hh'.length := by omega
   have e5 := (body a b ha' hb (j + 5) (by omega)).1
   have e6 := (body a b ha' hb (j + 4) (by omega)).2
   rw [rowH_of ha3] at e5
   rw [rowH_of hb3] at e6
   obtain ⟨v1, v2⟩ := vl a b ha' hb
   have hk := flat_lt ha' hb
   have wl := wyK_len hh' S.progs.length (a * S.progs.length + b)
   have hset := wyK_set (h := hh') ha' hb
   have hnil := wyK_at (h := hh') ha' hb
   have hs0 : (wyK hh' S.progs.length (a * S.progs.length + b)).set (a * S.progs.length + b) (parW hh' a b 0) = wyK hh' S.progs.length (a * S.progs.length + b) := set_self' hnil
   have hall := parW_all (h := hh') (a := a) (b := b)
   have am := ab_le ha' n4
   have ix1 : (((a * S.progs.length : Nat)) : Int) = (a : Int) * (S.progs.length : Int) := Int.natCast_mul _ _
   have ix2 : ((S.progs.length * S.progs.length : Nat) : Int) = (S.progs.length : Int) * (S.progs.length : Int) := Int.natCast_mul _ _
   have x1 := w64 (x := (a : Int) * (S.progs.length : Int)) (by omega)
   have x2 := w64 (x := (a : Int) * (S.progs.length : Int) + b) (by omega)
   have x3 : 0 ≤ (a : Int) * (S.progs.length : Int) + b := by omega
   have x4 : ((a : Int) * (S.progs.length : Int) + b).toNat = a * S.progs.length + b := by omega
   have x5 : (a : Int) * (S.progs.length : Int) + b < (S.progs.length : Int) * (S.progs.length : Int) := by omega
   have psu := fun i hi => parW_succ (h := hh') (a := a) (b := b) (i := i) hi
   have pln := fun i hi => parW_len (h := hh') (a := a) (b := b) (i := i) hi
   have h4d : H_a4 S hh' st a b = H_a4 S hh' st a b := rfl
   generalize hV : sentC hh' a b = V at *
   generalize hT : tookC hh' a b = K at *
   have tkV : (ints V).take V.length = ints V := List.take_of_length_le (by simp)
   simp -implicitDefEqProofs (maxSteps := 10000000) [H_a3, atO, zBox, hint1, hb, ha', own1, ha3, hb3, sEvent_at ha3, sEvent_at hb3, sEvent, e5, e6]
   rw [loop_then (H_a4 S hh' st a b) (V.length - K) (by simp -implicitDefEqProofs [H_a4, atO, zBox, hint1, hs0, hV, hT]) (by simp [big] at hj; omega) (fun i hi => by
    have hki : K + i < V.length := by omega
    have hki' : ((K + i : Nat) : Int) < V.length := by omega
    have p1 := psu i (by omega)
    have p2 := pln i (by omega)
    have gV := ints_get hki
    generalize hP : parW hh' a b i = P at *
    generalize hP2 : parW hh' a b (i + 1) = P2 at *
    have lW : ((wyK hh' S.progs.length (a * S.progs.length + b)).set (a * S.progs.length + b) P).length = S.progs.length * S.progs.length := by rw [List.length_set]; exact wl
    have fW : (((wyK hh' S.progs.length (a * S.progs.length + b)).set (a * S.progs.length + b) P).map (sItem 99))[a * S.progs.length + b]? = some (.s 99 i (itT P)) := by
     rw [List.getElem?_map, List.getElem?_set_self (by rw [wl]; exact hk)]
     unfold sItem
     rw [Option.map_some, p2]
    have p3 : P2.length = i + 1 := by rw [p1, List.length_append, p2]; rfl
    have fI : itT P ++ [.v (.bool false), .v (.int .i64 V[K + i])] = itT P2 := by rw [p1]; exact itT_snoc P _
    have fS : (((wyK hh' S.progs.length (a * S.progs.length + b)).set (a * S.progs.length + b) P).map (sItem 99)).set (a * S.progs.length + b) (.s 99 (i + 1) (itT P2)) = ((wyK hh' S.progs.length (a * S.progs.length + b)).set (a * S.progs.length + b) P2).map (sItem 99) := by
     rw [← p3, sItem_set, List.set_set]
    have tkP : (itT P).take (i * 2) = itT P := List.take_of_length_le (by simp [p2])
    have tkP2 : (itT P2).take ((i + 1) * 2) = itT P2 := List.take_of_length_le (by simp [p3])
    simp -implicitDefEqProofs (maxSteps := 10000000) [H_a4, atO, zBox, hint1, own1, hV, hT, hP, hP2, hki, hki', gV, gq gV, lW, fW, gq fW, fI, fS, tkP, tkP2, p2, p3, x1, x2, x3, x4, x5, hk, show a * S.progs.length + b + 1 ≤ S.progs.length * S.progs.length by omega, show i * 2 + 2 ≤ most by unfold most; omega, show (i + 1) * 2 ≤ i * 2 + 2 by omega, w64 (x := ((K + i : Nat) : Int) + 1) (by omega), w64 (x := (K : Int) + i + 1) (by omega), show (K : Int) + i < V.length by omega, show (0 : Int) ≤ (K : Int) + i by omega, show ((K : Int) + i).toNat = K + i by omega, show K + (i + 1) = K + i + 1 by omega, -List.map_set])]
   have hfin := hset
   rw [← hall] at hfin
   have wd := w64 (x := (V.length : Int) - K) (by omega)
   simp -implicitDefEqProofs (maxSteps := 10000000) [H_a4, H_a3, atO, zBox, hint1, hV, hT, hfin, wd, show ¬ ((K : Int) + ((V.length - K : Nat) : Int) < V.length) by omega, show ¬ (12 < (V.length : Int) - K) by omega, w64 (x := (b : Int) + 1) (by omega), show a * S.progs.length + (b + 1) = a * S.progs.length + b + 1 by omega, -List.map_set])]
  simp -implicitDefEqProofs (maxSteps := 10000000) [H_a3, H_a2, atO, zBox, hint1, w64 (x := (a : Int) + 1) (by omega), show (a + 1) * S.progs.length = a * S.progs.length + S.progs.length by rw [Nat.add_mul, Nat.one_mul]])]
 have tks : (ssT st).take (S.progs.length * 4) = ssT st := List.take_of_length_le (by rw [ssT_len, sl]; exact Nat.le_refl _)
 have tkh : (hh'.map (sEvent 96)).take S.progs.length = hh'.map (sEvent 96) := List.take_of_length_le (by simp [hl])
 have tkw : ((wyK hh' S.progs.length (S.progs.length * S.progs.length)).map (sItem 99)).take (S.progs.length * S.progs.length) = (wyK hh' S.progs.length (S.progs.length * S.progs.length)).map (sItem 99) := List.take_of_length_le (by rw [List.length_map, wyK_len]; exact Nat.le_refl _)
 have wyl := wyK_len hh' S.progs.length (S.progs.length * S.progs.length)
 rcases hA' with ⟨hA', hall⟩ | ⟨hlt, hbad, hall⟩
 ·rw [hall, hA', if_pos rfl]
  simp -implicitDefEqProofs (maxSteps := 10000000) [H_a2, atO, zBox, syS, hl, sl, wyl, tks, tkh, tkw, w1, -List.map_take]
 ·rw [hall, if_neg (by simp)]
  clear hall
  obtain ⟨B, hB, bg, hB'⟩ := firstN (fun b => decide ((sentC hh' A b).length ≤ 12 + tookC hh' A b)) S.progs.length
  have hbad' : allTo (fun b => decide ((sentC hh' A b).length ≤ 12 + tookC hh' A b)) S.progs.length = false := hbad
  rw [hbad'] at hB'
  have hB' := hB'.resolve_left (by simp)
  have hb : B < S.progs.length := hB'.1
  have g : ¬ (sentC hh' A B).length ≤ 12 + tookC hh' A B := of_decide_eq_false hB'.2.1
  simp -implicitDefEqProofs (maxSteps := 10000000) [H_a2, atO, zBox, hlt]
  rw [loop_then (H_a3 S hh' st A) B (by simp -implicitDefEqProofs [H_a3, atO, zBox, hint1]) (by simp [big] at hj; omega) (fun b hb => by
   have hb' : b < S.progs.length := by omega
   have g := of_decide_eq_true (bg b hb)
   have ha3 : A < hh'.length := by omega
   have hb3 : b < hh'.length := by omega
   have e5 := (body A b hlt hb' (j + 5) (by omega)).1
   have e6 := (body A b hlt hb' (j + 4) (by omega)).2
   rw [rowH_of ha3] at e5
   rw [rowH_of hb3] at e6
   obtain ⟨v1, v2⟩ := vl A b hlt hb'
   have hk := flat_lt hlt hb'
   have wl := wyK_len hh' S.progs.length (A * S.progs.length + b)
   have hset := wyK_set (h := hh') hlt hb'
   have hnil := wyK_at (h := hh') hlt hb'
   have hs0 : (wyK hh' S.progs.length (A * S.progs.length + b)).set (A * S.progs.length + b) (parW hh' A b 0) = wyK hh' S.progs.length (A * S.progs.length + b) := set_self' hnil
   have hall := parW_all (h := hh') (a := A) (b := b)
   have am := ab_le hlt n4
   have ix1 : (((A * S.progs.length : Nat)) : Int) = (A : Int) * (S.progs.length : Int) := Int.natCast_mul _ _
   have ix2 : ((S.progs.length * S.progs.length : Nat) : Int) = (S.progs.length : Int) * (S.progs.length : Int) := Int.natCast_mul _ _
   have x1 := w64 (x := (A : Int) * (S.progs.length : Int)) (by omega)
   have x2 := w64 (x := (A : Int) * (S.progs.length : Int) + b) (by omega)
   have x3 : 0 ≤ (A : Int) * (S.progs.length : Int) + b := by omega
   have x4 : ((A : Int) * (S.progs.length : Int) + b).toNat = A * S.progs.length + b := by omega
   have x5 : (A : Int) * (S.progs.length : Int) + b < (S.progs.length : Int) * (S.progs.length : Int) := by omega
   have psu := fun i hi => parW_succ (h := hh') (a := A) (b := b) (i := i) hi
   have pln := fun i hi => parW_len (h := hh') (a := A) (b := b) (i := i) hi
   have h4d : H_a4 S hh' st A b = H_a4 S hh' st A b := rfl
   generalize hV : sentC hh' A b = V at *
   generalize hT : tookC hh' A b = K at *
   have tkV : (ints V).take V.length = ints V := List.take_of_length_le (by simp)
   simp -implicitDefEqProofs (maxSteps := 10000000) [H_a3, atO, zBox, hint1, hb', hlt, own1, ha3, hb3, sEvent_at ha3, sEvent_at hb3, sEvent, e5, e6]
   rw [loop_then (H_a4 S hh' st A b) (V.length - K) (by simp -implicitDefEqProofs [H_a4, atO, zBox, hint1, hs0, hV, hT]) (by simp [big] at hj; omega) (fun i hi => by
    have hki : K + i < V.length := by omega
    have hki' : ((K + i : Nat) : Int) < V.length := by omega
    have p1 := psu i (by omega)
    have p2 := pln i (by omega)
    have gV := ints_get hki
    generalize hP : parW hh' A b i = P at *
    generalize hP2 : parW hh' A b (i + 1) = P2 at *
    have lW : ((wyK hh' S.progs.length (A * S.progs.length + b)).set (A * S.progs.length + b) P).length = S.progs.length * S.progs.length := by rw [List.length_set]; exact wl
    have fW : (((wyK hh' S.progs.length (A * S.progs.length + b)).set (A * S.progs.length + b) P).map (sItem 99))[A * S.progs.length + b]? = some (.s 99 i (itT P)) := by
     rw [List.getElem?_map, List.getElem?_set_self (by rw [wl]; exact hk)]
     unfold sItem
     rw [Option.map_some, p2]
    have p3 : P2.length = i + 1 := by rw [p1, List.length_append, p2]; rfl
    have fI : itT P ++ [.v (.bool false), .v (.int .i64 V[K + i])] = itT P2 := by rw [p1]; exact itT_snoc P _
    have fS : (((wyK hh' S.progs.length (A * S.progs.length + b)).set (A * S.progs.length + b) P).map (sItem 99)).set (A * S.progs.length + b) (.s 99 (i + 1) (itT P2)) = ((wyK hh' S.progs.length (A * S.progs.length + b)).set (A * S.progs.length + b) P2).map (sItem 99) := by
     rw [← p3, sItem_set, List.set_set]
    have tkP : (itT P).take (i * 2) = itT P := List.take_of_length_le (by simp [p2])
    have tkP2 : (itT P2).take ((i + 1) * 2) = itT P2 := List.take_of_length_le (by simp [p3])
    simp -implicitDefEqProofs (maxSteps := 10000000) [H_a4, atO, zBox, hint1, own1, hV, hT, hP, hP2, hki, hki', gV, gq gV, lW, fW, gq fW, fI, fS, tkP, tkP2, p2, p3, x1, x2, x3, x4, x5, hk, show A * S.progs.length + b + 1 ≤ S.progs.length * S.progs.length by omega, show i * 2 + 2 ≤ most by unfold most; omega, show (i + 1) * 2 ≤ i * 2 + 2 by omega, w64 (x := ((K + i : Nat) : Int) + 1) (by omega), w64 (x := (K : Int) + i + 1) (by omega), show (K : Int) + i < V.length by omega, show (0 : Int) ≤ (K : Int) + i by omega, show ((K : Int) + i).toNat = K + i by omega, show K + (i + 1) = K + i + 1 by omega, -List.map_set])]
   have hfin := hset
   rw [← hall] at hfin
   have wd := w64 (x := (V.length : Int) - K) (by omega)
   simp -implicitDefEqProofs (maxSteps := 10000000) [H_a4, H_a3, atO, zBox, hint1, hV, hT, hfin, wd, show ¬ ((K : Int) + ((V.length - K : Nat) : Int) < V.length) by omega, show ¬ (12 < (V.length : Int) - K) by omega, w64 (x := (b : Int) + 1) (by omega), show A * S.progs.length + (b + 1) = A * S.progs.length + b + 1 by omega, -List.map_set])]
  have ha3 : A < hh'.length := by omega
  have hb3 : B < hh'.length := by omega
  have e5 := (body A B hlt hb (j + 5) (by omega)).1
  have e6 := (body A B hlt hb (j + 4) (by omega)).2
  rw [rowH_of ha3] at e5
  rw [rowH_of hb3] at e6
  obtain ⟨v1, v2⟩ := vl A B hlt hb
  have hk := flat_lt hlt hb
  have wl := wyK_len hh' S.progs.length (A * S.progs.length + B)
  have hset := wyK_set (h := hh') hlt hb
  have hnil := wyK_at (h := hh') hlt hb
  have hs0 : (wyK hh' S.progs.length (A * S.progs.length + B)).set (A * S.progs.length + B) (parW hh' A B 0) = wyK hh' S.progs.length (A * S.progs.length + B) := set_self' hnil
  have hall := parW_all (h := hh') (a := A) (b := B)
  have am := ab_le hlt n4
  have ix1 : (((A * S.progs.length : Nat)) : Int) = (A : Int) * (S.progs.length : Int) := Int.natCast_mul _ _
  have ix2 : ((S.progs.length * S.progs.length : Nat) : Int) = (S.progs.length : Int) * (S.progs.length : Int) := Int.natCast_mul _ _
  have x1 := w64 (x := (A : Int) * (S.progs.length : Int)) (by omega)
  have x2 := w64 (x := (A : Int) * (S.progs.length : Int) + B) (by omega)
  have x3 : 0 ≤ (A : Int) * (S.progs.length : Int) + B := by omega
  have x4 : ((A : Int) * (S.progs.length : Int) + B).toNat = A * S.progs.length + B := by omega
  have x5 : (A : Int) * (S.progs.length : Int) + B < (S.progs.length : Int) * (S.progs.length : Int) := by omega
  have psu := fun i hi => parW_succ (h := hh') (a := A) (b := B) (i := i) hi
  have pln := fun i hi => parW_len (h := hh') (a := A) (b := B) (i := i) hi
  have h4d : H_a4 S hh' st A B = H_a4 S hh' st A B := rfl
  generalize hV : sentC hh' A B = V at *
  generalize hT : tookC hh' A B = K at *
  have tkV : (ints V).take V.length = ints V := List.take_of_length_le (by simp)
  simp -implicitDefEqProofs (maxSteps := 10000000) [H_a3, atO, zBox, hint1, hb, hlt, own1, ha3, hb3, sEvent_at ha3, sEvent_at hb3, sEvent, e5, e6]
  rw [loop_then (H_a4 S hh' st A B) (V.length - K) (by simp -implicitDefEqProofs [H_a4, atO, zBox, hint1, hs0, hV, hT]) (by simp [big] at hj; omega) (fun i hi => by
   have hki : K + i < V.length := by omega
   have hki' : ((K + i : Nat) : Int) < V.length := by omega
   have p1 := psu i (by omega)
   have p2 := pln i (by omega)
   have gV := ints_get hki
   generalize hP : parW hh' A B i = P at *
   generalize hP2 : parW hh' A B (i + 1) = P2 at *
   have lW : ((wyK hh' S.progs.length (A * S.progs.length + B)).set (A * S.progs.length + B) P).length = S.progs.length * S.progs.length := by rw [List.length_set]; exact wl
   have fW : (((wyK hh' S.progs.length (A * S.progs.length + B)).set (A * S.progs.length + B) P).map (sItem 99))[A * S.progs.length + B]? = some (.s 99 i (itT P)) := by
    rw [List.getElem?_map, List.getElem?_set_self (by rw [wl]; exact hk)]
    unfold sItem
    rw [Option.map_some, p2]
   have p3 : P2.length = i + 1 := by rw [p1, List.length_append, p2]; rfl
   have fI : itT P ++ [.v (.bool false), .v (.int .i64 V[K + i])] = itT P2 := by rw [p1]; exact itT_snoc P _
   have fS : (((wyK hh' S.progs.length (A * S.progs.length + B)).set (A * S.progs.length + B) P).map (sItem 99)).set (A * S.progs.length + B) (.s 99 (i + 1) (itT P2)) = ((wyK hh' S.progs.length (A * S.progs.length + B)).set (A * S.progs.length + B) P2).map (sItem 99) := by
    rw [← p3, sItem_set, List.set_set]
   have tkP : (itT P).take (i * 2) = itT P := List.take_of_length_le (by simp [p2])
   have tkP2 : (itT P2).take ((i + 1) * 2) = itT P2 := List.take_of_length_le (by simp [p3])
   simp -implicitDefEqProofs (maxSteps := 10000000) [H_a4, atO, zBox, hint1, own1, hV, hT, hP, hP2, hki, hki', gV, gq gV, lW, fW, gq fW, fI, fS, tkP, tkP2, p2, p3, x1, x2, x3, x4, x5, hk, show A * S.progs.length + B + 1 ≤ S.progs.length * S.progs.length by omega, show i * 2 + 2 ≤ most by unfold most; omega, show (i + 1) * 2 ≤ i * 2 + 2 by omega, w64 (x := ((K + i : Nat) : Int) + 1) (by omega), w64 (x := (K : Int) + i + 1) (by omega), show (K : Int) + i < V.length by omega, show (0 : Int) ≤ (K : Int) + i by omega, show ((K : Int) + i).toNat = K + i by omega, show K + (i + 1) = K + i + 1 by omega, -List.map_set])]
  have hfin := hset
  rw [← hall] at hfin
  have wd := w64 (x := (V.length : Int) - K) (by omega)
  simp -implicitDefEqProofs (maxSteps := 10000000) [H_a4, atO, zBox, hV, hT, hfin, wd, syS, zSy, show ¬ ((K : Int) + ((V.length - K : Nat) : Int) < V.length) by omega, show (12 < (V.length : Int) - K) by omega, -List.map_set]
end Go.Proofs.YtninncdacekfgaaGreat.VM
namespace Go.Proofs.YtninncdacekfgaaGreat.VM
open Go Go.Proofs
end Go.Proofs.YtninncdacekfgaaGreat.VM
