/- Clocks: reckoned. -/
import Derived.Test.YtninncdacekfgaaK53
import Derived.Test.YtninncdacekfgaaK29
import Derived.Test.YtninncdacekfgaaK0
import Derived.Test.YtninncdacekfgaaK14
/- Clocks: the program's, reckoned. -/
namespace Go.Proofs.Ytninncdacekfgaa.VM
open Go Go.Proofs
set_option linter.unusedSimpArgs false
set_option linter.unusedVariables false
set_option maxRecDepth 100000
set_option maxHeartbeats 40000000
/-- A row of events put in an order, and how far one is with each beginning of it. -/
inductive Chain (h : List (List Ev)) : List (Int × Int) → (Nat → Nat) → Prop where
 | nil : Chain h [] (fun _ => 0)
 | snoc {l : List (Int × Int)} {d : Nat → Nat} {p : Nat} : Chain h l d → p < h.length → enB h d p = true → Chain h (l ++ [((p : Int), (d p : Int))]) (bump d p)
theorem Chain.reach {h : List (List Ev)} {l : List (Int × Int)} {d : Nat → Nat} (c : Chain h l d) : Reach h d := by
 induction c with
 | nil => exact .zero
 | snoc _ hp he ih => exact .step ih hp he
theorem row_chain (h : List (List Ev)) : ∀ i, i ≤ rowN h → Chain h (rowAt h i).out (rowAt h i).d
 | 0, _ => .nil
 | i + 1, hi => by
  obtain ⟨_, _, q3, _⟩ := Classical.choose_spec (row_ends h)
  have hp : (rowAt h i).p < h.length := q3 i (by unfold rowN at hi; omega)
  have ih := row_chain h i (by omega)
  show Chain h (rowStep h (rowAt h i)).out (rowStep h (rowAt h i)).d
  unfold rowStep
  split
  ·rename_i he
   exact .snoc ih hp he
  ·exact ih
theorem Chain.at_ {h : List (List Ev)} {l : List (Int × Int)} {d : Nat → Nat} (c : Chain h l d) : ∃ D : Nat → Nat → Nat, D 0 = (fun _ => 0) ∧ D l.length = d ∧ ∀ k, k < l.length → ∃ p : Nat, p < h.length ∧ l[k]? = some ((p : Int), (D k p : Int)) ∧ Reach h (D k) ∧ enB h (D k) p = true ∧ D (k + 1) = bump (D k) p := by
 induction c with
 | nil => exact ⟨fun _ _ => 0, rfl, rfl, fun k hk => by simp at hk⟩
 | @snoc l d p c hp he ih =>
  obtain ⟨D, d0, d1, ds⟩ := ih
  refine ⟨fun k => if k ≤ l.length then D k else bump d p, by simp [d0], by
   have u3 : ¬ l.length + 1 ≤ l.length := by omega
   rw [List.length_append, List.length_singleton]
   simp only [if_neg u3], fun k hk => ?_⟩
  rw [List.length_append, List.length_singleton] at hk
  by_cases e : k = l.length
  ·subst e
   refine ⟨p, hp, ?_, ?_, ?_, ?_⟩
   ·simp [d1]
   ·simp only [Nat.le_refl, if_true, d1]
    exact c.reach
   ·simp only [Nat.le_refl, if_true, d1]
    exact he
   ·have u3 : ¬ l.length + 1 ≤ l.length := by omega
    simp only [Nat.le_refl, if_true, d1, if_neg u3]
  ·obtain ⟨q, a1, a2, a3, a4, a5⟩ := ds k (by omega)
   have u1 : k ≤ l.length := by omega
   have u2 : k + 1 ≤ l.length := by omega
   refine ⟨q, a1, ?_, ?_, ?_, ?_⟩
   ·simp only [if_pos u1]
    rw [List.getElem?_append_left (by omega)]
    exact a2
   ·simp only [if_pos u1]
    exact a3
   ·simp only [if_pos u1]
    exact a4
   ·simp only [if_pos u1, if_pos u2]
    exact a5
theorem row_full {h : List (List Ev)} (R : Reach h (fullD h)) : (rowF h).d = fullD h := by
 obtain ⟨_, q2, _, q4⟩ := Classical.choose_spec (row_ends h)
 have I := q4 _ (Nat.le_refl _)
 have hs : Stuck h (rowAt h (rowN h)).d := fun p hp => I.stuck p (by
  have : (rowAt h (rowN h)).p = h.length := q2
  unfold rowN at this
  omega)
 funext q
 have h1 := reach_le hs R q
 have h2 := reach_len (show Reach h (rowF h).d from I.reach) q
 unfold fullD at *
 exact Nat.le_antisymm h2 h1
/-! ### joined -/
def jn (f g : Nat → Nat) (k : Nat) : Nat → Nat := fun q => if q < k then max (f q) (g q) else f q
theorem dL_put {d : Nat → Nat} {n p v : Nat} (hp : p < n) : (dL d n).set p (v : Int) = dL (fun q => if q = p then v else d q) n := by
 apply List.ext_getElem?
 intro i
 rw [List.getElem?_set]
 simp only [dL, List.length_map, List.length_range, List.getElem?_map]
 by_cases h : p = i
 ·subst h
  rw [if_pos rfl, if_pos hp, List.getElem?_range hp]
  simp
 ·rw [if_neg h]
  rcases Nat.lt_or_ge i n with h' | h'
  ·rw [List.getElem?_range h']
   simp [show ¬ i = p from fun e => h e.symm]
  ·rw [List.getElem?_eq_none (by simpa using h')]
   rfl
theorem dL_same {d e : Nat → Nat} {n : Nat} (h : ∀ q, q < n → d q = e q) : dL d n = dL e n := by
 unfold dL
 apply List.map_congr_left
 intro q hq
 rw [h q (List.mem_range.1 hq)]
theorem jn_succ {f g : Nat → Nat} {k n v : Nat} (hk : k < n) (hv : v = max (f k) (g k)) : (dL (jn f g k) n).set k (v : Int) = dL (jn f g (k + 1)) n := by
 rw [dL_put hk]
 refine dL_same fun q hq => ?_
 unfold jn
 by_cases e : q = k
 ·subst e
  rw [if_pos rfl, if_pos (by omega), hv]
 ·rw [if_neg e]
  by_cases l : q < k
  ·rw [if_pos l, if_pos (by omega)]
  ·rw [if_neg l, if_neg (by omega)]
theorem jn_self (f g : Nat → Nat) (k : Nat) : jn f g k k = f k := if_neg (by omega)
theorem jn_lt {f g : Nat → Nat} {k q : Nat} (h : q < k) : jn f g k q = max (f q) (g q) := if_pos h
def H_jn (n : Nat) (f g : Nat → Nat) (k : Nat) : St := ⟨[(1, .ptr 2 [] 0), (5, .c (.sl 0 [] 0 n)), (6, .c (.v (.int .i64 n))), (7, .c (.v (.int .i64 k)))], [(0, ⟨.ro, 3, ints (dL g n)⟩), (1, ⟨.own, 3, ints (dL (jn f g k) n)⟩), (2, ⟨.box, 25, [.l 1 [] 0 n]⟩)]⟩
theorem run_join {j : Nat} (hj : big ≤ j) (n : Nat) (f g : Nat → Nat) (hn : n ≤ 1048576) (hf : ∀ q, q < n → f q ≤ 1048576) (hg : ∀ q, q < n → g q ≤ 1048576) : M.run (j + 1) 83 [.c (.r 3 n (ints (dL g n))), .box 25 [.s 3 n (ints (dL f n))]] = some ([], [.c (.r 3 n (ints (dL g n))), .box 25 [.s 3 n (ints (dL (jn f g n) n))]]) := by
 rw [m_run (fn := Try.f83) (i0 := 0) rfl Try.func83 rfl rfl (by simp)]
 simp -implicitDefEqProofs
 have j0 : dL (jn f g 0) n = dL f n := dL_same fun q _ => if_neg (by omega)
 rw [loop_then (H_jn n f g) n (by simp -implicitDefEqProofs [H_jn, hint1, j0]) (by simp [big] at hj; omega) (fun k hk => by
  have js := jn_self f g k
  have hk1 : k + 1 ≤ n := hk
  by_cases hlt : f k < g k
  ·have s1 := jn_succ (f := f) (g := g) hk (v := g k) (by omega)
   simp -implicitDefEqProofs [H_jn, hint1, hk, hk1, js, hlt, s1, w64 (x := (k : Int) + 1) (by omega)]
  ·have s1 := jn_succ (f := f) (g := g) hk (v := f k) (by omega)
   simp -implicitDefEqProofs [H_jn, hint1, hk, hk1, js, hlt, s1, w64 (x := (k : Int) + 1) (by omega)])]
 simp -implicitDefEqProofs [H_jn]
/-! ### all clocks -/
def rowC (h : List (List Ev)) (p k : Nat) : List T := (List.range k).map fun i => .s 3 h.length (ints (dL (clk h p i) h.length))
def outT (h : List (List Ev)) (d : Nat → Nat) : List T := (List.range h.length).map fun p => .s 25 (d p) (rowC h p (d p))
@[simp] theorem rowC_len (h : List (List Ev)) (p k : Nat) : (rowC h p k).length = k := by simp [rowC]
@[simp] theorem outT_len (h : List (List Ev)) (d : Nat → Nat) : (outT h d).length = h.length := by simp [outT]
theorem rowC_at {h : List (List Ev)} {p k i : Nat} (hi : i < k) : (rowC h p k)[i]? = some (.s 3 h.length (ints (dL (clk h p i) h.length))) := by
 unfold rowC
 rw [List.getElem?_map, List.getElem?_range hi]
 rfl
theorem outT_at {h : List (List Ev)} {d : Nat → Nat} {p : Nat} (hp : p < h.length) : (outT h d)[p]? = some (.s 25 (d p) (rowC h p (d p))) := by
 unfold outT
 rw [List.getElem?_map, List.getElem?_range hp]
 rfl
theorem rowC_succ (h : List (List Ev)) (p k : Nat) : rowC h p k ++ [.s 3 h.length (ints (dL (clk h p k) h.length))] = rowC h p (k + 1) := by
 simp [rowC, List.range_succ]
theorem outT_set {h : List (List Ev)} {d : Nat → Nat} {p : Nat} (hp : p < h.length) : (outT h d).set p (.s 25 (d p + 1) (rowC h p (d p + 1))) = outT h (bump d p) := by
 apply List.ext_getElem?
 intro i
 rw [List.getElem?_set]
 by_cases e : p = i
 ·subst e
  rw [if_pos rfl, outT_len, if_pos hp, outT_at hp]
  unfold bump
  rw [if_pos rfl]
 ·rw [if_neg e]
  rcases Nat.lt_or_ge i h.length with h' | h'
  ·rw [outT_at h', outT_at h']
   unfold bump
   rw [if_neg fun x => e x.symm]
  ·rw [List.getElem?_eq_none (by simpa using h'), List.getElem?_eq_none (by simpa using h')]
theorem outT_0 (h : List (List Ev)) : outT h (fun _ => 0) = List.replicate h.length (.s 25 0 []) := by
 unfold outT rowC
 simp [List.map_const']
/-- What an event's clock is made of. -/
theorem clk_made {h : List (List Ev)} (R : Reach h (fullD h)) {p i : Nat} (hi : i < (rowH h p).length) (n : Nat) {f1 f2 : Nat → Nat} (h1 : ∀ q, q < n → f1 q = if 0 < i then clk h p (i - 1) q else 0) (h2 : ∀ q, q < n → f2 q = max (f1 q) (if 0 ≤ senderF h p i then clk h (peerN h p i) (senderF h p i).toNat q else 0)) : dL (fun q => if q = p then i + 1 else f2 q) n = dL (clk h p i) n :=
 dL_same fun q hq => by
  rw [clk_rec R hi, h2 q hq, h1 q hq]
def H_ck (S : Sy) (L : List (Int × Int)) (d : Nat → Nat) (k : Nat) : St := ⟨[(1, .ptr 128 [] 0), (3, .c (.sl 832 [] 0 S.hist.length)), (15, .c (.sl 1024 [] 0 L.length)), (16, .c (.v (.int .i64 L.length))), (17, .c (.v (.int .i64 k)))], sysO S ++ [(128, sysX S), (832, ⟨.own, 78, outT S.hist d⟩), (1024, ⟨.own, 110, whoT L⟩)]⟩
theorem who_at {L : List (Int × Int)} {k : Nat} {a b : Int} (h : L[k]? = some (a, b)) : ((whoT L).drop (k * 2)).take 2 = [.v (.int .i64 a), .v (.int .i64 b)] := by
 obtain ⟨hk, e⟩ := List.getElem?_eq_some_iff.1 h
 have := fm_at whoF_len hk
 rw [e] at this
 exact this
theorem run_clocks {j : Nat} (hj : big ≤ j) (S : Sy) (hb : sysB S = true) : M.run (j + 5) 52 [.agg (syR S)] = some ([.c (.s 78 S.hist.length (outT S.hist (fullD S.hist)))], [.agg (syR S)]) := by
 have R := right_iff.1 hb
 have h := R.small
 have hpe := sys_peers hb
 have O := R.ord
 have b4 := h.hist
 have e1 := run_rowOf (j := j) hj S.hist h.hist h.histT hpe
 obtain ⟨D, d0, d1, ds⟩ := (row_chain S.hist (rowN S.hist) (Nat.le_refl _)).at_
 have d1 : D (rowF S.hist).out.length = fullD S.hist := by rw [← row_full O]; exact d1
 have ds : ∀ k, k < (rowF S.hist).out.length → ∃ p : Nat, p < S.hist.length ∧ (rowF S.hist).out[k]? = some ((p : Int), (D k p : Int)) ∧ Reach S.hist (D k) ∧ enB S.hist (D k) p = true ∧ D (k + 1) = bump (D k) p := ds
 have hL : (rowF S.hist).out.length ≤ 1048576 := by
  obtain ⟨_, _, _, q4⟩ := Classical.choose_spec (row_ends S.hist)
  have I := q4 _ (Nat.le_refl _)
  have : (rowF S.hist).out.length = sumD (rowF S.hist).d S.hist.length := I.len
  rw [this, row_full O]
  have := reach_sum O
  rw [allE_tot] at this
  exact Nat.le_trans this h.histT
 generalize (rowF S.hist).out = L at *
 have tkL : (whoT L).take (L.length * 2) = whoT L := List.take_of_length_le (by simp)
 have o0 := outT_0 S.hist
 rw [← d0] at o0
 rw [m_run (fn := Try.f52) (i0 := 0) rfl Try.func52 rfl rfl (by simp [syR])]
 simp only [syR] at e1 ⊢
 simp -implicitDefEqProofs [own1, e1, le_most (n := S.hist.length) (by omega)]
 rw [loop_then (fun k => H_ck S L (D k) k) L.length (by simp -implicitDefEqProofs [H_ck, sysO, sysX, hint1, o0]) (by simp [big] at hj; omega) (fun k hk => by
  obtain ⟨p, hp, hl, hr, he, hD⟩ := ds k hk
  have hlt := enB_lt hr he
  have hle := reach_len hr
  rw [hD]
  generalize D k = d at *
  have wa := who_at hl
  rw [rowH_of hp] at hlt
  have tb := h.his hp
  have e3 := run_sender (j := j) hj S h hpe p (d p) hp hlt
  have fo := fun q (hq : q < S.hist.length) => outT_at (d := d) hq
  have fs := outT_set (d := d) hp
  have rs := rowC_succ S.hist p (d p)
  have cb : ∀ q i, i < d q → ∀ r, clk S.hist q i r ≤ 1048576 := fun q i hi r => by
   have := clk_le O hr q i hi r
   have := hle r
   rcases Nat.lt_or_ge r S.hist.length with h' | h'
   ·rw [rowH_of h'] at this
    have := h.his h'
    omega
   ·rw [rowH_out h'] at this
    simp at this
    omega
  have z0 := dL_zero S.hist.length
  have w1 := w64 (x := (d p : Int) + 1) (by omega)
  have hsend := fun hk3 => send_has (Reach.step hr hp he) p (d p) (by unfold bump; rw [if_pos rfl]; omega) hk3
  have made := fun f1 f2 a b => clk_made O (p := p) (i := d p) (by rw [rowH_of hp]; exact hlt) S.hist.length (f1 := f1) (f2 := f2) a b
  have lm := le_most (n := S.hist.length) (by omega)
  have lm2 := le_most (n := d p + 1) (by omega)
  have tkr : (rowC S.hist p (d p)).take (d p) = rowC S.hist p (d p) := List.take_of_length_le (by simp)
  have tkr2 : (rowC S.hist p (d p + 1)).take (d p + 1) = rowC S.hist p (d p + 1) := List.take_of_length_le (by simp)
  have fp := fo p hp
  have k2' := fun f : Nat → Nat => dL_put (d := f) (n := S.hist.length) (p := p) (v := d p + 1) hp
  have bsm : ∀ q, q ≠ p → bump d p q = d q := fun q hq => by unfold bump; rw [if_neg hq]
  have cbp := cb p
  have ros0 : ∀ f : Nat → Nat, ros (ints (dL f S.hist.length)) = ints (dL f S.hist.length) := fun f => by simp
  simp only [syR] at e3
  generalize hdp : d p = i at *
  have ev1 := evT_1 hlt
  have ev1g := gq ev1
  have iev : evAt (rowH S.hist p) i = S.hist[p][i] := by rw [rowH_of hp, evAt_of hlt]
  have wk := w64 (x := (k : Int) + 1) (by omega)
  have tkd : ∀ f : Nat → Nat, (dL f S.hist.length).take S.hist.length = dL f S.hist.length := fun f => List.take_of_length_le (by simp)
  have wz := w64 (x := 1) (by omega)
  have hk2 : k * 2 + 2 ≤ L.length * 2 := by omega
  have hp1 : p + 1 ≤ S.hist.length := hp
  have sndr : 0 ≤ senderF S.hist p i → ∃ q k' : Nat, S.hist[p][i].peer = q ∧ q < S.hist.length ∧ senderF S.hist p i = k' ∧ k' < d q ∧ peerN S.hist p i = q := fun h0 => by
   have hk3 := send_kind h0
   obtain ⟨_, b, c⟩ := hsend hk3
   rw [iev] at hk3
   obtain ⟨g1, g2⟩ := hpe p hp i hlt hk3
   have hpn : peerN S.hist p i = S.hist[p][i].peer.toNat := by unfold peerN; rw [iev]
   refine ⟨peerN S.hist p i, (senderF S.hist p i).toNat, by omega, by omega, by omega, ?_, rfl⟩
   by_cases e : peerN S.hist p i = p
   ·rw [e, hdp]
    exact c e
   ·rw [bsm _ e] at b
    exact b
  by_cases hs : 0 ≤ senderF S.hist p i
  ·obtain ⟨q, k', q1, q2, q3, q4, q5⟩ := sndr hs
   have fq := fo q q2
   have fk := rowC_at (h := S.hist) (p := q) q4
   have k'1 : k' < (rowC S.hist q (d q)).length := by simpa using q4
   cases i with
   | zero =>
    have e4 := run_join (j := j + 3) (by omega) S.hist.length (fun _ => 0) (clk S.hist q k') b4 (fun _ _ => Nat.zero_le _) (fun r _ => cb q k' q4 r)
    have k1 := made (fun _ => 0) (jn (fun _ => 0) (clk S.hist q k') S.hist.length) (fun q _ => by rw [if_neg (by omega)]) (fun r hr => by rw [if_pos hs, q5, q3, Int.toNat_natCast]; exact jn_lt hr)
    have k2 := k2' (jn (fun _ => 0) (clk S.hist q k') S.hist.length)
    rw [k1] at k2
    simp only [show ((0 : Nat) : Int) = 0 from rfl] at wa e3
    simp only [show ((0 + 1 : Nat) : Int) = 1 from rfl] at k2
    rw [← rs] at fs
    simp only [show rowC S.hist p 0 = [] from rfl, List.nil_append, Nat.zero_add] at fs
    simp -implicitDefEqProofs (maxSteps := 10000000) [H_ck, sysO, sysX, hint1, hk, hp, own1, lm, lm2, wa, e3, hs, ints_rep, z0, fp, gq fp, fq, gq fq, fk, gq fk, k'1, q1, q2, q3, q4, ev1, ev1g, hlt, rEvent_at hp, rEvent, e4, rs, fs, k2, tkr, tkr2, hk2, hp1, wk, w1, wz, tkd]
   | succ m =>
    have m1 : m < (rowC S.hist p (m + 1)).length := by simp
    have fm := rowC_at (h := S.hist) (p := p) (i := m) (k := m + 1) (by omega)
    have mw := w64 (x := (m : Int)) (by omega)
    have mw2 := w64 (x := (m : Int) + 1 - 1) (by omega)
    have mp : (0 : Int) < m + 1 := by omega
    have e5 := run_join (j := j + 3) (by omega) S.hist.length (fun _ => 0) (clk S.hist p m) b4 (fun _ _ => Nat.zero_le _) (fun r _ => cb p m (by omega) r)
    have bj : ∀ r, r < S.hist.length → jn (fun _ => 0) (clk S.hist p m) S.hist.length r = clk S.hist p m r := fun r hr => by unfold jn; rw [if_pos hr]; simp
    have e4 := run_join (j := j + 3) (by omega) S.hist.length (jn (fun _ => 0) (clk S.hist p m) S.hist.length) (clk S.hist q k') b4 (fun r hr => by rw [bj r hr]; exact cb p m (by omega) r) (fun r _ => cb q k' q4 r)
    have k1 := made (jn (fun _ => 0) (clk S.hist p m) S.hist.length) (jn (jn (fun _ => 0) (clk S.hist p m) S.hist.length) (clk S.hist q k') S.hist.length) (fun r hr => by rw [bj r hr, if_pos (by omega)]; rfl) (fun r hr => by rw [if_pos hs, q5, q3, Int.toNat_natCast]; exact jn_lt hr)
    have k2 := k2' (jn (jn (fun _ => 0) (clk S.hist p m) S.hist.length) (clk S.hist q k') S.hist.length)
    rw [k1] at k2
    simp only [show ((m + 1 : Nat) : Int) = (m : Int) + 1 from rfl] at wa e3 w1
    simp only [show ((m + 1 + 1 : Nat) : Int) = (m : Int) + 1 + 1 from rfl] at k2
    have ml : (m : Int) < m + 1 := by omega
    have ml2 : (0 : Int) ≤ m + 1 := by omega
    have ml3 : (m : Int) + 1 < S.hist[p].length := by omega
    simp -implicitDefEqProofs (maxSteps := 10000000) [H_ck, sysO, sysX, hint1, hk, hp, own1, lm, lm2, wa, e3, hs, ints_rep, z0, fp, gq fp, fq, gq fq, fk, gq fk, k'1, q1, q2, q3, q4, ev1, ev1g, hlt, rEvent_at hp, rEvent, e4, fm, gq fm, m1, mw, mw2, mp, ml, ml2, ml3, e5, rs, fs, k2, tkr, tkr2, hk2, hp1, wk, w1, wz, tkd]
  ·cases i with
   | zero =>
    have k1 := made (fun _ => 0) (fun _ => 0) (fun q _ => by rw [if_neg (by omega)]) (fun q _ => by rw [if_neg hs]; simp)
    have k2 := k2' (fun _ => 0)
    rw [k1] at k2
    simp only [show ((0 : Nat) : Int) = 0 from rfl] at wa e3
    simp only [show ((0 + 1 : Nat) : Int) = 1 from rfl] at k2
    rw [← rs] at fs
    simp only [show rowC S.hist p 0 = [] from rfl, List.nil_append, Nat.zero_add] at fs
    simp -implicitDefEqProofs (maxSteps := 10000000) [H_ck, sysO, sysX, hint1, hk, hp, own1, lm, lm2, wa, e3, hs, ints_rep, z0, fp, gq fp, rs, fs, k2, tkr, tkr2, hk2, hp1, wk, w1, wz, tkd]
   | succ m =>
    have m1 : m < (rowC S.hist p (m + 1)).length := by simp
    have fm := rowC_at (h := S.hist) (p := p) (i := m) (k := m + 1) (by omega)
    have mw := w64 (x := (m : Int)) (by omega)
    have mw2 := w64 (x := (m : Int) + 1 - 1) (by omega)
    have mp : (0 : Int) < m + 1 := by omega
    have e5 := run_join (j := j + 3) (by omega) S.hist.length (fun _ => 0) (clk S.hist p m) b4 (fun _ _ => Nat.zero_le _) (fun r _ => cb p m (by omega) r)
    have bj : ∀ r, r < S.hist.length → jn (fun _ => 0) (clk S.hist p m) S.hist.length r = clk S.hist p m r := fun r hr => by unfold jn; rw [if_pos hr]; simp
    have k1 := made (jn (fun _ => 0) (clk S.hist p m) S.hist.length) (jn (fun _ => 0) (clk S.hist p m) S.hist.length) (fun r hr => by rw [bj r hr, if_pos (by omega)]; rfl) (fun r hr => by rw [if_neg hs]; simp)
    have k2 := k2' (jn (fun _ => 0) (clk S.hist p m) S.hist.length)
    rw [k1] at k2
    simp only [show ((m + 1 : Nat) : Int) = (m : Int) + 1 from rfl] at wa e3 w1
    simp only [show ((m + 1 + 1 : Nat) : Int) = (m : Int) + 1 + 1 from rfl] at k2
    have ml : (m : Int) < m + 1 := by omega
    have ml2 : (0 : Int) ≤ m + 1 := by omega
    have ml3 : (m : Int) + 1 < S.hist[p].length := by omega
    simp -implicitDefEqProofs (maxSteps := 10000000) [H_ck, sysO, sysX, hint1, hk, hp, own1, lm, lm2, wa, e3, hs, ints_rep, z0, fp, gq fp, fm, gq fm, m1, mw, mw2, mp, ml, ml2, ml3, e5, rs, fs, k2, tkr, tkr2, hk2, hp1, wk, w1, wz, tkd])]
 rw [d1]
 have tk : (outT S.hist (fullD S.hist)).take S.hist.length = outT S.hist (fullD S.hist) := List.take_of_length_le (by simp)
 simp -implicitDefEqProofs [H_ck, sysO, sysX, tk]
end Go.Proofs.Ytninncdacekfgaa.VM

/- Clocks: the specification's, reckoned. -/
namespace Go.Proofs.Ytninncdacekfgaa.VM
open Go Go.Proofs
set_option linter.unusedSimpArgs false
set_option linter.unusedVariables false
set_option maxRecDepth 100000
set_option maxHeartbeats 40000000
theorem dL_succ (f : Nat → Nat) (k : Nat) : dL f (k + 1) = dL f k ++ [(f k : Int)] := by simp [dL, List.range_succ]
def H_l7j (n : Nat) (f g : Nat → Nat) (k : Nat) : St := ⟨[(0, .c (.sl 0 [] 0 n)), (1, .c (.sl 1 [] 0 n)), (5, .c (.sl 512 [] 0 k)), (6, .c (.v (.int .i64 k)))], [(0, ⟨.ro, 3, ints (dL f n)⟩), (1, ⟨.ro, 3, ints (dL g n)⟩), (512, ⟨.own, 3, ints (dL (fun q => max (f q) (g q)) k)⟩)]⟩
theorem en_send {h : List (List Ev)} (R : Reach h (fullD h)) {d : Nat → Nat} (hr : Reach h d) {p : Nat} (hlt : d p < (rowH h p).length) : enB h d p = true ↔ (0 ≤ senderF h p (d p) → (senderF h p (d p)).toNat < d (peerN h p (d p))) := by
 rw [enB_iff hlt]
 have hle := reach_len hr (peerN h p (d p))
 constructor
 ·intro hc h0
  have hk := send_kind h0
  have h1 := nth_lt hle (hc hk)
  have h2 : senderF h p (d p) = nthN (rowH h (peerN h p (d p))) 2 p (cntE ((rowH h p).take (d p)) 3 (evAt (rowH h p) (d p)).peer) := by
   unfold senderF
   rw [if_pos hk]
   exact nthF_of (es := rowH h (peerN h p (d p))) (Nat.lt_of_lt_of_le h1 hle)
  rw [h2, Int.toNat_natCast]
  exact h1
 ·intro hc hk
  obtain ⟨h0, _, _⟩ := send_has R p (d p) hlt hk
  have h1 := hc h0
  have h2 : senderF h p (d p) = nthF (rowH h (peerN h p (d p))) 2 p (cntE ((rowH h p).take (d p)) 3 (evAt (rowH h p) (d p)).peer) := by
   unfold senderF
   rw [if_pos hk]
   rfl
  have hn : nthN (rowH h (peerN h p (d p))) 2 p (cntE ((rowH h p).take (d p)) 3 (evAt (rowH h p) (d p)).peer) < (rowH h (peerN h p (d p))).length := by
   have hl : nthN (rowH h (peerN h p (d p))) 2 p (cntE ((rowH h p).take (d p)) 3 (evAt (rowH h p) (d p)).peer) ≤ (rowH h (peerN h p (d p))).length := lead_le _ _
   rw [h2] at h0
   unfold nthF at h0
   split at h0
   ·omega
   ·omega
  rw [h2, nthF_of hn, Int.toNat_natCast] at h1
  obtain ⟨u1, u2⟩ := cnt_nth hn
  have u3 := cntE_next hn 2 p
  rw [if_pos u1, u2] at u3
  have u4 := cntE_mono (es := rowH h (peerN h p (d p))) (k := 2) (p := p) (a := nthN (rowH h (peerN h p (d p))) 2 p (cntE ((rowH h p).take (d p)) 3 (evAt (rowH h p) (d p)).peer) + 1) (b := d (peerN h p (d p))) h1
  rw [u3] at u4
  exact u4
def H_kc4 (S : Sy) (d : Nat → Nat) (b : Bool) : St := ⟨[(1, .ptr 128 [] 0), (3, .c (.v (.int .i64 S.hist.length))), (4, .c (.sl 1024 [] 0 S.hist.length)), (5, .c (.v (.bool b)))], sysO S ++ [(128, sysX S), (1024, ⟨.own, 78, outT S.hist d⟩)]⟩
def H_kc7 (S : Sy) (d : Nat → Nat) (b : Bool) (p : Nat) : St := ⟨[(1, .ptr 128 [] 0), (3, .c (.v (.int .i64 S.hist.length))), (4, .c (.sl 1024 [] 0 S.hist.length)), (5, .c (.v (.bool b))), (6, .c (.v (.int .i64 p)))], sysO S ++ [(128, sysX S), (1024, ⟨.own, 78, outT S.hist d⟩)]⟩
end Go.Proofs.Ytninncdacekfgaa.VM
