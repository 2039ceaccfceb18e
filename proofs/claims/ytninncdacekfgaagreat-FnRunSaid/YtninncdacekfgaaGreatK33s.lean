/- Draws of systems: reckoned. -/
import Derived.Test.YtninncdacekfgaaGreatK27s
import Derived.Test.YtninncdacekfgaaGreatK21s
import Derived.Test.YtninncdacekfgaaGreatK24s
import Derived.Test.YtninncdacekfgaaGreatK20s
set_option linter.unusedSimpArgs false
set_option linter.unusedVariables false
set_option maxRecDepth 100000
set_option maxHeartbeats 20000000
namespace Go.Proofs.YtninncdacekfgaaGreat.VM
open Go Go.Proofs
theorem run_l1Long (bs : List Int) (hb : bs.length ≤ 1048576) (least most : Int) (hl : 0 ≤ least ∧ least ≤ 1000) (hm : least ≤ most ∧ most ≤ 1000) : ∃ v : Int, (0 ≤ v ∧ v ≤ most) ∧ ∀ j, M.run (j + 1) 25 [.c (.r 5 bs.length (octT bs)), .c (.v (.int .i64 least)), .c (.v (.int .i64 most))] = some ([.c (.v (.int .i64 v))], [.c (.r 5 bs.length (octT bs)), .c (.v (.int .i64 least)), .c (.v (.int .i64 most))]) := by
 have d0 : 0 ≤ (bs.length : Int) / 4 := by omega
 have d1 : (bs.length : Int) / 4 ≤ 1048576 := by omega
 have w0 := w64 (x := (bs.length : Int) / 4) (by omega)
 have w1 := w64 (x := least + (bs.length : Int) / 4) (by omega)
 by_cases h : most < least + (bs.length : Int) / 4
 ·refine ⟨most, by omega, fun j => ?_⟩
  rw [m_run (fn := Tryz.f25) (i0 := 0) rfl Tryz.func25 rfl rfl (by simp)]
  simp -implicitDefEqProofs [own1, w0, w1, h]
 ·refine ⟨least + (bs.length : Int) / 4, by omega, fun j => ?_⟩
  rw [m_run (fn := Tryz.f25) (i0 := 0) rfl Tryz.func25 rfl rfl (by simp)]
  simp -implicitDefEqProofs [own1, w0, w1, h]
def ProD (bs : List Int) (i : Nat) (h procs me : Int) (x : List Ins × Nat × Int) : Prop := CuOk ⟨bs, x.2.1, x.2.2⟩ ∧ x.1.length ≤ 12 ∧ ∀ j, big ≤ j → M.run (j + 5) 121 [curT bs i h, .c (.v (.int .i64 procs)), .c (.v (.int .i64 me))] = some ([.c (.s 105 x.1.length (insT x.1))], [curT bs x.2.1 x.2.2, .c (.v (.int .i64 procs)), .c (.v (.int .i64 me))])
open Classical in
noncomputable def proD (bs : List Int) (i : Nat) (h procs me : Int) : List Ins × Nat × Int := if q : ∃ x, ProD bs i h procs me x then Classical.choose q else ([], i, h)
theorem proD_ok {bs : List Int} {i : Nat} {h : Int} (ok : CuOk ⟨bs, i, h⟩) (procs me : Int) (hp : 0 < procs ∧ procs ≤ 1000) (hm : 0 ≤ me ∧ me ≤ 1000) : ProD bs i h procs me (proD bs i h procs me) := by
 have q : ∃ x, ProD bs i h procs me x := by
  obtain ⟨l, i1, h1, k1, ⟨_, l2⟩, e1⟩ := drawProg_ex ok procs me hp hm
  exact ⟨(l, i1, h1), k1, l2, e1⟩
 unfold proD
 rw [dif_pos q]
 exact Classical.choose_spec q
noncomputable def proL (bs : List Int) (i : Nat) (h procs : Int) : Nat → List (List Ins) × Nat × Int
 | 0 => ([], i, h)
 | k + 1 => ((proL bs i h procs k).1 ++ [(proD bs (proL bs i h procs k).2.1 (proL bs i h procs k).2.2 procs k).1], (proD bs (proL bs i h procs k).2.1 (proL bs i h procs k).2.2 procs k).2)
theorem proL_ok {bs : List Int} {i : Nat} {h : Int} (ok : CuOk ⟨bs, i, h⟩) (procs : Int) (hp : 0 < procs ∧ procs ≤ 1000) : ∀ k, k ≤ 1000 → CuOk ⟨bs, (proL bs i h procs k).2.1, (proL bs i h procs k).2.2⟩ ∧ (proL bs i h procs k).1.length = k ∧ ∀ x ∈ (proL bs i h procs k).1, x.length ≤ 12
 | 0, _ => ⟨ok, rfl, fun x hx => by simp [proL] at hx⟩
 | k + 1, hk => by
  obtain ⟨a, b, c⟩ := proL_ok ok procs hp k (by omega)
  have q := proD_ok a procs k hp (by omega)
  refine ⟨q.1, by simp [proL, b], fun x hx => ?_⟩
  rw [proL] at hx
  rcases List.mem_append.1 hx with hx | hx
  ·exact c x hx
  ·simp only [List.mem_singleton] at hx
   subst hx
   exact q.2.1
def H_l6n (bs : List Int) (n k : Nat) (x : List (List Ins) × Nat × Int) : St := ⟨[(0, .ptr 1 [] 0), (2, .ptr 192 [] 0), (3, .c (.v (.int .i64 n))), (4, .c (.sl 768 [] 0 k)), (5, .c (.v (.int .i64 k)))], [(0, ⟨.ro, 5, octT bs⟩), (1, ⟨.box, 91, [.l 0 [] 0 bs.length, .v (.int .i64 x.2.1), .v (.int .i64 x.2.2)]⟩), (192, zBox), (768, ⟨.own, 100, x.1.map (sIns 105)⟩)]⟩
theorem newS_cases (l : List (List Ins)) : sysB (newS l) = true ∨ newS l = zSy := by
 unfold newS
 by_cases h : newB l = true
 ·rw [if_pos h]
  unfold newB at h
  rw [Bool.and_eq_true] at h
  exact .inl h.2
 ·rw [if_neg h]
  exact .inr rfl
def Dsy (S : Sy) : Prop := sysB S = true ∨ S = zSy
theorem zSy_sm : Small zSy := by refine ⟨?_, ?_, ?_, ?_, ?_, ?_, ?_, ?_⟩ <;> simp [zSy, tot]
theorem Dsy.small {S : Sy} (h : Dsy S) : Small S := by
 rcases h with h | rfl
 ·exact Small.right h
 ·exact zSy_sm
theorem drawNew_ex {bs : List Int} {i : Nat} {h : Int} (ok : CuOk ⟨bs, i, h⟩) : ∃ (S : Sy) (i' : Nat) (h' : Int), CuOk ⟨bs, i', h'⟩ ∧ Dsy S ∧ ∀ j, big ≤ j → M.run (j + 9) 61 [curT bs i h] = some ([.agg (syS S)], [curT bs i' h']) := by
 obtain ⟨v, i1, h1, k1, _, lv, e1⟩ := below_ex ok 4
 have lv := lv (by omega)
 obtain ⟨n, hn⟩ : ∃ n : Nat, 1 + v = n := ⟨(1 + v).toNat, by omega⟩
 have nb : 1 ≤ n ∧ n ≤ 4 := by omega
 have K := proL_ok k1 n (by omega)
 have hq : (0 : Int) < n ∧ (n : Int) ≤ 1000 := by omega
 obtain ⟨kn1, kn2, kn3⟩ := K n (by omega)
 refine ⟨newS (proL bs i1 h1 n n).1, (proL bs i1 h1 n n).2.1, (proL bs i1 h1 n n).2.2, kn1, newS_cases _, fun j hj => ?_⟩
 have e1 := e1 (j + 6)
 rw [m_run (fn := Tryz.f61) (i0 := 0) rfl Tryz.func61 rfl rfl (by simp [curT])]
 have lpb : ∀ (k : Nat) (hk : k < n), ∃ (L : List (List Ins)) (i : Nat) (h : Int) (l : List Ins) (i' : Nat) (h' : Int), proL bs i1 h1 n k = (L, i, h) ∧ L.length = k ∧ proL bs i1 h1 n (k + 1) = (L ++ [l], i', h') ∧ ProD bs i h n k (l, i', h') := fun k hk => by
  obtain ⟨a, b', c⟩ := K k (by omega)
  exact ⟨_, _, _, _, _, _, rfl, b', rfl, proD_ok a n k hq (by omega)⟩
 simp only [curT] at e1 ⊢
 simp -implicitDefEqProofs [own1, e1, hn, w64 (x := (n : Int)) (by omega)]
 rw [loop_then (fun k => H_l6n bs n k (proL bs i1 h1 n k)) n (by simp -implicitDefEqProofs [H_l6n, hint1, proL, zBox]) (by simp [big] at hj; omega) (fun k hk => by
  obtain ⟨L, i, h, l, i', h', r1, r2, r3, _, _, q1⟩ := lpb k hk
  rw [r1, r3]
  have q1 := q1 (j + 3) (by omega)
  have tk : (L.map (sIns 105)).take k = L.map (sIns 105) := List.take_of_length_le (by simp [r2])
  have t2 : ∀ l : List Ins, (insT l).take (l.length * 5) = insT l := fun l => List.take_of_length_le (by simp)
  simp only [curT] at q1
  simp -implicitDefEqProofs [H_l6n, zBox, hint1, hk, own1, q1, sIns, r2, tk, t2, le_most (n := k + 1) (by omega), w64 (x := (k : Int) + 1) (by omega), -List.map_take])]
 generalize proL bs i1 h1 n n = X at *
 obtain ⟨L, i, h⟩ := X
 simp only at kn1 kn2 kn3 ⊢
 have hL : tot L ≤ 1048576 := by
  have := totN (c := 12) kn3
  omega
 have e2 := run_specNew (j := j) hj L (by omega) hL
 have tk : (L.map (sIns 105)).take n = L.map (sIns 105) := List.take_of_length_le (by simp [kn2])
 generalize newS L = S at *
 have w1 : (S.progs.map (sIns 105)).take S.progs.length = S.progs.map (sIns 105) := List.take_of_length_le (by simp)
 have w2 : (ssT S.states).take (S.states.length * 4) = ssT S.states := List.take_of_length_le (by rw [ssT_len]; exact Nat.le_refl _)
 have w3 : (S.ways.map (sItem 99)).take S.ways.length = S.ways.map (sItem 99) := List.take_of_length_le (by simp)
 have w4 : (S.hist.map (sEvent 96)).take S.hist.length = S.hist.map (sEvent 96) := List.take_of_length_le (by simp)
 rw [kn2] at e2
 simp only [syS] at e2 ⊢
 simp -implicitDefEqProofs [H_l6n, zBox, own1, kn2, tk, e2, w1, w2, w3, w4, -List.map_take]
end Go.Proofs.YtninncdacekfgaaGreat.VM
namespace Go.Proofs.YtninncdacekfgaaGreat.VM
open Go Go.Proofs
theorem readyI_len {S : Sy} (p : Int) : (readyI S p).length ≤ 4 := by
 unfold readyI
 by_cases h : sysB S = true
 ·rw [if_pos h]
  exact readyF_len (right_iff.1 h) p
 ·rw [if_neg h]
  simp
theorem Dsy.n4 {S : Sy} (h : Dsy S) : S.progs.length ≤ 4 := by
 rcases h with h | rfl
 ·exact (right_iff.1 h).n4
 ·simp [zSy]
theorem drawPickAt_ex {bs : List Int} {i : Nat} {h : Int} (ok : CuOk ⟨bs, i, h⟩) {S : Sy} (hS : Small S) (h4 : S.progs.length ≤ 1048576) : ∃ (x : Pk) (i' : Nat) (h' : Int), CuOk ⟨bs, i', h'⟩ ∧ ∀ j, big ≤ j → M.run (j + 9) 62 [curT bs i h, .agg (syR S)] = some ([.agg (tPk x)], [curT bs i' h', .agg (syR S)]) := by
 obtain ⟨n, hn⟩ : ∃ n : Nat, max (S.progs.length : Int) 1 = n := ⟨(max (S.progs.length : Int) 1).toNat, by omega⟩
 have nb : 1 ≤ n ∧ n ≤ 1048576 := by omega
 obtain ⟨p, i1, h1, k1, _, lp, e1⟩ := below_ex ok n
 have lp := lp (by omega)
 have rl := readyI_len (S := S) p
 have e0 : ∀ j, M.run (j + 1) 64 [.c (.v (.int .i64 S.progs.length)), .c (.v (.int .i64 1))] = some ([.c (.v (.int .i64 n))], [.c (.v (.int .i64 S.progs.length)), .c (.v (.int .i64 1))]) := fun j => by
  rw [run_maxN, hn]
 by_cases hz : (readyI S p).length = 0
 ·obtain ⟨q, i2, h2, k2, _, _, e3⟩ := below_ex k1 ((n : Int) + 1)
  refine ⟨⟨p, q⟩, i2, h2, k2, fun j hj => ?_⟩
  have e0 := e0 (j + 7)
  have e1 := e1 (j + 6)
  have e2 := run_specReady hj S hS p
  have e3 := e3 (j + 6)
  rw [m_run (fn := Tryz.f62) (i0 := 0) rfl Tryz.func62 rfl rfl (by simp [curT, syR])]
  generalize readyI S p = L at *
  simp only [curT, syR] at e1 e2 e3 ⊢
  simp -implicitDefEqProofs [own1, e0, e1, e2, e3, hz, tPk, w64 (x := (n : Int) + 1) (by omega)]
 ·obtain ⟨b, i2, h2, k2, e3⟩ := once_ex k1 9
  cases b
  ·obtain ⟨v, i3, h3, k3, _, lv, e4⟩ := below_ex k2 (readyI S p).length
   have lv := lv (by omega)
   obtain ⟨m, rfl⟩ : ∃ m : Nat, v = m := ⟨v.toNat, by omega⟩
   have hm : m < (readyI S p).length := by omega
   refine ⟨⟨p, (readyI S p)[m]⟩, i3, h3, k3, fun j hj => ?_⟩
   have e0 := e0 (j + 7)
   have e1 := e1 (j + 6)
   have e2 := run_specReady hj S hS p
   have e3 := e3 (j + 5)
   have e4 := e4 (j + 6)
   rw [m_run (fn := Tryz.f62) (i0 := 0) rfl Tryz.func62 rfl rfl (by simp [curT, syR])]
   generalize readyI S p = L at *
   simp only [curT, syR] at e1 e2 e3 e4 ⊢
   simp -implicitDefEqProofs [own1, e0, e1, e2, e3, e4, hm, ints, tPk, show 0 < L.length by omega]
  ·obtain ⟨q, i3, h3, k3, _, _, e4⟩ := below_ex k2 ((n : Int) + 1)
   refine ⟨⟨p, q⟩, i3, h3, k3, fun j hj => ?_⟩
   have e0 := e0 (j + 7)
   have e1 := e1 (j + 6)
   have e2 := run_specReady hj S hS p
   have e3 := e3 (j + 5)
   have e4 := e4 (j + 6)
   rw [m_run (fn := Tryz.f62) (i0 := 0) rfl Tryz.func62 rfl rfl (by simp [curT, syR])]
   generalize readyI S p = L at *
   simp only [curT, syR] at e1 e2 e3 e4 ⊢
   simp -implicitDefEqProofs [own1, e0, e1, e2, e3, e4, tPk, show 0 < L.length by omega, w64 (x := (n : Int) + 1) (by omega)]
end Go.Proofs.YtninncdacekfgaaGreat.VM
namespace Go.Proofs.YtninncdacekfgaaGreat.VM
open Go Go.Proofs
def PkD (bs : List Int) (i : Nat) (h : Int) (S : Sy) (x : Pk × Nat × Int) : Prop := CuOk ⟨bs, x.2.1, x.2.2⟩ ∧ ∀ j, big ≤ j → M.run (j + 9) 62 [curT bs i h, .agg (syR S)] = some ([.agg (tPk x.1)], [curT bs x.2.1 x.2.2, .agg (syR S)])
open Classical in
noncomputable def pkD (bs : List Int) (i : Nat) (h : Int) (S : Sy) : Pk × Nat × Int := if q : ∃ x, PkD bs i h S x then Classical.choose q else (⟨0, 0⟩, i, h)
theorem pkD_ok {bs : List Int} {i : Nat} {h : Int} (ok : CuOk ⟨bs, i, h⟩) {S : Sy} (hS : Dsy S) : PkD bs i h S (pkD bs i h S) := by
 have q : ∃ x, PkD bs i h S x := by
  obtain ⟨x, i1, h1, k1, e1⟩ := drawPickAt_ex ok hS.small (by have := hS.n4; omega)
  exact ⟨(x, i1, h1), k1, e1⟩
 unfold pkD
 rw [dif_pos q]
 exact Classical.choose_spec q
theorem stepR_dsy {S : Sy} (hS : Dsy S) (p peer : Int) (h : (stepR S p peer).2 = 0) : Dsy (stepR S p peer).1 := by
 unfold stepR at h ⊢
 rcases hS with hS | rfl
 ·rw [if_pos hS]
  exact .inl (right_iff.2 (step_right (right_iff.1 hS) p peer))
 ·have : sysB zSy = false := sysB_new0
  rw [if_neg (by rw [this]; simp)] at h
  simp at h
structure Rs where
 S : Sy
 m : Nat
 Y : Sy
 L : List Pk
 i : Nat
 h : Int
noncomputable def rsN (bs : List Int) (i : Nat) (h : Int) (S : Sy) : Nat → Rs
 | 0 => ⟨S, 0, zSy, [], i, h⟩
 | k + 1 =>
  let r := rsN bs i h S k
  let x := pkD bs r.i r.h r.S
  let d := stepR r.S x.1.p x.1.peer
  if d.2 = 0 then ⟨d.1, 2, d.1, r.L ++ [x.1], x.2.1, x.2.2⟩ else ⟨r.S, if r.m = 2 then 2 else 1, if r.m = 2 then r.S else d.1, r.L ++ [x.1], x.2.1, x.2.2⟩
theorem rsN_succ (bs : List Int) (i : Nat) (h : Int) (S : Sy) (k : Nat) : rsN bs i h S (k + 1) = if (stepR (rsN bs i h S k).S (pkD bs (rsN bs i h S k).i (rsN bs i h S k).h (rsN bs i h S k).S).1.p (pkD bs (rsN bs i h S k).i (rsN bs i h S k).h (rsN bs i h S k).S).1.peer).2 = 0 then ⟨(stepR (rsN bs i h S k).S (pkD bs (rsN bs i h S k).i (rsN bs i h S k).h (rsN bs i h S k).S).1.p (pkD bs (rsN bs i h S k).i (rsN bs i h S k).h (rsN bs i h S k).S).1.peer).1, 2, (stepR (rsN bs i h S k).S (pkD bs (rsN bs i h S k).i (rsN bs i h S k).h (rsN bs i h S k).S).1.p (pkD bs (rsN bs i h S k).i (rsN bs i h S k).h (rsN bs i h S k).S).1.peer).1, (rsN bs i h S k).L ++ [(pkD bs (rsN bs i h S k).i (rsN bs i h S k).h (rsN bs i h S k).S).1], (pkD bs (rsN bs i h S k).i (rsN bs i h S k).h (rsN bs i h S k).S).2.1, (pkD bs (rsN bs i h S k).i (rsN bs i h S k).h (rsN bs i h S k).S).2.2⟩ else ⟨(rsN bs i h S k).S, if (rsN bs i h S k).m = 2 then 2 else 1, if (rsN bs i h S k).m = 2 then (rsN bs i h S k).S else (stepR (rsN bs i h S k).S (pkD bs (rsN bs i h S k).i (rsN bs i h S k).h (rsN bs i h S k).S).1.p (pkD bs (rsN bs i h S k).i (rsN bs i h S k).h (rsN bs i h S k).S).1.peer).1, (rsN bs i h S k).L ++ [(pkD bs (rsN bs i h S k).i (rsN bs i h S k).h (rsN bs i h S k).S).1], (pkD bs (rsN bs i h S k).i (rsN bs i h S k).h (rsN bs i h S k).S).2.1, (pkD bs (rsN bs i h S k).i (rsN bs i h S k).h (rsN bs i h S k).S).2.2⟩ := rfl
structure RsOk (bs : List Int) (S0 : Sy) (k : Nat) (r : Rs) : Prop where
 cu : CuOk ⟨bs, r.i, r.h⟩
 dsy : Dsy r.S
 len : r.L.length = k
 m : (r.m = 0 ∧ r.S = S0) ∨ (r.m = 1 ∧ r.S = S0) ∨ (r.m = 2 ∧ r.Y = r.S)
theorem rsN_ok {bs : List Int} {i : Nat} {h : Int} (ok : CuOk ⟨bs, i, h⟩) {S : Sy} (hS : Dsy S) : ∀ k, RsOk bs S k (rsN bs i h S k)
 | 0 => ⟨ok, hS, rfl, .inl ⟨rfl, rfl⟩⟩
 | k + 1 => by
  obtain ⟨a, b, c, d⟩ := rsN_ok ok hS k
  have q := pkD_ok a b
  rw [rsN_succ]
  split
  ·rename_i h0
   exact ⟨q.1, stepR_dsy b _ _ h0, by simp [c], .inr (.inr ⟨rfl, rfl⟩)⟩
  ·refine ⟨q.1, b, by simp [c], ?_⟩
   by_cases hm : (rsN bs i h S k).m = 2
   ·exact .inr (.inr ⟨if_pos hm, if_pos hm⟩)
   ·have e : (if (rsN bs i h S k).m = 2 then 2 else 1) = 1 := if_neg hm
    rcases d with d | d | d
    ·exact .inr (.inl ⟨e, d.2⟩)
    ·exact .inr (.inl ⟨e, d.2⟩)
    ·exact absurd d.1 hm
def bxR (b : Nat) (s : Sy) : Obj := ⟨.box, 29, [.l b [] 0 s.progs.length, .l (b + 1) [] 0 s.states.length, .l (b + 2) [] 0 s.ways.length, .l (b + 3) [] 0 s.hist.length]⟩
def obR (b : Nat) (s : Sy) : List (Nat × Obj) := [(b, ⟨.own, 100, s.progs.map (sIns 105)⟩), (b + 1, ⟨.own, 71, ssT s.states⟩), (b + 2, ⟨.own, 97, s.ways.map (sItem 99)⟩), (b + 3, ⟨.own, 68, s.hist.map (sEvent 96)⟩)]
def H_l6r (bs : List Int) (n : Nat) (S0 : Sy) (k : Nat) (r : Rs) : St := ⟨[(0, .ptr 1 [] 0), (4, .ptr 320 [] 0), (6, .ptr 448 [] 0), (7, .ptr 512 [] 0), (8, .ptr 576 [] 0), (9, .c (.sl 1216 [] 0 k)), (10, .c (.v (.int .i64 n))), (11, .c (.v (.int .i64 k)))], [(0, ⟨.ro, 5, octT bs⟩), (1, ⟨.box, 91, [.l 0 [] 0 bs.length, .v (.int .i64 r.i), .v (.int .i64 r.h)]⟩), (320, zBox), (448, zBox), (512, bxR 1088 S0), (576, bxR (if r.m = 2 then 2752 else 1088) r.S)] ++ (obR 1088 S0 ++ ((1216, ⟨.own, 62, pkT r.L⟩) :: if r.m = 0 then [] else obR 2752 r.Y))⟩
theorem pkT_app (l : List Pk) (x : Pk) : pkT (l ++ [x]) = pkT l ++ tPk x := by simp [pkT]
theorem drawRun_ex {bs : List Int} {i : Nat} {h : Int} (ok : CuOk ⟨bs, i, h⟩) (most : Int) (hm : 0 ≤ most ∧ most ≤ 1000) : ∃ (S : Sy) (L : List Pk) (i' : Nat) (h' : Int), CuOk ⟨bs, i', h'⟩ ∧ Dsy S ∧ L.length ≤ 1000 ∧ ∀ j, big ≤ j ∧ j ≤ big + 890 → M.run (j + 10) 24 [curT bs i h, .c (.v (.int .i64 most))] = some ([.agg [.h, .h, .h, .h], .c (.s 62 L.length (pkT L)), .agg (syS S)], [curT bs i' h', .c (.v (.int .i64 most))]) := by
 obtain ⟨S0, i1, h1, k1, d1, e1⟩ := drawNew_ex ok
 obtain ⟨v, i2, h2, k2, _, lv, e2⟩ := below_ex k1 (most + 1)
 have lv := lv (by omega)
 obtain ⟨n, rfl⟩ : ∃ n : Nat, v = n := ⟨v.toNat, by omega⟩
 have K := rsN_ok k2 d1
 obtain ⟨kn1, kn2, kn3, kn4⟩ := K n
 refine ⟨(rsN bs i2 h2 S0 n).S, (rsN bs i2 h2 S0 n).L, (rsN bs i2 h2 S0 n).i, (rsN bs i2 h2 S0 n).h, kn1, kn2, by rw [kn3]; omega, fun j hj0 => ?_⟩
 have hj := hj0.1
 have hsk : ¬ (big + 900 ≤ j + 9) := by omega
 have e1 := e1 j hj
 have e2 := e2 (j + 7)
 have w1 : ∀ l : List (List Ins), (l.map (sIns 105)).take l.length = l.map (sIns 105) := fun l => List.take_of_length_le (by simp)
 have w2 : ∀ l : List Sta, (ssT l).take (l.length * 4) = ssT l := fun l => List.take_of_length_le (by rw [ssT_len]; exact Nat.le_refl _)
 have w3 : ∀ l : List (List Itm), (l.map (sItem 99)).take l.length = l.map (sItem 99) := fun l => List.take_of_length_le (by simp)
 have w4 : ∀ l : List (List Ev), (l.map (sEvent 96)).take l.length = l.map (sEvent 96) := fun l => List.take_of_length_le (by simp)
 rw [m_run (fn := Tryz.f24) (i0 := 0) rfl Tryz.func24 rfl rfl (by simp [curT])]
 simp only [curT, syS] at e1 e2 ⊢
 simp -implicitDefEqProofs [own1, e1, e2, hsk, w64 (x := most + 1) (by omega)]
 rw [loop_then (fun k => H_l6r bs n S0 k (rsN bs i2 h2 S0 k)) n (by simp -implicitDefEqProofs [H_l6r, hint1, rsN, zBox, bxR, obR, pkT]) (by simp [big] at hj; omega) (fun k hk => by
  obtain ⟨a1, a2, a3, a4⟩ := K k
  have q := pkD_ok a1 a2
  have hs := run_specStep (j := j + 1) (by omega) (rsN bs i2 h2 S0 k).S a2.small (pkD bs (rsN bs i2 h2 S0 k).i (rsN bs i2 h2 S0 k).h (rsN bs i2 h2 S0 k).S).1.p (pkD bs (rsN bs i2 h2 S0 k).i (rsN bs i2 h2 S0 k).h (rsN bs i2 h2 S0 k).S).1.peer
  rw [rsN_succ]
  generalize hR : rsN bs i2 h2 S0 k = R at *
  obtain ⟨S, m, Y, L, i, h⟩ := R
  simp only at a1 a2 a3 a4 q hs ⊢
  generalize pkD bs i h S = X at *
  obtain ⟨⟨xp, xq⟩, i', h'⟩ := X
  have q := q.2 j hj
  simp only at q hs ⊢
  generalize stepR S xp xq = D at *
  obtain ⟨S', c⟩ := D
  have tk : (pkT L).take (k * 2) = pkT L := List.take_of_length_le (by simp [a3])
  simp only [curT, syR, syS, tPk] at q hs
  by_cases hc : c = 0
  ·subst hc
   rcases a4 with ⟨rfl, rfl⟩ | ⟨rfl, rfl⟩ | ⟨rfl, rfl⟩ <;>
   simp -implicitDefEqProofs [H_l6r, zBox, bxR, obR, hint1, hk, own1, q, hs, tk, a3, pkT_app, tPk, le_most (n := k * 2 + 2) (by omega), w1, w2, w3, w4, w64 (x := (k : Int) + 1) (by omega), -List.map_take]
  ·rcases a4 with ⟨rfl, rfl⟩ | ⟨rfl, rfl⟩ | ⟨rfl, rfl⟩ <;>
   simp -implicitDefEqProofs [H_l6r, zBox, bxR, obR, hint1, hk, own1, q, hs, hc, tk, a3, pkT_app, tPk, le_most (n := k * 2 + 2) (by omega), w1, w2, w3, w4, w64 (x := (k : Int) + 1) (by omega), -List.map_take])]
 generalize rsN bs i2 h2 S0 n = R at *
 obtain ⟨S, m, Y, L, i, h⟩ := R
 simp only at kn1 kn2 kn3 kn4 ⊢
 have tk : (pkT L).take (n * 2) = pkT L := List.take_of_length_le (by simp [kn3])
 rcases kn4 with ⟨rfl, rfl⟩ | ⟨rfl, rfl⟩ | ⟨rfl, rfl⟩ <;>
 simp -implicitDefEqProofs [H_l6r, zBox, bxR, obR, f_resK, St.resultsS, leftA, hsk, kn3, tk, w1, w2, w3, w4, -List.map_take]
theorem drawRight_ex {bs : List Int} {i : Nat} {h : Int} (ok : CuOk ⟨bs, i, h⟩) (hb : bs.length ≤ 1048576) : ∃ (S : Sy) (i' : Nat) (h' : Int), CuOk ⟨bs, i', h'⟩ ∧ Dsy S ∧ ∀ j, big ≤ j ∧ j ≤ big + 890 → M.run (j + 11) 63 [curT bs i h, .c (.r 5 bs.length (octT bs))] = some ([.agg (syS S)], [curT bs i' h', .c (.r 5 bs.length (octT bs))]) := by
 obtain ⟨v, lv, el⟩ := run_l1Long bs hb 25 70 (by omega) (by omega)
 obtain ⟨S, L, i1, h1, k1, d1, _, e2⟩ := drawRun_ex ok v (by omega)
 refine ⟨S, i1, h1, k1, d1, fun j hj => ?_⟩
 have e1 := el (j + 9)
 have e2 := e2 j hj
 have w1 : ∀ l : List (List Ins), (l.map (sIns 105)).take l.length = l.map (sIns 105) := fun l => List.take_of_length_le (by simp)
 have w2 : ∀ l : List Sta, (ssT l).take (l.length * 4) = ssT l := fun l => List.take_of_length_le (by rw [ssT_len]; exact Nat.le_refl _)
 have w3 : ∀ l : List (List Itm), (l.map (sItem 99)).take l.length = l.map (sItem 99) := fun l => List.take_of_length_le (by simp)
 have w4 : ∀ l : List (List Ev), (l.map (sEvent 96)).take l.length = l.map (sEvent 96) := fun l => List.take_of_length_le (by simp)
 rw [m_run (fn := Tryz.f63) (i0 := 0) rfl Tryz.func63 rfl rfl (by simp [curT])]
 simp only [curT, syS] at e2 ⊢
 simp -implicitDefEqProofs [own1, e1, e2, St.resU, allH, isH, St.storeU, zBox, w1, w2, w3, w4, -List.map_take]
end Go.Proofs.YtninncdacekfgaaGreat.VM
