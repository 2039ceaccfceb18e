/- The law FnRun. -/
import Derived.Test.YtninncdacekfgaaGreatK37s
import Derived.Test.YtninncdacekfgaaGreatK24s
import Derived.Test.YtninncdacekfgaaGreatK39s
set_option linter.unusedSimpArgs false
set_option linter.unusedVariables false
set_option maxRecDepth 100000
set_option maxHeartbeats 40000000
namespace Go.Proofs.YtninncdacekfgaaGreat.VM
open Go Go.Proofs
theorem drawRunA_ex {bs : List Int} {i : Nat} {h : Int} (ok : CuOk ⟨bs, i, h⟩) (most : Int) (hm : 0 ≤ most ∧ most ≤ 1000) : ∃ (S : Sy) (L : List Pk) (i' : Nat) (h' : Int), CuOk ⟨bs, i', h'⟩ ∧ Small S ∧ L.length ≤ 1000 ∧ ∀ j, big + 891 ≤ j → M.run (j + 10) 24 [curT bs i h, .c (.v (.int .i64 most))] = some ([.agg (syS S), .c (.s 62 L.length (pkT L)), .agg [.h, .h, .h, .h]], [curT bs i' h', .c (.v (.int .i64 most))]) := by
 obtain ⟨S0, i1, h1, k1, d1, e1⟩ := drawNew_ex ok
 obtain ⟨v, i2, h2, k2, _, lv, e2⟩ := below_ex k1 (most + 1)
 have lv := lv (by omega)
 obtain ⟨n, rfl⟩ : ∃ n : Nat, v = n := ⟨v.toNat, by omega⟩
 have K := rsN_ok k2 d1
 obtain ⟨kn1, kn2, kn3, kn4⟩ := K n
 refine ⟨S0, (rsN bs i2 h2 S0 n).L, (rsN bs i2 h2 S0 n).i, (rsN bs i2 h2 S0 n).h, kn1, d1.small, by rw [kn3]; omega, fun j hj0 => ?_⟩
 have hj : big ≤ j := by omega
 have hsk : big + 900 ≤ j + 9 := by omega
 have e1 := e1 j hj
 have e2 := e2 (j + 7)
 have w1 : ∀ l : List (List Ins), (l.map (sIns 105)).take l.length = l.map (sIns 105) := fun l => List.take_of_length_le (by simp)
 have w2 : ∀ l : List Sta, (ssT l).take (l.length * 4) = ssT l := fun l => List.take_of_length_le (by rw [ssT_len]; exact Nat.le_refl _)
 have w3 : ∀ l : List (List Itm), (l.map (sItem 99)).take l.length = l.map (sItem 99) := fun l => List.take_of_length_le (by simp)
 have w4 : ∀ l : List (List Ev), (l.map (sEvent 96)).take l.length = l.map (sEvent 96) := fun l => List.take_of_length_le (by simp)
 rw [m_run (fn := Tryz.f24) (i0 := 0) rfl Tryz.func24 rfl rfl (by simp [curT])]
 simp only [curT, syS] at e1 e2 ⊢
 simp -implicitDefEqProofs [own1, e1, e2, hsk, w64 (x := most + 1) (by omega)]
 rw [loop_then (fun k => H_l6r bs n S0 k (rsN bs i2 h2 S0 k)) n (by simp -implicitDefEqProofs [H_l6r, hint1, rsN, zBox, bxR, obR, pkT]) (by simp [big] at hj; omega) (fun k hk => by
  obtain ⟨a1, a2, a3, a4⟩ := K k
  have q := pkD_ok a1 a2
  have hs := run_specStep (j := j + 1) (by omega) (rsN bs i2 h2 S0 k).S a2.small (pkD bs (rsN bs i2 h2 S0 k).i (rsN bs i2 h2 S0 k).h (rsN bs i2 h2 S0 k).S).1.p (pkD bs (rsN bs i2 h2 S0 k).i (rsN bs i2 h2 S0 k).h (rsN bs i2 h2 S0 k).S).1.peer
  rw [rsN_succ]
  generalize hR : rsN bs i2 h2 S0 k = R at *
  obtain ⟨S, m, Y, L, i, h⟩ := R
  simp only at a1 a2 a3 a4 q hs ⊢
  generalize pkD bs i h S = X at *
  obtain ⟨⟨xp, xq⟩, i', h'⟩ := X
  have q := q.2 j hj
  simp only at q hs ⊢
  generalize stepR S xp xq = D at *
  obtain ⟨S', c⟩ := D
  have tk : (pkT L).take (k * 2) = pkT L := List.take_of_length_le (by simp [a3])
  simp only [curT, syR, syS, tPk] at q hs
  by_cases hc : c = 0
  ·subst hc
   rcases a4 with ⟨rfl, rfl⟩ | ⟨rfl, rfl⟩ | ⟨rfl, rfl⟩ <;>
   simp -implicitDefEqProofs [H_l6r, zBox, bxR, obR, hint1, hk, own1, q, hs, tk, a3, pkT_app, tPk, le_most (n := k * 2 + 2) (by omega), w1, w2, w3, w4, w64 (x := (k : Int) + 1) (by omega), -List.map_take]
  ·rcases a4 with ⟨rfl, rfl⟩ | ⟨rfl, rfl⟩ | ⟨rfl, rfl⟩ <;>
   simp -implicitDefEqProofs [H_l6r, zBox, bxR, obR, hint1, hk, own1, q, hs, hc, tk, a3, pkT_app, tPk, le_most (n := k * 2 + 2) (by omega), w1, w2, w3, w4, w64 (x := (k : Int) + 1) (by omega), -List.map_take])]
 generalize rsN bs i2 h2 S0 n = R at *
 obtain ⟨S, m, Y, L, i, h⟩ := R
 simp only at kn1 kn2 kn3 kn4 ⊢
 have tk : (pkT L).take (n * 2) = pkT L := List.take_of_length_le (by simp [kn3])
 rcases kn4 with ⟨rfl, rfl⟩ | ⟨rfl, rfl⟩ | ⟨rfl, rfl⟩ <;>
 simp -implicitDefEqProofs [H_l6r, zBox, bxR, obR, f_resK, St.resultsS, leftA, hsk, kn3, tk, w1, w2, w3, w4, -List.map_take]
def BlD (bs : List Int) (i : Nat) (h : Int) (x : Int × Nat × Int) : Prop := CuOk ⟨bs, x.2.1, x.2.2⟩ ∧ (0 ≤ x.1 ∧ x.1 < 2) ∧ ∀ j, M.run (j + 2) 28 [curT bs i h, .c (.v (.int .i64 2))] = some ([.c (.v (.int .i64 x.1))], [curT bs x.2.1 x.2.2, .c (.v (.int .i64 2))])
open Classical in
noncomputable def blD (bs : List Int) (i : Nat) (h : Int) : Int × Nat × Int := if q : ∃ x, BlD bs i h x then Classical.choose q else (0, i, h)
theorem blD_ok {bs : List Int} {i : Nat} {h : Int} (ok : CuOk ⟨bs, i, h⟩) : BlD bs i h (blD bs i h) := by
 have q : ∃ x, BlD bs i h x := by
  obtain ⟨v, i', h', k, _, l, e⟩ := below_ex ok 2
  exact ⟨(v, i', h'), k, l (by omega), e⟩
 unfold blD
 rw [dif_pos q]
 exact Classical.choose_spec q
noncomputable def cuN (bs : List Int) (i : Nat) (h : Int) : Nat → Nat × Int
 | 0 => (i, h)
 | k + 1 => (blD bs (cuN bs i h k).1 (cuN bs i h k).2).2
theorem cuN_ok {bs : List Int} {i : Nat} {h : Int} (ok : CuOk ⟨bs, i, h⟩) : ∀ k, CuOk ⟨bs, (cuN bs i h k).1, (cuN bs i h k).2⟩
 | 0 => ok
 | k + 1 => (blD_ok (cuN_ok ok k)).1
theorem least_ex (P : Nat → Prop) : ∀ N, P N → ∃ n, n ≤ N ∧ P n ∧ ∀ k, k < n → ¬ P k
 | 0, h => ⟨0, Nat.le_refl _, h, fun _ h => absurd h (Nat.not_lt_zero _)⟩
 | N + 1, h => by
  by_cases q : ∃ k, k ≤ N ∧ P k
  ·obtain ⟨k, hk, hP⟩ := q
   obtain ⟨n, h1, h2, h3⟩ := least_ex (fun n => P n ∧ n ≤ N) k ⟨hP, hk⟩
   exact ⟨n, by omega, h2.1, fun m hm hp => h3 m hm ⟨hp, by omega⟩⟩
  ·exact ⟨N + 1, Nat.le_refl _, h, fun k hk hp => q ⟨k, by omega, hp⟩⟩
def H_dr (bs : List Int) (S : Sy) (L : List Pk) (k : Nat) (c : Nat × Int) : St := ⟨[(2, .ptr 192 [] 0), (4, .ptr 640 [] 0), (5, .ptr 384 [] 0), (6, .c (.sl 964 [] 0 (L.length + k)))], [(0, ⟨.ro, 5, octT bs⟩), (192, zBox), (384, bxR 960 S), (640, ⟨.box, 91, [.l 0 [] 0 bs.length, .v (.int .i64 c.1), .v (.int .i64 c.2)]⟩)] ++ (obR 960 S ++ [(964, ⟨.own, 62, pkT (L ++ List.replicate k ⟨0, 0⟩)⟩)])⟩
theorem run_drawRunB {a : Nat} (ha : a = big + 889) (bs : List Int) (hb : bs.length ≤ 1048576) : ∃ (S : Sy) (L : List Pk), Small S ∧ L.length ≤ 1300 ∧ M.run (a + 13) 6 [.c (.r 5 bs.length (octT bs))] = some ([.agg (syS S), .c (.s 62 L.length (pkT L))], [.c (.r 5 bs.length (octT bs))]) := by
 have e0 := run_new (j := a + 11) hb
 have k0 := new_cur hb
 generalize hashK bs (min bs.length 4000) = h0 at *
 obtain ⟨v, lv, el⟩ := run_l1Long bs hb 25 70 (by omega) (by omega)
 obtain ⟨S1, L, i1, h1, k1, sm1, ll, e2⟩ := drawRunA_ex k0 v (by omega)
 obtain ⟨b, i2, h2, k2, e3⟩ := once_ex k1 12
 have el := el (a + 11)
 have e2 := e2 (a + 2) (by omega)
 have e3 := e3 (a + 9)
 obtain ⟨S, i3, h3, k3, sm, hS⟩ : ∃ (S : Sy) (i3 : Nat) (h3 : Int), CuOk ⟨bs, i3, h3⟩ ∧ Small S ∧ ((b = false ∧ S = S1 ∧ i3 = i2 ∧ h3 = h2) ∨ (b = true ∧ M.run (a + 12) 27 [curT bs i2 h2, .c (.r 5 bs.length (octT bs))] = some ([.agg (syS S)], [curT bs i3 h3, .c (.r 5 bs.length (octT bs))]))) := by
  cases b
  ·exact ⟨S1, i2, h2, k2, sm1, .inl ⟨rfl, rfl, rfl, rfl⟩⟩
  ·obtain ⟨S, i3, h3, k3, T, e4⟩ := drawSysW_ex k2 hb
   exact ⟨S, i3, h3, k3, T.small, .inr ⟨rfl, e4 a (by omega)⟩⟩
 obtain ⟨c, i4, h4, k4, e5⟩ := once_ex k3 60
 have e5 := e5 (a + 9)
 have big0 : 100000 ≤ a := by rw [ha]; simp [big]
 have tk : (pkT L).take (L.length * 2) = pkT L := List.take_of_length_le (by simp)
 obtain ⟨w1, w2, w3, w4⟩ := takeS S
 obtain ⟨v1, v2, v3, v4⟩ := takeS S1
 cases c
 ·refine ⟨S, L, sm, by omega, ?_⟩
  rw [m_run (fn := Tryz.f6) (i0 := 0) rfl Tryz.func6 rfl rfl (by simp)]
  rcases hS with ⟨rfl, rfl, rfl, rfl⟩ | ⟨rfl, e4⟩
  ·simp only [curT, z0, syS] at e2 e3 e5 ⊢
   simp -implicitDefEqProofs (maxSteps := 10000000) [own1, St.make, maker, St.resU, allH, isH, St.storeU, e0, el, e2, e3, e5, zBox, tk, w1, w2, w3, w4, -List.map_take]
  ·simp only [curT, z0, syS] at e2 e3 e4 e5 ⊢
   simp -implicitDefEqProofs (maxSteps := 10000000) [own1, St.make, maker, St.resU, allH, isH, St.storeU, e0, el, e2, e3, e4, e5, zBox, tk, w1, w2, w3, w4, v1, v2, v3, v4, -List.map_take]
 have C := cuN_ok k4
 obtain ⟨n, hn, hP, hQ⟩ := least_ex (fun k => ¬ ((L.length : Int) + k < 200 + (blD bs (cuN bs i4 h4 k).1 (cuN bs i4 h4 k).2).1)) 201 (by
  have := (blD_ok (C 201)).2.1
  omega)
 have hQ : ∀ k, k < n → (L.length : Int) + k < 200 + (blD bs (cuN bs i4 h4 k).1 (cuN bs i4 h4 k).2).1 := fun k hk => Classical.not_not.1 (hQ k hk)
 refine ⟨S, L ++ List.replicate n ⟨0, 0⟩, sm, by simp; omega, ?_⟩
 rw [m_run (fn := Tryz.f6) (i0 := 0) rfl Tryz.func6 rfl rfl (by simp)]
 rcases hS with ⟨rfl, rfl, rfl, rfl⟩ | ⟨rfl, e4⟩
 ·simp only [curT, z0, syS] at e2 e3 e5 ⊢
  simp -implicitDefEqProofs (maxSteps := 10000000) [own1, St.make, maker, St.resU, allH, isH, St.storeU, e0, el, e2, e3, e5, zBox, tk, w1, w2, w3, w4, -List.map_take]
  rw [loop_then (fun k => H_dr bs S L k (cuN bs i4 h4 k)) n (by simp -implicitDefEqProofs [H_dr, hint1, zBox, bxR, obR, cuN]) (by simp [big] at ha; omega) (fun k hk => by
   have q := blD_ok (C k)
   have hlt := hQ k hk
   have hc : cuN bs i4 h4 (k + 1) = (blD bs (cuN bs i4 h4 k).1 (cuN bs i4 h4 k).2).2 := rfl
   rw [hc]
   generalize cuN bs i4 h4 k = c at *
   obtain ⟨ci, ch⟩ := c
   generalize blD bs ci ch = X at *
   obtain ⟨x, xi, xh⟩ := X
   obtain ⟨_, qb, q⟩ := q
   have q := q (a + 10)
   simp only [curT] at q hlt qb ⊢
   have wx := w64 (x := 200 + x) (by omega)
   have tkk : (pkT (L ++ List.replicate k ⟨0, 0⟩)).take ((L.length + k) * 2) = pkT (L ++ List.replicate k ⟨0, 0⟩) := List.take_of_length_le (by simp)
   have rep : L ++ List.replicate (k + 1) (⟨0, 0⟩ : Pk) = (L ++ List.replicate k ⟨0, 0⟩) ++ [⟨0, 0⟩] := by rw [List.replicate_succ', List.append_assoc]
   rw [H_dr, H_dr, rep]
   generalize hG : L ++ List.replicate k (⟨0, 0⟩ : Pk) = G at *
   have lG : G.length = L.length + k := by rw [← hG]; simp
   simp -implicitDefEqProofs (maxSteps := 10000000) [hint1, own1, zBox, bxR, obR, q, wx, hlt, tkk, lG, pkT_app, tPk, le_most (n := (L.length + k) * 2 + 2) (by omega), Nat.add_assoc])]
  have q := blD_ok (C n)
  generalize cuN bs i4 h4 n = c at *
  obtain ⟨ci, ch⟩ := c
  generalize blD bs ci ch = X at *
  obtain ⟨x, xi, xh⟩ := X
  obtain ⟨_, qb, q⟩ := q
  have q := q (a + 10)
  simp only [curT] at q hP qb ⊢
  have wx := w64 (x := 200 + x) (by omega)
  have tkk : (pkT (L ++ List.replicate n ⟨0, 0⟩)).take ((L.length + n) * 2) = pkT (L ++ List.replicate n ⟨0, 0⟩) := List.take_of_length_le (by simp)
  have lG : (L ++ List.replicate n (⟨0, 0⟩ : Pk)).length = L.length + n := by simp
  rw [H_dr]
  generalize L ++ List.replicate n (⟨0, 0⟩ : Pk) = G at *
  simp -implicitDefEqProofs (maxSteps := 10000000) [hint1, own1, zBox, bxR, obR, q, wx, hP, tkk, lG, w1, w2, w3, w4, -List.map_take]
 ·simp only [curT, z0, syS] at e2 e3 e4 e5 ⊢
  simp -implicitDefEqProofs (maxSteps := 10000000) [own1, St.make, maker, St.resU, allH, isH, St.storeU, e0, el, e2, e3, e4, e5, zBox, tk, w1, w2, w3, w4, v1, v2, v3, v4, -List.map_take]
  rw [loop_then (fun k => H_dr bs S L k (cuN bs i4 h4 k)) n (by simp -implicitDefEqProofs [H_dr, hint1, zBox, bxR, obR, cuN]) (by simp [big] at ha; omega) (fun k hk => by
   have q := blD_ok (C k)
   have hlt := hQ k hk
   have hc : cuN bs i4 h4 (k + 1) = (blD bs (cuN bs i4 h4 k).1 (cuN bs i4 h4 k).2).2 := rfl
   rw [hc]
   generalize cuN bs i4 h4 k = c at *
   obtain ⟨ci, ch⟩ := c
   generalize blD bs ci ch = X at *
   obtain ⟨x, xi, xh⟩ := X
   obtain ⟨_, qb, q⟩ := q
   have q := q (a + 10)
   simp only [curT] at q hlt qb ⊢
   have wx := w64 (x := 200 + x) (by omega)
   have tkk : (pkT (L ++ List.replicate k ⟨0, 0⟩)).take ((L.length + k) * 2) = pkT (L ++ List.replicate k ⟨0, 0⟩) := List.take_of_length_le (by simp)
   have rep : L ++ List.replicate (k + 1) (⟨0, 0⟩ : Pk) = (L ++ List.replicate k ⟨0, 0⟩) ++ [⟨0, 0⟩] := by rw [List.replicate_succ', List.append_assoc]
   rw [H_dr, H_dr, rep]
   generalize hG : L ++ List.replicate k (⟨0, 0⟩ : Pk) = G at *
   have lG : G.length = L.length + k := by rw [← hG]; simp
   simp -implicitDefEqProofs (maxSteps := 10000000) [hint1, own1, zBox, bxR, obR, q, wx, hlt, tkk, lG, pkT_app, tPk, le_most (n := (L.length + k) * 2 + 2) (by omega), Nat.add_assoc])]
  have q := blD_ok (C n)
  generalize cuN bs i4 h4 n = c at *
  obtain ⟨ci, ch⟩ := c
  generalize blD bs ci ch = X at *
  obtain ⟨x, xi, xh⟩ := X
  obtain ⟨_, qb, q⟩ := q
  have q := q (a + 10)
  simp only [curT] at q hP qb ⊢
  have wx := w64 (x := 200 + x) (by omega)
  have tkk : (pkT (L ++ List.replicate n ⟨0, 0⟩)).take ((L.length + n) * 2) = pkT (L ++ List.replicate n ⟨0, 0⟩) := List.take_of_length_le (by simp)
  have lG : (L ++ List.replicate n (⟨0, 0⟩ : Pk)).length = L.length + n := by simp
  rw [H_dr]
  generalize L ++ List.replicate n (⟨0, 0⟩ : Pk) = G at *
  simp -implicitDefEqProofs (maxSteps := 10000000) [hint1, own1, zBox, bxR, obR, q, wx, hP, tkk, lG, w1, w2, w3, w4, -List.map_take]
end Go.Proofs.YtninncdacekfgaaGreat.VM
namespace Go.Proofs.YtninncdacekfgaaGreat.VM
open Go Go.Proofs
theorem pkAt_drop (l : List Pk) (k i : Nat) : pkAt (l.drop k) i = pkAt l (k + i) := by
 unfold pkAt
 rw [List.getElem?_drop]
theorem runN_add (s : Sy) (l : List Pk) (k : Nat) : ∀ m, runN s l (k + m) = ((runN (runN s l k).1 (l.drop k) m).1, (runN s l k).2 ++ (runN (runN s l k).1 (l.drop k) m).2)
 | 0 => by simp [runN]
 | m + 1 => by
  rw [show k + (m + 1) = (k + m) + 1 from rfl, runN, runN_add s l k m, runN, pkAt_drop, List.append_assoc]
theorem runN_take (s : Sy) (l : List Pk) {n : Nat} : ∀ {k : Nat}, k ≤ n → runN s (l.take n) k = runN s l k
 | 0, _ => rfl
 | k + 1, h => by
  rw [runN, runN_take s l (by omega), runN]
  have : pkAt (l.take n) k = pkAt l k := by
   unfold pkAt
   rw [List.getElem?_take, if_pos (by omega)]
  rw [this]
end Go.Proofs.YtninncdacekfgaaGreat.VM
namespace Go.Proofs.YtninncdacekfgaaGreat.VM
open Go Go.Proofs
theorem run_atR {j : Nat} (bs : List Int) (hb : bs.length ≤ 1048576) (hB : ∀ n ∈ bs, 0 ≤ n ∧ n ≤ 255) (i : Nat) (hi : i ≤ 2) : ∃ v : Int, (0 ≤ v ∧ v ≤ 255) ∧ M.run (j + 1) 11 [.c (.r 5 bs.length (octT bs)), .c (.v (.int .i64 i))] = some ([.c (.v (.int .i64 v))], [.c (.r 5 bs.length (octT bs)), .c (.v (.int .i64 i))]) := by
 by_cases h : i < bs.length
 ·have hv := hB _ (List.getElem_mem h)
  refine ⟨bs[i], hv, ?_⟩
  have o1 := oct_at h
  rw [m_run (fn := Tryz.f11) (i0 := 0) rfl Tryz.func11 rfl rfl (by simp)]
  simp -implicitDefEqProofs [own1, h, o1, gq o1, w64 (x := bs[i]) (by omega)]
 ·have hm : 0 ≤ Int.tmod ((i : Int) * 7 + bs.length) 256 ∧ Int.tmod ((i : Int) * 7 + bs.length) 256 ≤ 255 := by
   rw [Int.tmod_eq_emod_of_nonneg (by omega)]
   omega
  refine ⟨Int.tmod ((i : Int) * 7 + bs.length) 256, hm, ?_⟩
  rw [m_run (fn := Tryz.f11) (i0 := 0) rfl Tryz.func11 rfl rfl (by simp)]
  simp -implicitDefEqProofs [own1, h, w64 (x := (i : Int) * 7) (by omega), w64 (x := (i : Int) * 7 + bs.length) (by omega)]
theorem run_FnRun {a : Nat} (ha : a = big + 889) (bs : List Int) (hb : bs.length ≤ 9223372036854775807) (hB : ∀ n ∈ bs, 0 ≤ n ∧ n ≤ 255) : M.run (a + 14) 3 [.c (.r 5 bs.length (octT bs))] = some ([.c (.v (.bool true))], [.c (.r 5 bs.length (octT bs))]) := by
 have e0 := run_big (j := a + 12) bs.length (octT bs) hb
 rw [m_run (fn := Tryz.f3) (i0 := 0) rfl Tryz.func3 rfl rfl (by simp)]
 by_cases h1 : 1048576 < bs.length
 ·rw [decide_eq_true h1] at e0
  simp -implicitDefEqProofs [own1, e0]
 rw [decide_eq_false h1] at e0
 obtain ⟨S, L, sm, ll, e1⟩ := run_drawRunB ha bs (by omega)
 have e2 := run_implRun (j := a + 2) (by omega) S sm L
 have e3 := run_specRun (j := a + 4) (by omega) S sm L
 have hc := runF_len S L
 have e4 := run_sameInts (j := a + 12) (by omega) (runF S L).2 (by omega)
 obtain ⟨w1, w2, w3, w4⟩ := takeS S
 have tk : (pkT L).take (L.length * 2) = pkT L := List.take_of_length_le (by simp)
 by_cases hz : (runF S L).2.length = 0
 ·have hD : (runF S L).1 = S := by
   unfold runF at hz ⊢
   split
   ·rename_i hq
    rw [if_pos hq, runN_len] at hz
    rw [hz]
    rfl
   ·rfl
  have e5 := run_sameHist (j := a + 11) (by omega) S (runF S L).1 sm (by rw [hD])
  generalize runF S L = D at *
  obtain ⟨D1, D2⟩ := D
  obtain ⟨u1, u2, u3, u4⟩ := takeS D1
  simp only at hz hc e2 e3 e4 e5
  have hd : D2 = [] := List.eq_nil_of_length_eq_zero hz
  subst hd
  simp only [ints, List.map_nil, List.length_nil] at e2 e3 e4
  simp only [syS, syR] at e1 e2 e3 e5
  simp -implicitDefEqProofs (maxSteps := 10000000) [own1, e0, e1, e2, e3, e4, e5, tk, w1, w2, w3, w4, u1, u2, u3, u4, -List.map_take]
 have hq : sysB S = true ∧ L.length ≤ 200 := by
  by_cases q : sysB S = true ∧ L.length ≤ 200
  ·exact q
  ·exfalso
   unfold runF at hz
   rw [if_neg q] at hz
   exact hz rfl
 have hD : runF S L = runN S L L.length := if_pos hq
 have R := right_iff.1 hq.1
 obtain ⟨v, hv, ea⟩ := run_atR (j := a + 12) bs (by omega) hB 1 (by omega)
 rw [show ((1 : Nat) : Int) = 1 from rfl] at ea
 have hk : 0 ≤ Int.tmod v ((L.length : Int) + 1) ∧ Int.tmod v ((L.length : Int) + 1) ≤ L.length := by
  rw [Int.tmod_eq_emod_of_nonneg (by omega)]
  have h1 := Int.emod_nonneg v (show (L.length : Int) + 1 ≠ 0 by omega)
  have h2 := Int.emod_lt_of_pos v (show 0 < (L.length : Int) + 1 by omega)
  omega
 obtain ⟨k, hkk⟩ : ∃ k : Nat, Int.tmod v ((L.length : Int) + 1) = k := ⟨(Int.tmod v ((L.length : Int) + 1)).toNat, by omega⟩
 have hk2 : k ≤ L.length := by omega
 have hA : runF S (L.take k) = runN S L k := by
  unfold runF
  rw [if_pos ⟨hq.1, by rw [List.length_take]; omega⟩, List.length_take, Nat.min_eq_left hk2]
  exact runN_take S L (Nat.le_refl _)
 have RA := runN_right R L k
 have hB2 : runF (runN S L k).1 (L.drop k) = runN (runN S L k).1 (L.drop k) (L.length - k) := by
  unfold runF
  rw [if_pos ⟨right_iff.2 RA, by rw [List.length_drop]; omega⟩, List.length_drop]
 have add := runN_add S L k (L.length - k)
 rw [show k + (L.length - k) = L.length by omega] at add
 have e5 := run_implRun (j := a + 2) (by omega) S sm (L.take k)
 have e6 := run_implRun (j := a + 2) (by omega) (runN S L k).1 RA.small (L.drop k)
 have smB := runF_small _ RA.small (L.drop k)
 rw [hA, List.length_take, Nat.min_eq_left hk2] at e5
 rw [hB2, List.length_drop] at e6
 rw [hB2] at smB
 have l1 := runN_len S L k
 have l2 := runN_len (runN S L k).1 (L.drop k) (L.length - k)
 have e7 := run_sameHist (j := a + 11) (by omega) (runN (runN S L k).1 (L.drop k) (L.length - k)).1 (runN (runN S L k).1 (L.drop k) (L.length - k)).1 smB rfl
 have e8 := run_sameStates (j := a + 10) (by omega) (runN (runN S L k).1 (L.drop k) (L.length - k)).1 (runN (runN S L k).1 (L.drop k) (L.length - k)).1 smB rfl
 rw [hD, add] at e2 e3 e4 hz hc
 clear hD add hA hB2 R
 generalize runN (runN S L k).1 (L.drop k) (L.length - k) = Q at *
 generalize runN S L k = P at *
 obtain ⟨A, c1⟩ := P
 obtain ⟨B, c2⟩ := Q
 simp only at e2 e3 e4 e5 e6 e7 e8 l1 l2 hz hc
 have lc : (c1 ++ c2).length = L.length := by rw [List.length_append]; omega
 generalize c1 ++ c2 = cs at *
 obtain ⟨u1, u2, u3, u4⟩ := takeS A
 obtain ⟨v1, v2, v3, v4⟩ := takeS B
 have tkc : (ints cs).take cs.length = ints cs := List.take_of_length_le (by simp)
 have tkd : (L.drop k).take (L.length - k) = L.drop k := List.take_of_length_le (by rw [List.length_drop]; omega)
 have w5 := w64 (x := (L.length : Int) + 1) (by omega)
 have wk := w64 (x := (k : Int)) (by omega)
 have w6 := w64 (x := (k : Int) + (L.length - k : Nat)) (by omega)
 have hn : ¬ (L.length : Int) + 1 = 0 := by omega
 have hLz : ¬ L.length = 0 := by omega
 have hs : (k : Int) + ((L.length - k : Nat) : Int) = L.length := by omega
 rw [lc] at e2 e3 e4 tkc
 rw [l1] at e5
 rw [l2] at e6
 simp only [syS, syR] at e1 e2 e3 e5 e6 e7 e8
 simp -implicitDefEqProofs (maxSteps := 10000000) [own1, e0, e1, e2, e3, e4, e5, e6, e7, e8, ea, hkk, hk2, show k * 2 ≤ L.length * 2 by omega, show k * 2 + (L.length - k) * 2 ≤ L.length * 2 by omega, show ((L.length : Int) - (k : Int)).toNat = L.length - k by omega, hn, hLz, hs, lc, w64 (x := (L.length : Int)) (by omega), w5, w6, wk, tk, tkc, tkd, w1, w2, w3, w4, u1, u2, u3, u4, v1, v2, v3, v4, -List.map_take]
theorem law_FnRun (bs : List Int) (hb : (∀ n ∈ bs, 0 ≤ n ∧ n ≤ 255) ∧ bs.length ≤ maxLen) : ∃ k xs, M.run k 3 [.c (.r 5 bs.length (octT bs))] = some ([.c (.v (.bool true))], xs) :=
 ⟨_, _, run_FnRun rfl bs (by have := hb.2; unfold maxLen at this; omega) hb.1⟩
end Go.Proofs.YtninncdacekfgaaGreat.VM
