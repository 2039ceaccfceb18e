/- Close, Full, Sender: reckoned. -/
import Derived.Test.YtninncdacekfgaaK13
/- Close, Full, Sender: reckoned. -/
namespace Go.Proofs.Ytninncdacekfgaa.VM
open Go Go.Proofs
set_option linter.unusedSimpArgs false
set_option linter.unusedVariables false
set_option maxRecDepth 100000
set_option maxHeartbeats 40000000
theorem CutI.small {h : List (List Ev)} {c : List Int} (I : CutI h c) : ∀ p, (hp : p < c.length) → c[p] = cAt c p := fun p hp => (I.at_ hp).1
theorem shutR_len {h : List (List Ev)} {c : List Int} {a : Nat} : ∀ n, (shutR h a c n).length = c.length
 | 0 => rfl
 | n + 1 => by
  rw [shutR]
  unfold shut1
  split
  ·exact shutR_len n
  ·rw [List.length_set]; exact shutR_len n
theorem sumC_le {h : List (List Ev)} {c : List Int} (I : CutI h c) (hl : h.length ≤ 1048576) (ht : tot h ≤ 1048576) : sumC c ≤ 1048576 := by
 unfold sumC
 have h1 : sumD (cAt c) c.length ≤ sumD (fun q => (rowH h q).length) c.length := by
  have : ∀ m, m ≤ c.length → sumD (cAt c) m ≤ sumD (fun q => (rowH h q).length) m := by
   intro m
   induction m with
   | zero => intro _; exact Nat.le_refl _
   | succ m ih => intro hm; rw [sumD, sumD]; have := ih (by omega); have := (I.at_ (p := m) (by omega)).2; omega
  exact this _ (Nat.le_refl _)
 rw [I.len] at h1 ⊢
 have h2 := sum_tot h (Nat.le_refl _)
 rw [List.take_length] at h2
 omega
noncomputable def shutN (h : List (List Ev)) (c : List Int) : Nat := open Classical in if hc : CutI h c then Classical.choose (shut_ends hc) else 0
noncomputable def shutF (h : List (List Ev)) (c : List Int) : List Int := shutAt h c (shutN h c)
theorem shutN_spec {h : List (List Ev)} {c : List Int} (I : CutI h c) : shutN h c ≤ sumC c ∧ wholeB h (shutAt h c (shutN h c)) = true ∧ (∀ i, i < shutN h c → wholeB h (shutAt h c i) = false) ∧ ∀ i, i ≤ shutN h c → CutI h (shutAt h c i) := by
 unfold shutN
 rw [dif_pos I]
 exact Classical.choose_spec (shut_ends I)
def clO (s : Sy) (c o : List Int) (k : Nat) : List (Nat × Obj) := sysO s ++ [(4, ⟨.ro, 3, ints c⟩), (192, sysX s), (k, ⟨.own, 3, ints o⟩)]
def H_u1 (s : Sy) (c : List Int) (i : Nat) : St := ⟨[(2, .ptr 192 [] 0), (5, .c (.sl 960 [] 0 c.length))], clO s c (shutAt s.hist c i) 960⟩
def H_u2 (s : Sy) (c o : List Int) (a : Nat) : St := ⟨[(2, .ptr 192 [] 0), (5, .c (.sl 960 [] 0 c.length)), (20, .c (.v (.int .i64 c.length))), (21, .c (.v (.int .i64 a)))], clO s c (shutP s.hist o a) 960⟩
def H_u3 (s : Sy) (c o : List Int) (a b : Nat) : St := ⟨[(2, .ptr 192 [] 0), (5, .c (.sl 960 [] 0 c.length)), (6, .c (.v (.int .i64 a))), (20, .c (.v (.int .i64 c.length))), (21, .c (.v (.int .i64 a))), (25, .c (.v (.int .i64 c.length))), (26, .c (.v (.int .i64 b)))], clO s c (shutR s.hist a o b) 960⟩
theorem run_implClose {j : Nat} (hj : big ≤ j) (s : Sy) (h : Small s) (c : List Int) (hc : c.length ≤ 1048576) : M.run (j + 12) 82 [.agg (syR s), .c (.r 3 c.length (ints c))] = some ([.c (.s 3 (if cutOkB s c = true then shutF s.hist c else []).length (ints (if cutOkB s c = true then shutF s.hist c else [])))], [.agg (syR s), .c (.r 3 c.length (ints c))]) := by
 have e1 := run_implCutOk hj s h c hc
 rw [m_run (fn := Try.f82) (i0 := 0) rfl Try.func82 rfl rfl (by simp [syR])]
 cases hq : cutOkB s c
 ·rw [hq] at e1
  simp only [syR] at e1 ⊢
  simp -implicitDefEqProofs [own1, e1]
 have I := cutOk_I hq
 rw [hq] at e1
 rw [if_pos rfl]
 obtain ⟨n1, n2, n3, n4⟩ := shutN_spec I
 have hs := sumC_le I h.hist h.histT
 have ew := fun o (Io : CutI s.hist o) => run_whole (j := j + 6) (by omega) s h o Io
 have el := fun o (Io : CutI s.hist o) a b ha hb => run_lacks (j := j + 7) (by omega) s h o Io a b ha hb
 have ec := run_clone (j := j + 10) c hc
 have lenO : ∀ o, CutI s.hist o → o.length = c.length := fun o Io => by rw [Io.len, I.len]
 simp only [syR] at e1 ew el ⊢
 simp -implicitDefEqProofs [own1, e1, ec]
 rw [loop_then (H_u1 s c) (shutN s.hist c) (by simp -implicitDefEqProofs [H_u1, clO, sysO, sysX, hint1, shutAt, again]) (by simp [big] at hj; omega) (fun i hi => by
  have Io := n4 i (Nat.le_of_lt hi)
  have hw := n3 i hi
  have e := ew _ Io
  have lo := lenO _ Io
  have hx : shutAt s.hist c (i + 1) = shutP s.hist (shutAt s.hist c i) s.hist.length := rfl
  rw [hw] at e
  unfold H_u1
  rw [hx]
  clear hx
  generalize shutAt s.hist c i = o at *
  have tk : o.take c.length = o := List.take_of_length_le (by omega)
  rw [lo] at e
  simp -implicitDefEqProofs [clO, sysO, sysX, own1, e, lo, tk]
  rw [loop_then (H_u2 s c o) c.length (by simp -implicitDefEqProofs [H_u2, clO, sysO, sysX, hint1, shutP]) (by simp [big] at hj; omega) (fun a ha => by
   have Ia := (shutP_inv Io (n := a) (by rw [← I.len]; omega)).1
   have la := lenO _ Ia
   have hx : shutP s.hist o (a + 1) = shutR s.hist a (shutP s.hist o a) s.hist.length := rfl
   unfold H_u2
   rw [hx]
   clear hx
   generalize shutP s.hist o a = o1 at *
   simp -implicitDefEqProofs [clO, sysO, sysX, own1, ha]
   rw [loop_then (H_u3 s c o1 a) c.length (by simp -implicitDefEqProofs [H_u3, clO, sysO, sysX, hint1, shutR]) (by simp [big] at hj; omega) (fun b hb => by
    have Ib := (shutR_inv (a := a) Ia (n := b) (by rw [← I.len]; omega)).1
    have lb := lenO _ Ib
    have hx : shutR s.hist a o1 (b + 1) = shut1 s.hist (shutR s.hist a o1 b) a b := rfl
    have e := el _ Ib a b (by omega) (by omega)
    have hwb := (nthF_ge (es := (rowH s.hist b).take (cAt (shutR s.hist a o1 b) b)) (k := 3) (p := a) (n := cntE ((rowH s.hist a).take (cAt (shutR s.hist a o1 b) a)) 2 b)).1
    unfold H_u3
    rw [hx]
    clear hx hwb
    unfold shut1
    generalize shutR s.hist a o1 b = o2 at *
    have tk : o2.take c.length = o2 := List.take_of_length_le (by omega)
    rw [lb] at e
    by_cases hlk : lackF s.hist o2 a b < 0
    ·rw [if_pos hlk]
     simp -implicitDefEqProofs [clO, sysO, sysX, hint1, own1, hb, e, lb, tk, show ¬ 0 ≤ lackF s.hist o2 a b by omega, w64 (x := (b : Int) + 1) (by omega)]
    ·rw [if_neg hlk]
     simp -implicitDefEqProofs [clO, sysO, sysX, hint1, own1, hb, e, tk, show 0 ≤ lackF s.hist o2 a b by omega, w64 (x := (b : Int) + 1) (by omega), lb, show b + 1 ≤ c.length by omega, ints_set])]
   simp -implicitDefEqProofs [H_u3, clO, sysO, sysX, hint1, w64 (x := (a : Int) + 1) (by omega), I.len])]
  simp -implicitDefEqProofs [H_u2, clO, sysO, sysX, hint1, I.len])]
 have Io := n4 _ (Nat.le_refl _)
 have e := ew _ Io
 have lo := lenO _ Io
 rw [n2] at e
 unfold H_u1 shutF
 generalize shutAt s.hist c (shutN s.hist c) = o at *
 have tk : o.take c.length = o := List.take_of_length_le (by omega)
 rw [lo] at e
 simp -implicitDefEqProofs [clO, sysO, sysX, own1, e, lo, tk]
end Go.Proofs.Ytninncdacekfgaa.VM

/- Close of the specification, Full, Sender: reckoned; their laws. -/
namespace Go.Proofs.Ytninncdacekfgaa.VM
open Go Go.Proofs
set_option linter.unusedSimpArgs false
set_option linter.unusedVariables false
set_option maxRecDepth 100000
set_option maxHeartbeats 40000000
def H_k1 (s : Sy) (c : List Int) (i : Nat) : St := ⟨[(2, .ptr 192 [] 0), (5, .c (.sl 640 [] 0 c.length))], clO s c (shutAt s.hist c i) 640⟩
def H_k2 (s : Sy) (c o : List Int) (a : Nat) : St := ⟨[(2, .ptr 192 [] 0), (5, .c (.sl 640 [] 0 c.length)), (6, .c (.v (.int .i64 a)))], clO s c (shutP s.hist o a) 640⟩
def H_k3 (s : Sy) (c o : List Int) (a b : Nat) : St := ⟨[(2, .ptr 192 [] 0), (5, .c (.sl 640 [] 0 c.length)), (6, .c (.v (.int .i64 a))), (7, .c (.v (.int .i64 b)))], clO s c (shutR s.hist a o b) 640⟩
theorem shutF_len {h : List (List Ev)} {c : List Int} (I : CutI h c) : (shutF h c).length = c.length := by
 have := (shutN_spec I).2.2.2 _ (Nat.le_refl _)
 unfold shutF
 rw [this.len, I.len]
end Go.Proofs.Ytninncdacekfgaa.VM

/- Full, Sender: reckoned; their laws. -/
namespace Go.Proofs.Ytninncdacekfgaa.VM
open Go Go.Proofs
set_option linter.unusedSimpArgs false
set_option linter.unusedVariables false
set_option maxRecDepth 100000
set_option maxHeartbeats 40000000
def lensI (h : List (List Ev)) : List Int := h.map fun x => (x.length : Int)
@[simp] theorem lensI_len (h : List (List Ev)) : (lensI h).length = h.length := by simp [lensI]
theorem lensI_succ {h : List (List Ev)} {i : Nat} (hi : i < h.length) : lensI (h.take (i + 1)) = lensI (h.take i) ++ [(h[i].length : Int)] := by
 unfold lensI
 rw [List.take_add_one, List.getElem?_eq_getElem hi, List.map_append]
 rfl
def H_f1 (s : Sy) (i : Nat) : St := ⟨[(1, .ptr 128 [] 0), (3, .c (.sl 640 [] 0 i)), (11, .c (.sl 3 [] 0 s.hist.length)), (12, .c (.v (.int .i64 s.hist.length))), (13, .c (.v (.int .i64 i)))], sysO s ++ [(128, sysX s), (640, ⟨.own, 3, ints (lensI (s.hist.take i))⟩)]⟩
def H_f2 (s : Sy) (i : Nat) : St := ⟨[(1, .ptr 128 [] 0), (3, .c (.sl 384 [] 0 i)), (4, .c (.v (.int .i64 i)))], sysO s ++ [(128, sysX s), (384, ⟨.own, 3, ints (lensI (s.hist.take i))⟩)]⟩
noncomputable def fullF (s : Sy) : List Int := if sysB s = true then lensI s.hist else []
theorem run_implFull {j : Nat} (hj : big ≤ j) (s : Sy) (h : Small s) : M.run (j + 11) 81 [.agg (syR s)] = some ([.c (.s 3 (fullF s).length (ints (fullF s)))], [.agg (syR s)]) := by
 have e1 := run_implSysOk hj s h
 have b4 := h.hist
 unfold fullF
 rw [m_run (fn := Try.f81) (i0 := 0) rfl Try.func81 rfl rfl (by simp [syR])]
 cases hq : sysB s
 ·rw [hq] at e1
  simp only [syR] at e1 ⊢
  simp -implicitDefEqProofs [own1, e1]
 rw [hq] at e1
 rw [if_pos rfl]
 simp only [syR] at e1 ⊢
 simp -implicitDefEqProofs [own1, e1]
 rw [loop_then (H_f1 s) s.hist.length (by simp -implicitDefEqProofs [H_f1, sysO, sysX, hint1, lensI]) (by simp [big] at hj; omega) (fun i hi => by
  have hs := lensI_succ hi
  have hm : min i s.hist.length = i := by omega
  have tk : (lensI (s.hist.take i)).take i = lensI (s.hist.take i) := List.take_of_length_le (by rw [lensI_len, List.length_take]; omega)
  simp -implicitDefEqProofs [H_f1, sysO, sysX, hint1, hi, hs, hm, tk, rEvent_at hi, rEvent, w64 (x := (i : Int) + 1) (by omega), le_most (n := i + 1) (by omega), ints_snoc1])]
 have tk : (lensI s.hist).take s.hist.length = lensI s.hist := List.take_of_length_le (by rw [lensI_len]; exact Nat.le_refl _)
 simp -implicitDefEqProofs [H_f1, sysO, sysX, tk]
/-! ### events and their senders -/
noncomputable def isEvB (s : Sy) (p i : Int) : Bool := sysB s && (inB p 0 ((s.hist.length : Int) - 1) && inB i 0 (((rowH s.hist p.toNat).length : Int) - 1))
theorem run_isEvent {j : Nat} (hj : big ≤ j) (s : Sy) (h : Small s) (p i : Int) : M.run (j + 11) 51 [.agg (syR s), .c (.v (.int .i64 p)), .c (.v (.int .i64 i))] = some ([.c (.v (.bool (isEvB s p i)))], [.agg (syR s), .c (.v (.int .i64 p)), .c (.v (.int .i64 i))]) := by
 have e1 := run_implSysOk hj s h
 have b4 := h.hist
 have w := w64 (x := (s.hist.length : Int) - 1) (by omega)
 rw [m_run (fn := Try.f51) (i0 := 0) rfl Try.func51 rfl rfl (by simp [syR])]
 unfold isEvB
 simp only [syR] at e1 ⊢
 cases hq : sysB s
 ·rw [hq] at e1
  simp -implicitDefEqProofs [own1, e1]
 rw [hq] at e1
 cases hp : inB p 0 ((s.hist.length : Int) - 1)
 ·simp -implicitDefEqProofs [own1, e1, run64, w, hp]
 ·obtain ⟨m, rfl, hm⟩ := inB_nat hp
  have hb := h.his hm
  simp -implicitDefEqProofs [own1, e1, run64, w, hp, hm, rEvent_at hm, rEvent, rowH_of hm, w64 (x := (s.hist[m].length : Int) - 1) (by omega)]
def senderF (h : List (List Ev)) (p i : Nat) : Int := if (evAt (rowH h p) i).kind = 3 then nthF (rowH h (evAt (rowH h p) i).peer.toNat) 2 p (cntE ((rowH h p).take i) 3 (evAt (rowH h p) i).peer) else -1
theorem run_sender {j : Nat} (hj : big ≤ j) (s : Sy) (h : Small s) (hpe : PeersIn s.hist) (p i : Nat) (hp : p < s.hist.length) (hi : i < s.hist[p].length) : M.run (j + 4) 84 [.agg (syR s), .c (.v (.int .i64 p)), .c (.v (.int .i64 i))] = some ([.c (.v (.int .i64 (senderF s.hist p i)))], [.agg (syR s), .c (.v (.int .i64 p)), .c (.v (.int .i64 i))]) := by
 have tb := h.his hp
 rw [m_run (fn := Try.f84) (i0 := 0) rfl Try.func84 rfl rfl (by simp [syR])]
 unfold senderF
 rw [rowH_of hp, evAt_of hi]
 by_cases hk : s.hist[p][i].kind = 3
 ·obtain ⟨g1, g2⟩ := hpe p hp i hi hk
  obtain ⟨q, hq⟩ : ∃ q : Nat, s.hist[p][i].peer = q := ⟨s.hist[p][i].peer.toNat, by omega⟩
  have hqn : q < s.hist.length := by omega
  have tq := h.his hqn
  have e1 := run_implCount (j := j) hj (s.hist[p].take i) 3 q (by rw [List.length_take]; omega)
  rw [valsE_cnt, List.length_take, Nat.min_eq_left (Nat.le_of_lt hi)] at e1
  have hcnt : cntE (s.hist[p].take i) 3 q ≤ 1048576 := by
   rw [← valsE_cnt]
   have := valsE_le (s.hist[p].take i) 3 q
   rw [List.length_take] at this
   omega
  have e2 := run_implNth (j := j + 1) (by omega) s.hist[q] 2 p (cntE (s.hist[p].take i) 3 q) tq hcnt
  rw [if_pos hk, hq, Int.toNat_natCast, rowH_of hqn]
  generalize cntE (s.hist[p].take i) 3 q = K at *
  simp -implicitDefEqProofs [syR, own1, hp, hi, hqn, hk, hq, rEvent_at hp, rEvent_at hqn, rEvent, tEv, e1, e2, show i * 3 + 3 ≤ s.hist[p].length * 3 by omega, show i ≤ s.hist[p].length by omega, show i * 3 ≤ s.hist[p].length * 3 by omega]
 ·rw [if_neg hk]
  simp -implicitDefEqProofs [syR, own1, hp, hi, hk, rEvent_at hp, rEvent, tEv, show i * 3 + 3 ≤ s.hist[p].length * 3 by omega]
theorem sys_peers {s : Sy} (h : sysB s = true) : PeersIn s.hist := by
 have hh := right_hist h
 unfold sysB at h
 simp only [Bool.and_eq_true] at h
 exact peers_in hh (allTo_of h.2.2.1)
theorem isEvB_at {s : Sy} {p i : Int} (h : isEvB s p i = true) : sysB s = true ∧ ∃ m n : Nat, p = m ∧ i = n ∧ ∃ hm : m < s.hist.length, n < s.hist[m].length := by
 unfold isEvB at h
 simp only [Bool.and_eq_true] at h
 obtain ⟨h1, h2, h3⟩ := h
 obtain ⟨m, rfl, hm⟩ := inB_nat h2
 obtain ⟨n, rfl, hn⟩ := inB_nat h3
 rw [Int.toNat_natCast, rowH_of hm] at hn
 exact ⟨h1, m, n, rfl, rfl, hm, hn⟩
noncomputable def senderI (s : Sy) (p i : Int) : Int := if isEvB s p i = true then senderF s.hist p.toNat i.toNat else -1
end Go.Proofs.Ytninncdacekfgaa.VM
