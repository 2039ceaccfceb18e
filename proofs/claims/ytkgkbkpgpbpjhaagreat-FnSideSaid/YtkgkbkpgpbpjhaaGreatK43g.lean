/- The laws FnHangs, FnSide. -/
import Derived.Test.YtkgkbkpgpbpjhaaGreatK38g
import Derived.Test.YtkgkbkpgpbpjhaaGreatK27g
import Derived.Test.YtkgkbkpgpbpjhaaGreatK15g
import Derived.Test.YtkgkbkpgpbpjhaaGreatK34g
import Derived.Test.YtkgkbkpgpbpjhaaGreatK31g
set_option linter.unusedSimpArgs false
set_option linter.unusedVariables false
set_option maxRecDepth 100000
set_option maxHeartbeats 40000000
namespace Go.Proofs.YtkgkbkpgpbpjhaaGreat.VM
open Go Go.Proofs
theorem isEvB_of {S : Sy} (hs : sysB S = true) {m n : Nat} (hm : m < S.hist.length) (hn : n < S.hist[m].length) : isEvB S m n = true := by
 unfold isEvB
 rw [hs, Int.toNat_natCast, rowH_of hm]
 simp [inB]
 omega
theorem hangB_at {S : Sy} {m n m' n' : Nat} : hangB S m n m' n' = (isEvB S m n && (isEvB S m' n' && !(decide (m = m') && decide (n = n'))) && decide (n' < clk S.hist m n m')) := by
 unfold hangB bothB
 rw [Int.toNat_natCast, Int.toNat_natCast, Int.toNat_natCast, show decide ((m : Int) = m') = decide (m = m') from decide_eq_decide.2 (by omega), show decide ((n : Int) = n') = decide (n = n') from decide_eq_decide.2 (by omega), show decide ((n' : Int) < (clk S.hist m n m' : Int)) = decide (n' < clk S.hist m n m') from decide_eq_decide.2 (by omega)]
theorem hang_anti {S : Sy} {p i q k : Int} (h : hangB S p i q k = true) : hangB S q k p i = false := by
 have h0 := h
 unfold hangB bothB at h0
 simp only [Bool.and_eq_true] at h0
 obtain ⟨hs, m, n, rfl, rfl, hm, hn⟩ := isEvB_at h0.1.1
 obtain ⟨_, m', n', rfl, rfl, hm', hn'⟩ := isEvB_at h0.1.2.1
 rw [hangB_at] at h ⊢
 rw [isEvB_of hs hm hn, isEvB_of hs hm' hn'] at h ⊢
 simp only [Bool.true_and, Bool.and_eq_true, Bool.not_eq_true', Bool.and_eq_false_iff, decide_eq_false_iff_not, decide_eq_true_eq] at h ⊢
 have O := (right_iff.1 hs).ord
 have a1 : n < (rowH S.hist m).length := by rw [rowH_of hm]; exact hn
 have a2 : n' < (rowH S.hist m').length := by rw [rowH_of hm']; exact hn'
 refine .inr fun h2 => ?_
 by_cases e : m = m'
 ·subst e
  rw [clk_own O a1] at h
  rw [clk_own O a2] at h2
  have : n = n' := by omega
  rcases h.1 with h | h
  ·exact h rfl
  ·exact h this
 ·exact clk_anti O O m n m' n' a1 a2 e h.2 h2
theorem hang_less {S : Sy} {p i q k : Int} (h : hangB S p i q k = true) (hk : 0 < k) : hangB S p i q (k - 1) = true := by
 have h0 := h
 unfold hangB bothB at h0
 simp only [Bool.and_eq_true] at h0
 obtain ⟨hs, m, n, rfl, rfl, hm, hn⟩ := isEvB_at h0.1.1
 obtain ⟨_, m', n', rfl, rfl, hm', hn'⟩ := isEvB_at h0.1.2.1
 obtain ⟨l, rfl⟩ : ∃ l, n' = l + 1 := ⟨n' - 1, by omega⟩
 have e : ((l + 1 : Nat) : Int) - 1 = (l : Nat) := by omega
 rw [e]
 rw [hangB_at] at h ⊢
 rw [isEvB_of hs hm hn, isEvB_of hs hm' hn'] at h
 rw [isEvB_of hs hm hn, isEvB_of hs hm' (by omega)]
 simp only [Bool.true_and, Bool.and_eq_true, Bool.not_eq_true', Bool.and_eq_false_iff, decide_eq_false_iff_not, decide_eq_true_eq] at h ⊢
 refine ⟨?_, by omega⟩
 by_cases em : m = m'
 ·subst em
  have O := (right_iff.1 hs).ord
  have a1 : n < (rowH S.hist m).length := by rw [rowH_of hm]; exact hn
  rw [clk_own O a1] at h
  rcases h.1 with h1 | h1
  ·exact absurd rfl h1
  ·exact .inr (by omega)
 ·exact .inl em
theorem hang_next {S : Sy} {p i q k : Int} (h : hangB S p i q k = true) (hk : i + 1 < ((rowH S.hist p.toNat).length : Int)) : hangB S p (i + 1) q k = true := by
 have h0 := h
 unfold hangB bothB at h0
 simp only [Bool.and_eq_true] at h0
 obtain ⟨hs, m, n, rfl, rfl, hm, hn⟩ := isEvB_at h0.1.1
 obtain ⟨_, m', n', rfl, rfl, hm', hn'⟩ := isEvB_at h0.1.2.1
 rw [Int.toNat_natCast, rowH_of hm] at hk
 have e : (n : Int) + 1 = ((n + 1 : Nat) : Int) := by omega
 rw [e]
 rw [hangB_at] at h ⊢
 rw [isEvB_of hs hm hn, isEvB_of hs hm' hn'] at h
 rw [isEvB_of hs hm (by omega), isEvB_of hs hm' hn']
 simp only [Bool.true_and, Bool.and_eq_true, Bool.not_eq_true', Bool.and_eq_false_iff, decide_eq_false_iff_not, decide_eq_true_eq] at h ⊢
 have O := (right_iff.1 hs).ord
 have a1 : n < (rowH S.hist m).length := by rw [rowH_of hm]; exact hn
 have a3 : n + 1 < (rowH S.hist m).length := by rw [rowH_of hm]; omega
 have mono := clk_mono O (p := m) (j := n) m' (i := n + 1) a3 (by omega)
 refine ⟨?_, by omega⟩
 by_cases em : m = m'
 ·subst em
  rw [clk_own O a1] at h
  rcases h.1 with h1 | h1
  ·exact absurd rfl h1
  ·exact .inr (by omega)
 ·exact .inl em
theorem valsE_nth (es : List Ev) (k p : Int) (n : Nat) (hn : n < es.length) (h : isB es[n] k p = true) : (valsE es k p)[cntE (es.take n) k p]? = some es[n].v := by
 have h1 := valsE_succ hn k p
 rw [if_pos h] at h1
 have h2 : valsE es k p = valsE (es.take (n + 1)) k p ++ valsE (es.drop (n + 1)) k p := by
  unfold valsE
  rw [← List.map_append, ← List.filter_append, List.take_append_drop]
 rw [h2, h1, ← valsE_cnt, List.append_assoc, List.getElem?_append_right (Nat.le_refl _)]
 simp
theorem ways_fit {S : Sy} (R : Right S) {a b : Nat} (ha : a < S.progs.length) (hb : b < S.progs.length) : valsE (rowH S.hist b) 3 a ++ numsI (wayR S a b) = valsE (rowH S.hist a) 2 b := of_decide_eq_true (R.fit a b ha hb)
theorem sender_law {S : Sy} {p i : Int} (h : 0 ≤ senderI S p i) : ∃ (m n q k : Nat) (hm : m < S.hist.length) (hn : n < S.hist[m].length) (hq : q < S.hist.length) (hk : k < S.hist[q].length), p = m ∧ i = n ∧ senderI S p i = k ∧ S.hist[m][n].peer = q ∧ S.hist[q][k].kind = 2 ∧ S.hist[q][k].peer = m ∧ S.hist[q][k].v = S.hist[m][n].v ∧ hangB S m n q k = true := by
 unfold senderI at h ⊢
 cases hE : isEvB S p i
 ·rw [hE] at h
  simp at h
 rw [hE] at h
 rw [if_pos rfl] at h ⊢
 obtain ⟨hs, m, n, rfl, rfl, hm, hn⟩ := isEvB_at hE
 rw [Int.toNat_natCast, Int.toNat_natCast] at h ⊢
 have R := right_iff.1 hs
 have O := R.ord
 have a1 : n < (rowH S.hist m).length := by rw [rowH_of hm]; exact hn
 have hk3 := send_kind h
 obtain ⟨_, b, c⟩ := send_has O m n a1 hk3
 have iev : evAt (rowH S.hist m) n = S.hist[m][n] := by rw [rowH_of hm, evAt_of hn]
 have hk3' := hk3
 rw [iev] at hk3'
 obtain ⟨g1, g2⟩ := sys_peers hs m hm n hn hk3'
 obtain ⟨q, hq⟩ : ∃ q : Nat, S.hist[m][n].peer = q := ⟨S.hist[m][n].peer.toNat, by omega⟩
 have hqn : q < S.hist.length := by omega
 have hpn : peerN S.hist m n = q := by unfold peerN; rw [iev, hq]; simp
 rw [hpn] at b c
 have b' : (senderF S.hist m n).toNat < S.hist[q].length := by
  have : (senderF S.hist m n).toNat < (rowH S.hist q).length := b
  rwa [rowH_of hqn] at this
 refine ⟨m, n, q, (senderF S.hist m n).toNat, hm, hn, hqn, b', rfl, rfl, by omega, hq, ?_⟩
 have hsf : senderF S.hist m n = nthF S.hist[q] 2 m (cntE (S.hist[m].take n) 3 q) := by
  unfold senderF
  rw [if_pos hk3, iev, hq, Int.toNat_natCast, rowH_of hqn, rowH_of hm]
 have hle : nthN S.hist[q] 2 m (cntE (S.hist[m].take n) 3 q) ≤ S.hist[q].length := lead_le _ _
 have hnl : nthN S.hist[q] 2 m (cntE (S.hist[m].take n) 3 q) < S.hist[q].length := by
  rw [hsf] at h
  unfold nthF at h
  split at h
  ·omega
  ·omega
 have hkk : (senderF S.hist m n).toNat = nthN S.hist[q] 2 m (cntE (S.hist[m].take n) 3 q) := by
  rw [hsf, nthF_of hnl, Int.toNat_natCast]
 obtain ⟨u1, u2⟩ := cnt_nth hnl
 rw [← hkk] at u1 u2
 rw [evAt_of b'] at u1
 obtain ⟨v1, v2⟩ := isB_true u1
 refine ⟨v1, v2, ?_, ?_⟩
 ·have fit := ways_fit R (a := q) (b := m) (by rw [← R.hi]; exact hqn) (by rw [← R.hi]; exact hm)
  rw [rowH_of hm, rowH_of hqn] at fit
  have i1 := valsE_nth S.hist[m] 3 q n hn (by unfold isB; rw [hk3', hq]; simp)
  have i2 := valsE_nth S.hist[q] 2 m (senderF S.hist m n).toNat b' u1
  rw [u2] at i2
  have hlen : cntE (S.hist[m].take n) 3 q < (valsE S.hist[m] 3 q).length := (List.getElem?_eq_some_iff.1 i1).1
  rw [← fit, List.getElem?_append_left hlen, i1] at i2
  exact (Option.some.inj i2).symm
 ·rw [hangB_at, isEvB_of hs hm hn, isEvB_of hs hqn b']
  have q1 := clk_send O a1 h q
  rw [hpn, clk_own O b] at q1
  simp only [Bool.true_and, Bool.and_eq_true, Bool.not_eq_true', Bool.and_eq_false_iff, decide_eq_false_iff_not, decide_eq_true_eq]
  refine ⟨?_, by omega⟩
  by_cases e : m = q
  ·have := c e.symm
   exact .inr (by omega)
  ·exact .inl e
theorem run_FnHangs {j : Nat} (hj : big ≤ j ∧ j ≤ big + 700) (bs : List Int) (hb : bs.length ≤ 9223372036854775807) : M.run (j + 16) 11 [.c (.r 5 bs.length (octT bs))] = some ([.c (.v (.bool true))], [.c (.r 5 bs.length (octT bs))]) := by
 have e0 := run_big (j := j + 14) bs.length (octT bs) hb
 rw [m_run (fn := Tryz.f11) (i0 := 0) rfl Tryz.func11 rfl rfl (by simp)]
 by_cases h1 : 1048576 < bs.length
 ·rw [decide_eq_true h1] at e0
  simp -implicitDefEqProofs [own1, e0]
 rw [decide_eq_false h1] at e0
 obtain ⟨S, p, x, q, y, T, hp, hx, hq, hy, e1⟩ := run_drawHangs (j := j + 1) (by omega) bs (by omega)
 have e2 := run_implHangs (j := j + 3) (by omega) S T.small p x q y
 have e3 := run_specHangs (j := j + 6) (by omega) S T.small p x q y
 have e4 := run_implHangs (j := j + 3) (by omega) S T.small q y p x
 have e5 := run_implHangs (j := j + 3) (by omega) S T.small p x q (y - 1)
 have e6 := run_implHangs (j := j + 3) (by omega) S T.small p (x + 1) q y
 have e7 := run_implSender (j := j + 3) (by omega) S T.small p x
 have e8 := run_specSender (j := j + 6) (by omega) S T.small p x
 obtain ⟨w1, w2, w3, w4⟩ := takeS S
 have y1 := w64 (x := y - 1) (by omega)
 have x1 := w64 (x := x + 1) (by omega)
 cases hD : hangB S p x q y
 ·rw [hD] at e2 e3
  by_cases hS : 0 ≤ senderI S p x
  ·obtain ⟨m, n, u, k, hm, hn, hu, hk, rfl, rfl, s1, s2, s3, s4, s5, s6⟩ := sender_law hS
   have e9 := run_implHangs (j := j + 3) (by omega) S T.small m n u k
   rw [s6] at e9
   rw [s1] at e7 e8
   simp only [syS, syR] at e1 e2 e3 e4 e7 e8 e9
   simp -implicitDefEqProofs (maxSteps := 10000000) [own1, e0, e1, e2, e3, e4, e7, e8, e9, hm, hn, hu, hk, s2, s3, s4, s5, sEvent_at hm, sEvent_at hu, sEvent, tEv, show n * 3 + 3 ≤ S.hist[m].length * 3 by omega, show k * 3 + 3 ≤ S.hist[u].length * 3 by omega, w1, w2, w3, w4, -List.map_take]
  ·simp only [syS, syR] at e1 e2 e3 e4 e7 e8
   simp -implicitDefEqProofs (maxSteps := 10000000) [own1, e0, e1, e2, e3, e4, e7, e8, hS, w1, w2, w3, w4, -List.map_take]
 ·rw [hD] at e2 e3
  rw [hang_anti hD] at e4
  have hl := hang_less hD
  have hn1 := hang_next hD
  have hE : isEvB S p x = true := by
   unfold hangB bothB at hD
   simp only [Bool.and_eq_true] at hD
   exact hD.1.1
  obtain ⟨_, m, n, rfl, rfl, hm, hn⟩ := isEvB_at hE
  rw [Int.toNat_natCast, rowH_of hm] at hn1
  have hyb : 0 ≤ y := by
   unfold hangB bothB at hD
   simp only [Bool.and_eq_true] at hD
   obtain ⟨_, m', n', _, e, _, _⟩ := isEvB_at hD.1.2.1
   omega
  have e5' : 0 < y → _ := fun h => by
   have := e5
   rw [hl h] at this
   exact this
  have e6' : (n : Int) + 1 < S.hist[m].length → _ := fun h => by
   have := e6
   rw [hn1 h] at this
   exact this
  clear e5 e6 hl hn1
  simp only [syR] at e5' e6'
  by_cases hS : 0 ≤ senderI S m n
  ·obtain ⟨m2, n2, u, k, hm2, hn2, hu, hk, a1, a2, s1, s2, s3, s4, s5, s6⟩ := sender_law hS
   have a1 : m2 = m := by omega
   have a2 : n2 = n := by omega
   subst a1
   subst a2
   have e9 := run_implHangs (j := j + 3) (by omega) S T.small m2 n2 u k
   rw [s6] at e9
   rw [s1] at e7 e8
   simp only [syS, syR] at e1 e2 e3 e4 e7 e8 e9
   by_cases y0 : 0 < y
   ·by_cases n0 : (n2 : Int) + 1 < S.hist[m2].length
    ·simp -implicitDefEqProofs (maxSteps := 10000000) [own1, e0, e1, e2, e3, e4, e5' y0, e6' n0, y0, n0, y1, x1, e7, e8, e9, hm, hn, hu, hk, s2, s3, s4, s5, sEvent_at hm, sEvent_at hu, sEvent, tEv, show n2 * 3 + 3 ≤ S.hist[m2].length * 3 by omega, show k * 3 + 3 ≤ S.hist[u].length * 3 by omega, w1, w2, w3, w4, -List.map_take]
    ·simp -implicitDefEqProofs (maxSteps := 10000000) [own1, e0, e1, e2, e3, e4, e5' y0, y0, n0, y1, x1, e7, e8, e9, hm, hn, hu, hk, s2, s3, s4, s5, sEvent_at hm, sEvent_at hu, sEvent, tEv, show n2 * 3 + 3 ≤ S.hist[m2].length * 3 by omega, show k * 3 + 3 ≤ S.hist[u].length * 3 by omega, w1, w2, w3, w4, -List.map_take]
   ·by_cases n0 : (n2 : Int) + 1 < S.hist[m2].length
    ·simp -implicitDefEqProofs (maxSteps := 10000000) [own1, e0, e1, e2, e3, e4, e6' n0, y0, n0, y1, x1, e7, e8, e9, hm, hn, hu, hk, s2, s3, s4, s5, sEvent_at hm, sEvent_at hu, sEvent, tEv, show n2 * 3 + 3 ≤ S.hist[m2].length * 3 by omega, show k * 3 + 3 ≤ S.hist[u].length * 3 by omega, w1, w2, w3, w4, -List.map_take]
    ·simp -implicitDefEqProofs (maxSteps := 10000000) [own1, e0, e1, e2, e3, e4, y0, n0, y1, x1, e7, e8, e9, hm, hn, hu, hk, s2, s3, s4, s5, sEvent_at hm, sEvent_at hu, sEvent, tEv, show n2 * 3 + 3 ≤ S.hist[m2].length * 3 by omega, show k * 3 + 3 ≤ S.hist[u].length * 3 by omega, w1, w2, w3, w4, -List.map_take]
  ·simp only [syS, syR] at e1 e2 e3 e4 e7 e8
   by_cases y0 : 0 < y
   ·by_cases n0 : (n : Int) + 1 < S.hist[m].length
    ·simp -implicitDefEqProofs (maxSteps := 10000000) [own1, e0, e1, e2, e3, e4, e5' y0, e6' n0, y0, n0, y1, x1, e7, e8, hS, hm, hn, sEvent_at hm, sEvent, w1, w2, w3, w4, -List.map_take]
    ·simp -implicitDefEqProofs (maxSteps := 10000000) [own1, e0, e1, e2, e3, e4, e5' y0, y0, n0, y1, x1, e7, e8, hS, hm, hn, sEvent_at hm, sEvent, w1, w2, w3, w4, -List.map_take]
   ·by_cases n0 : (n : Int) + 1 < S.hist[m].length
    ·simp -implicitDefEqProofs (maxSteps := 10000000) [own1, e0, e1, e2, e3, e4, e6' n0, y0, n0, y1, x1, e7, e8, hS, hm, hn, sEvent_at hm, sEvent, w1, w2, w3, w4, -List.map_take]
    ·simp -implicitDefEqProofs (maxSteps := 10000000) [own1, e0, e1, e2, e3, e4, y0, n0, y1, x1, e7, e8, hS, hm, hn, sEvent_at hm, sEvent, w1, w2, w3, w4, -List.map_take]
theorem law_FnHangs (bs : List Int) (hb : (∀ n ∈ bs, 0 ≤ n ∧ n ≤ 255) ∧ bs.length ≤ maxLen) : ∃ k xs, M.run k 11 [.c (.r 5 bs.length (octT bs))] = some ([.c (.v (.bool true))], xs) :=
 ⟨_, _, run_FnHangs (j := big) (by omega) bs (by have := hb.2; unfold maxLen at this; omega)⟩
end Go.Proofs.YtkgkbkpgpbpjhaaGreat.VM
namespace Go.Proofs.YtkgkbkpgpbpjhaaGreat.VM
open Go Go.Proofs
theorem both_comm (S : Sy) (p i q k : Int) : bothB S p i q k = bothB S q k p i := by
 unfold bothB
 rw [show decide (p = q) = decide (q = p) from decide_eq_decide.2 eq_comm, show decide (i = k) = decide (k = i) from decide_eq_decide.2 eq_comm]
 cases isEvB S p i <;> cases isEvB S q k <;> rfl
theorem side_comm (S : Sy) (p i q k : Int) : sideB S p i q k = sideB S q k p i := by
 unfold sideB
 rw [both_comm S p i q k]
 cases bothB S q k p i <;> cases hangB S p i q k <;> cases hangB S q k p i <;> rfl
theorem clockI_len {S : Sy} {p i : Int} : decide (0 < ((clockI S p i).length : Int)) = isEvB S p i := by
 unfold clockI
 cases h : isEvB S p i
 ·rfl
 ·obtain ⟨_, m, n, rfl, rfl, hm, _⟩ := isEvB_at h
  rw [if_pos rfl, dL_len]
  exact decide_eq_true (by omega)
theorem run_FnSide {j : Nat} (hj : big ≤ j ∧ j ≤ big + 700) (bs : List Int) (hb : bs.length ≤ 9223372036854775807) : M.run (j + 17) 12 [.c (.r 5 bs.length (octT bs))] = some ([.c (.v (.bool true))], [.c (.r 5 bs.length (octT bs))]) := by
 have e0 := run_big (j := j + 15) bs.length (octT bs) hb
 rw [m_run (fn := Tryz.f12) (i0 := 0) rfl Tryz.func12 rfl rfl (by simp)]
 by_cases h1 : 1048576 < bs.length
 ·rw [decide_eq_true h1] at e0
  simp -implicitDefEqProofs [own1, e0]
 rw [decide_eq_false h1] at e0
 obtain ⟨S, p, x, q, y, T, hp, hx, hq, hy, e1⟩ := run_drawSide (j := j + 2) (by omega) bs (by omega)
 have e2 := run_implSide (j := j + 3) (by omega) S T.small p x q y
 have e3 := run_specSide (j := j + 6) (by omega) S T.small p x q y
 have e4 := run_implSide (j := j + 3) (by omega) S T.small q y p x
 have e5 := run_implClock (j := j + 4) (by omega) S T.small p x
 have e6 := run_implClock (j := j + 4) (by omega) S T.small q y
 have e7 := run_implHangs (j := j + 4) (by omega) S T.small p x q y
 have e8 := run_implHangs (j := j + 4) (by omega) S T.small q y p x
 obtain ⟨w1, w2, w3, w4⟩ := takeS S
 rw [← side_comm] at e4
 have c1 := clockI_len (S := S) (p := p) (i := x)
 have c2 := clockI_len (S := S) (p := q) (i := y)
 generalize clockI S p x = C1 at *
 generalize clockI S q y = C2 at *
 have anti : hangB S p x q y = true → hangB S q y p x = false := hang_anti
 have hs : sideB S p x q y = (bothB S p x q y && (!hangB S p x q y && !hangB S q y p x)) := rfl
 have k1 : bothB S p x q y = false → hangB S p x q y = false ∧ hangB S q y p x = false := fun h => by
  have h' := h
  rw [both_comm] at h'
  unfold hangB
  rw [h, h']
  exact ⟨rfl, rfl⟩
 have hbo : bothB S p x q y = (isEvB S p x && (isEvB S q y && !(decide (p = q) && decide (x = y)))) := rfl
 rw [← c1, ← c2] at hbo
 clear c1 c2
 generalize bothB S p x q y = B at *
 generalize hangB S p x q y = H1 at *
 generalize hangB S q y p x = H2 at *
 generalize sideB S p x q y = D at *
 have wz := w64 (x := 1) (by omega)
 have wy := w64 (x := 2) (by omega)
 simp only [syS, syR] at e1 e2 e3 e4 e5 e6 e7 e8
 by_cases z1 : 0 < (C1.length : Int)
 ·have z1' : 0 < C1.length := by omega
  by_cases z2 : 0 < (C2.length : Int)
  ·have z2' : 0 < C2.length := by omega
   by_cases z3 : p = q
   ·by_cases z4 : x = y
    ·rw [decide_eq_true z1, decide_eq_true z2, decide_eq_true z3, decide_eq_true z4] at hbo
     simp only [Bool.and_true, Bool.not_true, Bool.and_false] at hbo
     subst hbo
     obtain ⟨rfl, rfl⟩ := k1 rfl
     simp only [Bool.false_and] at hs
     subst hs
     subst z3
     subst z4
     simp -implicitDefEqProofs (maxSteps := 10000000) [own1, e0, e1, e2, e3, e4, e5, e6, e7, e8, z1, z2, z1', z2', wz, wy, w1, w2, w3, w4, -List.map_take]
    ·rw [decide_eq_true z1, decide_eq_true z2, decide_eq_false z4] at hbo
     simp only [Bool.and_true, Bool.not_false, Bool.and_false] at hbo
     subst hbo
     simp only [Bool.true_and] at hs
     subst hs
     subst z3
     cases H1
     ·cases H2 <;> simp -implicitDefEqProofs (maxSteps := 10000000) [own1, e0, e1, e2, e3, e4, e5, e6, e7, e8, z1, z2, z1', z2', z4, wz, wy, w1, w2, w3, w4, -List.map_take]
     ·have h2 : H2 = false := anti rfl
      subst h2
      simp -implicitDefEqProofs (maxSteps := 10000000) [own1, e0, e1, e2, e3, e4, e5, e6, e7, e8, z1, z2, z1', z2', z4, wz, wy, w1, w2, w3, w4, -List.map_take]
   ·rw [decide_eq_true z1, decide_eq_true z2, decide_eq_false z3] at hbo
    simp only [Bool.and_true, Bool.not_false, Bool.false_and] at hbo
    subst hbo
    simp only [Bool.true_and] at hs
    subst hs
    cases H1
    ·cases H2 <;> simp -implicitDefEqProofs (maxSteps := 10000000) [own1, e0, e1, e2, e3, e4, e5, e6, e7, e8, z1, z2, z1', z2', z3, wz, wy, w1, w2, w3, w4, -List.map_take]
    ·have h2 : H2 = false := anti rfl
     subst h2
     simp -implicitDefEqProofs (maxSteps := 10000000) [own1, e0, e1, e2, e3, e4, e5, e6, e7, e8, z1, z2, z1', z2', z3, wz, wy, w1, w2, w3, w4, -List.map_take]
  ·have z2' : ¬ 0 < C2.length := by omega
   rw [decide_eq_false z2] at hbo
   simp only [Bool.false_and, Bool.and_false] at hbo
   subst hbo
   obtain ⟨rfl, rfl⟩ := k1 rfl
   simp only [Bool.false_and] at hs
   subst hs
   simp -implicitDefEqProofs (maxSteps := 10000000) [own1, e0, e1, e2, e3, e4, e5, e6, e7, e8, z1, z2, z1', z2', wz, wy, w1, w2, w3, w4, -List.map_take]
 ·have z1' : ¬ 0 < C1.length := by omega
  rw [decide_eq_false z1] at hbo
  simp only [Bool.false_and] at hbo
  subst hbo
  obtain ⟨rfl, rfl⟩ := k1 rfl
  simp only [Bool.false_and] at hs
  subst hs
  simp -implicitDefEqProofs (maxSteps := 10000000) [own1, e0, e1, e2, e3, e4, e5, e6, e7, e8, z1, z1', wz, wy, w1, w2, w3, w4, -List.map_take]
theorem law_FnSide (bs : List Int) (hb : (∀ n ∈ bs, 0 ≤ n ∧ n ≤ 255) ∧ bs.length ≤ maxLen) : ∃ k xs, M.run k 12 [.c (.r 5 bs.length (octT bs))] = some ([.c (.v (.bool true))], xs) :=
 ⟨_, _, run_FnSide (j := big) (by omega) bs (by have := hb.2; unfold maxLen at this; omega)⟩
end Go.Proofs.YtkgkbkpgpbpjhaaGreat.VM
