/- Do of the specification reckoned: one event. -/
import Derived.Test.YtbdidcfjaohglaaDo1
namespace Go.Proofs.Ytbdidcfjaohglaa.VM
open Go Go.Proofs
set_option linter.unusedSimpArgs false
set_option linter.unusedVariables false
set_option maxRecDepth 100000
set_option maxHeartbeats 40000000
theorem ints_snoc (ys : List Int) (v : Int) : ints ys ++ [T.v (.int .i64 v)] = ints (ys ++ [v]) := by simp [ints]
def evB (a b c a' b' c' : Int) : Bool := a == a' && (b == b' && (c == c' && true))
theorem flat75 : flatS Try.prog 61 = some (fieldsOf Try.prog 61) := by kernel_rfl
theorem eq75 (a b c a' b' c' : Int) : eqCs Try.prog (fieldsOf Try.prog 61) [.v (.int .i64 a), .v (.int .i64 b), .v (.int .i64 c)] [.v (.int .i64 a'), .v (.int .i64 b'), .v (.int .i64 c')] = some (evB a b c a' b' c') := by
  unfold fieldsOf; rw [Try.underlying61]; simp [eqCs, eqI, evB]
theorem comes_not {e w : Ev} (h : ¬ (w.kind = 3 ∧ e.kind = 3)) : comesB e w = evB e.kind e.peer e.v w.kind w.peer w.v := by
  unfold comesB evB
  rw [if_neg h]
  simp
theorem comes_take {e w : Ev} (h : w.kind = 3) (h' : e.kind = 3) : comesB e w = (numB e.v && ((e.peer == w.peer && w.peer != 9) || (w.peer == 9 && inB e.peer 0 3))) := by
  unfold comesB
  rw [if_pos ⟨h, h'⟩]
/-- The state behind an event, and whether it could come. -/
def oneF (x : Ins) (n : Nat) (s : Sta) (e : Ev) : Sta := if comesB e (nextE x s.regs) = true then didF x n s e.v else s
theorem run98 {j : Nat} (l : List Ins) (i : Nat) (hi : i < l.length) (xs ys : List Int) (c : Int) (R : Rt l[i] l.length ⟨i, xs, ys, c⟩) (e : Ev) :
    M.run (j + 4) 75 [.c (.r 110 l.length (insT l)), .agg (stR i xs ys c), .agg (tEv e)] = some ([.agg (sSta (oneF l[i] l.length ⟨i, xs, ys, c⟩ e)), .c (.v (.bool (comesB e (nextE l[i] xs))))], [.c (.r 110 l.length (insT l)), .agg (stR i xs ys c), .agg (tEv e)]) := by
  have hx : xs.length = 4 := R.regs
  have hle := R.le
  obtain ⟨ka, hka⟩ : ∃ k : Nat, l[i].a = k := ⟨l[i].a.toNat, by have := R.a; omega⟩
  obtain ⟨kr, hkr⟩ : ∃ k : Nat, l[i].r = k := ⟨l[i].r.toNat, by have := R.r; omega⟩
  have la : ka < xs.length := by have := R.a; omega
  have lr : kr < xs.length := by have := R.r; omega
  have lr' : kr + 1 ≤ xs.length := by omega
  have hi5 : i * 5 + 5 ≤ l.length * 5 := by omega
  have hop := R.op
  have hr1 : (insT l)[i * 5 + 1]? = some (.v (.int .i64 kr)) := by
    rw [show insT l = l.flatMap tIns from rfl, fm_get (k := 5) tIns_len hi (by omega), ← hkr]
    rfl
  have e83 := run83 (j := j + 2) l i hi c xs ys hx (fun _ => R.a)
  have e97 := run97 (j := j + 2) ⟨i, xs, ys, c⟩ (by simp; omega) (by have := R.out; simp at this ⊢; omega)
  have eg := run99 (j := j + 1) ⟨i, xs, ys, c⟩ l.length (insT l) ⟨by simp, by simpa using hi⟩ hle
  have ef := run100 (j := j + 2) ⟨i, xs, ys, c⟩
  have es := run99 (j := j + 1) ⟨i, xs.set kr e.v, ys, c⟩ l.length (insT l) ⟨by simp, by simpa using hi⟩ hle
  have ep := run99 (j := j + 1) ⟨i, xs, ys ++ [e.v], c⟩ l.length (insT l) ⟨by simp, by simpa using hi⟩ hle
  have hout : ys.length ≤ 60 := R.out
  simp -implicitDefEqProofs [tSta, stR, sSta, stS, hSta, tEv] at e83 e97 eg ef es ep
  rw [m_run (fn := Try.f75) (i0 := 0) rfl Try.func75 rfl rfl (by simp [stR, tEv])]
  unfold oneF
  by_cases o7 : l[i].op = 7
  · have hn : nextE l[i] xs = ⟨3, l[i].n, 0⟩ := by simp [nextE, o7]
    have hd : didF l[i] l.length ⟨i, xs, ys, c⟩ e.v = goF l.length ⟨i, xs.set kr e.v, ys, c⟩ (i + 1) := by simp [didF, o7, hkr]
    have hpeer := R.peer o7
    rw [hn] at e83
    simp only
    rw [hn, hd]
    try simp -implicitDefEqProofs at e83
    simp -implicitDefEqProofs [stR, tEv, own1, e83, e97]
    by_cases k3 : e.kind = 3
    · rw [comes_take rfl k3]
      cases q1 : numB e.v
      · simp -implicitDefEqProofs [stR, tEv, sSta, stS, own1, k3, run62, q1]
      · by_cases q2 : l[i].n = 9
        · cases q3 : inB e.peer 0 3
          · simp -implicitDefEqProofs [stR, tEv, sSta, stS, own1, k3, run62, run61, q1, q2, q3]
          · simp -implicitDefEqProofs [stR, tEv, sSta, stS, own1, k3, run62, run61, q1, q2, q3, hi, hi5, tIns, hr1, hkr, lr, lr', es]
        · by_cases q4 : e.peer = l[i].n
          · have q3 : inB l[i].n 0 3 = true := by simp [inB]; omega
            simp -implicitDefEqProofs [stR, tEv, sSta, stS, own1, k3, run62, run61, q1, q2, q3, q4, hi, hi5, tIns, hr1, hkr, lr, lr', es]
          · simp -implicitDefEqProofs [stR, tEv, sSta, stS, own1, k3, run62, run61, q1, q2, q4]
    · have hf : comesB e ⟨3, l[i].n, 0⟩ = false := by
        rw [comes_not (by simp [k3])]
        simp [evB, k3]
      rw [hf]
      simp -implicitDefEqProofs [stR, tEv, sSta, stS, own1, k3]
  have hk3 : ¬ ((nextE l[i] xs).kind = 3 ∧ e.kind = 3) := by
    unfold nextE
    (repeat' split) <;> simp_all
  rw [comes_not hk3]
  by_cases o8 : l[i].op = 8
  · have hn : nextE l[i] xs = ⟨4, 0, xs[ka]⟩ := by simp [nextE, o8, hka, la]
    rw [hn] at e83
    try simp only
    try rw [comes_not hk3]
    try rw [hn]
    try simp -implicitDefEqProofs at e83
    simp -implicitDefEqProofs [stR, tEv, own1, e83, e97, flat75, eq75]
    cases q : evB e.kind e.peer e.v 4 0 xs[ka]
    · simp -implicitDefEqProofs [stR, tEv, sSta, stS, own1]
    · by_cases q2 : ys.length = 60
      · rw [show didF l[i] l.length ⟨i, xs, ys, c⟩ e.v = ⟨i, xs, ys, 2⟩ by simp [didF, o8, q2]]
        simp -implicitDefEqProofs [stR, tEv, sSta, stS, hSta, own1, show (ys.length : Int) = 60 by omega, ef]
      · rw [show didF l[i] l.length ⟨i, xs, ys, c⟩ e.v = goF l.length ⟨i, xs, ys ++ [e.v], c⟩ (i + 1) by simp [didF, o8]; omega]
        simp -implicitDefEqProofs [stR, tEv, sSta, stS, hSta, own1, show ¬ (ys.length : Int) = 60 by omega, ep, le_most (n := ys.length + 1) (by omega), ints_snoc]
  by_cases o6 : l[i].op = 6
  · have hn : nextE l[i] xs = ⟨2, l[i].n, xs[ka]⟩ := by simp [nextE, o6, hka, la]
    rw [hn] at e83
    try simp only
    try rw [comes_not hk3]
    try rw [hn]
    try simp -implicitDefEqProofs at e83
    simp -implicitDefEqProofs [stR, tEv, own1, e83, e97, flat75, eq75]
    cases q : evB e.kind e.peer e.v 2 l[i].n xs[ka]
    · simp -implicitDefEqProofs [stR, tEv, sSta, stS, own1]
    · rw [show didF l[i] l.length ⟨i, xs, ys, c⟩ e.v = goF l.length ⟨i, xs, ys, c⟩ (i + 1) by simp [didF, o6]]
      simp -implicitDefEqProofs [stR, tEv, sSta, stS, hSta, own1, eg]
  have hn : nextE l[i] xs = ⟨1, 0, 0⟩ := by simp [nextE, o6, o7, o8]
  have el := run101 (j := j) l i hi xs ys c R o6 o7 o8 e.v
  simp -implicitDefEqProofs [stS, hSta] at el
  rw [hn] at e83
  try simp only
  try rw [comes_not hk3]
  try rw [hn]
  try simp -implicitDefEqProofs at e83
  simp -implicitDefEqProofs [stR, tEv, own1, e83, e97, flat75, eq75]
  cases q : evB e.kind e.peer e.v 1 0 0
  · simp -implicitDefEqProofs [stR, tEv, sSta, stS, own1]
  · simp -implicitDefEqProofs [stR, tEv, sSta, stS, hSta, own1, el]
theorem ins_rt {x : Ins} {n : Nat} (h : insB x n 4 = true) : (0 ≤ x.r ∧ x.r < 4) ∧ (0 ≤ x.a ∧ x.a < 4) ∧ (0 ≤ x.b ∧ x.b < 4) ∧ (1 ≤ x.op ∧ x.op ≤ 11) ∧ (x.op = 9 ∨ x.op = 10 → 0 ≤ x.n ∧ x.n < n) ∧ (x.op = 7 → x.n = 9 ∨ (0 ≤ x.n ∧ x.n < 4)) := by
  simp only [insB, Bool.and_eq_true] at h
  obtain ⟨⟨⟨⟨⟨h1, _⟩, h2⟩, h3⟩, h4⟩, h5⟩ := h
  have g : ∀ {k : Int} {b : Bool}, regB k b = true → 0 ≤ k ∧ k < 4 := fun {k b} h => by
    simp [regB, inB] at h
    omega
  refine ⟨g h2, g h3, g h4, by simpa [formB] using h1, fun ho => ?_, fun ho => ?_⟩
  · rcases ho with ho | ho <;> (simp [lastB, hasB, formL, ho] at h5; omega)
  · simp [lastB, hasB, formL, ho, inB] at h5
    omega
/-- Where all is right. -/
theorem okN_rt {l : List Ins} {a c : Int} {xs ys : List Int} (h : okN l a c xs ys = true) : ∃ i : Nat, ∃ hi : i < l.length, a = i ∧ c = 0 ∧ ((l[a.toNat]?).getD ⟨0, 0, 0, 0, 0⟩) = l[i] ∧ Rt l[i] l.length ⟨i, xs, ys, 0⟩ := by
  obtain ⟨i, hi, rfl, rfl, hx, hg, _⟩ := okN_at h
  simp only [okN, progB, stOkB, Bool.and_eq_true, decide_eq_true_eq] at h
  have hl := inB_le h.1.1
  have hins := ins_rt (List.all_eq_true.1 h.1.2 l[i] (List.getElem_mem _))
  exact ⟨i, hi, rfl, rfl, hg, ⟨⟨by simp, by simpa using hi⟩, by omega, hx, fun v hv => List.all_eq_true.1 h.2.1.1.2 v hv, h.2.1.1.1.2, hins.1, hins.2.1, hins.2.2.1, hins.2.2.2.1, hins.2.2.2.2.1, hins.2.2.2.2.2⟩⟩
/-- Do: the state, and whether it was done. -/
def doB (l : List Ins) (s : Sta) (e : Ev) : Bool := okN l s.at_ s.code s.regs s.out && comesB e (nextE ((l[s.at_.toNat]?).getD ⟨0, 0, 0, 0, 0⟩) s.regs)
def doS (l : List Ins) (s : Sta) (e : Ev) : Sta := if okN l s.at_ s.code s.regs s.out = true then oneF ((l[s.at_.toNat]?).getD ⟨0, 0, 0, 0, 0⟩) l.length s e else s
theorem run96 {j : Nat} (hj : big ≤ j) (l : List Ins) (s : Sta) (e : Ev) (hl : l.length ≤ 1048576) (hx : s.regs.length ≤ 1048576) (hy : s.out.length ≤ 1048576) :
    M.run (j + 6) 25 [.c (.r 110 l.length (insT l)), .agg (tSta s), .agg (tEv e)] = some ([.agg (sSta (doS l s e)), .c (.v (.bool (doB l s e)))], [.c (.r 110 l.length (insT l)), .agg (tSta s), .agg (tEv e)]) := by
  obtain ⟨a, xs, ys, c⟩ := s
  rw [m_run (fn := Try.f25) (i0 := 0) rfl Try.func25 rfl rfl (by simp [tSta, stR, tEv])]
  have e1 := run82 hj l a c xs ys hl hx hy
  unfold doS doB
  simp only
  cases h1 : okN l a c xs ys
  · have e97 := run97 (j := j + 4) ⟨a, xs, ys, c⟩ hx hy
    rw [h1] at e1
    simp -implicitDefEqProofs [tSta, stR, sSta, stS] at e1 e97
    simp -implicitDefEqProofs [tSta, stR, sSta, stS, tEv, own1, e1, e97]
  · obtain ⟨i, hi, rfl, rfl, hg, R⟩ := okN_rt h1
    have e98 := run98 (j := j + 1) l i hi xs ys 0 R e
    rw [h1] at e1
    rw [hg]
    simp -implicitDefEqProofs [stR, tEv, sSta, stS] at e1 e98
    simp -implicitDefEqProofs [tSta, stR, sSta, stS, tEv, own1, e1, e98]
end Go.Proofs.Ytbdidcfjaohglaa.VM
