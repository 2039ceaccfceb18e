/- Do of the program: reckoned. -/
import Derived.Test.YtninncdacekfgaaK4
/- Do of the program reckoned. -/
namespace Go.Proofs.Ytninncdacekfgaa.VM
open Go Go.Proofs
set_option linter.unusedSimpArgs false
set_option linter.unusedVariables false
set_option maxRecDepth 100000
set_option maxHeartbeats 40000000
theorem run_comes {j : Nat} (e w : Ev) : M.run (j + 3) 28 [.agg (tEv e), .agg (tEv w)] = some ([.c (.v (.bool (comesB e w)))], [.agg (tEv e), .agg (tEv w)]) := by
 rw [m_run (fn := Try.f28) (i0 := 0) rfl Try.func28 rfl rfl (by simp [tEv])]
 by_cases hk : w.kind = 3
 ·by_cases he : e.kind = 3
  ·rw [comes_take hk he]
   cases q0 : numB e.v
   ·simp -implicitDefEqProofs [tEv, own1, hk, he, run67, q0]
   ·by_cases q1 : e.peer = w.peer
    ·by_cases q2 : w.peer = 9
     ·cases q3 : inB e.peer 0 3
      ·rw [q1, q2] at q3
       simp -implicitDefEqProofs [tEv, own1, hk, he, run67, run64, q0, q1, q2, q3]
      ·rw [q1, q2] at q3
       simp -implicitDefEqProofs [tEv, own1, hk, he, run67, run64, q0, q1, q2, q3]
     ·simp -implicitDefEqProofs [tEv, own1, hk, he, run67, run64, q0, q1, q2]
    ·by_cases q2 : w.peer = 9
     ·rw [q2] at q1
      cases q3 : inB e.peer 0 3 <;> simp -implicitDefEqProofs [tEv, own1, hk, he, run67, run64, q0, q1, q2, q3]
     ·simp -implicitDefEqProofs [tEv, own1, hk, he, run67, run64, q0, q1, q2]
  ·rw [comes_not (by simp [he])]
   simp -implicitDefEqProofs [tEv, own1, hk, he, flat75, eq75]
 ·rw [comes_not (by simp [hk])]
  simp -implicitDefEqProofs [tEv, own1, hk, flat75, eq75]
theorem run_cloneState {j : Nat} (s : Sta) (h1 : s.regs.length ≤ 1048576) (h2 : s.out.length ≤ 1048576) : M.run (j + 2) 29 [.agg (tSta s)] = some ([.agg (sSta s)], [.agg (tSta s)]) := by
 rw [m_run (fn := Try.f29) (i0 := 0) rfl Try.func29 rfl rfl (by simp [tSta, stR])]
 simp -implicitDefEqProofs [tSta, stR, sSta, stS, own1, run_clone _ h1, run_clone _ h2]
theorem run_faulted {j : Nat} (s : Sta) (h1 : s.regs.length ≤ 1048576) (h2 : s.out.length ≤ 1048576) : M.run (j + 3) 57 [.agg (tSta s)] = some ([.agg (sSta ⟨s.at_, s.regs, s.out, 2⟩)], [.agg (tSta s)]) := by
 rw [m_run (fn := Try.f57) (i0 := 0) rfl Try.func57 rfl rfl (by simp [tSta, stR])]
 have e := run_cloneState (j := j) s h1 h2
 simp only [tSta, stR, sSta, stS] at e ⊢
 simp -implicitDefEqProofs [own1, e]
theorem run_goesOn {j : Nat} (s : Sta) (n : Nat) (l : List T) (k : Int) (hn : n ≤ 1048576) : M.run (j + 2) 58 [.c (.r 40 n l), .agg (sSta s), .c (.v (.int .i64 k))] = some ([.agg (sSta (goF n s k))], [.c (.r 40 n l), .agg (hSta s), .c (.v (.int .i64 k))]) := by
 rw [m_run (fn := Try.f58) (i0 := 0) rfl Try.func58 rfl rfl (by simp [sSta, stS])]
 unfold goF
 cases h : inB k 0 ((n : Int) - 1)
 ·rw [if_neg (by simp)]
  simp -implicitDefEqProofs [sSta, stS, hSta, own1, run64, w64 (x := (n : Int) - 1) (by omega), h]
 ·rw [if_pos rfl]
  simp -implicitDefEqProofs [sSta, stS, hSta, own1, run64, w64 (x := (n : Int) - 1) (by omega), h]
theorem run_reckoned {j : Nat} (x : Ins) (xs : List Int) (hx : xs.length = 4) (nums : ∀ v ∈ xs, numB v = true) (ha : 0 ≤ x.a ∧ x.a < 4) (hb : 0 ≤ x.b ∧ x.b < 4) : M.run (j + 1) 56 [.agg (tIns x), .c (.r 3 xs.length (ints xs))] = some ([.c (.v (.int .i64 (valF x xs)))], [.agg (tIns x), .c (.r 3 xs.length (ints xs))]) := by
 obtain ⟨op, r, a, b, n⟩ := x
 obtain ⟨ka, rfl⟩ : ∃ k : Nat, a = k := ⟨a.toNat, by have := ha; simp only at this; omega⟩
 obtain ⟨kb, rfl⟩ : ∃ k : Nat, b = k := ⟨b.toNat, by have := hb; simp only at this; omega⟩
 have la : ka < xs.length := by have := ha; simp only at this; omega
 have lb : kb < xs.length := by have := hb; simp only at this; omega
 have ra : rg xs ka = xs[ka] := by simp [rg, la]
 have rb : rg xs kb = xs[kb] := by simp [rg, lb]
 have na : numB xs[ka] = true := nums _ (List.getElem_mem _)
 have nb : numB xs[kb] = true := nums _ (List.getElem_mem _)
 have na' := inB_le na
 have nb' := inB_le nb
 have hm := mul_num na nb
 rw [m_run (fn := Try.f56) (i0 := 0) rfl Try.func56 rfl rfl (by simp [tIns])]
 unfold valF
 simp only [ra, rb]
 by_cases o1 : op = 1
 ·subst o1; simp -implicitDefEqProofs [tIns, own1, la, lb]
 by_cases o2 : op = 2
 ·subst o2; simp -implicitDefEqProofs [tIns, own1, la, lb, w64 (x := xs[ka] + xs[kb]) (by omega)]
 by_cases o3 : op = 3
 ·subst o3; simp -implicitDefEqProofs [tIns, own1, la, lb, w64 (x := xs[ka] - xs[kb]) (by omega)]
 by_cases o4 : op = 4
 ·subst o4; simp -implicitDefEqProofs [tIns, own1, la, lb, w64 (x := xs[ka] * xs[kb]) (by omega)]
 by_cases z : xs[ka] < xs[kb]
 ·simp -implicitDefEqProofs [tIns, own1, la, lb, o1, o2, o3, o4, z]
 ·simp -implicitDefEqProofs [tIns, own1, la, lb, o1, o2, o3, o4, z]
theorem run_did {j : Nat} (l : List Ins) (i : Nat) (hi : i < l.length) (xs ys : List Int) (c : Int) (R : Rt l[i] l.length ⟨i, xs, ys, c⟩) (e : Ev) :
  M.run (j + 4) 30 [.c (.r 40 l.length (insT l)), .agg (stR i xs ys c), .agg (tEv e)] = some ([.agg (sSta (didF l[i] l.length ⟨i, xs, ys, c⟩ e.v))], [.c (.r 40 l.length (insT l)), .agg (stR i xs ys c), .agg (tEv e)]) := by
 have hx : xs.length = 4 := R.regs
 have hle := R.le
 have hx' : xs.length ≤ 1048576 := by omega
 have hout : ys.length ≤ 60 := R.out
 have hy' : ys.length ≤ 1048576 := by omega
 obtain ⟨ka, hka⟩ : ∃ k : Nat, l[i].a = k := ⟨l[i].a.toNat, by have := R.a; omega⟩
 obtain ⟨kr, hkr⟩ : ∃ k : Nat, l[i].r = k := ⟨l[i].r.toNat, by have := R.r; omega⟩
 have la : ka < xs.length := by have := R.a; omega
 have lr : kr < xs.length := by have := R.r; omega
 have lr' : kr + 1 ≤ xs.length := by omega
 have ra : rg xs l[i].a = xs[ka] := by simp [rg, hka, la]
 have hi5 : i * 5 + 5 ≤ l.length * 5 := by omega
 have hop := R.op
 have ec := run_cloneState (j := j + 1) ⟨i, xs, ys, c⟩ hx' hy'
 have ef := run_faulted (j := j) ⟨i, xs, ys, c⟩ hx' hy'
 have er := run_reckoned (j := j + 2) l[i] xs hx R.nums R.a R.b
 have eg : ∀ (zs : List Int) (vs : List Int) (k : Int), M.run (j + 3) 58 [.c (.r 40 l.length (insT l)), .agg (sSta ⟨i, zs, vs, c⟩), .c (.v (.int .i64 k))] = some ([.agg (sSta (goF l.length ⟨i, zs, vs, c⟩ k))], [.c (.r 40 l.length (insT l)), .agg (hSta ⟨i, zs, vs, c⟩), .c (.v (.int .i64 k))]) := fun zs vs k => run_goesOn (j := j + 1) ⟨i, zs, vs, c⟩ l.length (insT l) k hle
 have g0 := eg xs ys
 have g1 := fun m => eg (xs.set kr m) ys
 have g2 := eg xs (ys ++ [e.v])
 simp -implicitDefEqProofs [tSta, stR, sSta, stS, hSta, tIns] at ec ef er g0 g1 g2
 rw [hka] at er
 rw [m_run (fn := Try.f30) (i0 := 0) rfl Try.func30 rfl rfl (by simp [stR, tEv])]
 simp -implicitDefEqProofs [stR, tEv, own1, ec, hi, hi5, tIns, hka, w64 (x := (i : Int) + 1) (by omega)]
 by_cases o7 : l[i].op = 7
 ·rw [show didF l[i] l.length ⟨i, xs, ys, c⟩ e.v = goF l.length ⟨i, xs.set kr e.v, ys, c⟩ (i + 1) by simp [didF, o7, hkr]]
  simp -implicitDefEqProofs [stR, tEv, sSta, stS, hSta, own1, o7, hkr, lr, lr', g1]
 by_cases o8 : l[i].op = 8
 ·by_cases q : 60 ≤ ys.length
  ·rw [show didF l[i] l.length ⟨i, xs, ys, c⟩ e.v = ⟨i, xs, ys, 2⟩ by simp [didF, o8, q]]
   simp -implicitDefEqProofs [stR, tEv, sSta, stS, hSta, own1, o8, show (60 : Int) ≤ ys.length by omega, ef]
  ·rw [show didF l[i] l.length ⟨i, xs, ys, c⟩ e.v = goF l.length ⟨i, xs, ys ++ [e.v], c⟩ (i + 1) by simp [didF, o8, q]]
   simp -implicitDefEqProofs [stR, tEv, sSta, stS, hSta, own1, o8, show ¬ (60 : Int) ≤ ys.length by omega, g2, le_most (n := ys.length + 1) (by omega), ints_snoc]
 by_cases o9 : l[i].op = 9
 ·rw [show didF l[i] l.length ⟨i, xs, ys, c⟩ e.v = goF l.length ⟨i, xs, ys, c⟩ l[i].n by simp [didF, o9]]
  simp -implicitDefEqProofs [stR, tEv, sSta, stS, hSta, own1, o9, g0]
 by_cases o10 : l[i].op = 10
 ·by_cases z : xs[ka] = 0
  ·rw [show didF l[i] l.length ⟨i, xs, ys, c⟩ e.v = goF l.length ⟨i, xs, ys, c⟩ l[i].n by simp [didF, o10, ra, z]]
   simp -implicitDefEqProofs [stR, tEv, sSta, stS, hSta, own1, o10, la, z, g0]
  ·rw [show didF l[i] l.length ⟨i, xs, ys, c⟩ e.v = goF l.length ⟨i, xs, ys, c⟩ (i + 1) by simp [didF, o10, ra, z]]
   simp -implicitDefEqProofs [stR, tEv, sSta, stS, hSta, own1, o10, la, z, g0]
 by_cases o11 : l[i].op = 11
 ·rw [show didF l[i] l.length ⟨i, xs, ys, c⟩ e.v = ⟨i, xs, ys, 1⟩ by simp [didF, o11]]
  simp -implicitDefEqProofs [stR, tEv, sSta, stS, hSta, own1, o11]
 by_cases o6 : l[i].op = 6
 ·rw [show didF l[i] l.length ⟨i, xs, ys, c⟩ e.v = goF l.length ⟨i, xs, ys, c⟩ (i + 1) by simp [didF, o6]]
  simp -implicitDefEqProofs [stR, tEv, sSta, stS, hSta, own1, o6, g0]
 have hd : didF l[i] l.length ⟨i, xs, ys, c⟩ e.v = if numB (valF l[i] xs) = true then goF l.length ⟨i, xs.set kr (valF l[i] xs), ys, c⟩ (i + 1) else ⟨i, xs, ys, 2⟩ := by
  simp [didF, o6, o7, o8, o9, o10, o11, hkr]
 rw [hd]
 have h15 : l[i].op = 1 ∨ l[i].op = 2 ∨ l[i].op = 3 ∨ l[i].op = 4 ∨ l[i].op = 5 := by omega
 cases q : numB (valF l[i] xs)
 ·rcases h15 with o | o | o | o | o <;> (rw [o] at er; simp -implicitDefEqProofs [stR, tEv, sSta, stS, hSta, own1, o, er, run67, q, ef])
 ·rcases h15 with o | o | o | o | o <;> (rw [o, hkr] at er; simp -implicitDefEqProofs [stR, tEv, sSta, stS, hSta, own1, o, er, run67, q, hkr, lr, lr', g1])
theorem nextE_kind (x : Ins) (xs : List Int) : ¬ (nextE x xs).kind = 0 := by
 unfold nextE
 (repeat' split) <;> simp
theorem run_Do {j : Nat} (hj : big ≤ j) (l : List Ins) (s : Sta) (e : Ev) (hl : l.length ≤ 1048576) (hx : s.regs.length ≤ 1048576) (hy : s.out.length ≤ 1048576) :
  M.run (j + 9) 7 [.c (.r 40 l.length (insT l)), .agg (tSta s), .agg (tEv e)] = some ([.agg (sSta (doS l s e)), .c (.v (.bool (doB l s e)))], [.c (.r 40 l.length (insT l)), .agg (tSta s), .agg (tEv e)]) := by
 obtain ⟨a, xs, ys, c⟩ := s
 have e1 := run55 hj l a c xs ys hl hx hy
 have ec := run_cloneState (j := j + 6) ⟨a, xs, ys, c⟩ hx hy
 rw [m_run (fn := Try.f7) (i0 := 0) rfl Try.func7 rfl rfl (by simp [tSta, stR, tEv])]
 unfold doS doB
 simp only
 cases h1 : okN l a c xs ys
 ·rw [show nextF l a c xs ys = ⟨0, 0, 0⟩ by simp [nextF, h1]] at e1
  simp -implicitDefEqProofs [tSta, stR, sSta, stS, tEv] at e1 ec
  simp -implicitDefEqProofs [tSta, stR, sSta, stS, tEv, own1, e1, ec]
 ·obtain ⟨i, hi, rfl, rfl, hg, R⟩ := okN_rt h1
  rw [show nextF l i 0 xs ys = nextE l[i] xs by simp [nextF, h1, hi]] at e1
  rw [hg]
  have hk := nextE_kind l[i] xs
  have em := run_comes (j := j + 5) e (nextE l[i] xs)
  have ed := run_did (j := j + 4) l i hi xs ys 0 R e
  unfold oneF
  simp only
  generalize nextE l[i] xs = w at *
  cases h2 : comesB e w
  ·rw [h2] at em
   simp -implicitDefEqProofs [tSta, stR, sSta, stS, tEv] at e1 ec em
   simp -implicitDefEqProofs [tSta, stR, sSta, stS, tEv, own1, e1, ec, em, hk]
  ·rw [h2] at em
   simp -implicitDefEqProofs [tSta, stR, sSta, stS, tEv] at e1 ec em ed
   simp -implicitDefEqProofs [tSta, stR, sSta, stS, tEv, own1, e1, ec, em, ed, hk]
end Go.Proofs.Ytninncdacekfgaa.VM

/- Rows of events and of items, as trees. -/
namespace Go.Proofs.Ytninncdacekfgaa.VM
open Go Go.Proofs
set_option linter.unusedSimpArgs false
set_option linter.unusedVariables false
set_option maxRecDepth 100000
def evT (l : List Ev) : List T := l.flatMap tEv
theorem tEv_len (x : Ev) : (tEv x).length = 3 := rfl
@[simp] theorem evT_len (l : List Ev) : (evT l).length = l.length * 3 := fm_len tEv_len l
theorem evT_rep (n : Nat) : (List.replicate n [T.v (Value.int IntKind.i64 0), T.v (Value.int IntKind.i64 0), T.v (Value.int IntKind.i64 0)]).flatten = evT (List.replicate n ⟨0, 0, 0⟩) := fm_rep (tr := tEv) n ⟨0, 0, 0⟩
@[simp] theorem evT_take (l : List Ev) (n : Nat) : (evT l).take (n * 3) = evT (l.take n) := fm_take tEv_len l n
@[simp] theorem evT_drop (l : List Ev) (n : Nat) : (evT l).drop (n * 3) = evT (l.drop n) := fm_drop tEv_len l n
@[simp] theorem evT_at {l : List Ev} {i : Nat} (hi : i < l.length) : (evT (l.drop i)).take 3 = tEv l[i] := by rw [← evT_drop]; exact fm_at tEv_len hi
@[simp] theorem evT_v (l : List Ev) : allV (evT l) = true := fm_v (fun _ => rfl) l
@[simp] theorem evT_ros (l : List Ev) : ros (evT l) = evT l := fm_ros (fun _ => rfl) l
theorem evT_set {l : List Ev} {i : Nat} (hi : i < l.length) (x : Ev) : ((((evT l).set (i * 3) (.v (.int .i64 x.kind))).set (i * 3 + 1) (.v (.int .i64 x.peer))).set (i * 3 + 1 + 1) (.v (.int .i64 x.v))) = evT (l.set i x) := by
 exact fm_set tEv_len hi x
theorem evT_0 {l : List Ev} {i : Nat} (hi : i < l.length) : (evT l)[i * 3]? = some (.v (.int .i64 l[i].kind)) := by
 have := fm_get (o := 0) tEv_len hi (by omega)
 exact this
theorem evT_0g {l : List Ev} {i : Nat} (hi : i < l.length) (h : i * 3 < (evT l).length) : (evT l)[i * 3] = .v (.int .i64 l[i].kind) := by
 have := evT_0 hi
 rw [List.getElem?_eq_getElem h] at this
 injection this
theorem evT_1 {l : List Ev} {i : Nat} (hi : i < l.length) : (evT l)[i * 3 + 1]? = some (.v (.int .i64 l[i].peer)) := fm_get tEv_len hi (by omega)
theorem evT_2 {l : List Ev} {i : Nat} (hi : i < l.length) : (evT l)[i * 3 + 2]? = some (.v (.int .i64 l[i].v)) := fm_get tEv_len hi (by omega)
def itT (l : List Itm) : List T := l.flatMap tItem
theorem tItem_len (x : Itm) : (tItem x).length = 2 := rfl
@[simp] theorem itT_len (l : List Itm) : (itT l).length = l.length * 2 := fm_len tItem_len l
theorem itT_rep (n : Nat) : (List.replicate n [T.v (Value.bool false), T.v (Value.int IntKind.i64 0)]).flatten = itT (List.replicate n ⟨false, 0⟩) := fm_rep (tr := tItem) n ⟨false, 0⟩
@[simp] theorem itT_take (l : List Itm) (n : Nat) : (itT l).take (n * 2) = itT (l.take n) := fm_take tItem_len l n
@[simp] theorem itT_drop (l : List Itm) (n : Nat) : (itT l).drop (n * 2) = itT (l.drop n) := fm_drop tItem_len l n
@[simp] theorem itT_at {l : List Itm} {i : Nat} (hi : i < l.length) : (itT (l.drop i)).take 2 = tItem l[i] := by rw [← itT_drop]; exact fm_at tItem_len hi
@[simp] theorem itT_v (l : List Itm) : allV (itT l) = true := fm_v (fun _ => rfl) l
@[simp] theorem itT_ros (l : List Itm) : ros (itT l) = itT l := fm_ros (fun _ => rfl) l
theorem itT_set {l : List Itm} {i : Nat} (hi : i < l.length) (x : Itm) : ((itT l).set (i * 2) (.v (.bool x.mark))).set (i * 2 + 1) (.v (.int .i64 x.v)) = itT (l.set i x) := by
 exact fm_set tItem_len hi x
theorem itT_0 {l : List Itm} {i : Nat} (hi : i < l.length) : (itT l)[i * 2]? = some (.v (.bool l[i].mark)) := by
 have := fm_get (o := 0) tItem_len hi (by omega)
 exact this
theorem itT_0g {l : List Itm} {i : Nat} (hi : i < l.length) (h : i * 2 < (itT l).length) : (itT l)[i * 2] = .v (.bool l[i].mark) := by
 have := itT_0 hi
 rw [List.getElem?_eq_getElem h] at this
 injection this
theorem itT_1 {l : List Itm} {i : Nat} (hi : i < l.length) : (itT l)[i * 2 + 1]? = some (.v (.int .i64 l[i].v)) := fm_get tItem_len hi (by omega)
end Go.Proofs.Ytninncdacekfgaa.VM
