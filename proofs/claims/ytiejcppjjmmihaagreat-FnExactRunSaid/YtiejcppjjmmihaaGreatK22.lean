/- Picks; runs: reckoned; the law FnExactRun. -/
import Derived.Test.YtiejcppjjmmihaaGreatK16
import Derived.Test.YtiejcppjjmmihaaGreatK19
import Derived.Test.YtiejcppjjmmihaaGreatK20
/- Rows of picks: measured, copied, compared, marked. -/
namespace Go.Proofs.YtiejcppjjmmihaaGreat.VM
open Go Go.Proofs
set_option linter.unusedSimpArgs false
set_option linter.unusedVariables false
set_option maxRecDepth 100000
set_option maxHeartbeats 4000000
structure Pk where
  p : Int
  peer : Int
def tPk (x : Pk) : List T := [.v (.int .i64 x.p), .v (.int .i64 x.peer)]
def pkOk (x : Pk) : Prop := i64 x.p ∧ i64 x.peer
theorem opPk : OpT Tryz.prog 131 tPk pkOk := by
  refine opT_struct Tryz.underlying131 (sz := 1 + 1) (by kernel_rfl) (fun x : Int × Int => (⟨x.1, x.2⟩ : Pk)) tPk pkOk ?_ ?_
    (opT_cons rfl rfl (by kernel_rfl) op3 (opT_last rfl rfl (by kernel_rfl) op3))
  · exact fun _ => rfl
  · exact fun _ h => h
theorem op67 : OpT Tryz.prog 67 (fun xs : List Pk => [rr 131 tPk xs]) (fun xs => (∀ x ∈ xs, pkOk x) ∧ xs.length ≤ maxLen) := opT_slice Tryz.underlying67 (by simp) opPk
def pkT (l : List Pk) : List T := l.flatMap tPk
theorem tPk_len (x : Pk) : (tPk x).length = 2 := rfl
@[simp] theorem pkT_len (l : List Pk) : (pkT l).length = l.length * 2 := fm_len tPk_len l
theorem pkT_rep (n : Nat) : (List.replicate n [T.v (Value.int IntKind.i64 0), T.v (Value.int IntKind.i64 0)]).flatten = pkT (List.replicate n ⟨0, 0⟩) := fm_rep (tr := tPk) n ⟨0, 0⟩
@[simp] theorem pkT_take (l : List Pk) (n : Nat) : (pkT l).take (n * 2) = pkT (l.take n) := fm_take tPk_len l n
@[simp] theorem pkT_drop (l : List Pk) (n : Nat) : (pkT l).drop (n * 2) = pkT (l.drop n) := fm_drop tPk_len l n
@[simp] theorem pkT_at {l : List Pk} {i : Nat} (hi : i < l.length) : (pkT (l.drop i)).take 2 = tPk l[i] := by rw [← pkT_drop]; exact fm_at tPk_len hi
@[simp] theorem pkT_v (l : List Pk) : allV (pkT l) = true := fm_v (fun _ => rfl) l
@[simp] theorem pkT_ros (l : List Pk) : ros (pkT l) = pkT l := fm_ros (fun _ => rfl) l
theorem pkT_set {l : List Pk} {i : Nat} (hi : i < l.length) (x : Pk) : ((pkT l).set (i * 2) (.v (.int .i64 x.p))).set (i * 2 + 1) (.v (.int .i64 x.peer)) = pkT (l.set i x) := by
  exact fm_set tPk_len hi x
theorem pkT_0 {l : List Pk} {i : Nat} (hi : i < l.length) : (pkT l)[i * 2]? = some (.v (.int .i64 l[i].p)) := by
  have := fm_get (o := 0) tPk_len hi (by omega)
  exact this
theorem pkT_1 {l : List Pk} {i : Nat} (hi : i < l.length) : (pkT l)[i * 2 + 1]? = some (.v (.int .i64 l[i].peer)) := fm_get tPk_len hi (by omega)
theorem run_toPick {j : Nat} (x : Pk) : M.run (j + 1) 140 [.agg (tPk x)] = some ([.agg (tPk x)], [.agg (tPk x)]) := by
  rw [m_run (fn := Tryz.f140) (i0 := 0) rfl Tryz.func140 rfl rfl (by simp [tPk])]
  simp -implicitDefEqProofs [tPk]
theorem run_eqPick {j : Nat} (x : Pk) : M.run (j + 1) 141 [.agg (tPk x), .agg (tPk x)] = some ([.c (.v (.bool true))], [.agg (tPk x), .agg (tPk x)]) := by
  rw [m_run (fn := Tryz.f141) (i0 := 0) rfl Tryz.func141 rfl rfl (by simp [tPk])]
  simp -implicitDefEqProofs [tPk]
theorem run_szPickS {j : Nat} (n : Nat) (l : List T) (k : Int) (hn : n ≤ 9223372036854775807) (hk : 0 ≤ k ∧ k ≤ 1048576) :
    M.run (j + 1) 65 [.c (.r 131 n l), .c (.v (.int .i64 k))] = some ([.c (.v (.int .i64 (if k - n < 0 then -1 else k - n)))], [.c (.r 131 n l), .c (.v (.int .i64 k))]) := by
  rw [m_run (fn := Tryz.f65) (i0 := 0) rfl Tryz.func65 rfl rfl (by simp)]
  by_cases h : k - n < 0 <;> simp -implicitDefEqProofs [h, w64 (x := k - n) (by omega)]
def H_toPickS (xs : List Pk) (i : Nat) : St := ⟨[(0, .c (.sl 0 [] 0 xs.length)), (3, .c (.sl 512 [] 0 xs.length)), (4, .c (.v (.int .i64 i)))], [(0, ⟨.ro, 131, pkT xs⟩), (512, ⟨.own, 129, pkT (tp xs ⟨0, 0⟩ i)⟩)]⟩
theorem run_toPickS {j : Nat} (hj : big ≤ j) (xs : List Pk) (hl : xs.length ≤ 1048576) :
    M.run (j + 2) 67 [.c (.r 131 xs.length (pkT xs))] = some ([.c (.s 129 xs.length (pkT xs))], [.c (.r 131 xs.length (pkT xs))]) := by
  rw [m_run (fn := Tryz.f67) (i0 := 0) rfl Tryz.func67 rfl rfl (by simp)]
  simp -implicitDefEqProofs [le_most hl, pkT_rep]
  rw [loop_to (H_toPickS xs) xs.length (by simp -implicitDefEqProofs [H_toPickS, hint1]) (by simp [big] at hj; omega) (fun i hi => by
    have e := run_toPick (j := j) xs[i]
    have e2 := pkT_set (l := tp xs ⟨0, 0⟩ i) (i := i) (by simpa using hi) xs[i]
    rw [tp_set xs _ hi] at e2
    simp only [tPk] at e
    simp -implicitDefEqProofs [H_toPickS, hint1, hi, w64 (x := (i : Int) + 1) (by omega), show i * 2 + 2 ≤ xs.length * 2 by omega, tPk, e, e2, own1]) (by simp -implicitDefEqProofs [H_toPickS, stops])]
  simp -implicitDefEqProofs [H_toPickS]
def H_eqPickS (xs : List Pk) (i : Nat) : St := ⟨[(0, .c (.sl 0 [] 0 xs.length)), (1, .c (.sl 1 [] 0 xs.length)), (5, .c (.v (.int .i64 i)))], [(0, ⟨.ro, 129, pkT xs⟩), (1, ⟨.ro, 129, pkT xs⟩)]⟩
theorem run_eqPickS {j : Nat} (hj : big ≤ j) (xs : List Pk) (hl : xs.length ≤ 1048576) :
    M.run (j + 2) 69 [.c (.r 129 xs.length (pkT xs)), .c (.r 129 xs.length (pkT xs))] = some ([.c (.v (.bool true))], [.c (.r 129 xs.length (pkT xs)), .c (.r 129 xs.length (pkT xs))]) := by
  rw [m_run (fn := Tryz.f69) (i0 := 0) rfl Tryz.func69 rfl rfl (by simp)]
  simp -implicitDefEqProofs
  rw [loop_to (H_eqPickS xs) xs.length (by simp -implicitDefEqProofs [H_eqPickS, hint1]) (by simp [big] at hj; omega) (fun i hi => by
    have e := run_eqPick (j := j) xs[i]
    simp only [tPk] at e
    simp -implicitDefEqProofs [H_eqPickS, hint1, hi, w64 (x := (i : Int) + 1) (by omega), show i * 2 + 2 ≤ xs.length * 2 by omega, tPk, e, own1]) (by simp -implicitDefEqProofs [H_eqPickS, stops])]
  simp -implicitDefEqProofs [H_eqPickS]
def pkUp (k : Int) (n : Nat) : List Pk := (List.range n).map fun j : Nat => ⟨k + 2 * (j : Int), k + 2 * (j : Int) + 1⟩
@[simp] theorem pkUp_len (k : Int) (n : Nat) : (pkUp k n).length = n := by simp [pkUp]
@[simp] theorem pkUp_zero (k : Int) : pkUp k 0 = [] := rfl
theorem pkUp_succ (k : Int) (n : Nat) : pkUp k (n + 1) = pkUp k n ++ [⟨k + 2 * (n : Int), k + 2 * (n : Int) + 1⟩] := by simp [pkUp, List.range_succ]
def H_markPickS (k : Int) (l : List Pk) (i : Nat) : St := ⟨[(0, .c (.sl 0 [] 0 l.length)), (1, .c (.v (.int .i64 (k + 2 * i)))), (5, .c (.v (.int .i64 i)))], [(0, ⟨.own, 129, pkT (pkUp k i ++ l.drop i)⟩)]⟩
theorem run_markPickS {j : Nat} (hj : big ≤ j) (l : List Pk) (k : Int) (hk : 0 ≤ k ∧ k + 2 * l.length ≤ 4611686018427387904) :
    M.run (j + 1) 70 [.c (.s 129 l.length (pkT l)), .c (.v (.int .i64 k))] = some ([.c (.v (.int .i64 (k + 2 * l.length)))], [.c (.s 129 l.length (pkT (pkUp k l.length))), .c (.v (.int .i64 k))]) := by
  rw [m_run (fn := Tryz.f70) (i0 := 0) rfl Tryz.func70 rfl rfl (by simp)]
  simp -implicitDefEqProofs
  rw [loop_to (H_markPickS k l) l.length (by simp -implicitDefEqProofs [H_markPickS, hint1]) (by simp [big] at hj; omega) (fun i hi => by
    have e := pkT_set (l := pkUp k i ++ l.drop i) (i := i) (by simp; omega) ⟨k + 2 * (i : Int), k + 2 * (i : Int) + 1⟩
    rw [set_mid (l := pkUp k i) (pkUp_len k i) (r := l.drop i) (by simp; omega), ← pkUp_succ] at e
    simp -implicitDefEqProofs at e
    simp -implicitDefEqProofs [H_markPickS, hint1, hi, w64 (x := (i : Int) + 1) (by omega), w64 (x := k + 2 * (i : Int) + 1) (by omega), w64 (x := k + 2 * (i : Int) + 1 + 1) (by omega), show i + (l.length - i) = l.length by omega, show i * 2 + 1 ≤ l.length * 2 by omega, show i * 2 + 1 + 1 ≤ l.length * 2 by omega, e]
    omega) (by simp -implicitDefEqProofs [H_markPickS, stops])]
  simp -implicitDefEqProofs [H_markPickS]
end Go.Proofs.YtiejcppjjmmihaaGreat.VM

/- Systems copied by the program, empty ones too: reckoned. -/
namespace Go.Proofs.YtiejcppjjmmihaaGreat.VM
open Go Go.Proofs
set_option linter.unusedSimpArgs false
set_option linter.unusedVariables false
set_option maxRecDepth 100000
set_option maxHeartbeats 40000000
def H_d2 (s : Sy) (i : Nat) : St := ⟨[(1, .ptr 128 [] 0), (2, .ptr 192 [] 0), (3, .ptr 256 [] 0), (29, .c (.sl 1 [] 0 s.states.length)), (30, .c (.v (.int .i64 s.states.length))), (31, .c (.v (.int .i64 i)))], sysO s ++ ([(128, sysX s), (192, zBox), (256, ⟨.box, 35, [lkZ 1664 s.progs.length, lkZ 2624 i, .z, .z]⟩)] ++ (obZ 1664 s.progs.length (cO1 s).2 ++ obZ 2624 i ⟨.own, 83, ssT (s.states.take i)⟩))⟩
def H_d3 (s : Sy) (i : Nat) : St := ⟨[(1, .ptr 128 [] 0), (2, .ptr 192 [] 0), (3, .ptr 256 [] 0), (44, .c (.sl 2 [] 0 s.ways.length)), (45, .c (.v (.int .i64 s.ways.length))), (46, .c (.v (.int .i64 i)))], sysO s ++ ([(128, sysX s), (192, zBox), (256, ⟨.box, 35, [lkZ 1664 s.progs.length, lkZ 2624 s.states.length, lkZ 3584 i, .z]⟩)] ++ (obZ 1664 s.progs.length (cO1 s).2 ++ (obZ 2624 s.states.length (cO2 s).2 ++ obZ 3584 i ⟨.own, 92, (s.ways.take i).map (sItem 142)⟩)))⟩
def H_d4 (s : Sy) (i : Nat) : St := ⟨[(2, .ptr 192 [] 0), (3, .ptr 256 [] 0), (59, .c (.sl 3 [] 0 s.hist.length)), (60, .c (.v (.int .i64 s.hist.length))), (61, .c (.v (.int .i64 i)))], sysO s ++ ([(128, sysX s), (192, zBox), (256, ⟨.box, 35, [lkZ 1664 s.progs.length, lkZ 2624 s.states.length, lkZ 3584 s.ways.length, lkZ 4544 i]⟩)] ++ (obZ 1664 s.progs.length (cO1 s).2 ++ (obZ 2624 s.states.length (cO2 s).2 ++ (obZ 3584 s.ways.length (cO3 s).2 ++ obZ 4544 i ⟨.own, 86, (s.hist.take i).map (sEvent 89)⟩))))⟩
theorem run_cloneSysG {j : Nat} (hj : big ≤ j) (s : Sy) (h : Small s) : M.run (j + 3) 139 [.agg (syR s)] = some ([.agg (syS s)], [.agg (syR s)]) := by
  have b1 := h.progs
  have b2 := h.states
  have b3 := h.ways
  have b4 := h.hist
  have f1 : (lkZ 1664 s.progs.length = .z ∧ (∀ ob, obZ 1664 s.progs.length ob = []) ∧ s.progs = []) ∨ (lkZ 1664 s.progs.length = .l 1664 [] 0 s.progs.length ∧ (∀ ob, obZ 1664 s.progs.length ob = [(1664, ob)]) ∧ True) := by
    by_cases z : s.progs.length = 0
    · exact .inl ⟨lkZ_z z, fun _ => obZ_z z, List.eq_nil_of_length_eq_zero z⟩
    · exact .inr ⟨lkZ_of z, fun _ => obZ_of z, trivial⟩
  have f2 : (lkZ 2624 s.states.length = .z ∧ (∀ ob, obZ 2624 s.states.length ob = []) ∧ s.states = []) ∨ (lkZ 2624 s.states.length = .l 2624 [] 0 s.states.length ∧ (∀ ob, obZ 2624 s.states.length ob = [(2624, ob)]) ∧ True) := by
    by_cases z : s.states.length = 0
    · exact .inl ⟨lkZ_z z, fun _ => obZ_z z, List.eq_nil_of_length_eq_zero z⟩
    · exact .inr ⟨lkZ_of z, fun _ => obZ_of z, trivial⟩
  have f3 : (lkZ 3584 s.ways.length = .z ∧ (∀ ob, obZ 3584 s.ways.length ob = []) ∧ s.ways = []) ∨ (lkZ 3584 s.ways.length = .l 3584 [] 0 s.ways.length ∧ (∀ ob, obZ 3584 s.ways.length ob = [(3584, ob)]) ∧ True) := by
    by_cases z : s.ways.length = 0
    · exact .inl ⟨lkZ_z z, fun _ => obZ_z z, List.eq_nil_of_length_eq_zero z⟩
    · exact .inr ⟨lkZ_of z, fun _ => obZ_of z, trivial⟩
  have f4 : (lkZ 4544 s.hist.length = .z ∧ (∀ ob, obZ 4544 s.hist.length ob = []) ∧ s.hist = []) ∨ (lkZ 4544 s.hist.length = .l 4544 [] 0 s.hist.length ∧ (∀ ob, obZ 4544 s.hist.length ob = [(4544, ob)]) ∧ True) := by
    by_cases z : s.hist.length = 0
    · exact .inl ⟨lkZ_z z, fun _ => obZ_z z, List.eq_nil_of_length_eq_zero z⟩
    · exact .inr ⟨lkZ_of z, fun _ => obZ_of z, trivial⟩
  have l4 : 4 ≤ most := by unfold most; omega
  have l1 : 1 ≤ most := by unfold most; omega
  rw [m_run (fn := Tryz.f139) (i0 := 0) rfl Tryz.func139 rfl rfl (by simp [syR])]
  simp only [syR, syS]
  simp -implicitDefEqProofs [own1]
  rw [loop_then (H_c1 s) s.progs.length (by simp -implicitDefEqProofs [H_c1, sysO, sysX, zBox, hint1]) (by simp [big] at hj; omega) (fun i hi => by
    have hb := h.prog hi
    have e3 := run_cloneIns (j := j + 1) s.progs[i] hb
    have hs := sIns_snoc (e := 110) hi
    have tk := take_map (sIns 110) s.progs i
    have hm : min i s.progs.length = i := by omega
    have lm := le_most (n := i + 1) (by omega)
    by_cases hz : i = 0
    · have hs0 : s.progs.take i = [] := by rw [hz]; rfl
      rw [hs0] at hs
      simp -implicitDefEqProofs [H_c1, sysO, sysX, zBox, hint1, hi, own1, e3, rIns_at hi, rIns, sIns, hs, hs0, hm, l1, lkZ_z hz, obZ_z hz, w64 (x := (i : Int) + 1) (by omega)] <;> omega
    · simp -implicitDefEqProofs [H_c1, sysO, sysX, zBox, hint1, hi, own1, e3, rIns_at hi, rIns, sIns, hs, tk, hm, lm, lkZ_of hz, obZ_of hz, w64 (x := (i : Int) + 1) (by omega), -List.map_take])]
  have k1 : s.progs.take s.progs.length = s.progs := List.take_length
  have k2 : s.states.take s.states.length = s.states := List.take_length
  have k3 : s.ways.take s.ways.length = s.ways := List.take_length
  have k4 : s.hist.take s.hist.length = s.hist := List.take_length
  simp -implicitDefEqProofs [H_c1, sysO, sysX, zBox, k1]
  rw [loop_then (H_d2 s) s.states.length (by rcases f1 with ⟨a1, b1, _⟩ | ⟨a1, b1, _⟩ <;> simp -implicitDefEqProofs [H_d2, a1, b1, cO1, sysO, sysX, zBox, hint1]) (by simp [big] at hj; omega) (fun i hi => by
    have hb := h.sta _ (List.getElem_mem hi)
    have e3 := run_cloneState (j := j) s.states[i] hb.1 hb.2
    simp only [tSta, stR, sSta, stS] at e3
    have hs := ssT_snoc hi
    have tk := ssT_tk s.states i
    have hm : min i s.states.length = i := by omega
    have lm : (i + 1) * 4 ≤ most := by unfold most; omega
    have lm' : i * 4 + 4 ≤ most := by unfold most; omega
    simp only [sSta, stS] at hs
    by_cases hz : i = 0
    · have hs0 : ssT (s.states.take i) = [] := by rw [hz]; rfl
      rw [hs0] at hs
      rcases f1 with ⟨a1, b1, _⟩ | ⟨a1, b1, _⟩ <;> (simp -implicitDefEqProofs [H_d2, a1, b1, cO1, sysO, sysX, zBox, hint1, hi, own1, e3, tSta, stR, stT_1 hi, stT_2 hi, hs, hs0, hm, l4, lkZ_z hz, obZ_z hz, w64 (x := (i : Int) + 1) (by omega)] <;> omega)
    · rcases f1 with ⟨a1, b1, _⟩ | ⟨a1, b1, _⟩ <;> simp -implicitDefEqProofs [H_d2, a1, b1, cO1, sysO, sysX, zBox, hint1, hi, own1, e3, tSta, stR, stT_1 hi, stT_2 hi, hs, tk, hm, lm, lm', lkZ_of hz, obZ_of hz, w64 (x := (i : Int) + 1) (by omega)])]
  simp -implicitDefEqProofs [H_d2, sysO, sysX, zBox, k2]
  rw [loop_then (H_d3 s) s.ways.length (by rcases f1 with ⟨a1, b1, _⟩ | ⟨a1, b1, _⟩ <;> rcases f2 with ⟨a2, b2, _⟩ | ⟨a2, b2, _⟩ <;> simp -implicitDefEqProofs [H_d3, a1, b1, a2, b2, cO1, cO2, sysO, sysX, zBox, hint1]) (by simp [big] at hj; omega) (fun i hi => by
    have hb := h.way hi
    have e3 := run_cloneItem (j := j + 1) s.ways[i] hb
    have hs := sItem_snoc (e := 142) hi
    have tk := take_map (sItem 142) s.ways i
    have hm : min i s.ways.length = i := by omega
    have lm := le_most (n := i + 1) (by omega)
    by_cases hz : i = 0
    · have hs0 : s.ways.take i = [] := by rw [hz]; rfl
      rw [hs0] at hs
      rcases f1 with ⟨a1, b1, _⟩ | ⟨a1, b1, _⟩ <;> rcases f2 with ⟨a2, b2, _⟩ | ⟨a2, b2, _⟩ <;> (simp -implicitDefEqProofs [H_d3, a1, b1, a2, b2, cO1, cO2, sysO, sysX, zBox, hint1, hi, own1, e3, rItem_at hi, rItem, sItem, hs, hs0, hm, l1, lkZ_z hz, obZ_z hz, w64 (x := (i : Int) + 1) (by omega)] <;> omega)
    · rcases f1 with ⟨a1, b1, _⟩ | ⟨a1, b1, _⟩ <;> rcases f2 with ⟨a2, b2, _⟩ | ⟨a2, b2, _⟩ <;> simp -implicitDefEqProofs [H_d3, a1, b1, a2, b2, cO1, cO2, sysO, sysX, zBox, hint1, hi, own1, e3, rItem_at hi, rItem, sItem, hs, tk, hm, lm, lkZ_of hz, obZ_of hz, w64 (x := (i : Int) + 1) (by omega), -List.map_take])]
  simp -implicitDefEqProofs [H_d3, sysO, sysX, zBox, k3]
  rw [loop_then (H_d4 s) s.hist.length (by rcases f1 with ⟨a1, b1, _⟩ | ⟨a1, b1, _⟩ <;> rcases f2 with ⟨a2, b2, _⟩ | ⟨a2, b2, _⟩ <;> rcases f3 with ⟨a3, b3, _⟩ | ⟨a3, b3, _⟩ <;> simp -implicitDefEqProofs [H_d4, a1, b1, a2, b2, a3, b3, cO1, cO2, cO3, sysO, sysX, zBox, hint1]) (by simp [big] at hj; omega) (fun i hi => by
    have hb := h.his hi
    have e3 := run_cloneEvent (j := j + 1) s.hist[i] hb
    have hs := sEvent_snoc (e := 89) hi
    have tk := take_map (sEvent 89) s.hist i
    have hm : min i s.hist.length = i := by omega
    have lm := le_most (n := i + 1) (by omega)
    by_cases hz : i = 0
    · have hs0 : s.hist.take i = [] := by rw [hz]; rfl
      rw [hs0] at hs
      rcases f1 with ⟨a1, b1, _⟩ | ⟨a1, b1, _⟩ <;> rcases f2 with ⟨a2, b2, _⟩ | ⟨a2, b2, _⟩ <;> rcases f3 with ⟨a3, b3, _⟩ | ⟨a3, b3, _⟩ <;> (simp -implicitDefEqProofs [H_d4, a1, b1, a2, b2, a3, b3, cO1, cO2, cO3, sysO, sysX, zBox, hint1, hi, own1, e3, rEvent_at hi, rEvent, sEvent, hs, hs0, hm, l1, lkZ_z hz, obZ_z hz, w64 (x := (i : Int) + 1) (by omega)] <;> omega)
    · rcases f1 with ⟨a1, b1, _⟩ | ⟨a1, b1, _⟩ <;> rcases f2 with ⟨a2, b2, _⟩ | ⟨a2, b2, _⟩ <;> rcases f3 with ⟨a3, b3, _⟩ | ⟨a3, b3, _⟩ <;> simp -implicitDefEqProofs [H_d4, a1, b1, a2, b2, a3, b3, cO1, cO2, cO3, sysO, sysX, zBox, hint1, hi, own1, e3, rEvent_at hi, rEvent, sEvent, hs, tk, hm, lm, lkZ_of hz, obZ_of hz, w64 (x := (i : Int) + 1) (by omega), -List.map_take])]
  have t1 : (s.progs.map (sIns 110)).take s.progs.length = s.progs.map (sIns 110) := List.take_of_length_le (by simp)
  have t2 : (ssT s.states).take (s.states.length * 4) = ssT s.states := List.take_of_length_le (by rw [ssT_len]; exact Nat.le_refl _)
  have t3 : (s.ways.map (sItem 142)).take s.ways.length = s.ways.map (sItem 142) := List.take_of_length_le (by simp)
  have t4 : (s.hist.map (sEvent 89)).take s.hist.length = s.hist.map (sEvent 89) := List.take_of_length_le (by simp)
  rcases f1 with ⟨a1, b1, c1⟩ | ⟨a1, b1, c1⟩ <;> rcases f2 with ⟨a2, b2, c2⟩ | ⟨a2, b2, c2⟩ <;> rcases f3 with ⟨a3, b3, c3⟩ | ⟨a3, b3, c3⟩ <;> rcases f4 with ⟨a4, b4, c4⟩ | ⟨a4, b4, c4⟩ <;>
    simp -implicitDefEqProofs [H_d4, a1, b1, c1, a2, b2, c2, a3, b3, c3, a4, b4, c4, cO1, cO2, cO3, sysO, sysX, zBox, k4, t1, t2, t3, t4, -List.map_take]
end Go.Proofs.YtiejcppjjmmihaaGreat.VM

/- Runs: reckoned. -/
namespace Go.Proofs.YtiejcppjjmmihaaGreat.VM
open Go Go.Proofs
set_option linter.unusedSimpArgs false
set_option linter.unusedVariables false
set_option maxRecDepth 100000
set_option maxHeartbeats 40000000
def pkAt (l : List Pk) (i : Nat) : Pk := (l[i]?).getD ⟨0, 0⟩
def runN (s : Sy) (l : List Pk) : Nat → Sy × List Int
  | 0 => (s, [])
  | k + 1 => ((stepF (runN s l k).1 (pkAt l k).p (pkAt l k).peer).1, (runN s l k).2 ++ [(stepF (runN s l k).1 (pkAt l k).p (pkAt l k).peer).2])
theorem runN_len (s : Sy) (l : List Pk) : ∀ k, (runN s l k).2.length = k
  | 0 => rfl
  | k + 1 => by simp [runN, runN_len s l k]
theorem runN_right {s : Sy} (R : Right s) (l : List Pk) : ∀ k, Right (runN s l k).1
  | 0 => R
  | k + 1 => step_right (runN_right R l k) _ _
noncomputable def runF (s : Sy) (l : List Pk) : Sy × List Int := if sysB s = true ∧ l.length ≤ 200 then runN s l l.length else (s, [])
def bx4 (s : Sy) : Obj := ⟨.box, 35, [.l 896 [] 0 s.progs.length, .l 897 [] 0 s.states.length, .l 898 [] 0 s.ways.length, .l 899 [] 0 s.hist.length]⟩
def ob4 (s : Sy) : List (Nat × Obj) := [(896, ⟨.own, 81, s.progs.map (sIns 110)⟩), (897, ⟨.own, 83, ssT s.states⟩), (898, ⟨.own, 92, s.ways.map (sItem 142)⟩), (899, ⟨.own, 86, s.hist.map (sEvent 89)⟩)]
def H_ri (s S : Sy) (c : List Int) (l : List Pk) (i : Nat) : St := ⟨[(4, .ptr 320 [] 0), (6, .ptr 448 [] 0), (7, .c (.sl 1536 [] 0 i)), (24, .c (.sl 4 [] 0 l.length)), (25, .c (.v (.int .i64 l.length))), (26, .c (.v (.int .i64 i)))], sysO s ++ ([(4, ⟨.ro, 129, pkT l⟩), (320, zBox), (448, bx4 S)] ++ (ob4 S ++ [(1536, ⟨.own, 3, ints c⟩)]))⟩
def H_rs (s S : Sy) (c : List Int) (l : List Pk) (i : Nat) : St := ⟨[(1, .c (.sl 4 [] 0 l.length)), (4, .ptr 320 [] 0), (6, .c (.sl 768 [] 0 i)), (7, .ptr 512 [] 0), (8, .c (.v (.int .i64 i)))], sysO s ++ ([(4, ⟨.ro, 129, pkT l⟩), (192, sysX s), (320, zBox), (512, bx4 S), (768, ⟨.own, 3, ints c⟩)] ++ ob4 S)⟩
theorem run_implRun {j : Nat} (hj : big ≤ j) (s : Sy) (h : Small s) (l : List Pk) : M.run (j + 11) 68 [.agg (syR s), .c (.r 129 l.length (pkT l))] = some ([.agg (syS (runF s l).1), .c (.s 3 (runF s l).2.length (ints (runF s l).2))], [.agg (syR s), .c (.r 129 l.length (pkT l))]) := by
  have e1 := run_implSysOk hj s h
  have e2 := run_cloneSysG (j := j + 7) (by omega) s h
  have w1 : ∀ l : List (List Ins), (l.map (sIns 110)).take l.length = l.map (sIns 110) := fun l => List.take_of_length_le (by simp)
  have w2 : ∀ l : List Sta, (ssT l).take (l.length * 4) = ssT l := fun l => List.take_of_length_le (by rw [ssT_len]; exact Nat.le_refl _)
  have w3 : ∀ l : List (List Itm), (l.map (sItem 142)).take l.length = l.map (sItem 142) := fun l => List.take_of_length_le (by simp)
  have w4 : ∀ l : List (List Ev), (l.map (sEvent 89)).take l.length = l.map (sEvent 89) := fun l => List.take_of_length_le (by simp)
  rw [m_run (fn := Tryz.f68) (i0 := 0) rfl Tryz.func68 rfl rfl (by simp [syR])]
  unfold runF
  simp only [syR, syS] at e1 e2 ⊢
  cases hb : sysB s
  · rw [hb] at e1
    rw [if_neg (by simp)]
    simp -implicitDefEqProofs [own1, e1, e2, w1, w2, w3, w4, -List.map_take]
  rw [hb] at e1
  by_cases hl : l.length ≤ 200
  rotate_left
  · rw [if_neg (by simp [hl])]
    simp -implicitDefEqProofs [own1, e1, e2, w1, w2, w3, w4, show 200 < l.length by omega, show (200 : Int) < l.length by omega, -List.map_take]
  rw [if_pos ⟨rfl, hl⟩]
  have R := right_iff.1 hb
  simp -implicitDefEqProofs [own1, e1, e2, show ¬ 200 < l.length by omega, show ¬ (200 : Int) < l.length by omega]
  rw [loop_then (fun i => H_ri s (runN s l i).1 (runN s l i).2 l i) l.length (by simp -implicitDefEqProofs [H_ri, ob4, bx4, sysO, sysX, zBox, hint1, runN]) (by simp [big] at hj; omega) (fun i hi => by
    have e3 := run_step (j := j + 3) (by omega) (runN s l i).1 (runN_right R l i) l[i].p l[i].peer
    have r0 : runN s l (i + 1) = ((stepF (runN s l i).1 l[i].p l[i].peer).1, (runN s l i).2 ++ [(stepF (runN s l i).1 l[i].p l[i].peer).2]) := by
      rw [runN]
      have : pkAt l i = l[i] := by unfold pkAt; rw [List.getElem?_eq_getElem hi]; rfl
      rw [this]
    have hc := runN_len s l i
    rw [r0]
    generalize (runN s l i).2 = C at *
    generalize (runN s l i).1 = S at *
    generalize stepF S l[i].p l[i].peer = D at *
    obtain ⟨S', c⟩ := D
    have tk : (ints C).take i = ints C := List.take_of_length_le (by simp [hc])
    simp only [syR, syS] at e3
    simp -implicitDefEqProofs [H_ri, ob4, bx4, sysO, sysX, zBox, hint1, hi, own1, e3, tPk, show i * 2 + 2 ≤ l.length * 2 by omega, tk, hc, le_most (n := i + 1) (by omega), ints_append, show ints [c] = [.v (.int .i64 c)] from rfl, w1, w2, w3, w4, w64 (x := (i : Int) + 1) (by omega), -List.map_take])]
  have hc := runN_len s l l.length
  generalize runN s l l.length = D at *
  obtain ⟨S, C⟩ := D
  simp only at hc ⊢
  have tk : (ints C).take l.length = ints C := List.take_of_length_le (by simp [hc])
  simp -implicitDefEqProofs [H_ri, ob4, bx4, sysO, sysX, zBox, hc, tk, w1, w2, w3, w4, -List.map_take]
theorem run_specRun {j : Nat} (hj : big ≤ j) (s : Sy) (h : Small s) (l : List Pk) : M.run (j + 9) 66 [.agg (syR s), .c (.r 129 l.length (pkT l))] = some ([.agg (syS (runF s l).1), .c (.s 3 (runF s l).2.length (ints (runF s l).2))], [.agg (syR s), .c (.r 129 l.length (pkT l))]) := by
  have e1 := run_specSys (j := j + 1) (by omega) s h
  have e2 := run_l4Copy (j := j + 6) (by omega) s h
  have w1 : ∀ l : List (List Ins), (l.map (sIns 110)).take l.length = l.map (sIns 110) := fun l => List.take_of_length_le (by simp)
  have w2 : ∀ l : List Sta, (ssT l).take (l.length * 4) = ssT l := fun l => List.take_of_length_le (by rw [ssT_len]; exact Nat.le_refl _)
  have w3 : ∀ l : List (List Itm), (l.map (sItem 142)).take l.length = l.map (sItem 142) := fun l => List.take_of_length_le (by simp)
  have w4 : ∀ l : List (List Ev), (l.map (sEvent 89)).take l.length = l.map (sEvent 89) := fun l => List.take_of_length_le (by simp)
  rw [m_run (fn := Tryz.f66) (i0 := 0) rfl Tryz.func66 rfl rfl (by simp [syR])]
  unfold runF
  simp only [syR, syS] at e1 e2 ⊢
  cases hb : sysB s
  · rw [hb] at e1
    rw [if_neg (by simp)]
    simp -implicitDefEqProofs [own1, e1, e2, w1, w2, w3, w4, -List.map_take]
  rw [hb] at e1
  by_cases hl : l.length ≤ 200
  rotate_left
  · rw [if_neg (by simp [hl])]
    simp -implicitDefEqProofs [own1, e1, e2, w1, w2, w3, w4, show 200 < l.length by omega, show (200 : Int) < l.length by omega, -List.map_take]
  rw [if_pos ⟨rfl, hl⟩]
  have R := right_iff.1 hb
  simp -implicitDefEqProofs [own1, e1, e2, show ¬ 200 < l.length by omega, show ¬ (200 : Int) < l.length by omega]
  rw [loop_then (fun i => H_rs s (runN s l i).1 (runN s l i).2 l i) l.length (by simp -implicitDefEqProofs [H_rs, ob4, bx4, sysO, sysX, zBox, hint1, runN]) (by simp [big] at hj; omega) (fun i hi => by
    have Ri := runN_right R l i
    have e3 := run_specStep (j := j) hj (runN s l i).1 Ri.small l[i].p l[i].peer
    have hR : stepR (runN s l i).1 l[i].p l[i].peer = stepF (runN s l i).1 l[i].p l[i].peer := if_pos (right_iff.2 Ri)
    rw [hR] at e3
    have hs : (stepF (runN s l i).1 l[i].p l[i].peer).2 ≠ 0 → (stepF (runN s l i).1 l[i].p l[i].peer).1 = (runN s l i).1 := by
      intro hn
      unfold stepF at hn ⊢
      split
      · rename_i hc
        rw [if_pos hc] at hn
        exact absurd rfl hn
      · rfl
    have r0 : runN s l (i + 1) = ((stepF (runN s l i).1 l[i].p l[i].peer).1, (runN s l i).2 ++ [(stepF (runN s l i).1 l[i].p l[i].peer).2]) := by
      rw [runN]
      have : pkAt l i = l[i] := by unfold pkAt; rw [List.getElem?_eq_getElem hi]; rfl
      rw [this]
    have hc := runN_len s l i
    have p0 := pkT_0 hi
    have p1 := pkT_1 hi
    rw [r0]
    generalize (runN s l i).2 = C at *
    generalize (runN s l i).1 = S at *
    generalize stepF S l[i].p l[i].peer = D at *
    obtain ⟨S', c⟩ := D
    have tk : (ints C).take i = ints C := List.take_of_length_le (by simp [hc])
    simp only at hs
    by_cases hz : c = 0
    · subst hz
      simp only [syR, syS] at e3
      simp -implicitDefEqProofs [H_rs, ob4, bx4, sysO, sysX, zBox, hint1, hi, own1, e3, p0, p1, gq p0, gq p1, show i * 2 + 1 ≤ l.length * 2 by omega, show i * 2 + 1 + 1 ≤ l.length * 2 by omega, show i * 2 + 2 ≤ l.length * 2 by omega, tk, hc, le_most (n := i + 1) (by omega), ints_append, show ints [(0 : Int)] = [.v (.int .i64 0)] from rfl, w1, w2, w3, w4, w64 (x := (i : Int) + 1) (by omega), -List.map_take]
    · have hS := hs hz
      subst hS
      simp only [syR, syS] at e3
      simp -implicitDefEqProofs [H_rs, ob4, bx4, sysO, sysX, zBox, hint1, hi, own1, e3, hz, p0, p1, gq p0, gq p1, show i * 2 + 1 ≤ l.length * 2 by omega, show i * 2 + 1 + 1 ≤ l.length * 2 by omega, show i * 2 + 2 ≤ l.length * 2 by omega, tk, hc, le_most (n := i + 1) (by omega), ints_append, show ints [c] = [.v (.int .i64 c)] from rfl, w1, w2, w3, w4, w64 (x := (i : Int) + 1) (by omega), -List.map_take])]
  have hc := runN_len s l l.length
  generalize runN s l l.length = D at *
  obtain ⟨S, C⟩ := D
  simp only at hc ⊢
  have tk : (ints C).take l.length = ints C := List.take_of_length_le (by simp [hc])
  simp -implicitDefEqProofs [H_rs, ob4, bx4, sysO, sysX, zBox, hc, tk, w1, w2, w3, w4, -List.map_take]
end Go.Proofs.YtiejcppjjmmihaaGreat.VM

/- The law FnExactRun, reckoned. -/
namespace Go.Proofs.YtiejcppjjmmihaaGreat.VM
open Go Go.Proofs
set_option linter.unusedSimpArgs false
set_option linter.unusedVariables false
set_option maxRecDepth 100000
set_option maxHeartbeats 40000000
theorem run_szSysB {j : Nat} (hj : big ≤ j) (s : Sy) (left : Int) (hlf : 0 ≤ left ∧ left ≤ 1048576) (hs : syOk s) : ∃ r : Int, M.run (j + 4) 20 [.agg (syL s), .c (.v (.int .i64 left))] = some ([.c (.v (.int .i64 r))], [.agg (syL s), .c (.v (.int .i64 left))]) ∧ (r < 0 ∨ (0 ≤ r ∧ r ≤ 1048576 ∧ Small s)) := by
  obtain ⟨hp, hst, hw, hh⟩ := hs
  obtain ⟨r1, e1, k1⟩ := run_szInsSS (j := j + 1) (by omega) s.progs left (by omega) hp.2 (fun x hx => (hp.1 x hx).2)
  by_cases h1 : r1 < 0
  · refine ⟨-1, ?_, .inl (by omega)⟩
    rw [m_run (fn := Tryz.f20) (i0 := 0) rfl Tryz.func20 rfl rfl (by simp [syL])]
    simp -implicitDefEqProofs [syL, own1, e1, h1]
  have k1 := k1.resolve_left (by omega)
  obtain ⟨r2, e2, k2⟩ := run_szStateS (j := j) hj s.states r1 (by omega) hst.2 (fun x hx => ⟨(hst.1 x hx).2.1.2, (hst.1 x hx).2.2.1.2⟩)
  by_cases h2 : r2 < 0
  · refine ⟨-1, ?_, .inl (by omega)⟩
    rw [m_run (fn := Tryz.f20) (i0 := 0) rfl Tryz.func20 rfl rfl (by simp [syL])]
    simp -implicitDefEqProofs [syL, own1, e1, h1, e2, h2]
  have k2 := k2.resolve_left (by omega)
  obtain ⟨r3, e3, k3⟩ := run_szItemSS (j := j + 1) (by omega) s.ways r2 (by omega) hw.2 (fun x hx => (hw.1 x hx).2)
  by_cases h3 : r3 < 0
  · refine ⟨-1, ?_, .inl (by omega)⟩
    rw [m_run (fn := Tryz.f20) (i0 := 0) rfl Tryz.func20 rfl rfl (by simp [syL])]
    simp -implicitDefEqProofs [syL, own1, e1, h1, e2, h2, e3, h3]
  have k3 := k3.resolve_left (by omega)
  obtain ⟨r4, e4, k4⟩ := run_szEventSS (j := j + 1) (by omega) s.hist r3 (by omega) hh.2 (fun x hx => (hh.1 x hx).2)
  by_cases h4 : r4 < 0
  · refine ⟨-1, ?_, .inl (by omega)⟩
    rw [m_run (fn := Tryz.f20) (i0 := 0) rfl Tryz.func20 rfl rfl (by simp [syL])]
    simp -implicitDefEqProofs [syL, own1, e1, h1, e2, h2, e3, h3, e4, h4]
  have k4 := k4.resolve_left (by omega)
  refine ⟨r4, ?_, .inr ⟨by omega, by omega, ⟨by omega, by omega, by omega, by omega, by omega, by omega, by omega, by omega⟩⟩⟩
  rw [m_run (fn := Tryz.f20) (i0 := 0) rfl Tryz.func20 rfl rfl (by simp [syL])]
  simp -implicitDefEqProofs [syL, own1, e1, h1, e2, h2, e3, h3, e4, h4]
theorem runF_small (s : Sy) (h : Small s) (l : List Pk) : Small (runF s l).1 := by
  unfold runF
  split
  · rename_i hq
    exact (runN_right (right_iff.1 hq.1) l _).small
  · exact h
theorem runF_len (s : Sy) (l : List Pk) : (runF s l).2.length ≤ 200 := by
  unfold runF
  split
  · rename_i hq
    rw [runN_len]
    exact hq.2
  · simp
theorem run_FnExactRun {j : Nat} (hj : big ≤ j) (s : Sy) (hs : syOk s) (l : List Pk) (hl : l.length ≤ maxLen) : M.run (j + 13) 19 [.agg (syL s), .c (.r 131 l.length (pkT l))] = some ([.c (.v (.bool true))], [.agg (syL s), .c (.r 131 l.length (pkT l))]) := by
  obtain ⟨r, e1, k1⟩ := run_szSysB (j := j + 8) (by omega) s 1048576 (by omega) hs
  by_cases h1 : r < 0
  · rw [m_run (fn := Tryz.f19) (i0 := 0) rfl Tryz.func19 rfl rfl (by simp [syL])]
    simp only [syL] at e1 ⊢
    simp -implicitDefEqProofs [own1, e1, h1]
  obtain ⟨k0, k2, h⟩ := k1.resolve_left h1
  have e1' := run_szPickS (j := j + 11) l.length (pkT l) r (by unfold maxLen at hl; omega) ⟨k0, k2⟩
  by_cases h1' : r - l.length < 0
  · rw [if_pos h1'] at e1'
    rw [m_run (fn := Tryz.f19) (i0 := 0) rfl Tryz.func19 rfl rfl (by simp [syL])]
    simp only [syL] at e1 ⊢
    simp -implicitDefEqProofs [own1, e1, e1', h1]
  rw [if_neg h1'] at e1'
  have ll : l.length ≤ 1048576 := by omega
  have e2 := run_toSys (j := j + 8) (by omega) s h
  have e2' := run_toPickS (j := j + 10) (by omega) l ll
  have e3 := run_specRun (j := j + 3) (by omega) s h l
  have e4 := run_implRun (j := j + 1) (by omega) s h l
  have h' := runF_small s h l
  have hc := runF_len s l
  have e5 := run_eqSys (j := j + 8) (by omega) (runF s l).1 h'
  have e6 := run_eqSys (j := j + 8) (by omega) s h
  have e6' := run_eqPickS (j := j + 10) (by omega) l ll
  have e7 := run_markSys3 (j := j + 9) (by omega) s h
  have e7' := run_markPickS (j := j + 11) (by omega) l (markR s) (by have := markR_pos s h; omega)
  have e8 := run_markSys3 (j := j + 9) (by omega) (runF s l).1 h'
  have e9 := run_heldSys (j := j + 9) (by omega) (runF s l).1 h'
  have m0 := markR_pos s h
  have m1 := markR_pos (runF s l).1 h'
  have e10 := run34 (j := j + 11) (by omega) (runF s l).2 (by omega)
  have e11 := run37 (j := j + 11) (by omega) (runF s l).2 (markR (runF s l).1) (by omega)
  have e12 := run38 (j := j + 11) (by omega) (runF s l).2.length (markR (runF s l).1) (by omega)
  generalize runF s l = D at *
  obtain ⟨S, C⟩ := D
  simp only at e3 e4 e5 e8 e9 e10 e11 e12 m1 hc ⊢
  have n1 : ¬ (markR s + 2 * (l.length : Int) < 0) := by omega
  have n2 : ¬ (markR S < 0) := by omega
  have n3 : ¬ (markR S + (C.length : Int) < 0) := by omega
  generalize markR S = mr at *
  generalize markR s = mr0 at *
  have u1 : ∀ x : Sy, (mkSy x).progs.length = x.progs.length := fun x => by simp [mkSy, mkInsR_len]
  have u2 : ∀ x : Sy, (mkSy x).states.length = x.states.length := fun x => by simp [mkSy, mkStR_len]
  have u3 : ∀ x : Sy, (mkSy x).ways.length = x.ways.length := fun x => by simp [mkSy, mkItemR_len]
  have u4 : ∀ x : Sy, (mkSy x).hist.length = x.hist.length := fun x => by simp [mkSy, mkEventR_len]
  have q1 := u1 S
  have q2 := u2 S
  have q3 := u3 S
  have q4 := u4 S
  have q5 := u1 s
  have q6 := u2 s
  have q7 := u3 s
  have q8 := u4 s
  generalize mkSy S = ms at *
  generalize mkSy s = ms0 at *
  clear u1 u2 u3 u4
  have t1 : (ms.progs.map (sIns 110)).take S.progs.length = ms.progs.map (sIns 110) := List.take_of_length_le (by simp [q1])
  have t2 : ms.states.take S.states.length = ms.states := List.take_of_length_le (by simp [q2])
  have t3 : (ms.ways.map (sItem 142)).take S.ways.length = ms.ways.map (sItem 142) := List.take_of_length_le (by simp [q3])
  have t4 : (ms.hist.map (sEvent 89)).take S.hist.length = ms.hist.map (sEvent 89) := List.take_of_length_le (by simp [q4])
  have w1 : ∀ l : List (List Ins), (l.map (sIns 110)).take l.length = l.map (sIns 110) := fun l => List.take_of_length_le (by simp)
  have w3 : ∀ l : List (List Itm), (l.map (sItem 142)).take l.length = l.map (sItem 142) := fun l => List.take_of_length_le (by simp)
  have w4 : ∀ l : List (List Ev), (l.map (sEvent 89)).take l.length = l.map (sEvent 89) := fun l => List.take_of_length_le (by simp)
  rw [m_run (fn := Tryz.f19) (i0 := 0) rfl Tryz.func19 rfl rfl (by simp [syL])]
  simp only [syL, syR, syS, q1, q2, q3, q4, q5, q6, q7, q8] at e1 e2 e3 e4 e5 e6 e7 e8 e9 ⊢
  try simp -implicitDefEqProofs at e11
  try simp -implicitDefEqProofs at e12
  simp -implicitDefEqProofs (maxSteps := 10000000) [own1, e1, e1', e2, e2', e3, e4, e5, e6, e6', e7, e7', e8, e9, e10, e11, e12, h1, h1', n1, n2, n3, q1, q2, q3, q4, t1, t2, t3, t4, w1, w3, w4, -List.map_take]
theorem law_FnExactRun (s : Sy) (l : List Pk) (hs : syOk s) (hl : (∀ x ∈ l, pkOk x) ∧ l.length ≤ maxLen) : ∃ k xs, M.run k 19 [.agg (tSyL s), .c (rr 131 tPk l)] = some ([.c (.v (.bool true))], xs) :=
  ⟨_, _, run_FnExactRun (Nat.le_refl _) s hs l hl.2⟩
end Go.Proofs.YtiejcppjjmmihaaGreat.VM
