/- Rows of states: measured, copied, compared, marked. -/
import Derived.Test.YtbdidcfjaohglaaSS
namespace Go.Proofs.Ytbdidcfjaohglaa.VM
open Go Go.Proofs
set_option linter.unusedSimpArgs false
set_option linter.unusedVariables false
set_option maxRecDepth 100000
set_option maxHeartbeats 4000000
def stT (l : List Sta) : List T := l.flatMap tSta
def ssT (l : List Sta) : List T := l.flatMap sSta
theorem tSta_len (x : Sta) : (tSta x).length = 4 := rfl
theorem sSta_len (x : Sta) : (sSta x).length = 4 := rfl
@[simp] theorem stT_len (l : List Sta) : (stT l).length = l.length * 4 := fm_len tSta_len l
@[simp] theorem ssT_len (l : List Sta) : (ssT l).length = l.length * 4 := fm_len sSta_len l
@[simp] theorem stT_take (l : List Sta) (n : Nat) : (stT l).take (n * 4) = stT (l.take n) := fm_take tSta_len l n
@[simp] theorem ssT_take (l : List Sta) (n : Nat) : (ssT l).take (n * 4) = ssT (l.take n) := fm_take sSta_len l n
@[simp] theorem stT_drop (l : List Sta) (n : Nat) : (stT l).drop (n * 4) = stT (l.drop n) := fm_drop tSta_len l n
@[simp] theorem stT_at {l : List Sta} {i : Nat} (hi : i < l.length) : (stT (l.drop i)).take 4 = tSta l[i] := by rw [← stT_drop]; exact fm_at tSta_len hi
theorem stT_1 {l : List Sta} {i : Nat} (hi : i < l.length) : (stT l)[i * 4 + 1]? = some (.r 3 l[i].regs.length (ints l[i].regs)) := fm_get tSta_len hi (by omega)
theorem stT_2 {l : List Sta} {i : Nat} (hi : i < l.length) : (stT l)[i * 4 + 2]? = some (.r 3 l[i].out.length (ints l[i].out)) := fm_get tSta_len hi (by omega)
/-- A state's numbers. -/
def nums (s : Sta) : List Int := s.regs ++ s.out
theorem nums_len (s : Sta) : (nums s).length = s.regs.length + s.out.length := by simp [nums]
theorem totS_succ {l : List Sta} {i : Nat} (hi : i < l.length) : tot ((l.map nums).take (i + 1)) = tot ((l.map nums).take i) + (l[i].regs.length + l[i].out.length) := by
  rw [tot_take_succ (by simpa using hi), List.getElem_map, nums_len]
theorem totS_len {l : List Sta} {i : Nat} (hi : i < l.length) : l[i].regs.length + l[i].out.length ≤ tot (l.map nums) := by
  have h1 := totS_succ hi
  have h2 := tot_take_le (l.map nums) (i + 1)
  omega
def H_szStateS (left : Int) (l : List Sta) (i : Nat) : St := ⟨[(0, .c (.sl 0 [] 0 l.length)), (1, .c (.v (.int .i64 (left - l.length - (tot ((l.map nums).take i) : Nat))))), (5, .c (.v (.int .i64 i)))], [(0, ⟨.ro, 50, stT l⟩)]⟩
theorem run_szStateS {j : Nat} (hj : big ≤ j) (l : List Sta) (left : Int) (hk : 0 ≤ left ∧ left ≤ 1048576) (hn : l.length ≤ 9223372036854775807) (hx : ∀ x ∈ l, x.regs.length ≤ 9223372036854775807 ∧ x.out.length ≤ 9223372036854775807) :
    ∃ r : Int, M.run (j + 3) 51 [.c (.r 50 l.length (stT l)), .c (.v (.int .i64 left))] = some ([.c (.v (.int .i64 r))], [.c (.r 50 l.length (stT l)), .c (.v (.int .i64 left))]) ∧ (r = -1 ∨ (r = left - l.length - (tot (l.map nums) : Nat) ∧ 0 ≤ r)) := by
  by_cases h : left - l.length < 0
  · refine ⟨-1, ?_, .inl rfl⟩
    rw [m_run (fn := Try.f51) (i0 := 0) rfl Try.func51 rfl rfl (by simp)]
    simp -implicitDefEqProofs [h, w64 (x := left - l.length) (by omega)]
  · have stp : ∀ i, ∀ hi : i < l.length, 0 ≤ left - l.length - (tot ((l.map nums).take i) : Nat) → M.run (j + 2) 24 [.agg (tSta l[i]), .c (.v (.int .i64 (left - l.length - (tot ((l.map nums).take i) : Nat))))] = some ([.c (.v (.int .i64 (if left - l.length - (tot ((l.map nums).take (i + 1)) : Nat) < 0 then -1 else left - l.length - (tot ((l.map nums).take (i + 1)) : Nat))))], [.agg (tSta l[i]), .c (.v (.int .i64 (left - l.length - (tot ((l.map nums).take i) : Nat))))]) := fun i hi h0 => by
      have hb := hx _ (List.getElem_mem hi)
      have e := run43 (j := j) l[i].at_ l[i].code l[i].regs l[i].out (left - l.length - (tot ((l.map nums).take i) : Nat)) hb.1 hb.2 ⟨h0, by omega⟩
      have hs := totS_succ hi
      rw [show (if left - l.length - (tot ((l.map nums).take i) : Nat) - (l[i].regs.length : Nat) < 0 then (-1 : Int) else if left - l.length - (tot ((l.map nums).take i) : Nat) - (l[i].regs.length : Nat) - (l[i].out.length : Nat) < 0 then -1 else left - l.length - (tot ((l.map nums).take i) : Nat) - (l[i].regs.length : Nat) - (l[i].out.length : Nat)) = (if left - l.length - (tot ((l.map nums).take (i + 1)) : Nat) < 0 then -1 else left - l.length - (tot ((l.map nums).take (i + 1)) : Nat)) by
        (repeat' split) <;> omega] at e
      exact e
    rcases allTo_or (fun i => decide (0 ≤ left - l.length - (tot ((l.map nums).take (i + 1)) : Nat))) l.length with ⟨_, hall⟩ | ⟨_, m, hm, hbad, hall⟩
    · have h0 : ∀ i, i ≤ l.length → 0 ≤ left - l.length - (tot ((l.map nums).take i) : Nat) := fun i hi => by
        cases i with
        | zero => simp [tot]; omega
        | succ i => simpa using hall i (by omega)
      refine ⟨left - l.length - (tot (l.map nums) : Nat), ?_, .inr ⟨rfl, by have := h0 l.length (Nat.le_refl _); rwa [List.take_of_length_le (by simp)] at this⟩⟩
      have hf : (l.map nums).take l.length = l.map nums := List.take_of_length_le (by simp)
      rw [m_run (fn := Try.f51) (i0 := 0) rfl Try.func51 rfl rfl (by simp)]
      simp -implicitDefEqProofs [h, w64 (x := left - l.length) (by omega)]
      rw [loop_to (H_szStateS left l) l.length (by simp -implicitDefEqProofs [H_szStateS, hint1, tot]) (by simp [big] at hj; omega) (fun i hi => by
        have e := stp i hi (h0 i (by omega))
        have h1 := h0 (i + 1) (by omega)
        rw [if_neg (by omega)] at e
        simp only [tSta, stR] at e
        simp -implicitDefEqProofs [H_szStateS, hint1, hi, w64 (x := (i : Int) + 1) (by omega), own1, tSta, stR, stT_1 hi, stT_2 hi, show i * 4 + 4 ≤ l.length * 4 by omega, e, show ¬ (left - l.length - (tot ((l.map nums).take (i + 1)) : Nat) < 0) by omega, -List.map_take]) (by simp -implicitDefEqProofs [H_szStateS, stops])]
      simp -implicitDefEqProofs [H_szStateS, hf, -List.map_take]
    · have hbad : ¬ 0 ≤ left - l.length - (tot ((l.map nums).take (m + 1)) : Nat) := by simpa using hbad
      have h0 : ∀ i, i ≤ m → 0 ≤ left - l.length - (tot ((l.map nums).take i) : Nat) := fun i hi => by
        cases i with
        | zero => simp [tot]; omega
        | succ i => simpa using hall i (by omega)
      have em := stp m hm (h0 m (Nat.le_refl _))
      rw [if_pos (by omega)] at em
      simp only [tSta, stR] at em
      refine ⟨-1, ?_, .inl rfl⟩
      rw [m_run (fn := Try.f51) (i0 := 0) rfl Try.func51 rfl rfl (by simp)]
      simp -implicitDefEqProofs [h, w64 (x := left - l.length) (by omega)]
      rw [loop_to (H_szStateS left l) m (by simp -implicitDefEqProofs [H_szStateS, hint1, tot]) (by simp [big] at hj; omega) (fun i hi => by
        have hi' : i < l.length := by omega
        have e := stp i hi' (h0 i (by omega))
        have h1 := h0 (i + 1) (by omega)
        rw [if_neg (by omega)] at e
        simp only [tSta, stR] at e
        simp -implicitDefEqProofs [H_szStateS, hint1, hi', w64 (x := (i : Int) + 1) (by omega), own1, tSta, stR, stT_1 hi', stT_2 hi', show i * 4 + 4 ≤ l.length * 4 by omega, e, show ¬ (left - l.length - (tot ((l.map nums).take (i + 1)) : Nat) < 0) by omega, -List.map_take]) (by simp -implicitDefEqProofs [H_szStateS, stops, hm, own1, tSta, stR, stT_1 hm, stT_2 hm, show m * 4 + 4 ≤ l.length * 4 by omega, em, -List.map_take])]
      simp -implicitDefEqProofs [H_szStateS, hm, own1, tSta, stR, stT_1 hm, stT_2 hm, show m * 4 + 4 ≤ l.length * 4 by omega, em, -List.map_take]
/-- The first i made, and zeros behind them. -/
def tq {α : Type} (f : α → List T) (z : List T) (l : List α) (i : Nat) : List T := (l.take i).flatMap f ++ (List.replicate (l.length - i) z).flatten
theorem tq_len {α : Type} {f : α → List T} {z : List T} {k : Nat} (hf : ∀ x, (f x).length = k) (hz : z.length = k) (l : List α) {i : Nat} (hi : i ≤ l.length) : (tq f z l i).length = l.length * k := by
  have h2 : (List.replicate (l.length - i) z).flatten.length = (l.length - i) * k := by simp [hz]
  unfold tq
  rw [List.length_append, fm_len hf, List.length_take, Nat.min_eq_left hi, h2, ← Nat.add_mul]
  congr 1
  omega
theorem tq_set {α : Type} {f : α → List T} {z : List T} {k : Nat} (hf : ∀ x, (f x).length = k) (hz : z.length = k) {l : List α} {i : Nat} (hi : i < l.length) : setCells (tq f z l i) (i * k) (f l[i]) = tq f z l (i + 1) := by
  have hle : i * k + k ≤ l.length * k := by
    have := Nat.mul_le_mul_right k (show i + 1 ≤ l.length by omega)
    rwa [Nat.add_mul, Nat.one_mul] at this
  rw [setCells_eq _ _ _ (by rw [tq_len hf hz l (by omega), hf]; exact hle), hf]
  unfold tq
  have h1 : ((l.take i).flatMap f).length = i * k := by rw [fm_len hf, List.length_take, Nat.min_eq_left (by omega)]
  rw [show l.length - i = (l.length - (i + 1)) + 1 by omega, List.replicate_succ, List.flatten_cons]
  rw [← h1, List.take_left, List.drop_append, h1]
  rw [show (List.flatMap f (List.take i l)).drop (i * k + k) = [] from List.drop_eq_nil_of_le (by rw [h1]; omega), List.nil_append, show i * k + k - i * k = k by omega]
  rw [show (z ++ (List.replicate (l.length - (i + 1)) z).flatten).drop k = (List.replicate (l.length - (i + 1)) z).flatten by rw [← hz, List.drop_left]]
  rw [List.take_succ_eq_append_getElem hi, List.flatMap_append, List.flatMap_cons, List.flatMap_nil, List.append_nil]
def zS : List T := [.v (.int .i64 0), .z, .z, .v (.int .i64 0)]
def H_toStateS (l : List Sta) (i : Nat) : St := ⟨[(0, .c (.sl 0 [] 0 l.length)), (3, .c (.sl 512 [] 0 l.length)), (4, .c (.v (.int .i64 i)))], [(0, ⟨.ro, 50, stT l⟩), (512, ⟨.own, 55, tq sSta zS l i⟩)]⟩
theorem run_toStateS {j : Nat} (hj : big ≤ j) (l : List Sta) (hn : l.length ≤ 1048576) (hx : ∀ x ∈ l, x.regs.length ≤ 1048576 ∧ x.out.length ≤ 1048576) :
    M.run (j + 3) 56 [.c (.r 50 l.length (stT l))] = some ([.c (.s 55 l.length (ssT l))], [.c (.r 50 l.length (stT l))]) := by
  rw [m_run (fn := Try.f56) (i0 := 0) rfl Try.func56 rfl rfl (by simp)]
  simp -implicitDefEqProofs [le_most hn]
  rw [loop_to (H_toStateS l) l.length (by simp -implicitDefEqProofs [H_toStateS, hint1, tq, zS]) (by simp [big] at hj; omega) (fun i hi => by
    have hb := hx _ (List.getElem_mem hi)
    have e := run46 (j := j) (by omega) l[i].at_ l[i].code l[i].regs l[i].out hb.1 hb.2
    have e2 := tq_set (f := sSta) (z := zS) sSta_len rfl hi
    have e3 := tq_len (f := sSta) (z := zS) sSta_len rfl l (i := i) (by omega)
    simp only [stR, stS] at e
    simp only [sSta, stS, setCells] at e2
    simp -implicitDefEqProofs [H_toStateS, hint1, hi, w64 (x := (i : Int) + 1) (by omega), show i * 4 + 4 ≤ l.length * 4 by omega, show i * 4 + 1 ≤ l.length * 4 by omega, own1, tSta, stR, stT_1 hi, stT_2 hi, e, e2, e3]) (by simp -implicitDefEqProofs [H_toStateS, stops])]
  have e4 : tq sSta zS l l.length = ssT l := by simp [tq, ssT]
  simp -implicitDefEqProofs [H_toStateS, e4]
def H_eqStateS (l : List Sta) (i : Nat) : St := ⟨[(0, .c (.sl 0 [] 0 l.length)), (1, .c (.sl 1 [] 0 l.length)), (5, .c (.v (.int .i64 i)))], [(0, ⟨.ro, 55, stT l⟩), (1, ⟨.ro, 55, stT l⟩)]⟩
theorem run_eqStateS {j : Nat} (hj : big ≤ j) (l : List Sta) (hn : l.length ≤ 1048576) (hx : ∀ x ∈ l, x.regs.length ≤ 1048576 ∧ x.out.length ≤ 1048576) :
    M.run (j + 3) 62 [.c (.r 55 l.length (stT l)), .c (.r 55 l.length (stT l))] = some ([.c (.v (.bool true))], [.c (.r 55 l.length (stT l)), .c (.r 55 l.length (stT l))]) := by
  rw [m_run (fn := Try.f62) (i0 := 0) rfl Try.func62 rfl rfl (by simp)]
  simp -implicitDefEqProofs
  rw [loop_to (H_eqStateS l) l.length (by simp -implicitDefEqProofs [H_eqStateS, hint1]) (by simp [big] at hj; omega) (fun i hi => by
    have hb := hx _ (List.getElem_mem hi)
    have e := run17 (j := j) (by omega) l[i].at_ l[i].code l[i].regs l[i].out (by omega) (by omega)
    simp only [stR] at e
    simp -implicitDefEqProofs [H_eqStateS, hint1, hi, w64 (x := (i : Int) + 1) (by omega), show i * 4 + 4 ≤ l.length * 4 by omega, own1, tSta, stR, stT_1 hi, stT_2 hi, e]) (by simp -implicitDefEqProofs [H_eqStateS, stops])]
  simp -implicitDefEqProofs [H_eqStateS]
/-- Marked so far: the next number, the rows. -/
def mkSt (k : Int) (l : List Sta) : Nat → Int × List T
  | 0 => (k, ssT l)
  | i + 1 => match l[i]? with
    | none => mkSt k l i
    | some s => ((mkSt k l i).1 + 1 + s.regs.length + s.out.length + 1, ((((mkSt k l i).2.set (i * 4) (.v (.int .i64 (mkSt k l i).1))).set (i * 4 + 1) (.s 3 s.regs.length (ints (upto ((mkSt k l i).1 + 1) s.regs.length)))).set (i * 4 + 2) (.s 3 s.out.length (ints (upto ((mkSt k l i).1 + 1 + s.regs.length) s.out.length)))).set (i * 4 + 3) (.v (.int .i64 ((mkSt k l i).1 + 1 + s.regs.length + s.out.length))))
theorem mkSt_len (k : Int) (l : List Sta) : ∀ i, (mkSt k l i).2.length = l.length * 4
  | 0 => by simp [mkSt]
  | i + 1 => by
    rw [mkSt]
    split <;> simp [mkSt_len k l i]
theorem mkSt_at (k : Int) (l : List Sta) {m : Nat} : ∀ i, i * 4 ≤ m → (mkSt k l i).2[m]? = (ssT l)[m]?
  | 0, _ => rfl
  | i + 1, h => by
    rw [mkSt]
    split
    · exact mkSt_at k l i (by omega)
    · rw [List.getElem?_set_ne (by omega), List.getElem?_set_ne (by omega), List.getElem?_set_ne (by omega), List.getElem?_set_ne (by omega)]
      exact mkSt_at k l i (by omega)
theorem mkSt_le (k : Int) (l : List Sta) : ∀ i, i ≤ l.length → (mkSt k l i).1 = k + 2 * i + (tot ((l.map nums).take i) : Nat)
  | 0, _ => by simp [mkSt, tot]
  | i + 1, h => by
    have h1 := mkSt_le k l i (by omega)
    have h2 := totS_succ (l := l) (i := i) (by omega)
    rw [mkSt, List.getElem?_eq_getElem (show i < l.length by omega)]
    simp only
    rw [h2, h1]
    omega
def H_markStateS (k : Int) (l : List Sta) (i : Nat) : St := ⟨[(0, .c (.sl 0 [] 0 l.length)), (1, .c (.v (.int .i64 (mkSt k l i).1))), (5, .c (.v (.int .i64 i)))], [(0, ⟨.own, 55, (mkSt k l i).2⟩)]⟩
theorem run_markStateS {j : Nat} (hj : big ≤ j) (l : List Sta) (k : Int) (hn : l.length ≤ 1048576) (hk : 0 ≤ k ∧ k + (tot (l.map nums) : Nat) ≤ 1152921504606846976) :
    M.run (j + 2) 66 [.c (.s 55 l.length (ssT l)), .c (.v (.int .i64 k))] = some ([.c (.v (.int .i64 (k + 2 * l.length + (tot (l.map nums) : Nat))))], [.c (.s 55 l.length (mkSt k l l.length).2), .c (.v (.int .i64 k))]) := by
  have hend : (mkSt k l l.length).1 = k + 2 * l.length + (tot (l.map nums) : Nat) := by
    have := mkSt_le k l l.length (Nat.le_refl _)
    rwa [List.take_of_length_le (by simp)] at this
  rw [m_run (fn := Try.f66) (i0 := 0) rfl Try.func66 rfl rfl (by simp)]
  simp -implicitDefEqProofs
  rw [loop_to (H_markStateS k l) l.length (by simp -implicitDefEqProofs [H_markStateS, hint1, mkSt]) (by simp [big] at hj; omega) (fun i hi => by
    have h1 := mkSt_le k l i (by omega)
    have h2 := tot_take_le (l.map nums) i
    have h3 := totS_len hi
    have h4 := tot_take_le (l.map nums) (i + 1)
    have h5 := totS_succ hi
    have hl := mkSt_len k l i
    have a1 : (mkSt k l i).2[i * 4 + 1]? = some (.s 3 l[i].regs.length (ints l[i].regs)) := by
      rw [mkSt_at k l i (by omega)]
      exact fm_get sSta_len hi (by omega)
    have a2 : (mkSt k l i).2[i * 4 + 2]? = some (.s 3 l[i].out.length (ints l[i].out)) := by
      rw [mkSt_at k l i (by omega)]
      exact fm_get sSta_len hi (by omega)
    have e1 := run37 (j := j) (by omega) l[i].regs ((mkSt k l i).1 + 1) (by omega)
    have e2 := run37 (j := j) (by omega) l[i].out ((mkSt k l i).1 + 1 + l[i].regs.length) (by omega)
    have em : mkSt k l (i + 1) = ((mkSt k l i).1 + 1 + l[i].regs.length + l[i].out.length + 1, ((((mkSt k l i).2.set (i * 4) (.v (.int .i64 (mkSt k l i).1))).set (i * 4 + 1) (.s 3 l[i].regs.length (ints (upto ((mkSt k l i).1 + 1) l[i].regs.length)))).set (i * 4 + 2) (.s 3 l[i].out.length (ints (upto ((mkSt k l i).1 + 1 + l[i].regs.length) l[i].out.length)))).set (i * 4 + 3) (.v (.int .i64 ((mkSt k l i).1 + 1 + l[i].regs.length + l[i].out.length)))) := by
      rw [mkSt, List.getElem?_eq_getElem hi]
    simp -implicitDefEqProofs [H_markStateS, em, hint1, hi, w64 (x := (i : Int) + 1) (by omega), w64 (x := (mkSt k l i).1 + 1) (by omega), w64 (x := (mkSt k l i).1 + 1 + l[i].regs.length + l[i].out.length + 1) (by omega), own1, a1, a2, hl, e1, e2, show i * 4 + 1 ≤ l.length * 4 by omega, show i * 4 + 3 + 1 ≤ l.length * 4 by omega, List.getElem?_set]) (by simp -implicitDefEqProofs [H_markStateS, stops])]
  simp -implicitDefEqProofs [H_markStateS, hend]
end Go.Proofs.Ytbdidcfjaohglaa.VM
