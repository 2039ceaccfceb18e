/- What is told of events; ways; peers. -/
import Derived.Test.YtninncdacekfgaaK5
import Derived.Test.YtninncdacekfgaaK2
/- What is told of events by a Kind and a Peer; what is on a way; rows of numbers compared: reckoned. -/
namespace Go.Proofs.Ytninncdacekfgaa.VM
open Go Go.Proofs
set_option linter.unusedSimpArgs false
set_option linter.unusedVariables false
set_option maxRecDepth 100000
set_option maxHeartbeats 10000000
theorem allTo_or' (p : Nat → Bool) : ∀ n, (∀ i, i < n → p i = true) ∨ ∃ m, m < n ∧ p m = false ∧ ∀ i, i < m → p i = true
 | 0 => .inl fun i hi => by omega
 | n + 1 => by
  rcases allTo_or' p n with h | ⟨m, h1, h2, h3⟩
  ·cases hp : p n with
   | true => exact .inl (fun i hi => by
     rcases Nat.lt_or_ge i n with h' | h'
     ·exact h i h'
     ·have : i = n := by omega
      rw [this]
      exact hp)
   | false => exact .inr ⟨n, by omega, hp, h⟩
  ·exact .inr ⟨m, by omega, h2, h3⟩
/-- The numbers of the events of a Kind and a Peer. -/
def isB (e : Ev) (k p : Int) : Bool := e.kind == k && e.peer == p
def valsE (es : List Ev) (k p : Int) : List Int := (es.filter fun e => isB e k p).map (·.v)
theorem valsE_succ {es : List Ev} {i : Nat} (hi : i < es.length) (k p : Int) : valsE (es.take (i + 1)) k p = valsE (es.take i) k p ++ if isB es[i] k p = true then [es[i].v] else [] := by
 unfold valsE
 rw [List.take_add_one, List.getElem?_eq_getElem hi]
 simp only [Option.toList_some, List.filter_append, List.map_append]
 congr 1
 by_cases h : isB es[i] k p = true <;> simp [h]
theorem valsE_le (es : List Ev) (k p : Int) : (valsE es k p).length ≤ es.length := by
 unfold valsE
 rw [List.length_map]
 exact List.length_filter_le _ _
theorem ints_snoc1 (xs : List Int) (y : Int) : ints xs ++ [.v (.int .i64 y)] = ints (xs ++ [y]) := by simp [ints]
theorem run_isOf {j : Nat} (e : Ev) (k p : Int) : M.run (j + 1) 117 [.agg (tEv e), .c (.v (.int .i64 k)), .c (.v (.int .i64 p))] = some ([.c (.v (.bool (isB e k p)))], [.agg (tEv e), .c (.v (.int .i64 k)), .c (.v (.int .i64 p))]) := by
 rw [m_run (fn := Try.f117) (i0 := 0) rfl Try.func117 rfl rfl (by simp [tEv])]
 unfold isB
 by_cases h1 : e.kind = k <;> by_cases h2 : e.peer = p <;> simp -implicitDefEqProofs [tEv, h1, h2]
def H_specValues (es : List Ev) (k p : Int) (i : Nat) : St := ⟨[(0, .c (.sl 0 [] 0 es.length)), (1, .c (.v (.int .i64 k))), (2, .c (.v (.int .i64 p))), (7, .c (.sl 640 [] 0 (valsE (es.take i) k p).length)), (8, .c (.v (.int .i64 i)))], [(0, ⟨.ro, 29, evT es⟩), (640, ⟨.own, 3, ints (valsE (es.take i) k p)⟩)]⟩
theorem valsE_most {es : List Ev} (hn : es.length ≤ 1048576) (k p : Int) (i : Nat) : (valsE (es.take i) k p).length + 1 ≤ most := by
 have h1 := valsE_le (es.take i) k p
 have h2 : (es.take i).length ≤ es.length := by simp; omega
 unfold most
 omega
def H_implValues (es : List Ev) (k p : Int) (i : Nat) : St := ⟨[(1, .c (.v (.int .i64 k))), (2, .c (.v (.int .i64 p))), (7, .c (.sl 704 [] 0 (valsE (es.take i) k p).length)), (11, .c (.sl 0 [] 0 es.length)), (12, .c (.v (.int .i64 es.length))), (13, .c (.v (.int .i64 i)))], [(0, ⟨.ro, 29, evT es⟩), (704, ⟨.own, 3, ints (valsE (es.take i) k p)⟩)]⟩
theorem run_implValues {j : Nat} (hj : big ≤ j) (es : List Ev) (k p : Int) (hn : es.length ≤ 1048576) :
  M.run (j + 2) 99 [.c (.r 29 es.length (evT es)), .c (.v (.int .i64 k)), .c (.v (.int .i64 p))] = some ([.c (.s 3 (valsE es k p).length (ints (valsE es k p)))], [.c (.r 29 es.length (evT es)), .c (.v (.int .i64 k)), .c (.v (.int .i64 p))]) := by
 rw [m_run (fn := Try.f99) (i0 := 0) rfl Try.func99 rfl rfl (by simp)]
 simp -implicitDefEqProofs
 rw [loop_to (H_implValues es k p) es.length (by simp -implicitDefEqProofs [H_implValues, hint1, valsE]) (by simp [big] at hj; omega) (fun i hi => by
  have hs := valsE_succ hi k p
  have hm := valsE_most hn k p i
  have e := run_isOf (j := j) es[i] k p
  simp only [tEv] at e
  cases h : isB es[i] k p
  ·rw [h] at hs e
   simp -implicitDefEqProofs at hs
   simp -implicitDefEqProofs [H_implValues, hint1, hi, own1, tEv, e, hs, w64 (x := (i : Int) + 1) (by omega), show i * 3 + 3 ≤ es.length * 3 by omega]
  ·rw [h] at hs e
   simp -implicitDefEqProofs at hs
   simp -implicitDefEqProofs [H_implValues, hint1, hi, own1, tEv, e, hs, hm, w64 (x := (i : Int) + 1) (by omega), show i * 3 + 3 ≤ es.length * 3 by omega, ints_snoc1]) (by simp -implicitDefEqProofs [H_implValues, stops])]
 simp -implicitDefEqProofs [H_implValues]
theorem run_implCount {j : Nat} (hj : big ≤ j) (es : List Ev) (k p : Int) (hn : es.length ≤ 1048576) :
  M.run (j + 3) 103 [.c (.r 29 es.length (evT es)), .c (.v (.int .i64 k)), .c (.v (.int .i64 p))] = some ([.c (.v (.int .i64 (valsE es k p).length))], [.c (.r 29 es.length (evT es)), .c (.v (.int .i64 k)), .c (.v (.int .i64 p))]) := by
 have e := run_implValues hj es k p hn
 rw [m_run (fn := Try.f103) (i0 := 0) rfl Try.func103 rfl rfl (by simp)]
 simp -implicitDefEqProofs [own1, e]
/-! ### the numbers on a way -/
def numsI (l : List Itm) : List Int := (l.filter fun x => !x.mark).map (·.v)
theorem numsI_succ {l : List Itm} {i : Nat} (hi : i < l.length) : numsI (l.take (i + 1)) = numsI (l.take i) ++ if l[i].mark = true then [] else [l[i].v] := by
 unfold numsI
 rw [List.take_add_one, List.getElem?_eq_getElem hi]
 simp only [Option.toList_some, List.filter_append, List.map_append]
 congr 1
 by_cases h : l[i].mark = true <;> simp [h]
theorem numsI_le (l : List Itm) : (numsI l).length ≤ l.length := by
 unfold numsI
 rw [List.length_map]
 exact List.length_filter_le _ _
theorem numsI_most {l : List Itm} (hn : l.length ≤ 1048576) (i : Nat) : (numsI (l.take i)).length + 1 ≤ most := by
 have h1 := numsI_le (l.take i)
 have h2 : (l.take i).length ≤ l.length := by simp; omega
 unfold most
 omega
def H_specNumbers (l : List Itm) (i : Nat) : St := ⟨[(0, .c (.sl 0 [] 0 l.length)), (3, .c (.sl 384 [] 0 (numsI (l.take i)).length)), (4, .c (.v (.int .i64 i)))], [(0, ⟨.ro, 100, itT l⟩), (384, ⟨.own, 3, ints (numsI (l.take i))⟩)]⟩
def H_implNumbers (l : List Itm) (i : Nat) : St := ⟨[(3, .c (.sl 448 [] 0 (numsI (l.take i)).length)), (7, .c (.sl 0 [] 0 l.length)), (8, .c (.v (.int .i64 l.length))), (9, .c (.v (.int .i64 i)))], [(0, ⟨.ro, 100, itT l⟩), (448, ⟨.own, 3, ints (numsI (l.take i))⟩)]⟩
theorem run_implNumbers {j : Nat} (hj : big ≤ j) (l : List Itm) (hn : l.length ≤ 1048576) :
  M.run (j + 1) 102 [.c (.r 100 l.length (itT l))] = some ([.c (.s 3 (numsI l).length (ints (numsI l)))], [.c (.r 100 l.length (itT l))]) := by
 rw [m_run (fn := Try.f102) (i0 := 0) rfl Try.func102 rfl rfl (by simp)]
 simp -implicitDefEqProofs
 rw [loop_to (H_implNumbers l) l.length (by simp -implicitDefEqProofs [H_implNumbers, hint1, numsI]) (by simp [big] at hj; omega) (fun i hi => by
  have hs := numsI_succ hi
  have hm := numsI_most hn i
  cases h : l[i].mark
  ·rw [h] at hs
   simp -implicitDefEqProofs at hs
   simp -implicitDefEqProofs [H_implNumbers, hint1, hi, h, tItem, hs, hm, w64 (x := (i : Int) + 1) (by omega), show i * 2 + 2 ≤ l.length * 2 by omega, ints_snoc1]
  ·rw [h] at hs
   simp -implicitDefEqProofs at hs
   simp -implicitDefEqProofs [H_implNumbers, hint1, hi, h, tItem, hs, w64 (x := (i : Int) + 1) (by omega), show i * 2 + 2 ≤ l.length * 2 by omega]) (by simp -implicitDefEqProofs [H_implNumbers, stops])]
 simp -implicitDefEqProofs [H_implNumbers]
/-! ### rows of numbers compared -/
theorem eq_all {xs ys : List Int} (hl : xs.length = ys.length) (h : ∀ i, i < xs.length → xs[i]? = ys[i]?) : xs = ys := by
 apply List.ext_getElem?
 intro i
 rcases Nat.lt_or_ge i xs.length with h' | h'
 ·exact h i h'
 ·rw [List.getElem?_eq_none h', List.getElem?_eq_none (by omega)]
def H_equalI (xs ys : List Int) (i : Nat) : St := ⟨[(0, .c (.sl 0 [] 0 xs.length)), (1, .c (.sl 1 [] 0 ys.length)), (12, .c (.v (.int .i64 xs.length))), (13, .c (.v (.int .i64 i)))], [(0, ⟨.ro, 3, ints xs⟩), (1, ⟨.ro, 3, ints ys⟩)]⟩
theorem run_equalI {j : Nat} (hj : big ≤ j) (xs ys : List Int) (hn : xs.length ≤ 4294967296) :
  M.run (j + 1) 100 [.c (.r 3 xs.length (ints xs)), .c (.r 3 ys.length (ints ys))] = some ([.c (.v (.bool (decide (xs = ys))))], [.c (.r 3 xs.length (ints xs)), .c (.r 3 ys.length (ints ys))]) := by
 rw [m_run (fn := Try.f100) (i0 := 0) rfl Try.func100 rfl rfl (by simp)]
 by_cases hl : xs.length = ys.length
 ·simp -implicitDefEqProofs [hl]
  rw [← hl]
  rcases allTo_or' (fun i => decide (xs[i]? = ys[i]?)) xs.length with hall | ⟨m, hm, hbad, hall⟩
  ·have he : xs = ys := eq_all hl fun i hi => by simpa using hall i hi
   subst he
   rw [loop_to (H_equalI xs xs) xs.length (by simp -implicitDefEqProofs [H_equalI, hint1]) (by simp [big] at hj; omega) (fun i hi => by
    simp -implicitDefEqProofs [H_equalI, hint1, hi, ints_get hi, show i + 1 ≤ xs.length by omega, w64 (x := (i : Int) + 1) (by omega)]) (by simp -implicitDefEqProofs [H_equalI, stops])]
   simp -implicitDefEqProofs [H_equalI]
  ·have hm2 : m < ys.length := by omega
   have hne : ¬ xs[m] = ys[m] := by
    rw [List.getElem?_eq_getElem hm, List.getElem?_eq_getElem hm2] at hbad
    simpa using hbad
   have he : ¬ xs = ys := fun e => by subst e; exact hne rfl
   rw [loop_to (H_equalI xs ys) m (by simp -implicitDefEqProofs [H_equalI, hint1, hl]) (by simp [big] at hj; omega) (fun i hi => by
    have h1 : i < xs.length := by omega
    have h2 : i < ys.length := by omega
    have h3 : xs[i] = ys[i] := by
     have := hall i hi
     rw [List.getElem?_eq_getElem h1, List.getElem?_eq_getElem h2] at this
     simpa using this
    simp -implicitDefEqProofs [H_equalI, hint1, h1, h2, h3, ints_get h1, ints_get h2, show i + 1 ≤ xs.length by omega, show i + 1 ≤ ys.length by omega, w64 (x := (i : Int) + 1) (by omega)]) (by simp -implicitDefEqProofs [H_equalI, stops, hm, hm2, hne, ints_get hm, ints_get hm2, show m + 1 ≤ xs.length by omega, show m + 1 ≤ ys.length by omega])]
   simp -implicitDefEqProofs [H_equalI, hm, hm2, hne, he, ints_get hm, ints_get hm2, show m + 1 ≤ xs.length by omega, show m + 1 ≤ ys.length by omega]
 ·have he : ¬ xs = ys := fun e => hl (by rw [e])
  simp -implicitDefEqProofs [hl, he, show ¬ (xs.length : Int) = ys.length by omega]
end Go.Proofs.Ytninncdacekfgaa.VM

/- States compared; ways that are right; peers that are processes: reckoned. -/
namespace Go.Proofs.Ytninncdacekfgaa.VM
open Go Go.Proofs
set_option linter.unusedSimpArgs false
set_option linter.unusedVariables false
set_option maxRecDepth 100000
set_option maxHeartbeats 10000000
def sameB (a b : Sta) : Bool := a.at_ == b.at_ && (a.code == b.code && (decide (a.regs = b.regs) && decide (a.out = b.out)))
theorem run_sameState {j : Nat} (hj : big ≤ j) (a b : Sta) (h1 : a.regs.length ≤ 1048576) (h2 : a.out.length ≤ 1048576) :
  M.run (j + 2) 98 [.agg (tSta a), .agg (tSta b)] = some ([.c (.v (.bool (sameB a b)))], [.agg (tSta a), .agg (tSta b)]) := by
 obtain ⟨a1, xs, ys, c⟩ := a
 obtain ⟨a2, us, vs, d⟩ := b
 simp only at h1 h2
 have e1 := run_equalI hj xs us (by omega)
 have e2 := run_equalI hj ys vs (by omega)
 unfold sameB
 rw [m_run (fn := Try.f98) (i0 := 0) rfl Try.func98 rfl rfl (by simp [tSta, stR])]
 simp only
 generalize decide (xs = us) = q1 at *
 generalize decide (ys = vs) = q2 at *
 by_cases k1 : a1 = a2
 ·by_cases k2 : c = d
  ·cases q1
   ·simp -implicitDefEqProofs [tSta, stR, own1, k1, k2, e1]
   ·simp -implicitDefEqProofs [tSta, stR, own1, k1, k2, e1, e2]
  ·simp -implicitDefEqProofs [tSta, stR, own1, k1, k2]
 ·simp -implicitDefEqProofs [tSta, stR, own1, k1]
def boxS (i : Nat) (a : Int) (n m : Nat) (c : Int) : Obj := ⟨.box, 27, [.v (.int .i64 a), .l i [] 0 n, .l (i + 1) [] 0 m, .v (.int .i64 c)]⟩
def H_same1 (a c a' c' : Int) (xs ys us vs : List Int) (i : Nat) : St := ⟨[(2, .ptr 192 [] 0), (3, .ptr 256 [] 0), (5, .c (.v (.int .i64 i)))], [(0, ⟨.ro, 3, ints xs⟩), (1, ⟨.ro, 3, ints ys⟩), (2, ⟨.ro, 3, ints us⟩), (3, ⟨.ro, 3, ints vs⟩), (192, boxS 0 a xs.length ys.length c), (256, boxS 2 a' us.length vs.length c')]⟩
def H_same2 (a c a' c' : Int) (xs ys us vs : List Int) (i : Nat) : St := ⟨[(2, .ptr 192 [] 0), (3, .ptr 256 [] 0), (6, .c (.v (.int .i64 i)))], [(0, ⟨.ro, 3, ints xs⟩), (1, ⟨.ro, 3, ints ys⟩), (2, ⟨.ro, 3, ints us⟩), (3, ⟨.ro, 3, ints vs⟩), (192, boxS 0 a xs.length ys.length c), (256, boxS 2 a' us.length vs.length c')]⟩
theorem getN {xs ys : List Int} {i : Nat} (h1 : i < xs.length) (h2 : i < ys.length) {b : Bool} (h : decide (xs[i]? = ys[i]?) = b) : decide (xs[i] = ys[i]) = b := by
 rw [List.getElem?_eq_getElem h1, List.getElem?_eq_getElem h2] at h
 simpa using h
end Go.Proofs.Ytninncdacekfgaa.VM

/- Ways that are right; peers that are processes: reckoned. -/
namespace Go.Proofs.Ytninncdacekfgaa.VM
open Go Go.Proofs
set_option linter.unusedSimpArgs false
set_option linter.unusedVariables false
set_option maxRecDepth 100000
set_option maxHeartbeats 10000000
def itemB (x : Itm) : Bool := numB x.v && !(x.mark && x.v != 0)
theorem run_wayOk1 {j : Nat} (x : Itm) : M.run (j + 3) 95 [.agg (tItem x)] = some ([.c (.v (.bool (!itemB x)))], [.agg (tItem x)]) := by
 obtain ⟨m, v⟩ := x
 have e := run67 (j := j) v
 unfold itemB
 rw [m_run (fn := Try.f95) (i0 := 0) rfl Try.func95 rfl rfl (by simp [tItem])]
 simp only
 cases h : numB v
 ·rw [h] at e
  simp -implicitDefEqProofs [tItem, own1, e]
 ·rw [h] at e
  cases m
  ·simp -implicitDefEqProofs [tItem, own1, e]
  ·simp -implicitDefEqProofs [tItem, own1, e]
def H_idxI (l : List Itm) (i : Nat) : St := ⟨[(0, .c (.sl 0 [] 0 l.length)), (1, .fn 95 []), (7, .c (.v (.int .i64 l.length))), (8, .c (.v (.int .i64 i)))], [(0, ⟨.ro, 100, itT l⟩)]⟩
theorem run_idxI {j : Nat} (hj : big ≤ j) (l : List Itm) (hl : l.length ≤ 1048576) : ∃ n : Int, M.run (j + 4) 113 [.c (.r 100 l.length (itT l)), .fn 95 []] = some ([.c (.v (.int .i64 n))], [.c (.r 100 l.length (itT l)), .fn 95 []]) ∧ decide (0 ≤ n) = !l.all itemB := by
 rcases first_bad itemB l with hc | ⟨n, hn, hc, hg⟩
 ·refine ⟨-1, ?_, by rw [all_of hc]; rfl⟩
  rw [m_run (fn := Try.f113) (i0 := 0) rfl Try.func113 rfl rfl (by simp)]
  simp -implicitDefEqProofs
  rw [loop_to (H_idxI l) l.length (by simp -implicitDefEqProofs [H_idxI, hint1]) (by simp [big] at hj; omega) (fun i hi => by
   have e := run_wayOk1 (j := j) l[i]
   rw [hc i hi] at e
   simp only [tItem] at e
   simp -implicitDefEqProofs [H_idxI, hint1, hi, w64 (x := (i : Int) + 1) (by omega), show i * 2 + 2 ≤ l.length * 2 by omega, tItem, e, own1]) (by simp -implicitDefEqProofs [H_idxI, stops])]
  simp -implicitDefEqProofs [H_idxI]
 ·refine ⟨n, ?_, by rw [not_all hn hc]; simp⟩
  rw [m_run (fn := Try.f113) (i0 := 0) rfl Try.func113 rfl rfl (by simp)]
  simp -implicitDefEqProofs
  have e := run_wayOk1 (j := j) l[n]
  rw [hc] at e
  simp only [tItem] at e
  rw [loop_to (H_idxI l) n (by simp -implicitDefEqProofs [H_idxI, hint1]) (by simp [big] at hj; omega) (fun i hi => by
   have e := run_wayOk1 (j := j) (l[i]'(by omega))
   rw [hg i hi] at e
   simp only [tItem] at e
   simp -implicitDefEqProofs [H_idxI, hint1, show i < l.length by omega, w64 (x := (i : Int) + 1) (by omega), show i * 2 + 2 ≤ l.length * 2 by omega, tItem, e, own1]) (by simp -implicitDefEqProofs [H_idxI, stops, hn, e, show n * 2 + 2 ≤ l.length * 2 by omega, tItem, own1])]
  simp -implicitDefEqProofs [H_idxI, hn, e, own1, show n * 2 + 2 ≤ l.length * 2 by omega, tItem]
def wayB (l : List Itm) : Bool := decide (l.length ≤ 12) && l.all itemB
theorem run_implWayOk {j : Nat} (hj : big ≤ j) (l : List Itm) (hl : l.length ≤ 1048576) : M.run (j + 6) 70 [.c (.r 100 l.length (itT l))] = some ([.c (.v (.bool (wayB l)))], [.c (.r 100 l.length (itT l))]) := by
 obtain ⟨n, h1, h2⟩ := run_idxI hj l hl
 have h3 : M.run (j + 5) 94 [.c (.r 100 l.length (itT l)), .fn 95 []] = some ([.c (.v (.bool (!l.all itemB)))], [.c (.r 100 l.length (itT l)), .fn 95 []]) := by
  rw [m_run (fn := Try.f94) (i0 := 0) rfl Try.func94 rfl rfl (by simp)]
  simp -implicitDefEqProofs [h1, own1, ← h2]
 rw [m_run (fn := Try.f70) (i0 := 0) rfl Try.func70 rfl rfl (by simp)]
 unfold wayB
 generalize l.all itemB = q at *
 by_cases h : l.length ≤ 12
 ·simp -implicitDefEqProofs [h3, own1, h, show (l.length : Int) ≤ 12 by omega]
 ·simp -implicitDefEqProofs [h3, own1, h, show ¬ (l.length : Int) ≤ 12 by omega]
theorem run_SysOk1 {j : Nat} (hj : big ≤ j) (l : List Itm) (hl : l.length ≤ 1048576) : M.run (j + 7) 69 [.c (.r 100 l.length (itT l))] = some ([.c (.v (.bool (!wayB l)))], [.c (.r 100 l.length (itT l))]) := by
 have e := run_implWayOk hj l hl
 rw [m_run (fn := Try.f69) (i0 := 0) rfl Try.func69 rfl rfl (by simp)]
 simp -implicitDefEqProofs [e, own1]
/-! ### peers -/
def peerB (e : Ev) (n : Int) : Bool := !((e.kind == 2 || e.kind == 3) && !inB e.peer 0 (n - 1))
theorem run_peersOk1 {j : Nat} (e : Ev) (n : Int) (hn : 0 ≤ n ∧ n ≤ 1048576) : M.run (j + 2) 115 [.agg (tEv e), .box 3 [.v (.int .i64 n)]] = some ([.c (.v (.bool (!peerB e n)))], [.agg (tEv e), .box 3 [.v (.int .i64 n)]]) := by
 obtain ⟨k, p, v⟩ := e
 have e := run64 (j := j) p 0 (n - 1)
 have w := w64 (x := n - 1) (by omega)
 unfold peerB
 rw [m_run (fn := Try.f115) (i0 := 0) rfl Try.func115 rfl rfl (by simp [tEv])]
 simp only
 generalize inB p 0 (n - 1) = q at *
 by_cases h1 : k = 2
 ·simp -implicitDefEqProofs [tEv, own1, e, h1, w]
 ·by_cases h2 : k = 3
  ·simp -implicitDefEqProofs [tEv, own1, e, h1, h2, w]
  ·simp -implicitDefEqProofs [tEv, own1, e, h1, h2, w]
def fnP (n : Int) : A := .fn 115 [.box 3 [.v (.int .i64 n)]]
def H_idxE (l : List Ev) (n : Int) (i : Nat) : St := ⟨[(0, .c (.sl 0 [] 0 l.length)), (1, .fn 115 [.ptr 1 [] 0]), (7, .c (.v (.int .i64 l.length))), (8, .c (.v (.int .i64 i)))], [(0, ⟨.ro, 29, evT l⟩), (1, ⟨.box, 3, [.v (.int .i64 n)]⟩)]⟩
theorem run_idxE {j : Nat} (hj : big ≤ j) (l : List Ev) (n : Int) (h0 : 0 ≤ n ∧ n ≤ 1048576) (hl : l.length ≤ 1048576) : ∃ r : Int, M.run (j + 3) 122 [.c (.r 29 l.length (evT l)), fnP n] = some ([.c (.v (.int .i64 r))], [.c (.r 29 l.length (evT l)), fnP n]) ∧ decide (0 ≤ r) = !l.all fun e => peerB e n := by
 unfold fnP
 rcases first_bad (fun e => peerB e n) l with hc | ⟨m, hm, hc, hg⟩
 ·refine ⟨-1, ?_, by rw [all_of (p := fun e => peerB e n) hc]; rfl⟩
  rw [m_run (fn := Try.f122) (i0 := 0) rfl Try.func122 rfl rfl (by simp)]
  simp -implicitDefEqProofs
  rw [loop_to (H_idxE l n) l.length (by simp -implicitDefEqProofs [H_idxE, hint1]) (by simp [big] at hj; omega) (fun i hi => by
   have e := run_peersOk1 (j := j) l[i] n h0
   rw [hc i hi] at e
   simp only [tEv] at e
   simp -implicitDefEqProofs [H_idxE, hint1, hi, w64 (x := (i : Int) + 1) (by omega), show i * 3 + 3 ≤ l.length * 3 by omega, tEv, e, own1]) (by simp -implicitDefEqProofs [H_idxE, stops])]
  simp -implicitDefEqProofs [H_idxE]
 ·refine ⟨m, ?_, by rw [not_all (p := fun e => peerB e n) hm hc]; simp⟩
  rw [m_run (fn := Try.f122) (i0 := 0) rfl Try.func122 rfl rfl (by simp)]
  simp -implicitDefEqProofs
  have e := run_peersOk1 (j := j) l[m] n h0
  rw [hc] at e
  simp only [tEv] at e
  rw [loop_to (H_idxE l n) m (by simp -implicitDefEqProofs [H_idxE, hint1]) (by simp [big] at hj; omega) (fun i hi => by
   have e := run_peersOk1 (j := j) (l[i]'(by omega)) n h0
   rw [hg i hi] at e
   simp only [tEv] at e
   simp -implicitDefEqProofs [H_idxE, hint1, show i < l.length by omega, w64 (x := (i : Int) + 1) (by omega), show i * 3 + 3 ≤ l.length * 3 by omega, tEv, e, own1]) (by simp -implicitDefEqProofs [H_idxE, stops, hm, e, show m * 3 + 3 ≤ l.length * 3 by omega, tEv, own1])]
  simp -implicitDefEqProofs [H_idxE, hm, e, own1, show m * 3 + 3 ≤ l.length * 3 by omega, tEv]
def peersB (l : List Ev) (n : Int) : Bool := l.all fun e => peerB e n
theorem run_peersOk {j : Nat} (hj : big ≤ j) (l : List Ev) (n : Int) (h0 : 0 ≤ n ∧ n ≤ 1048576) (hl : l.length ≤ 1048576) : M.run (j + 5) 96 [.c (.r 29 l.length (evT l)), .c (.v (.int .i64 n))] = some ([.c (.v (.bool (peersB l n)))], [.c (.r 29 l.length (evT l)), .c (.v (.int .i64 n))]) := by
 obtain ⟨r, h1, h2⟩ := run_idxE hj l n h0 hl
 have h3 : M.run (j + 4) 114 [.c (.r 29 l.length (evT l)), fnP n] = some ([.c (.v (.bool (!peersB l n)))], [.c (.r 29 l.length (evT l)), fnP n]) := by
  unfold fnP at *
  rw [m_run (fn := Try.f114) (i0 := 0) rfl Try.func114 rfl rfl (by simp)]
  simp -implicitDefEqProofs [h1, own1, peersB, ← h2]
 unfold fnP at h3
 rw [m_run (fn := Try.f96) (i0 := 0) rfl Try.func96 rfl rfl (by simp)]
 simp -implicitDefEqProofs [h3, own1]
/-! ### a way, by what was sent and what was taken -/
def H_way1 (l : List Itm) (sent : List Int) (m : Nat) (i : Nat) : St := ⟨[(0, .c (.sl 0 [] 0 l.length)), (1, .c (.sl 1 [] 0 sent.length)), (2, .c (.v (.int .i64 m))), (7, .c (.v (.int .i64 i)))], [(0, ⟨.ro, 100, itT l⟩), (1, ⟨.ro, 3, ints sent⟩)]⟩
def H_way2 (l : List Itm) (sent now : List Int) (m : Nat) (i : Nat) : St := ⟨[(0, .c (.sl 0 [] 0 l.length)), (1, .c (.sl 1 [] 0 sent.length)), (2, .c (.v (.int .i64 m))), (8, .c (.sl 2560 [] 0 now.length)), (9, .c (.v (.int .i64 i)))], [(0, ⟨.ro, 100, itT l⟩), (1, ⟨.ro, 3, ints sent⟩), (2560, ⟨.own, 3, ints now⟩)]⟩
def l4wayB (l : List Itm) (sent : List Int) (m : Nat) : Bool := wayB l && decide (m ≤ sent.length ∧ sent.drop m = numsI l)
theorem drop_eq {sent now : List Int} {m : Nat} (hl : sent.length = m + now.length) : (sent.drop m = now) ↔ ∀ i, i < now.length → now[i]? = sent[m + i]? := by
 constructor
 ·intro h i hi
  rw [← h, List.getElem?_drop]
 ·intro h
  apply List.ext_getElem?
  intro i
  rw [List.getElem?_drop]
  rcases Nat.lt_or_ge i now.length with h' | h'
  ·exact (h i h').symm
  ·rw [List.getElem?_eq_none h', List.getElem?_eq_none (by omega)]
end Go.Proofs.Ytninncdacekfgaa.VM
