/- What is told of events; ways; peers. -/
import Derived.Test.YtninncdacekfgaaGreatK5s
import Derived.Test.YtninncdacekfgaaGreatK2s
set_option linter.unusedSimpArgs false
set_option linter.unusedVariables false
set_option maxRecDepth 100000
set_option maxHeartbeats 10000000
namespace Go.Proofs.YtninncdacekfgaaGreat.VM
open Go Go.Proofs
theorem allTo_or' (p : Nat → Bool) : ∀ n, (∀ i, i < n → p i = true) ∨ ∃ m, m < n ∧ p m = false ∧ ∀ i, i < m → p i = true
 | 0 => .inl fun i hi => by omega
 | n + 1 => by
  rcases allTo_or' p n with h | ⟨m, h1, h2, h3⟩
  ·cases hp : p n with
   | true => exact .inl (fun i hi => by
     rcases Nat.lt_or_ge i n with h' | h'
     ·exact h i h'
     ·have : i = n := by omega
      rw [this]
      exact hp)
   | false => exact .inr ⟨n, by omega, hp, h⟩
  ·exact .inr ⟨m, by omega, h2, h3⟩
def isB (e : Ev) (k p : Int) : Bool := e.kind == k && e.peer == p
def valsE (es : List Ev) (k p : Int) : List Int := (es.filter fun e => isB e k p).map (·.v)
theorem valsE_succ {es : List Ev} {i : Nat} (hi : i < es.length) (k p : Int) : valsE (es.take (i + 1)) k p = valsE (es.take i) k p ++ if isB es[i] k p = true then [es[i].v] else [] := by
 unfold valsE
 rw [List.take_add_one, List.getElem?_eq_getElem hi]
 simp only [Option.toList_some, List.filter_append, List.map_append]
 congr 1
 by_cases h : isB es[i] k p = true <;> simp [h]
theorem valsE_le (es : List Ev) (k p : Int) : (valsE es k p).length ≤ es.length := by
 unfold valsE
 rw [List.length_map]
 exact List.length_filter_le _ _
theorem ints_snoc1 (xs : List Int) (y : Int) : ints xs ++ [.v (.int .i64 y)] = ints (xs ++ [y]) := by simp [ints]
theorem run_isOf {j : Nat} (e : Ev) (k p : Int) : M.run (j + 1) 158 [.agg (tEv e), .c (.v (.int .i64 k)), .c (.v (.int .i64 p))] = some ([.c (.v (.bool (isB e k p)))], [.agg (tEv e), .c (.v (.int .i64 k)), .c (.v (.int .i64 p))]) := by
 rw [m_run (fn := Tryz.f158) (i0 := 0) rfl Tryz.func158 rfl rfl (by simp [tEv])]
 unfold isB
 by_cases h1 : e.kind = k <;> by_cases h2 : e.peer = p <;> simp -implicitDefEqProofs [tEv, h1, h2]
def H_specValues (es : List Ev) (k p : Int) (i : Nat) : St := ⟨[(0, .c (.sl 0 [] 0 es.length)), (1, .c (.v (.int .i64 k))), (2, .c (.v (.int .i64 p))), (7, .c (.sl 640 [] 0 (valsE (es.take i) k p).length)), (8, .c (.v (.int .i64 i)))], [(0, ⟨.ro, 96, evT es⟩), (640, ⟨.own, 3, ints (valsE (es.take i) k p)⟩)]⟩
theorem valsE_most {es : List Ev} (hn : es.length ≤ 1048576) (k p : Int) (i : Nat) : (valsE (es.take i) k p).length + 1 ≤ most := by
 have h1 := valsE_le (es.take i) k p
 have h2 : (es.take i).length ≤ es.length := by simp; omega
 unfold most
 omega
theorem run_specValues {j : Nat} (hj : big ≤ j) (es : List Ev) (k p : Int) (hn : es.length ≤ 1048576) :
  M.run (j + 1) 89 [.c (.r 96 es.length (evT es)), .c (.v (.int .i64 k)), .c (.v (.int .i64 p))] = some ([.c (.s 3 (valsE es k p).length (ints (valsE es k p)))], [.c (.r 96 es.length (evT es)), .c (.v (.int .i64 k)), .c (.v (.int .i64 p))]) := by
 rw [m_run (fn := Tryz.f89) (i0 := 0) rfl Tryz.func89 rfl rfl (by simp)]
 simp -implicitDefEqProofs
 rw [loop_to (H_specValues es k p) es.length (by simp -implicitDefEqProofs [H_specValues, hint1, valsE]) (by simp [big] at hj; omega) (fun i hi => by
  have hs := valsE_succ hi k p
  have hm := valsE_most hn k p i
  unfold isB at hs
  by_cases h1 : es[i].kind = k
  ·by_cases h2 : es[i].peer = p
   ·simp -implicitDefEqProofs [h1, h2] at hs
    simp -implicitDefEqProofs [H_specValues, hint1, hi, h1, h2, evT_0 hi, evT_0g hi, evT_1 hi, evT_2 hi, hs, hm, w64 (x := (i : Int) + 1) (by omega), show i * 3 + 3 ≤ es.length * 3 by omega, ints_snoc1]
   ·simp -implicitDefEqProofs [h1, h2] at hs
    simp -implicitDefEqProofs [H_specValues, hint1, hi, h1, h2, evT_0 hi, evT_0g hi, evT_1 hi, hs, w64 (x := (i : Int) + 1) (by omega), show i * 3 + 3 ≤ es.length * 3 by omega]
  ·simp -implicitDefEqProofs [h1] at hs
   simp -implicitDefEqProofs [H_specValues, hint1, hi, h1, evT_0 hi, evT_0g hi, hs, w64 (x := (i : Int) + 1) (by omega), show i * 3 + 3 ≤ es.length * 3 by omega]) (by simp -implicitDefEqProofs [H_specValues, stops])]
 simp -implicitDefEqProofs [H_specValues]
def H_implValues (es : List Ev) (k p : Int) (i : Nat) : St := ⟨[(1, .c (.v (.int .i64 k))), (2, .c (.v (.int .i64 p))), (7, .c (.sl 704 [] 0 (valsE (es.take i) k p).length)), (11, .c (.sl 0 [] 0 es.length)), (12, .c (.v (.int .i64 es.length))), (13, .c (.v (.int .i64 i)))], [(0, ⟨.ro, 96, evT es⟩), (704, ⟨.own, 3, ints (valsE (es.take i) k p)⟩)]⟩
theorem run_implValues {j : Nat} (hj : big ≤ j) (es : List Ev) (k p : Int) (hn : es.length ≤ 1048576) :
  M.run (j + 2) 108 [.c (.r 96 es.length (evT es)), .c (.v (.int .i64 k)), .c (.v (.int .i64 p))] = some ([.c (.s 3 (valsE es k p).length (ints (valsE es k p)))], [.c (.r 96 es.length (evT es)), .c (.v (.int .i64 k)), .c (.v (.int .i64 p))]) := by
 rw [m_run (fn := Tryz.f108) (i0 := 0) rfl Tryz.func108 rfl rfl (by simp)]
 simp -implicitDefEqProofs
 rw [loop_to (H_implValues es k p) es.length (by simp -implicitDefEqProofs [H_implValues, hint1, valsE]) (by simp [big] at hj; omega) (fun i hi => by
  have hs := valsE_succ hi k p
  have hm := valsE_most hn k p i
  have e := run_isOf (j := j) es[i] k p
  simp only [tEv] at e
  cases h : isB es[i] k p
  ·rw [h] at hs e
   simp -implicitDefEqProofs at hs
   simp -implicitDefEqProofs [H_implValues, hint1, hi, own1, tEv, e, hs, w64 (x := (i : Int) + 1) (by omega), show i * 3 + 3 ≤ es.length * 3 by omega]
  ·rw [h] at hs e
   simp -implicitDefEqProofs at hs
   simp -implicitDefEqProofs [H_implValues, hint1, hi, own1, tEv, e, hs, hm, w64 (x := (i : Int) + 1) (by omega), show i * 3 + 3 ≤ es.length * 3 by omega, ints_snoc1]) (by simp -implicitDefEqProofs [H_implValues, stops])]
 simp -implicitDefEqProofs [H_implValues]
theorem run_specCount {j : Nat} (hj : big ≤ j) (es : List Ev) (k p : Int) (hn : es.length ≤ 1048576) :
  M.run (j + 2) 99 [.c (.r 96 es.length (evT es)), .c (.v (.int .i64 k)), .c (.v (.int .i64 p))] = some ([.c (.v (.int .i64 (valsE es k p).length))], [.c (.r 96 es.length (evT es)), .c (.v (.int .i64 k)), .c (.v (.int .i64 p))]) := by
 have e := run_specValues hj es k p hn
 rw [m_run (fn := Tryz.f99) (i0 := 0) rfl Tryz.func99 rfl rfl (by simp)]
 simp -implicitDefEqProofs [own1, e]
theorem run_implCount {j : Nat} (hj : big ≤ j) (es : List Ev) (k p : Int) (hn : es.length ≤ 1048576) :
  M.run (j + 3) 109 [.c (.r 96 es.length (evT es)), .c (.v (.int .i64 k)), .c (.v (.int .i64 p))] = some ([.c (.v (.int .i64 (valsE es k p).length))], [.c (.r 96 es.length (evT es)), .c (.v (.int .i64 k)), .c (.v (.int .i64 p))]) := by
 have e := run_implValues hj es k p hn
 rw [m_run (fn := Tryz.f109) (i0 := 0) rfl Tryz.func109 rfl rfl (by simp)]
 simp -implicitDefEqProofs [own1, e]
def numsI (l : List Itm) : List Int := (l.filter fun x => !x.mark).map (·.v)
theorem numsI_succ {l : List Itm} {i : Nat} (hi : i < l.length) : numsI (l.take (i + 1)) = numsI (l.take i) ++ if l[i].mark = true then [] else [l[i].v] := by
 unfold numsI
 rw [List.take_add_one, List.getElem?_eq_getElem hi]
 simp only [Option.toList_some, List.filter_append, List.map_append]
 congr 1
 by_cases h : l[i].mark = true <;> simp [h]
theorem numsI_le (l : List Itm) : (numsI l).length ≤ l.length := by
 unfold numsI
 rw [List.length_map]
 exact List.length_filter_le _ _
theorem numsI_most {l : List Itm} (hn : l.length ≤ 1048576) (i : Nat) : (numsI (l.take i)).length + 1 ≤ most := by
 have h1 := numsI_le (l.take i)
 have h2 : (l.take i).length ≤ l.length := by simp; omega
 unfold most
 omega
def H_specNumbers (l : List Itm) (i : Nat) : St := ⟨[(0, .c (.sl 0 [] 0 l.length)), (3, .c (.sl 384 [] 0 (numsI (l.take i)).length)), (4, .c (.v (.int .i64 i)))], [(0, ⟨.ro, 99, itT l⟩), (384, ⟨.own, 3, ints (numsI (l.take i))⟩)]⟩
theorem run_specNumbers {j : Nat} (hj : big ≤ j) (l : List Itm) (hn : l.length ≤ 1048576) :
  M.run (j + 1) 143 [.c (.r 99 l.length (itT l))] = some ([.c (.s 3 (numsI l).length (ints (numsI l)))], [.c (.r 99 l.length (itT l))]) := by
 rw [m_run (fn := Tryz.f143) (i0 := 0) rfl Tryz.func143 rfl rfl (by simp)]
 simp -implicitDefEqProofs
 rw [loop_to (H_specNumbers l) l.length (by simp -implicitDefEqProofs [H_specNumbers, hint1, numsI]) (by simp [big] at hj; omega) (fun i hi => by
  have hs := numsI_succ hi
  have hm := numsI_most hn i
  cases h : l[i].mark
  ·rw [h] at hs
   simp -implicitDefEqProofs at hs
   simp -implicitDefEqProofs [H_specNumbers, hint1, hi, h, itT_0 hi, itT_0g hi, itT_1 hi, hs, hm, w64 (x := (i : Int) + 1) (by omega), show i * 2 + 2 ≤ l.length * 2 by omega, ints_snoc1]
  ·rw [h] at hs
   simp -implicitDefEqProofs at hs
   simp -implicitDefEqProofs [H_specNumbers, hint1, hi, h, itT_0 hi, itT_0g hi, hs, w64 (x := (i : Int) + 1) (by omega)]) (by simp -implicitDefEqProofs [H_specNumbers, stops])]
 simp -implicitDefEqProofs [H_specNumbers]
def H_implNumbers (l : List Itm) (i : Nat) : St := ⟨[(3, .c (.sl 448 [] 0 (numsI (l.take i)).length)), (7, .c (.sl 0 [] 0 l.length)), (8, .c (.v (.int .i64 l.length))), (9, .c (.v (.int .i64 i)))], [(0, ⟨.ro, 99, itT l⟩), (448, ⟨.own, 3, ints (numsI (l.take i))⟩)]⟩
theorem run_implNumbers {j : Nat} (hj : big ≤ j) (l : List Itm) (hn : l.length ≤ 1048576) :
  M.run (j + 1) 134 [.c (.r 99 l.length (itT l))] = some ([.c (.s 3 (numsI l).length (ints (numsI l)))], [.c (.r 99 l.length (itT l))]) := by
 rw [m_run (fn := Tryz.f134) (i0 := 0) rfl Tryz.func134 rfl rfl (by simp)]
 simp -implicitDefEqProofs
 rw [loop_to (H_implNumbers l) l.length (by simp -implicitDefEqProofs [H_implNumbers, hint1, numsI]) (by simp [big] at hj; omega) (fun i hi => by
  have hs := numsI_succ hi
  have hm := numsI_most hn i
  cases h : l[i].mark
  ·rw [h] at hs
   simp -implicitDefEqProofs at hs
   simp -implicitDefEqProofs [H_implNumbers, hint1, hi, h, tItem, hs, hm, w64 (x := (i : Int) + 1) (by omega), show i * 2 + 2 ≤ l.length * 2 by omega, ints_snoc1]
  ·rw [h] at hs
   simp -implicitDefEqProofs at hs
   simp -implicitDefEqProofs [H_implNumbers, hint1, hi, h, tItem, hs, w64 (x := (i : Int) + 1) (by omega), show i * 2 + 2 ≤ l.length * 2 by omega]) (by simp -implicitDefEqProofs [H_implNumbers, stops])]
 simp -implicitDefEqProofs [H_implNumbers]
theorem eq_all {xs ys : List Int} (hl : xs.length = ys.length) (h : ∀ i, i < xs.length → xs[i]? = ys[i]?) : xs = ys := by
 apply List.ext_getElem?
 intro i
 rcases Nat.lt_or_ge i xs.length with h' | h'
 ·exact h i h'
 ·rw [List.getElem?_eq_none h', List.getElem?_eq_none (by omega)]
def H_equalI (xs ys : List Int) (i : Nat) : St := ⟨[(0, .c (.sl 0 [] 0 xs.length)), (1, .c (.sl 1 [] 0 ys.length)), (12, .c (.v (.int .i64 xs.length))), (13, .c (.v (.int .i64 i)))], [(0, ⟨.ro, 3, ints xs⟩), (1, ⟨.ro, 3, ints ys⟩)]⟩
theorem run_equalI {j : Nat} (hj : big ≤ j) (xs ys : List Int) (hn : xs.length ≤ 4294967296) :
  M.run (j + 1) 132 [.c (.r 3 xs.length (ints xs)), .c (.r 3 ys.length (ints ys))] = some ([.c (.v (.bool (decide (xs = ys))))], [.c (.r 3 xs.length (ints xs)), .c (.r 3 ys.length (ints ys))]) := by
 rw [m_run (fn := Tryz.f132) (i0 := 0) rfl Tryz.func132 rfl rfl (by simp)]
 by_cases hl : xs.length = ys.length
 ·simp -implicitDefEqProofs [hl]
  rw [← hl]
  rcases allTo_or' (fun i => decide (xs[i]? = ys[i]?)) xs.length with hall | ⟨m, hm, hbad, hall⟩
  ·have he : xs = ys := eq_all hl fun i hi => by simpa using hall i hi
   subst he
   rw [loop_to (H_equalI xs xs) xs.length (by simp -implicitDefEqProofs [H_equalI, hint1]) (by simp [big] at hj; omega) (fun i hi => by
    simp -implicitDefEqProofs [H_equalI, hint1, hi, ints_get hi, show i + 1 ≤ xs.length by omega, w64 (x := (i : Int) + 1) (by omega)]) (by simp -implicitDefEqProofs [H_equalI, stops])]
   simp -implicitDefEqProofs [H_equalI]
  ·have hm2 : m < ys.length := by omega
   have hne : ¬ xs[m] = ys[m] := by
    rw [List.getElem?_eq_getElem hm, List.getElem?_eq_getElem hm2] at hbad
    simpa using hbad
   have he : ¬ xs = ys := fun e => by subst e; exact hne rfl
   rw [loop_to (H_equalI xs ys) m (by simp -implicitDefEqProofs [H_equalI, hint1, hl]) (by simp [big] at hj; omega) (fun i hi => by
    have h1 : i < xs.length := by omega
    have h2 : i < ys.length := by omega
    have h3 : xs[i] = ys[i] := by
     have := hall i hi
     rw [List.getElem?_eq_getElem h1, List.getElem?_eq_getElem h2] at this
     simpa using this
    simp -implicitDefEqProofs [H_equalI, hint1, h1, h2, h3, ints_get h1, ints_get h2, show i + 1 ≤ xs.length by omega, show i + 1 ≤ ys.length by omega, w64 (x := (i : Int) + 1) (by omega)]) (by simp -implicitDefEqProofs [H_equalI, stops, hm, hm2, hne, ints_get hm, ints_get hm2, show m + 1 ≤ xs.length by omega, show m + 1 ≤ ys.length by omega])]
   simp -implicitDefEqProofs [H_equalI, hm, hm2, hne, he, ints_get hm, ints_get hm2, show m + 1 ≤ xs.length by omega, show m + 1 ≤ ys.length by omega]
 ·have he : ¬ xs = ys := fun e => hl (by rw [e])
  simp -implicitDefEqProofs [hl, he, show ¬ (xs.length : Int) = ys.length by omega]
end Go.Proofs.YtninncdacekfgaaGreat.VM
namespace Go.Proofs.YtninncdacekfgaaGreat.VM
open Go Go.Proofs
def sameB (a b : Sta) : Bool := a.at_ == b.at_ && (a.code == b.code && (decide (a.regs = b.regs) && decide (a.out = b.out)))
theorem run_sameState {j : Nat} (hj : big ≤ j) (a b : Sta) (h1 : a.regs.length ≤ 1048576) (h2 : a.out.length ≤ 1048576) :
  M.run (j + 2) 131 [.agg (tSta a), .agg (tSta b)] = some ([.c (.v (.bool (sameB a b)))], [.agg (tSta a), .agg (tSta b)]) := by
 obtain ⟨a1, xs, ys, c⟩ := a
 obtain ⟨a2, us, vs, d⟩ := b
 simp only at h1 h2
 have e1 := run_equalI hj xs us (by omega)
 have e2 := run_equalI hj ys vs (by omega)
 unfold sameB
 rw [m_run (fn := Tryz.f131) (i0 := 0) rfl Tryz.func131 rfl rfl (by simp [tSta, stR])]
 simp only
 generalize decide (xs = us) = q1 at *
 generalize decide (ys = vs) = q2 at *
 by_cases k1 : a1 = a2
 ·by_cases k2 : c = d
  ·cases q1
   ·simp -implicitDefEqProofs [tSta, stR, own1, k1, k2, e1]
   ·simp -implicitDefEqProofs [tSta, stR, own1, k1, k2, e1, e2]
  ·simp -implicitDefEqProofs [tSta, stR, own1, k1, k2]
 ·simp -implicitDefEqProofs [tSta, stR, own1, k1]
def boxS (i : Nat) (a : Int) (n m : Nat) (c : Int) : Obj := ⟨.box, 71, [.v (.int .i64 a), .l i [] 0 n, .l (i + 1) [] 0 m, .v (.int .i64 c)]⟩
def H_same1 (a c a' c' : Int) (xs ys us vs : List Int) (i : Nat) : St := ⟨[(2, .ptr 192 [] 0), (3, .ptr 256 [] 0), (5, .c (.v (.int .i64 i)))], [(0, ⟨.ro, 3, ints xs⟩), (1, ⟨.ro, 3, ints ys⟩), (2, ⟨.ro, 3, ints us⟩), (3, ⟨.ro, 3, ints vs⟩), (192, boxS 0 a xs.length ys.length c), (256, boxS 2 a' us.length vs.length c')]⟩
def H_same2 (a c a' c' : Int) (xs ys us vs : List Int) (i : Nat) : St := ⟨[(2, .ptr 192 [] 0), (3, .ptr 256 [] 0), (6, .c (.v (.int .i64 i)))], [(0, ⟨.ro, 3, ints xs⟩), (1, ⟨.ro, 3, ints ys⟩), (2, ⟨.ro, 3, ints us⟩), (3, ⟨.ro, 3, ints vs⟩), (192, boxS 0 a xs.length ys.length c), (256, boxS 2 a' us.length vs.length c')]⟩
theorem getN {xs ys : List Int} {i : Nat} (h1 : i < xs.length) (h2 : i < ys.length) {b : Bool} (h : decide (xs[i]? = ys[i]?) = b) : decide (xs[i] = ys[i]) = b := by
 rw [List.getElem?_eq_getElem h1, List.getElem?_eq_getElem h2] at h
 simpa using h
theorem run_l4SameState {j : Nat} (hj : big ≤ j) (a b : Sta) (h1 : a.regs.length ≤ 1048576) (h2 : a.out.length ≤ 1048576) :
  M.run (j + 1) 88 [.agg (tSta a), .agg (tSta b)] = some ([.c (.v (.bool (sameB a b)))], [.agg (tSta a), .agg (tSta b)]) := by
 obtain ⟨a1, xs, ys, c⟩ := a
 obtain ⟨a2, us, vs, d⟩ := b
 simp only at h1 h2
 unfold sameB
 rw [m_run (fn := Tryz.f88) (i0 := 0) rfl Tryz.func88 rfl rfl (by simp [tSta, stR])]
 simp only
 by_cases k1 : a1 = a2
 rotate_left
 ·simp -implicitDefEqProofs [tSta, stR, own1, k1]
 by_cases k2 : c = d
 rotate_left
 ·simp -implicitDefEqProofs [tSta, stR, own1, k1, k2]
 by_cases k3 : xs.length = us.length
 rotate_left
 ·simp -implicitDefEqProofs [tSta, stR, own1, k1, k2, show ¬ (xs.length : Int) = us.length by omega, show ¬ xs = us from fun e => k3 (by rw [e])]
 by_cases k4 : ys.length = vs.length
 rotate_left
 ·simp -implicitDefEqProofs [tSta, stR, own1, k1, k2, k3, show ¬ (ys.length : Int) = vs.length by omega, show ¬ ys = vs from fun e => k4 (by rw [e])]
 simp -implicitDefEqProofs [tSta, stR, own1, k1, k2, k3, k4]
 rcases allTo_or' (fun i => decide (xs[i]? = us[i]?)) xs.length with hall | ⟨m, hm, hbad, hall⟩
 ·have he : xs = us := eq_all k3 fun i hi => by simpa using hall i hi
  subst he
  rw [loop_to (H_same1 a2 d a2 d xs ys xs vs) xs.length (by simp -implicitDefEqProofs [H_same1, boxS, hint1, k4]) (by simp [big] at hj; omega) (fun i hi => by
   simp -implicitDefEqProofs [H_same1, boxS, hint1, hi, ints_get hi, w64 (x := (i : Int) + 1) (by omega)]) (by simp -implicitDefEqProofs [H_same1, boxS, stops])]
  simp -implicitDefEqProofs [H_same1, boxS]
  rcases allTo_or' (fun i => decide (ys[i]? = vs[i]?)) ys.length with hall2 | ⟨m, hm, hbad, hall2⟩
  ·have he : ys = vs := eq_all k4 fun i hi => by simpa using hall2 i hi
   subst he
   rw [loop_to (H_same2 a2 d a2 d xs ys xs ys) ys.length (by simp -implicitDefEqProofs [H_same2, boxS, hint1]) (by simp [big] at hj; omega) (fun i hi => by
    simp -implicitDefEqProofs [H_same2, boxS, hint1, hi, ints_get hi, w64 (x := (i : Int) + 1) (by omega)]) (by simp -implicitDefEqProofs [H_same2, boxS, stops])]
   simp -implicitDefEqProofs [H_same2, boxS]
  ·have hm2 : m < vs.length := by omega
   have hne : ¬ ys[m] = vs[m] := by simpa using getN hm hm2 hbad
   have he : ¬ ys = vs := fun e => by subst e; exact hne rfl
   rw [loop_to (H_same2 a2 d a2 d xs ys xs vs) m (by simp -implicitDefEqProofs [H_same2, boxS, hint1, k4]) (by simp [big] at hj; omega) (fun i hi => by
    have l1 : i < ys.length := by omega
    have l2 : i < vs.length := by omega
    have l3 : ys[i] = vs[i] := by simpa using getN l1 l2 (hall2 i hi)
    simp -implicitDefEqProofs [H_same2, boxS, hint1, l1, l2, l3, ints_get l1, ints_get l2, w64 (x := (i : Int) + 1) (by omega)]) (by simp -implicitDefEqProofs [H_same2, boxS, stops, hm, hm2, hne, ints_get hm, ints_get hm2])]
   simp -implicitDefEqProofs [H_same2, boxS, hm, hm2, hne, he, ints_get hm, ints_get hm2]
 ·have hm2 : m < us.length := by omega
  have hne : ¬ xs[m] = us[m] := by simpa using getN hm hm2 hbad
  have he : ¬ xs = us := fun e => by subst e; exact hne rfl
  rw [loop_to (H_same1 a2 d a2 d xs ys us vs) m (by simp -implicitDefEqProofs [H_same1, boxS, hint1, k3, k4]) (by simp [big] at hj; omega) (fun i hi => by
   have l1 : i < xs.length := by omega
   have l2 : i < us.length := by omega
   have l3 : xs[i] = us[i] := by simpa using getN l1 l2 (hall i hi)
   simp -implicitDefEqProofs [H_same1, boxS, hint1, l1, l2, l3, ints_get l1, ints_get l2, w64 (x := (i : Int) + 1) (by omega)]) (by simp -implicitDefEqProofs [H_same1, boxS, stops, hm, hm2, hne, ints_get hm, ints_get hm2])]
  simp -implicitDefEqProofs [H_same1, boxS, hm, hm2, hne, he, ints_get hm, ints_get hm2]
end Go.Proofs.YtninncdacekfgaaGreat.VM
namespace Go.Proofs.YtninncdacekfgaaGreat.VM
open Go Go.Proofs
def itemB (x : Itm) : Bool := numB x.v && !(x.mark && x.v != 0)
theorem run_wayOk1 {j : Nat} (x : Itm) : M.run (j + 3) 128 [.agg (tItem x)] = some ([.c (.v (.bool (!itemB x)))], [.agg (tItem x)]) := by
 obtain ⟨m, v⟩ := x
 have e := run67 (j := j) v
 unfold itemB
 rw [m_run (fn := Tryz.f128) (i0 := 0) rfl Tryz.func128 rfl rfl (by simp [tItem])]
 simp only
 cases h : numB v
 ·rw [h] at e
  simp -implicitDefEqProofs [tItem, own1, e]
 ·rw [h] at e
  cases m
  ·simp -implicitDefEqProofs [tItem, own1, e]
  ·simp -implicitDefEqProofs [tItem, own1, e]
def H_idxI (l : List Itm) (i : Nat) : St := ⟨[(0, .c (.sl 0 [] 0 l.length)), (1, .fn 128 []), (7, .c (.v (.int .i64 l.length))), (8, .c (.v (.int .i64 i)))], [(0, ⟨.ro, 99, itT l⟩)]⟩
theorem run_idxI {j : Nat} (hj : big ≤ j) (l : List Itm) (hl : l.length ≤ 1048576) : ∃ n : Int, M.run (j + 4) 166 [.c (.r 99 l.length (itT l)), .fn 128 []] = some ([.c (.v (.int .i64 n))], [.c (.r 99 l.length (itT l)), .fn 128 []]) ∧ decide (0 ≤ n) = !l.all itemB := by
 rcases first_bad itemB l with hc | ⟨n, hn, hc, hg⟩
 ·refine ⟨-1, ?_, by rw [all_of hc]; rfl⟩
  rw [m_run (fn := Tryz.f166) (i0 := 0) rfl Tryz.func166 rfl rfl (by simp)]
  simp -implicitDefEqProofs
  rw [loop_to (H_idxI l) l.length (by simp -implicitDefEqProofs [H_idxI, hint1]) (by simp [big] at hj; omega) (fun i hi => by
   have e := run_wayOk1 (j := j) l[i]
   rw [hc i hi] at e
   simp only [tItem] at e
   simp -implicitDefEqProofs [H_idxI, hint1, hi, w64 (x := (i : Int) + 1) (by omega), show i * 2 + 2 ≤ l.length * 2 by omega, tItem, e, own1]) (by simp -implicitDefEqProofs [H_idxI, stops])]
  simp -implicitDefEqProofs [H_idxI]
 ·refine ⟨n, ?_, by rw [not_all hn hc]; simp⟩
  rw [m_run (fn := Tryz.f166) (i0 := 0) rfl Tryz.func166 rfl rfl (by simp)]
  simp -implicitDefEqProofs
  have e := run_wayOk1 (j := j) l[n]
  rw [hc] at e
  simp only [tItem] at e
  rw [loop_to (H_idxI l) n (by simp -implicitDefEqProofs [H_idxI, hint1]) (by simp [big] at hj; omega) (fun i hi => by
   have e := run_wayOk1 (j := j) (l[i]'(by omega))
   rw [hg i hi] at e
   simp only [tItem] at e
   simp -implicitDefEqProofs [H_idxI, hint1, show i < l.length by omega, w64 (x := (i : Int) + 1) (by omega), show i * 2 + 2 ≤ l.length * 2 by omega, tItem, e, own1]) (by simp -implicitDefEqProofs [H_idxI, stops, hn, e, show n * 2 + 2 ≤ l.length * 2 by omega, tItem, own1])]
  simp -implicitDefEqProofs [H_idxI, hn, e, own1, show n * 2 + 2 ≤ l.length * 2 by omega, tItem]
def wayB (l : List Itm) : Bool := decide (l.length ≤ 12) && l.all itemB
theorem run_implWayOk {j : Nat} (hj : big ≤ j) (l : List Itm) (hl : l.length ≤ 1048576) : M.run (j + 6) 74 [.c (.r 99 l.length (itT l))] = some ([.c (.v (.bool (wayB l)))], [.c (.r 99 l.length (itT l))]) := by
 obtain ⟨n, h1, h2⟩ := run_idxI hj l hl
 have h3 : M.run (j + 5) 127 [.c (.r 99 l.length (itT l)), .fn 128 []] = some ([.c (.v (.bool (!l.all itemB)))], [.c (.r 99 l.length (itT l)), .fn 128 []]) := by
  rw [m_run (fn := Tryz.f127) (i0 := 0) rfl Tryz.func127 rfl rfl (by simp)]
  simp -implicitDefEqProofs [h1, own1, ← h2]
 rw [m_run (fn := Tryz.f74) (i0 := 0) rfl Tryz.func74 rfl rfl (by simp)]
 unfold wayB
 generalize l.all itemB = q at *
 by_cases h : l.length ≤ 12
 ·simp -implicitDefEqProofs [h3, own1, h, show (l.length : Int) ≤ 12 by omega]
 ·simp -implicitDefEqProofs [h3, own1, h, show ¬ (l.length : Int) ≤ 12 by omega]
theorem run_SysOk1 {j : Nat} (hj : big ≤ j) (l : List Itm) (hl : l.length ≤ 1048576) : M.run (j + 7) 73 [.c (.r 99 l.length (itT l))] = some ([.c (.v (.bool (!wayB l)))], [.c (.r 99 l.length (itT l))]) := by
 have e := run_implWayOk hj l hl
 rw [m_run (fn := Tryz.f73) (i0 := 0) rfl Tryz.func73 rfl rfl (by simp)]
 simp -implicitDefEqProofs [e, own1]
def peerB (e : Ev) (n : Int) : Bool := !((e.kind == 2 || e.kind == 3) && !inB e.peer 0 (n - 1))
theorem run_peersOk1 {j : Nat} (e : Ev) (n : Int) (hn : 0 ≤ n ∧ n ≤ 1048576) : M.run (j + 2) 157 [.agg (tEv e), .box 3 [.v (.int .i64 n)]] = some ([.c (.v (.bool (!peerB e n)))], [.agg (tEv e), .box 3 [.v (.int .i64 n)]]) := by
 obtain ⟨k, p, v⟩ := e
 have e := run64 (j := j) p 0 (n - 1)
 have w := w64 (x := n - 1) (by omega)
 unfold peerB
 rw [m_run (fn := Tryz.f157) (i0 := 0) rfl Tryz.func157 rfl rfl (by simp [tEv])]
 simp only
 generalize inB p 0 (n - 1) = q at *
 by_cases h1 : k = 2
 ·simp -implicitDefEqProofs [tEv, own1, e, h1, w]
 ·by_cases h2 : k = 3
  ·simp -implicitDefEqProofs [tEv, own1, e, h1, h2, w]
  ·simp -implicitDefEqProofs [tEv, own1, e, h1, h2, w]
def fnP (n : Int) : A := .fn 157 [.box 3 [.v (.int .i64 n)]]
def H_idxE (l : List Ev) (n : Int) (i : Nat) : St := ⟨[(0, .c (.sl 0 [] 0 l.length)), (1, .fn 157 [.ptr 1 [] 0]), (7, .c (.v (.int .i64 l.length))), (8, .c (.v (.int .i64 i)))], [(0, ⟨.ro, 96, evT l⟩), (1, ⟨.box, 3, [.v (.int .i64 n)]⟩)]⟩
theorem run_idxE {j : Nat} (hj : big ≤ j) (l : List Ev) (n : Int) (h0 : 0 ≤ n ∧ n ≤ 1048576) (hl : l.length ≤ 1048576) : ∃ r : Int, M.run (j + 3) 177 [.c (.r 96 l.length (evT l)), fnP n] = some ([.c (.v (.int .i64 r))], [.c (.r 96 l.length (evT l)), fnP n]) ∧ decide (0 ≤ r) = !l.all fun e => peerB e n := by
 unfold fnP
 rcases first_bad (fun e => peerB e n) l with hc | ⟨m, hm, hc, hg⟩
 ·refine ⟨-1, ?_, by rw [all_of (p := fun e => peerB e n) hc]; rfl⟩
  rw [m_run (fn := Tryz.f177) (i0 := 0) rfl Tryz.func177 rfl rfl (by simp)]
  simp -implicitDefEqProofs
  rw [loop_to (H_idxE l n) l.length (by simp -implicitDefEqProofs [H_idxE, hint1]) (by simp [big] at hj; omega) (fun i hi => by
   have e := run_peersOk1 (j := j) l[i] n h0
   rw [hc i hi] at e
   simp only [tEv] at e
   simp -implicitDefEqProofs [H_idxE, hint1, hi, w64 (x := (i : Int) + 1) (by omega), show i * 3 + 3 ≤ l.length * 3 by omega, tEv, e, own1]) (by simp -implicitDefEqProofs [H_idxE, stops])]
  simp -implicitDefEqProofs [H_idxE]
 ·refine ⟨m, ?_, by rw [not_all (p := fun e => peerB e n) hm hc]; simp⟩
  rw [m_run (fn := Tryz.f177) (i0 := 0) rfl Tryz.func177 rfl rfl (by simp)]
  simp -implicitDefEqProofs
  have e := run_peersOk1 (j := j) l[m] n h0
  rw [hc] at e
  simp only [tEv] at e
  rw [loop_to (H_idxE l n) m (by simp -implicitDefEqProofs [H_idxE, hint1]) (by simp [big] at hj; omega) (fun i hi => by
   have e := run_peersOk1 (j := j) (l[i]'(by omega)) n h0
   rw [hg i hi] at e
   simp only [tEv] at e
   simp -implicitDefEqProofs [H_idxE, hint1, show i < l.length by omega, w64 (x := (i : Int) + 1) (by omega), show i * 3 + 3 ≤ l.length * 3 by omega, tEv, e, own1]) (by simp -implicitDefEqProofs [H_idxE, stops, hm, e, show m * 3 + 3 ≤ l.length * 3 by omega, tEv, own1])]
  simp -implicitDefEqProofs [H_idxE, hm, e, own1, show m * 3 + 3 ≤ l.length * 3 by omega, tEv]
def peersB (l : List Ev) (n : Int) : Bool := l.all fun e => peerB e n
theorem run_peersOk {j : Nat} (hj : big ≤ j) (l : List Ev) (n : Int) (h0 : 0 ≤ n ∧ n ≤ 1048576) (hl : l.length ≤ 1048576) : M.run (j + 5) 107 [.c (.r 96 l.length (evT l)), .c (.v (.int .i64 n))] = some ([.c (.v (.bool (peersB l n)))], [.c (.r 96 l.length (evT l)), .c (.v (.int .i64 n))]) := by
 obtain ⟨r, h1, h2⟩ := run_idxE hj l n h0 hl
 have h3 : M.run (j + 4) 156 [.c (.r 96 l.length (evT l)), fnP n] = some ([.c (.v (.bool (!peersB l n)))], [.c (.r 96 l.length (evT l)), fnP n]) := by
  unfold fnP at *
  rw [m_run (fn := Tryz.f156) (i0 := 0) rfl Tryz.func156 rfl rfl (by simp)]
  simp -implicitDefEqProofs [h1, own1, peersB, ← h2]
 unfold fnP at h3
 rw [m_run (fn := Tryz.f107) (i0 := 0) rfl Tryz.func107 rfl rfl (by simp)]
 simp -implicitDefEqProofs [h3, own1]
def H_way1 (l : List Itm) (sent : List Int) (m : Nat) (i : Nat) : St := ⟨[(0, .c (.sl 0 [] 0 l.length)), (1, .c (.sl 1 [] 0 sent.length)), (2, .c (.v (.int .i64 m))), (7, .c (.v (.int .i64 i)))], [(0, ⟨.ro, 99, itT l⟩), (1, ⟨.ro, 3, ints sent⟩)]⟩
def H_way2 (l : List Itm) (sent now : List Int) (m : Nat) (i : Nat) : St := ⟨[(0, .c (.sl 0 [] 0 l.length)), (1, .c (.sl 1 [] 0 sent.length)), (2, .c (.v (.int .i64 m))), (8, .c (.sl 2560 [] 0 now.length)), (9, .c (.v (.int .i64 i)))], [(0, ⟨.ro, 99, itT l⟩), (1, ⟨.ro, 3, ints sent⟩), (2560, ⟨.own, 3, ints now⟩)]⟩
def l4wayB (l : List Itm) (sent : List Int) (m : Nat) : Bool := wayB l && decide (m ≤ sent.length ∧ sent.drop m = numsI l)
theorem drop_eq {sent now : List Int} {m : Nat} (hl : sent.length = m + now.length) : (sent.drop m = now) ↔ ∀ i, i < now.length → now[i]? = sent[m + i]? := by
 constructor
 ·intro h i hi
  rw [← h, List.getElem?_drop]
 ·intro h
  apply List.ext_getElem?
  intro i
  rw [List.getElem?_drop]
  rcases Nat.lt_or_ge i now.length with h' | h'
  ·exact (h i h').symm
  ·rw [List.getElem?_eq_none h', List.getElem?_eq_none (by omega)]
theorem run_l4Way {j : Nat} (hj : big ≤ j) (l : List Itm) (sent : List Int) (m : Nat) (hl : l.length ≤ 1048576) (hs : sent.length ≤ 1048576) (hm : m ≤ 1048576) :
  M.run (j + 3) 90 [.c (.r 99 l.length (itT l)), .c (.r 3 sent.length (ints sent)), .c (.v (.int .i64 m))] = some ([.c (.v (.bool (l4wayB l sent m)))], [.c (.r 99 l.length (itT l)), .c (.r 3 sent.length (ints sent)), .c (.v (.int .i64 m))]) := by
 have step : ∀ i (hi : i < l.length), itemB l[i] = true → (numB l[i].v = true ∧ (l[i].mark = true → l[i].v = 0)) := fun i hi h => by
  unfold itemB at h
  simp only [Bool.and_eq_true, Bool.not_eq_true', Bool.and_eq_false_iff, bne_eq_false_iff_eq] at h
  exact ⟨h.1, fun hm => h.2.resolve_left (by rw [hm]; simp)⟩
 rw [m_run (fn := Tryz.f90) (i0 := 0) rfl Tryz.func90 rfl rfl (by simp)]
 simp -implicitDefEqProofs
 rcases first_bad itemB l with hc | ⟨n, hn, hc, hg⟩
 ·have ha : l.all itemB = true := all_of hc
  rw [loop_to (H_way1 l sent m) l.length (by simp -implicitDefEqProofs [H_way1, hint1]) (by simp [big] at hj; omega) (fun i hi => by
   have e := run62 (j := j) l[i].v
   obtain ⟨h1, h2⟩ := step i hi (hc i hi)
   rw [h1] at e
   cases hk : l[i].mark
   ·simp -implicitDefEqProofs [H_way1, hint1, hi, w64 (x := (i : Int) + 1) (by omega), own1, e, itT_0 hi, itT_0g hi, itT_1 hi, hk]
   ·rw [h2 hk] at e
    simp -implicitDefEqProofs [H_way1, hint1, hi, w64 (x := (i : Int) + 1) (by omega), own1, e, itT_0 hi, itT_0g hi, itT_1 hi, hk, h2 hk]) (by simp -implicitDefEqProofs [H_way1, stops])]
  have e := run_specNumbers (j := j + 1) (by omega) l hl
  have hnl := numsI_le l
  unfold l4wayB wayB
  rw [ha]
  generalize numsI l = now at *
  have w := w64 (x := (sent.length : Int) - m) (by omega)
  by_cases k1 : l.length ≤ 12
  rotate_left
  ·simp -implicitDefEqProofs [H_way1, own1, e, k1, show ¬ (l.length : Int) ≤ 12 by omega, show (12 : Int) < l.length by omega]
  by_cases k2 : sent.length = m + now.length
  rotate_left
  ·have k3 : ¬ (m ≤ sent.length ∧ sent.drop m = now) := fun ⟨h1, h2⟩ => k2 (by rw [← h2, List.length_drop]; omega)
   simp -implicitDefEqProofs [H_way1, own1, e, k1, w, k3, show ¬ (12 : Int) < l.length by omega, show ¬ ((sent.length : Int) - m = now.length) by omega]
  have k4 : (sent.length : Int) - m = now.length := by omega
  simp -implicitDefEqProofs [H_way1, own1, e, k1, w, k4, w64 (x := (now.length : Int)) (by omega), show ¬ (12 : Int) < l.length by omega, show m ≤ sent.length by omega]
  rcases allTo_or' (fun i => decide (now[i]? = sent[m + i]?)) now.length with hall | ⟨n, hn, hbad, hall⟩
  ·have hd : sent.drop m = now := (drop_eq k2).2 fun i hi => by simpa using hall i hi
   rw [loop_to (H_way2 l sent now m) now.length (by simp -implicitDefEqProofs [H_way2, hint1]) (by simp [big] at hj; omega) (fun i hi => by
    have l2 : m + i < sent.length := by omega
    have l3 : now[i] = sent[m + i] := by
     have := hall i hi
     rw [List.getElem?_eq_getElem hi, List.getElem?_eq_getElem l2] at this
     simpa using this
    simp -implicitDefEqProofs [H_way2, hint1, hi, l2, l3, ints_get hi, ints_get l2, w64 (x := (i : Int) + 1) (by omega), w64 (x := (m : Int) + i) (by omega), show (0 : Int) ≤ (m : Int) + i by omega, show (m : Int) + i < sent.length by omega, show ((m : Int) + i).toNat = m + i by omega]) (by simp -implicitDefEqProofs [H_way2, stops])]
   simp -implicitDefEqProofs [H_way2, hd]
  ·have l2 : m + n < sent.length := by omega
   have hne : ¬ now[n] = sent[m + n] := by
    rw [List.getElem?_eq_getElem hn, List.getElem?_eq_getElem l2] at hbad
    simpa using hbad
   have hd : ¬ sent.drop m = now := fun h => by
    have := (drop_eq k2).1 h n hn
    rw [List.getElem?_eq_getElem hn, List.getElem?_eq_getElem l2] at this
    exact hne (by simpa using this)
   rw [loop_to (H_way2 l sent now m) n (by simp -implicitDefEqProofs [H_way2, hint1]) (by simp [big] at hj; omega) (fun i hi => by
    have hi' : i < now.length := by omega
    have l2 : m + i < sent.length := by omega
    have l3 : now[i] = sent[m + i] := by
     have := hall i hi
     rw [List.getElem?_eq_getElem hi', List.getElem?_eq_getElem l2] at this
     simpa using this
    simp -implicitDefEqProofs [H_way2, hint1, hi', l2, l3, ints_get hi', ints_get l2, w64 (x := (i : Int) + 1) (by omega), w64 (x := (m : Int) + i) (by omega), show (0 : Int) ≤ (m : Int) + i by omega, show (m : Int) + i < sent.length by omega, show ((m : Int) + i).toNat = m + i by omega]) (by
    simp -implicitDefEqProofs [H_way2, stops, hn, l2, hne, ints_get hn, ints_get l2, w64 (x := (m : Int) + n) (by omega), show (0 : Int) ≤ (m : Int) + n by omega, show (m : Int) + n < sent.length by omega, show ((m : Int) + n).toNat = m + n by omega])]
   simp -implicitDefEqProofs [H_way2, hd, hn, l2, hne, ints_get hn, ints_get l2, w64 (x := (m : Int) + n) (by omega), show (0 : Int) ≤ (m : Int) + n by omega, show (m : Int) + n < sent.length by omega, show ((m : Int) + n).toNat = m + n by omega]
 ·have ha : l.all itemB = false := not_all hn hc
  have e := run62 (j := j) l[n].v
  unfold itemB at hc
  unfold l4wayB wayB
  rw [ha]
  rw [loop_to (H_way1 l sent m) n (by simp -implicitDefEqProofs [H_way1, hint1]) (by simp [big] at hj; omega) (fun i hi => by
   have hi' : i < l.length := by omega
   have e := run62 (j := j) l[i].v
   obtain ⟨h1, h2⟩ := step i hi' (hg i hi)
   rw [h1] at e
   cases hk : l[i].mark
   ·simp -implicitDefEqProofs [H_way1, hint1, hi', w64 (x := (i : Int) + 1) (by omega), own1, e, itT_0 hi', itT_0g hi', itT_1 hi', hk]
   ·rw [h2 hk] at e
    simp -implicitDefEqProofs [H_way1, hint1, hi', w64 (x := (i : Int) + 1) (by omega), own1, e, itT_0 hi', itT_0g hi', itT_1 hi', hk, h2 hk]) (by
   cases hv : numB l[n].v
   ·rw [hv] at e
    simp -implicitDefEqProofs [H_way1, stops, hn, own1, e, itT_0 hn, itT_0g hn, itT_1 hn]
   ·rw [hv] at e hc
    simp -implicitDefEqProofs at hc
    simp -implicitDefEqProofs [H_way1, stops, hn, own1, e, itT_0 hn, itT_0g hn, itT_1 hn, hc])]
  cases hv : numB l[n].v
  ·rw [hv] at e
   simp -implicitDefEqProofs [H_way1, hn, own1, e, itT_0 hn, itT_0g hn, itT_1 hn]
  ·rw [hv] at e hc
   simp -implicitDefEqProofs at hc
   simp -implicitDefEqProofs [H_way1, hn, own1, e, itT_0 hn, itT_0g hn, itT_1 hn, hc]
end Go.Proofs.YtninncdacekfgaaGreat.VM
