/- Systems: measured, copied, compared, marked. -/
import Derived.Test.YtninncdacekfgaaK6
import Derived.Test.YtninncdacekfgaaK4
/- Rows of rows: measured, copied, compared, marked. -/
namespace Go.Proofs.Ytninncdacekfgaa.VM
open Go Go.Proofs
set_option linter.unusedSimpArgs false
set_option linter.unusedVariables false
set_option maxRecDepth 100000
set_option maxHeartbeats 4000000
@[simp] theorem take_map_full {α : Type} (f : α → T) (l : List α) : (l.map f).take l.length = l.map f := List.take_of_length_le (by simp)
def tot {α : Type} (xss : List (List α)) : Nat := (xss.map List.length).sum
theorem tot_take_succ {α : Type} {xss : List (List α)} {i : Nat} (h : i < xss.length) : tot (xss.take (i + 1)) = tot (xss.take i) + xss[i].length := by
 unfold tot
 rw [List.take_succ_eq_append_getElem h, List.map_append, List.sum_append, List.map_cons, List.map_nil, List.sum_cons, List.sum_nil, Nat.add_zero]
theorem tot_take_le {α : Type} (xss : List (List α)) (i : Nat) : tot (xss.take i) ≤ tot xss := by
 have h := congrArg (fun l => (l.map List.length).sum) (List.take_append_drop i xss)
 simp only [List.map_append, List.sum_append] at h
 unfold tot
 omega
theorem len_tot {α : Type} {xss : List (List α)} {i : Nat} (h : i < xss.length) : xss[i].length ≤ tot xss := by
 have h1 := tot_take_succ h
 have h2 := tot_take_le xss (i + 1)
 omega
theorem tot_len {α : Type} (xss : List (List α)) : ∀ x ∈ xss, x.length ≤ tot xss := fun x hx => by
 obtain ⟨i, hi, rfl⟩ := List.getElem_of_mem hx
 exact len_tot hi

/-! ### rows of rows: Ins -/
def rIns (e : TypeId) (xs : List Ins) : T := .r e xs.length (insT xs)
def sIns (e : TypeId) (xs : List Ins) : T := .s e xs.length (insT xs)
def H_eqInsSS (xss : List (List Ins)) (i : Nat) : St := ⟨[(0, .c (.sl 0 [] 0 xss.length)), (1, .c (.sl 1 [] 0 xss.length)), (5, .c (.v (.int .i64 i)))], [(0, ⟨.ro, 24, xss.map (rIns 40)⟩), (1, ⟨.ro, 24, xss.map (rIns 40)⟩)]⟩
/-- Marked so far: the next number, the rows. -/
def mkIns (k : Int) (xss : List (List Ins)) : Nat → Int × List T
 | 0 => (k, xss.map (sIns 40))
 | i + 1 => ((mkIns k xss i).1 + 5 * (((xss[i]?).map List.length).getD 0 : Nat), (mkIns k xss i).2.set i (.s 40 (((xss[i]?).map List.length).getD 0) (insT (insUp (mkIns k xss i).1 (((xss[i]?).map List.length).getD 0)))))
theorem mkIns_len (k : Int) (xss : List (List Ins)) : ∀ i, (mkIns k xss i).2.length = xss.length
 | 0 => by simp [mkIns]
 | i + 1 => by simp [mkIns, mkIns_len k xss i]
theorem mkIns_at (k : Int) (xss : List (List Ins)) {m : Nat} : ∀ i, i ≤ m → (mkIns k xss i).2[m]? = (xss.map (sIns 40))[m]?
 | 0, _ => rfl
 | i + 1, h => by
  rw [mkIns, List.getElem?_set_ne (by omega)]
  exact mkIns_at k xss i (by omega)
theorem mkIns_le (k : Int) (xss : List (List Ins)) : ∀ i, i ≤ xss.length → k ≤ (mkIns k xss i).1 ∧ (mkIns k xss i).1 = k + 5 * (tot (xss.take i) : Nat)
 | 0, _ => by simp [mkIns, tot]
 | i + 1, h => by
  have h1 := mkIns_le k xss i (by omega)
  have h2 := tot_take_succ (xss := xss) (i := i) (by omega)
  rw [mkIns]
  simp only [List.getElem?_eq_getElem (show i < xss.length by omega), Option.map_some, Option.getD_some]
  rw [h2]
  omega
def H_markInsSS (k : Int) (xss : List (List Ins)) (i : Nat) : St := ⟨[(0, .c (.sl 0 [] 0 xss.length)), (1, .c (.v (.int .i64 (mkIns k xss i).1))), (5, .c (.v (.int .i64 i)))], [(0, ⟨.own, 24, (mkIns k xss i).2⟩)]⟩
/-! ### rows of rows: Item -/
def rItem (e : TypeId) (xs : List Itm) : T := .r e xs.length (itT xs)
def sItem (e : TypeId) (xs : List Itm) : T := .s e xs.length (itT xs)
def H_eqItemSS (xss : List (List Itm)) (i : Nat) : St := ⟨[(0, .c (.sl 0 [] 0 xss.length)), (1, .c (.sl 1 [] 0 xss.length)), (5, .c (.v (.int .i64 i)))], [(0, ⟨.ro, 92, xss.map (rItem 100)⟩), (1, ⟨.ro, 92, xss.map (rItem 100)⟩)]⟩
/-- Marked so far: the next number, the rows. -/
def mkItem (k : Int) (xss : List (List Itm)) : Nat → Int × List T
 | 0 => (k, xss.map (sItem 100))
 | i + 1 => ((mkItem k xss i).1 + 2 * (((xss[i]?).map List.length).getD 0 : Nat), (mkItem k xss i).2.set i (.s 100 (((xss[i]?).map List.length).getD 0) (itT (itUp (mkItem k xss i).1 (((xss[i]?).map List.length).getD 0)))))
theorem mkItem_len (k : Int) (xss : List (List Itm)) : ∀ i, (mkItem k xss i).2.length = xss.length
 | 0 => by simp [mkItem]
 | i + 1 => by simp [mkItem, mkItem_len k xss i]
theorem mkItem_at (k : Int) (xss : List (List Itm)) {m : Nat} : ∀ i, i ≤ m → (mkItem k xss i).2[m]? = (xss.map (sItem 100))[m]?
 | 0, _ => rfl
 | i + 1, h => by
  rw [mkItem, List.getElem?_set_ne (by omega)]
  exact mkItem_at k xss i (by omega)
theorem mkItem_le (k : Int) (xss : List (List Itm)) : ∀ i, i ≤ xss.length → k ≤ (mkItem k xss i).1 ∧ (mkItem k xss i).1 = k + 2 * (tot (xss.take i) : Nat)
 | 0, _ => by simp [mkItem, tot]
 | i + 1, h => by
  have h1 := mkItem_le k xss i (by omega)
  have h2 := tot_take_succ (xss := xss) (i := i) (by omega)
  rw [mkItem]
  simp only [List.getElem?_eq_getElem (show i < xss.length by omega), Option.map_some, Option.getD_some]
  rw [h2]
  omega
def H_markItemSS (k : Int) (xss : List (List Itm)) (i : Nat) : St := ⟨[(0, .c (.sl 0 [] 0 xss.length)), (1, .c (.v (.int .i64 (mkItem k xss i).1))), (5, .c (.v (.int .i64 i)))], [(0, ⟨.own, 92, (mkItem k xss i).2⟩)]⟩
/-! ### rows of rows: Event -/
def rEvent (e : TypeId) (xs : List Ev) : T := .r e xs.length (evT xs)
def sEvent (e : TypeId) (xs : List Ev) : T := .s e xs.length (evT xs)
def H_eqEventSS (xss : List (List Ev)) (i : Nat) : St := ⟨[(0, .c (.sl 0 [] 0 xss.length)), (1, .c (.sl 1 [] 0 xss.length)), (5, .c (.v (.int .i64 i)))], [(0, ⟨.ro, 54, xss.map (rEvent 29)⟩), (1, ⟨.ro, 54, xss.map (rEvent 29)⟩)]⟩
/-- Marked so far: the next number, the rows. -/
def mkEvent (k : Int) (xss : List (List Ev)) : Nat → Int × List T
 | 0 => (k, xss.map (sEvent 29))
 | i + 1 => ((mkEvent k xss i).1 + 3 * (((xss[i]?).map List.length).getD 0 : Nat), (mkEvent k xss i).2.set i (.s 29 (((xss[i]?).map List.length).getD 0) (evT (evUp (mkEvent k xss i).1 (((xss[i]?).map List.length).getD 0)))))
theorem mkEvent_len (k : Int) (xss : List (List Ev)) : ∀ i, (mkEvent k xss i).2.length = xss.length
 | 0 => by simp [mkEvent]
 | i + 1 => by simp [mkEvent, mkEvent_len k xss i]
theorem mkEvent_at (k : Int) (xss : List (List Ev)) {m : Nat} : ∀ i, i ≤ m → (mkEvent k xss i).2[m]? = (xss.map (sEvent 29))[m]?
 | 0, _ => rfl
 | i + 1, h => by
  rw [mkEvent, List.getElem?_set_ne (by omega)]
  exact mkEvent_at k xss i (by omega)
theorem mkEvent_le (k : Int) (xss : List (List Ev)) : ∀ i, i ≤ xss.length → k ≤ (mkEvent k xss i).1 ∧ (mkEvent k xss i).1 = k + 3 * (tot (xss.take i) : Nat)
 | 0, _ => by simp [mkEvent, tot]
 | i + 1, h => by
  have h1 := mkEvent_le k xss i (by omega)
  have h2 := tot_take_succ (xss := xss) (i := i) (by omega)
  rw [mkEvent]
  simp only [List.getElem?_eq_getElem (show i < xss.length by omega), Option.map_some, Option.getD_some]
  rw [h2]
  omega
def H_markEventSS (k : Int) (xss : List (List Ev)) (i : Nat) : St := ⟨[(0, .c (.sl 0 [] 0 xss.length)), (1, .c (.v (.int .i64 (mkEvent k xss i).1))), (5, .c (.v (.int .i64 i)))], [(0, ⟨.own, 54, (mkEvent k xss i).2⟩)]⟩
end Go.Proofs.Ytninncdacekfgaa.VM

/- Rows of states: measured, copied, compared, marked. -/
namespace Go.Proofs.Ytninncdacekfgaa.VM
open Go Go.Proofs
set_option linter.unusedSimpArgs false
set_option linter.unusedVariables false
set_option maxRecDepth 100000
set_option maxHeartbeats 4000000
def stT (l : List Sta) : List T := l.flatMap tSta
def ssT (l : List Sta) : List T := l.flatMap sSta
theorem tSta_len (x : Sta) : (tSta x).length = 4 := rfl
theorem sSta_len (x : Sta) : (sSta x).length = 4 := rfl
@[simp] theorem stT_len (l : List Sta) : (stT l).length = l.length * 4 := fm_len tSta_len l
@[simp] theorem ssT_len (l : List Sta) : (ssT l).length = l.length * 4 := fm_len sSta_len l
@[simp] theorem stT_take (l : List Sta) (n : Nat) : (stT l).take (n * 4) = stT (l.take n) := fm_take tSta_len l n
@[simp] theorem ssT_take (l : List Sta) (n : Nat) : (ssT l).take (n * 4) = ssT (l.take n) := fm_take sSta_len l n
@[simp] theorem stT_drop (l : List Sta) (n : Nat) : (stT l).drop (n * 4) = stT (l.drop n) := fm_drop tSta_len l n
@[simp] theorem stT_at {l : List Sta} {i : Nat} (hi : i < l.length) : (stT (l.drop i)).take 4 = tSta l[i] := by rw [← stT_drop]; exact fm_at tSta_len hi
theorem stT_1 {l : List Sta} {i : Nat} (hi : i < l.length) : (stT l)[i * 4 + 1]? = some (.r 3 l[i].regs.length (ints l[i].regs)) := fm_get tSta_len hi (by omega)
theorem stT_2 {l : List Sta} {i : Nat} (hi : i < l.length) : (stT l)[i * 4 + 2]? = some (.r 3 l[i].out.length (ints l[i].out)) := fm_get tSta_len hi (by omega)
/-- A state's numbers. -/
def nums (s : Sta) : List Int := s.regs ++ s.out
theorem nums_len (s : Sta) : (nums s).length = s.regs.length + s.out.length := by simp [nums]
theorem totS_succ {l : List Sta} {i : Nat} (hi : i < l.length) : tot ((l.map nums).take (i + 1)) = tot ((l.map nums).take i) + (l[i].regs.length + l[i].out.length) := by
 rw [tot_take_succ (by simpa using hi), List.getElem_map, nums_len]
theorem totS_len {l : List Sta} {i : Nat} (hi : i < l.length) : l[i].regs.length + l[i].out.length ≤ tot (l.map nums) := by
 have h1 := totS_succ hi
 have h2 := tot_take_le (l.map nums) (i + 1)
 omega
/-- The first i made, and zeros behind them. -/
def tq {α : Type} (f : α → List T) (z : List T) (l : List α) (i : Nat) : List T := (l.take i).flatMap f ++ (List.replicate (l.length - i) z).flatten
theorem tq_len {α : Type} {f : α → List T} {z : List T} {k : Nat} (hf : ∀ x, (f x).length = k) (hz : z.length = k) (l : List α) {i : Nat} (hi : i ≤ l.length) : (tq f z l i).length = l.length * k := by
 have h2 : (List.replicate (l.length - i) z).flatten.length = (l.length - i) * k := by simp [hz]
 unfold tq
 rw [List.length_append, fm_len hf, List.length_take, Nat.min_eq_left hi, h2, ← Nat.add_mul]
 congr 1
 omega
theorem tq_set {α : Type} {f : α → List T} {z : List T} {k : Nat} (hf : ∀ x, (f x).length = k) (hz : z.length = k) {l : List α} {i : Nat} (hi : i < l.length) : setCells (tq f z l i) (i * k) (f l[i]) = tq f z l (i + 1) := by
 have hle : i * k + k ≤ l.length * k := by
  have := Nat.mul_le_mul_right k (show i + 1 ≤ l.length by omega)
  rwa [Nat.add_mul, Nat.one_mul] at this
 rw [setCells_eq _ _ _ (by rw [tq_len hf hz l (by omega), hf]; exact hle), hf]
 unfold tq
 have h1 : ((l.take i).flatMap f).length = i * k := by rw [fm_len hf, List.length_take, Nat.min_eq_left (by omega)]
 rw [show l.length - i = (l.length - (i + 1)) + 1 by omega, List.replicate_succ, List.flatten_cons]
 rw [← h1, List.take_left, List.drop_append, h1]
 rw [show (List.flatMap f (List.take i l)).drop (i * k + k) = [] from List.drop_eq_nil_of_le (by rw [h1]; omega), List.nil_append, show i * k + k - i * k = k by omega]
 rw [show (z ++ (List.replicate (l.length - (i + 1)) z).flatten).drop k = (List.replicate (l.length - (i + 1)) z).flatten by rw [← hz, List.drop_left]]
 rw [List.take_succ_eq_append_getElem hi, List.flatMap_append, List.flatMap_cons, List.flatMap_nil, List.append_nil]
noncomputable def zS : List T := [.v (.int .i64 0), .s (elemOf Try.prog 27) 0 [], .s (elemOf Try.prog 27) 0 [], .v (.int .i64 0)]
def H_eqStateS (l : List Sta) (i : Nat) : St := ⟨[(0, .c (.sl 0 [] 0 l.length)), (1, .c (.sl 1 [] 0 l.length)), (5, .c (.v (.int .i64 i)))], [(0, ⟨.ro, 27, stT l⟩), (1, ⟨.ro, 27, stT l⟩)]⟩
/-- Marked so far: the next number, the rows. -/
def mkSt (k : Int) (l : List Sta) : Nat → Int × List T
 | 0 => (k, ssT l)
 | i + 1 => match l[i]? with
  | none => mkSt k l i
  | some s => ((mkSt k l i).1 + 1 + s.regs.length + s.out.length + 1, ((((mkSt k l i).2.set (i * 4) (.v (.int .i64 (mkSt k l i).1))).set (i * 4 + 1) (.s 3 s.regs.length (ints (upto ((mkSt k l i).1 + 1) s.regs.length)))).set (i * 4 + 2) (.s 3 s.out.length (ints (upto ((mkSt k l i).1 + 1 + s.regs.length) s.out.length)))).set (i * 4 + 3) (.v (.int .i64 ((mkSt k l i).1 + 1 + s.regs.length + s.out.length))))
theorem mkSt_len (k : Int) (l : List Sta) : ∀ i, (mkSt k l i).2.length = l.length * 4
 | 0 => by simp [mkSt]
 | i + 1 => by
  rw [mkSt]
  split <;> simp [mkSt_len k l i]
theorem mkSt_at (k : Int) (l : List Sta) {m : Nat} : ∀ i, i * 4 ≤ m → (mkSt k l i).2[m]? = (ssT l)[m]?
 | 0, _ => rfl
 | i + 1, h => by
  rw [mkSt]
  split
  ·exact mkSt_at k l i (by omega)
  ·rw [List.getElem?_set_ne (by omega), List.getElem?_set_ne (by omega), List.getElem?_set_ne (by omega), List.getElem?_set_ne (by omega)]
   exact mkSt_at k l i (by omega)
theorem mkSt_le (k : Int) (l : List Sta) : ∀ i, i ≤ l.length → (mkSt k l i).1 = k + 2 * i + (tot ((l.map nums).take i) : Nat)
 | 0, _ => by simp [mkSt, tot]
 | i + 1, h => by
  have h1 := mkSt_le k l i (by omega)
  have h2 := totS_succ (l := l) (i := i) (by omega)
  rw [mkSt, List.getElem?_eq_getElem (show i < l.length by omega)]
  simp only
  rw [h2, h1]
  omega
def H_markStateS (k : Int) (l : List Sta) (i : Nat) : St := ⟨[(0, .c (.sl 0 [] 0 l.length)), (1, .c (.v (.int .i64 (mkSt k l i).1))), (5, .c (.v (.int .i64 i)))], [(0, ⟨.own, 27, (mkSt k l i).2⟩)]⟩
end Go.Proofs.Ytninncdacekfgaa.VM

/- Systems: measured, copied, compared, marked; what is on a way; what is printed. -/
namespace Go.Proofs.Ytninncdacekfgaa.VM
open Go Go.Proofs
set_option linter.unusedSimpArgs false
set_option linter.unusedVariables false
set_option maxRecDepth 100000
set_option maxHeartbeats 10000000
@[simp] theorem itUp_take (k : Int) (n : Nat) : (itUp k n).take n = itUp k n := List.take_of_length_le (by simp)
theorem ros_map {α : Type} {f g : α → T} (h : ∀ x, (f x).ro = g x) : ∀ l : List α, ros (l.map f) = l.map g
 | [] => rfl
 | x :: l => by rw [List.map_cons, ros, h, ros_map h l]; rfl
theorem ro_s (e : TypeId) (n : Nat) (xs : List T) : (T.s e n xs).ro = .r e n (ros xs) := by rw [T.ro]
theorem ro_r (e : TypeId) (n : Nat) (xs : List T) : (T.r e n xs).ro = .r e n xs := by rw [T.ro]
@[simp] theorem ros_sIns (e : TypeId) (l : List (List Ins)) : ros (l.map (sIns e)) = l.map (rIns e) := ros_map (fun x => by rw [sIns, ro_s, insT_ros]; rfl) l
@[simp] theorem ros_rIns (e : TypeId) (l : List (List Ins)) : ros (l.map (rIns e)) = l.map (rIns e) := ros_map (fun x => by rw [rIns, ro_r]) l
@[simp] theorem ros_sItem (e : TypeId) (l : List (List Itm)) : ros (l.map (sItem e)) = l.map (rItem e) := ros_map (fun x => by rw [sItem, ro_s, itT_ros]; rfl) l
@[simp] theorem ros_rItem (e : TypeId) (l : List (List Itm)) : ros (l.map (rItem e)) = l.map (rItem e) := ros_map (fun x => by rw [rItem, ro_r]) l
@[simp] theorem ros_sEvent (e : TypeId) (l : List (List Ev)) : ros (l.map (sEvent e)) = l.map (rEvent e) := ros_map (fun x => by rw [sEvent, ro_s, evT_ros]; rfl) l
@[simp] theorem ros_rEvent (e : TypeId) (l : List (List Ev)) : ros (l.map (rEvent e)) = l.map (rEvent e) := ros_map (fun x => by rw [rEvent, ro_r]) l
theorem ros_fm {α : Type} {f g : α → List T} (h : ∀ x, ros (f x) = g x) : ∀ l : List α, ros (l.flatMap f) = l.flatMap g
 | [] => rfl
 | x :: l => by rw [List.flatMap_cons, ros_app, h, ros_fm h l]; rfl
@[simp] theorem ros_ssT (l : List Sta) : ros (ssT l) = stT l := ros_fm (fun x => by
 show ros [T.v _, .s _ _ _, .s _ _ _, .v _] = [T.v _, .r _ _ _, .r _ _ _, .v _]
 simp only [ros, ro_s, ros_ints]
 rfl) l
@[simp] theorem ros_stT (l : List Sta) : ros (stT l) = stT l := ros_fm (fun x => by
 show ros [T.v _, .r _ _ _, .r _ _ _, .v _] = [T.v _, .r _ _ _, .r _ _ _, .v _]
 simp only [ros, ro_r]
 rfl) l
def syR (s : Sy) : List T := [.r 24 s.progs.length (s.progs.map (rIns 40)), .r 27 s.states.length (stT s.states), .r 92 s.ways.length (s.ways.map (rItem 100)), .r 54 s.hist.length (s.hist.map (rEvent 29))]
def syS (s : Sy) : List T := [.s 24 s.progs.length (s.progs.map (sIns 40)), .s 27 s.states.length (ssT s.states), .s 92 s.ways.length (s.ways.map (sItem 100)), .s 54 s.hist.length (s.hist.map (sEvent 29))]
structure Small (s : Sy) : Prop where
 progs : s.progs.length ≤ 1048576
 progsT : tot s.progs ≤ 1048576
 states : s.states.length ≤ 1048576
 statesT : tot (s.states.map nums) ≤ 1048576
 ways : s.ways.length ≤ 1048576
 waysT : tot s.ways ≤ 1048576
 hist : s.hist.length ≤ 1048576
 histT : tot s.hist ≤ 1048576
theorem Small.sta {s : Sy} (h : Small s) : ∀ x ∈ s.states, x.regs.length ≤ 1048576 ∧ x.out.length ≤ 1048576 := fun x hx => by
 obtain ⟨i, hi, rfl⟩ := List.getElem_of_mem hx
 have h1 := totS_len hi
 have h2 := h.statesT
 omega
/-! ### what is printed -/
def printedF (s : Sy) (p : Int) : List Int := if inB p 0 ((s.states.length : Int) - 1) = true then ((s.states[p.toNat]?).map (·.out)).getD [] else []
theorem inB_nat {k : Int} {n : Nat} (h : inB k 0 ((n : Int) - 1) = true) : ∃ m : Nat, k = m ∧ m < n := by
 have := inB_le h
 exact ⟨k.toNat, by omega, by omega⟩
theorem run_implPrinted {j : Nat} (s : Sy) (h : Small s) (p : Int) : M.run (j + 2) 19 [.agg (syR s), .c (.v (.int .i64 p))] = some ([.c (.s 3 (printedF s p).length (ints (printedF s p)))], [.agg (syR s), .c (.v (.int .i64 p))]) := by
 have b7 := h.states
 rw [m_run (fn := Try.f19) (i0 := 0) rfl Try.func19 rfl rfl (by simp [syR])]
 unfold printedF
 cases hq : inB p 0 ((s.states.length : Int) - 1)
 ·simp -implicitDefEqProofs [syR, own1, run64, w64 (x := (s.states.length : Int) - 1) (by omega), hq]
 ·obtain ⟨m, rfl, hm⟩ := inB_nat hq
  have hb := (h.sta _ (List.getElem_mem hm)).2
  simp -implicitDefEqProofs [syR, own1, run64, w64 (x := (s.states.length : Int) - 1) (by omega), hq, hm, stT_2 hm, run_clone _ hb]
theorem printedF_len (s : Sy) (h : Small s) (p : Int) : (printedF s p).length ≤ 1048576 := by
 unfold printedF
 split
 ·cases hq : s.states[p.toNat]? with
  | none => simp
  | some x => exact (h.sta x (List.mem_of_getElem? hq)).2
 ·simp
/-! ### what is on a way -/
def wayF (s : Sy) (a b : Int) : List Itm := if inB a 0 ((s.progs.length : Int) - 1) = true ∧ inB b 0 ((s.progs.length : Int) - 1) = true ∧ a * s.progs.length + b < s.ways.length then (s.ways[(a * s.progs.length + b).toNat]?).getD [] else []
def wayI (s : Sy) (a b : Int) : Int := if inB a 0 ((s.progs.length : Int) - 1) = true ∧ inB b 0 ((s.progs.length : Int) - 1) = true ∧ a * s.progs.length + b < s.ways.length then a * s.progs.length + b else -1
theorem mul_le20 {a n : Nat} (ha : a ≤ 1048576) (hn : n ≤ 1048576) : (a : Int) * (n : Int) ≤ 1099511627776 ∧ 0 ≤ (a : Int) * (n : Int) := by
 have := Nat.mul_le_mul ha hn
 have h2 : ((a * n : Nat) : Int) = (a : Int) * (n : Int) := by simp
 omega
theorem run_wayAt {j : Nat} (s : Sy) (h : Small s) (a b : Int) : M.run (j + 2) 78 [.agg (syR s), .c (.v (.int .i64 a)), .c (.v (.int .i64 b))] = some ([.c (.v (.int .i64 (wayI s a b)))], [.agg (syR s), .c (.v (.int .i64 a)), .c (.v (.int .i64 b))]) := by
 have b1 := h.progs
 rw [m_run (fn := Try.f78) (i0 := 0) rfl Try.func78 rfl rfl (by simp [syR])]
 unfold wayI
 have hw := w64 (x := (s.progs.length : Int) - 1) (by omega)
 cases ha : inB a 0 ((s.progs.length : Int) - 1)
 ·simp -implicitDefEqProofs [syR, own1, run64, hw, ha]
 cases hb : inB b 0 ((s.progs.length : Int) - 1)
 ·simp -implicitDefEqProofs [syR, own1, run64, hw, ha, hb]
 obtain ⟨ka, rfl, la⟩ := inB_nat ha
 obtain ⟨kb, rfl, lb⟩ := inB_nat hb
 have hm := mul_le20 (a := ka) (n := s.progs.length) (by omega) b1
 have w1 := w64 (x := (ka : Int) * (s.progs.length : Int)) (by omega)
 have w2 := w64 (x := (ka : Int) * (s.progs.length : Int) + kb) (by omega)
 by_cases hc : (ka : Int) * (s.progs.length : Int) + kb < s.ways.length
 ·simp -implicitDefEqProofs [syR, own1, run64, hw, ha, hb, w1, w2, hc, show ¬ (s.ways.length : Int) ≤ (ka : Int) * (s.progs.length : Int) + kb by omega]
 ·simp -implicitDefEqProofs [syR, own1, run64, hw, ha, hb, w1, w2, hc, show (s.ways.length : Int) ≤ (ka : Int) * (s.progs.length : Int) + kb by omega]
theorem rItem_at {l : List (List Itm)} {e : TypeId} {m : Nat} (hm : m < l.length) : (l.map (rItem e))[m]? = some (.r e l[m].length (itT l[m])) := by
 rw [List.getElem?_map, List.getElem?_eq_getElem hm]
 rfl
theorem run_cloneItem {j : Nat} (xs : List Itm) (hx : xs.length ≤ 1048576) : M.run (j + 1) 75 [.c (.r 100 xs.length (itT xs))] = some ([.c (.s 100 xs.length (itT xs))], [.c (.r 100 xs.length (itT xs))]) :=
 show cloneG 100 _ = _ from cloneG_eq (itT_v xs) (by rw [itT_len]; unfold most; omega)
theorem way_cases (s : Sy) (h : Small s) (a b : Int) : (wayF s a b = [] ∧ wayI s a b = -1) ∨ (∃ m : Nat, ∃ hm : m < s.ways.length, wayF s a b = s.ways[m] ∧ wayI s a b = m) := by
 unfold wayF wayI
 split
 ·rename_i hc
  obtain ⟨ha, hb, hc⟩ := hc
  obtain ⟨ka, rfl, la⟩ := inB_nat ha
  obtain ⟨kb, rfl, lb⟩ := inB_nat hb
  have hm := mul_le20 (a := ka) (n := s.progs.length) (by have := h.progs; omega) h.progs
  refine .inr ⟨((ka : Int) * (s.progs.length : Int) + kb).toNat, by omega, ?_, by omega⟩
  rw [List.getElem?_eq_getElem (by omega)]
  rfl
 ·exact .inl ⟨rfl, rfl⟩
theorem wayF_len (s : Sy) (h : Small s) (a b : Int) : (wayF s a b).length ≤ 1048576 := by
 rcases way_cases s h a b with ⟨h1, _⟩ | ⟨m, hm, h1, _⟩ <;> rw [h1]
 ·simp
 ·have := len_tot hm
  have := h.waysT
  omega
end Go.Proofs.Ytninncdacekfgaa.VM
