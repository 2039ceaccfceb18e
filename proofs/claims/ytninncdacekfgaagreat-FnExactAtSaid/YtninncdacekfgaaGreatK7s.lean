/- Systems: measured, copied, compared, marked. -/
import Derived.Test.YtninncdacekfgaaGreatK6s
import Derived.Test.YtninncdacekfgaaGreatK4s
set_option linter.unusedSimpArgs false
set_option linter.unusedVariables false
set_option maxRecDepth 100000
set_option maxHeartbeats 10000000
namespace Go.Proofs.YtninncdacekfgaaGreat.VM
open Go Go.Proofs
@[simp] theorem take_map_full {α : Type} (f : α → T) (l : List α) : (l.map f).take l.length = l.map f := List.take_of_length_le (by simp)
def tot {α : Type} (xss : List (List α)) : Nat := (xss.map List.length).sum
theorem tot_take_succ {α : Type} {xss : List (List α)} {i : Nat} (h : i < xss.length) : tot (xss.take (i + 1)) = tot (xss.take i) + xss[i].length := by
 unfold tot
 rw [List.take_succ_eq_append_getElem h, List.map_append, List.sum_append, List.map_cons, List.map_nil, List.sum_cons, List.sum_nil, Nat.add_zero]
theorem tot_take_le {α : Type} (xss : List (List α)) (i : Nat) : tot (xss.take i) ≤ tot xss := by
 have h := congrArg (fun l => (l.map List.length).sum) (List.take_append_drop i xss)
 simp only [List.map_append, List.sum_append] at h
 unfold tot
 omega
theorem len_tot {α : Type} {xss : List (List α)} {i : Nat} (h : i < xss.length) : xss[i].length ≤ tot xss := by
 have h1 := tot_take_succ h
 have h2 := tot_take_le xss (i + 1)
 omega
theorem tot_len {α : Type} (xss : List (List α)) : ∀ x ∈ xss, x.length ≤ tot xss := fun x hx => by
 obtain ⟨i, hi, rfl⟩ := List.getElem_of_mem hx
 exact len_tot hi
def rIns (e : TypeId) (xs : List Ins) : T := .r e xs.length (insT xs)
def sIns (e : TypeId) (xs : List Ins) : T := .s e xs.length (insT xs)
def rItem (e : TypeId) (xs : List Itm) : T := .r e xs.length (itT xs)
def sItem (e : TypeId) (xs : List Itm) : T := .s e xs.length (itT xs)
def rEvent (e : TypeId) (xs : List Ev) : T := .r e xs.length (evT xs)
def sEvent (e : TypeId) (xs : List Ev) : T := .s e xs.length (evT xs)
end Go.Proofs.YtninncdacekfgaaGreat.VM
namespace Go.Proofs.YtninncdacekfgaaGreat.VM
open Go Go.Proofs
def stT (l : List Sta) : List T := l.flatMap tSta
def ssT (l : List Sta) : List T := l.flatMap sSta
theorem tSta_len (x : Sta) : (tSta x).length = 4 := rfl
theorem sSta_len (x : Sta) : (sSta x).length = 4 := rfl
@[simp] theorem stT_len (l : List Sta) : (stT l).length = l.length * 4 := fm_len tSta_len l
@[simp] theorem ssT_len (l : List Sta) : (ssT l).length = l.length * 4 := fm_len sSta_len l
@[simp] theorem stT_take (l : List Sta) (n : Nat) : (stT l).take (n * 4) = stT (l.take n) := fm_take tSta_len l n
@[simp] theorem ssT_take (l : List Sta) (n : Nat) : (ssT l).take (n * 4) = ssT (l.take n) := fm_take sSta_len l n
@[simp] theorem stT_drop (l : List Sta) (n : Nat) : (stT l).drop (n * 4) = stT (l.drop n) := fm_drop tSta_len l n
@[simp] theorem stT_at {l : List Sta} {i : Nat} (hi : i < l.length) : (stT (l.drop i)).take 4 = tSta l[i] := by rw [← stT_drop]; exact fm_at tSta_len hi
theorem stT_1 {l : List Sta} {i : Nat} (hi : i < l.length) : (stT l)[i * 4 + 1]? = some (.r 3 l[i].regs.length (ints l[i].regs)) := fm_get tSta_len hi (by omega)
theorem stT_2 {l : List Sta} {i : Nat} (hi : i < l.length) : (stT l)[i * 4 + 2]? = some (.r 3 l[i].out.length (ints l[i].out)) := fm_get tSta_len hi (by omega)
def nums (s : Sta) : List Int := s.regs ++ s.out
theorem nums_len (s : Sta) : (nums s).length = s.regs.length + s.out.length := by simp [nums]
theorem totS_succ {l : List Sta} {i : Nat} (hi : i < l.length) : tot ((l.map nums).take (i + 1)) = tot ((l.map nums).take i) + (l[i].regs.length + l[i].out.length) := by
 rw [tot_take_succ (by simpa using hi), List.getElem_map, nums_len]
theorem totS_len {l : List Sta} {i : Nat} (hi : i < l.length) : l[i].regs.length + l[i].out.length ≤ tot (l.map nums) := by
 have h1 := totS_succ hi
 have h2 := tot_take_le (l.map nums) (i + 1)
 omega
def tq {α : Type} (f : α → List T) (z : List T) (l : List α) (i : Nat) : List T := (l.take i).flatMap f ++ (List.replicate (l.length - i) z).flatten
end Go.Proofs.YtninncdacekfgaaGreat.VM
namespace Go.Proofs.YtninncdacekfgaaGreat.VM
open Go Go.Proofs
@[simp] theorem itUp_take (k : Int) (n : Nat) : (itUp k n).take n = itUp k n := List.take_of_length_le (by simp)
theorem ros_map {α : Type} {f g : α → T} (h : ∀ x, (f x).ro = g x) : ∀ l : List α, ros (l.map f) = l.map g
 | [] => rfl
 | x :: l => by rw [List.map_cons, ros, h, ros_map h l]; rfl
theorem ro_s (e : TypeId) (n : Nat) (xs : List T) : (T.s e n xs).ro = .r e n (ros xs) := by rw [T.ro]
theorem ro_r (e : TypeId) (n : Nat) (xs : List T) : (T.r e n xs).ro = .r e n xs := by rw [T.ro]
@[simp] theorem ros_sIns (e : TypeId) (l : List (List Ins)) : ros (l.map (sIns e)) = l.map (rIns e) := ros_map (fun x => by rw [sIns, ro_s, insT_ros]; rfl) l
@[simp] theorem ros_rIns (e : TypeId) (l : List (List Ins)) : ros (l.map (rIns e)) = l.map (rIns e) := ros_map (fun x => by rw [rIns, ro_r]) l
@[simp] theorem ros_sItem (e : TypeId) (l : List (List Itm)) : ros (l.map (sItem e)) = l.map (rItem e) := ros_map (fun x => by rw [sItem, ro_s, itT_ros]; rfl) l
@[simp] theorem ros_rItem (e : TypeId) (l : List (List Itm)) : ros (l.map (rItem e)) = l.map (rItem e) := ros_map (fun x => by rw [rItem, ro_r]) l
@[simp] theorem ros_sEvent (e : TypeId) (l : List (List Ev)) : ros (l.map (sEvent e)) = l.map (rEvent e) := ros_map (fun x => by rw [sEvent, ro_s, evT_ros]; rfl) l
@[simp] theorem ros_rEvent (e : TypeId) (l : List (List Ev)) : ros (l.map (rEvent e)) = l.map (rEvent e) := ros_map (fun x => by rw [rEvent, ro_r]) l
theorem ros_fm {α : Type} {f g : α → List T} (h : ∀ x, ros (f x) = g x) : ∀ l : List α, ros (l.flatMap f) = l.flatMap g
 | [] => rfl
 | x :: l => by rw [List.flatMap_cons, ros_app, h, ros_fm h l]; rfl
@[simp] theorem ros_ssT (l : List Sta) : ros (ssT l) = stT l := ros_fm (fun x => by
 show ros [T.v _, .s _ _ _, .s _ _ _, .v _] = [T.v _, .r _ _ _, .r _ _ _, .v _]
 simp only [ros, ro_s, ros_ints]
 rfl) l
@[simp] theorem ros_stT (l : List Sta) : ros (stT l) = stT l := ros_fm (fun x => by
 show ros [T.v _, .r _ _ _, .r _ _ _, .v _] = [T.v _, .r _ _ _, .r _ _ _, .v _]
 simp only [ros, ro_r]
 rfl) l
def syR (s : Sy) : List T := [.r 100 s.progs.length (s.progs.map (rIns 105)), .r 71 s.states.length (stT s.states), .r 97 s.ways.length (s.ways.map (rItem 99)), .r 68 s.hist.length (s.hist.map (rEvent 96))]
def syS (s : Sy) : List T := [.s 100 s.progs.length (s.progs.map (sIns 105)), .s 71 s.states.length (ssT s.states), .s 97 s.ways.length (s.ways.map (sItem 99)), .s 68 s.hist.length (s.hist.map (sEvent 96))]
structure Small (s : Sy) : Prop where
 progs : s.progs.length ≤ 1048576
 progsT : tot s.progs ≤ 1048576
 states : s.states.length ≤ 1048576
 statesT : tot (s.states.map nums) ≤ 1048576
 ways : s.ways.length ≤ 1048576
 waysT : tot s.ways ≤ 1048576
 hist : s.hist.length ≤ 1048576
 histT : tot s.hist ≤ 1048576
theorem Small.sta {s : Sy} (h : Small s) : ∀ x ∈ s.states, x.regs.length ≤ 1048576 ∧ x.out.length ≤ 1048576 := fun x hx => by
 obtain ⟨i, hi, rfl⟩ := List.getElem_of_mem hx
 have h1 := totS_len hi
 have h2 := h.statesT
 omega
theorem inB_nat {k : Int} {n : Nat} (h : inB k 0 ((n : Int) - 1) = true) : ∃ m : Nat, k = m ∧ m < n := by
 have := inB_le h
 exact ⟨k.toNat, by omega, by omega⟩
def wayI (s : Sy) (a b : Int) : Int := if inB a 0 ((s.progs.length : Int) - 1) = true ∧ inB b 0 ((s.progs.length : Int) - 1) = true ∧ a * s.progs.length + b < s.ways.length then a * s.progs.length + b else -1
theorem mul_le20 {a n : Nat} (ha : a ≤ 1048576) (hn : n ≤ 1048576) : (a : Int) * (n : Int) ≤ 1099511627776 ∧ 0 ≤ (a : Int) * (n : Int) := by
 have := Nat.mul_le_mul ha hn
 have h2 : ((a * n : Nat) : Int) = (a : Int) * (n : Int) := by simp
 omega
theorem run_wayAt {j : Nat} (s : Sy) (h : Small s) (a b : Int) : M.run (j + 2) 81 [.agg (syR s), .c (.v (.int .i64 a)), .c (.v (.int .i64 b))] = some ([.c (.v (.int .i64 (wayI s a b)))], [.agg (syR s), .c (.v (.int .i64 a)), .c (.v (.int .i64 b))]) := by
 have b1 := h.progs
 rw [m_run (fn := Tryz.f81) (i0 := 0) rfl Tryz.func81 rfl rfl (by simp [syR])]
 unfold wayI
 have hw := w64 (x := (s.progs.length : Int) - 1) (by omega)
 cases ha : inB a 0 ((s.progs.length : Int) - 1)
 ·simp -implicitDefEqProofs [syR, own1, run64, hw, ha]
 cases hb : inB b 0 ((s.progs.length : Int) - 1)
 ·simp -implicitDefEqProofs [syR, own1, run64, hw, ha, hb]
 obtain ⟨ka, rfl, la⟩ := inB_nat ha
 obtain ⟨kb, rfl, lb⟩ := inB_nat hb
 have hm := mul_le20 (a := ka) (n := s.progs.length) (by omega) b1
 have w1 := w64 (x := (ka : Int) * (s.progs.length : Int)) (by omega)
 have w2 := w64 (x := (ka : Int) * (s.progs.length : Int) + kb) (by omega)
 by_cases hc : (ka : Int) * (s.progs.length : Int) + kb < s.ways.length
 ·simp -implicitDefEqProofs [syR, own1, run64, hw, ha, hb, w1, w2, hc, show ¬ (s.ways.length : Int) ≤ (ka : Int) * (s.progs.length : Int) + kb by omega]
 ·simp -implicitDefEqProofs [syR, own1, run64, hw, ha, hb, w1, w2, hc, show (s.ways.length : Int) ≤ (ka : Int) * (s.progs.length : Int) + kb by omega]
theorem rItem_at {l : List (List Itm)} {e : TypeId} {m : Nat} (hm : m < l.length) : (l.map (rItem e))[m]? = some (.r e l[m].length (itT l[m])) := by
 rw [List.getElem?_map, List.getElem?_eq_getElem hm]
 rfl
theorem run_cloneItem {j : Nat} (xs : List Itm) (hx : xs.length ≤ 1048576) : M.run (j + 1) 69 [.c (.r 99 xs.length (itT xs))] = some ([.c (.s 99 xs.length (itT xs))], [.c (.r 99 xs.length (itT xs))]) :=
 show cloneG 99 _ = _ from cloneG_eq (itT_v xs) (by rw [itT_len]; unfold most; omega)
end Go.Proofs.YtninncdacekfgaaGreat.VM
