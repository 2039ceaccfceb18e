/- What is ready; systems copied; steps of none: reckoned. -/
import Derived.Test.YtninncdacekfgaaK17
import Derived.Test.YtninncdacekfgaaK53
/- A step of the specification: reckoned. -/
namespace Go.Proofs.Ytninncdacekfgaa.VM
open Go Go.Proofs
set_option linter.unusedSimpArgs false
set_option linter.unusedVariables false
set_option maxRecDepth 100000
set_option maxHeartbeats 40000000
theorem ssT_3 {l : List Sta} {i : Nat} (hi : i < l.length) : (ssT l)[i * 4 + 3]? = some (.v (.int .i64 l[i].code)) := fm_get sSta_len hi (by omega)
theorem ssT_2 {l : List Sta} {i : Nat} (hi : i < l.length) : (ssT l)[i * 4 + 2]? = some (.s 3 l[i].out.length (ints l[i].out)) := fm_get sSta_len hi (by omega)
theorem ssT_1 {l : List Sta} {i : Nat} (hi : i < l.length) : (ssT l)[i * 4 + 1]? = some (.s 3 l[i].regs.length (ints l[i].regs)) := fm_get sSta_len hi (by omega)
theorem ssT_0 {l : List Sta} {i : Nat} (hi : i < l.length) : (ssT l)[i * 4]? = some (.v (.int .i64 l[i].at_)) := by
 have := fm_get (o := 0) sSta_len hi (by omega)
 exact this
theorem ssT_set {l : List Sta} {i : Nat} (hi : i < l.length) (y : Sta) : ((((ssT l).set (i * 4) (.v (.int .i64 y.at_))).set (i * 4 + 1) (.s 3 y.regs.length (ints y.regs))).set (i * 4 + 2) (.s 3 y.out.length (ints y.out))).set (i * 4 + 3) (.v (.int .i64 y.code)) = ssT (l.set i y) := by
 have := fm_set sSta_len hi y
 exact this
theorem sIns_at {l : List (List Ins)} {e : TypeId} {m : Nat} (hm : m < l.length) : (l.map (sIns e))[m]? = some (.s e l[m].length (insT l[m])) := by
 rw [List.getElem?_map, List.getElem?_eq_getElem hm]
 rfl
theorem sItem_at {l : List (List Itm)} {e : TypeId} {m : Nat} (hm : m < l.length) : (l.map (sItem e))[m]? = some (.s e l[m].length (itT l[m])) := by
 rw [List.getElem?_map, List.getElem?_eq_getElem hm]
 rfl
theorem sEvent_at {l : List (List Ev)} {e : TypeId} {m : Nat} (hm : m < l.length) : (l.map (sEvent e))[m]? = some (.s e l[m].length (evT l[m])) := by
 rw [List.getElem?_map, List.getElem?_eq_getElem hm]
 rfl
theorem evS_set {l : List (List Ev)} {e : TypeId} {m : Nat} (r : List Ev) (x : Ev) : (l.map (sEvent e)).set m (.s e (r.length + 1) (evT r ++ [.v (.int .i64 x.kind), .v (.int .i64 x.peer), .v (.int .i64 x.v)])) = (l.set m (r ++ [x])).map (sEvent e) := by
 rw [List.map_set]
 unfold sEvent
 rw [show evT (r ++ [x]) = evT r ++ [.v (.int .i64 x.kind), .v (.int .i64 x.peer), .v (.int .i64 x.v)] by simp [evT, tEv]]
 simp
theorem itS_set {l : List (List Itm)} {e : TypeId} {m : Nat} (r : List Itm) (v : Int) : (l.map (sItem e)).set m (.s e (r.length + 1) (itT r ++ [.v (.bool false), .v (.int .i64 v)])) = (l.set m (r ++ [⟨false, v⟩])).map (sItem e) := by
 rw [List.map_set]
 unfold sItem
 rw [show itT (r ++ [⟨false, v⟩]) = itT r ++ [.v (.bool false), .v (.int .i64 v)] by simp [itT, tItem]]
 simp
def goneS : A := .agg [.h, .h, .h, .h]
end Go.Proofs.Ytninncdacekfgaa.VM

/- A step of the specification, in full: reckoned. -/
namespace Go.Proofs.Ytninncdacekfgaa.VM
open Go Go.Proofs
set_option linter.unusedSimpArgs false
set_option linter.unusedVariables false
set_option maxRecDepth 100000
set_option maxHeartbeats 40000000
theorem roundN {j : Nat} {l : List Ins} {s : Sta} (hp : progB l 4 = true) (h : Rok l s) :
  M.run (j + 1) 36 [.c (.r 40 l.length (insT l)), .agg (tSta s)] = some ([.agg (tEv (nextE (insAt l s.at_) s.regs))], [.c (.r 40 l.length (insT l)), .agg (tSta s)]) := by
 have R := rok_rt hp h
 obtain ⟨i, hi, h1, h2⟩ := insAt_of h
 obtain ⟨a, xs, ys, c⟩ := s
 simp only at h1
 subst h1
 rw [h2] at R ⊢
 exact run83 (j := j) l i hi c xs ys R.regs (fun _ => R.a)
theorem itT_drop2 (r : List Itm) : (itT r).drop 2 = itT r.tail := by cases r <;> simp [itT, tItem]
theorem itS_tl {l : List (List Itm)} {e : TypeId} {m n : Nat} (r : List Itm) (hn : r.length = n + 1) : (l.map (sItem e)).set m (.s e n (itT r.tail)) = (l.set m r.tail).map (sItem e) := by
 rw [List.map_set]
 unfold sItem
 rw [List.length_tail, hn]
 rfl
end Go.Proofs.Ytninncdacekfgaa.VM
