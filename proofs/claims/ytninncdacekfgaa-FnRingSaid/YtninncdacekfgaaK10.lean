/- Processes that are right; ways that fit; the row. -/
import Derived.Test.YtninncdacekfgaaK9
import Derived.Test.YtninncdacekfgaaK7
import Derived.Test.YtninncdacekfgaaK8
/- A process that is right by itself; ways that fit: the program's, reckoned. -/
namespace Go.Proofs.Ytninncdacekfgaa.VM
open Go Go.Proofs
set_option linter.unusedSimpArgs false
set_option linter.unusedVariables false
set_option maxRecDepth 100000
set_option maxHeartbeats 20000000
theorem rIns_at {l : List (List Ins)} {e : TypeId} {m : Nat} (hm : m < l.length) : (l.map (rIns e))[m]? = some (.r e l[m].length (insT l[m])) := by
 rw [List.getElem?_map, List.getElem?_eq_getElem hm]
 rfl
theorem rEvent_at {l : List (List Ev)} {e : TypeId} {m : Nat} (hm : m < l.length) : (l.map (rEvent e))[m]? = some (.r e l[m].length (evT l[m])) := by
 rw [List.getElem?_map, List.getElem?_eq_getElem hm]
 rfl
theorem Small.prog {s : Sy} (h : Small s) {p : Nat} (hp : p < s.progs.length) : s.progs[p].length ≤ 1048576 := by
 have := tot_len s.progs _ (List.getElem_mem hp)
 have := h.progsT
 omega
theorem Small.way {s : Sy} (h : Small s) {p : Nat} (hp : p < s.ways.length) : s.ways[p].length ≤ 1048576 := by
 have := tot_len s.ways _ (List.getElem_mem hp)
 have := h.waysT
 omega
theorem Small.his {s : Sy} (h : Small s) {p : Nat} (hp : p < s.hist.length) : s.hist[p].length ≤ 1048576 := by
 have := tot_len s.hist _ (List.getElem_mem hp)
 have := h.histT
 omega
theorem replayS_len (l : List Ins) (es : List Ev) : (replayS l es).regs.length ≤ 1048576 ∧ (replayS l es).out.length ≤ 1048576 := by
 unfold replayS
 split
 ·rename_i hc
  simp only [Bool.and_eq_true] at hc
  unfold repS
  split
  ·rename_i hr
   have R := st_rok (n := es.length) hc.1 fun i hi => by
    rcases allTo_or (fun i => canB l (stAt l es i) (evAt es i)) es.length with ⟨_, h⟩ | ⟨h, _⟩
    ·exact h i hi
    ·unfold repB at hr
     rw [h] at hr
     simp at hr
   have := R.regs
   have := R.out
   omega
  ·simp
 ·simp
def procB (s : Sy) (p : Nat) : Bool := progB ((s.progs[p]?).getD []) s.progs.length && (peersB (rowH s.hist p) s.progs.length && (replayB ((s.progs[p]?).getD []) (rowH s.hist p) && sameB (replayS ((s.progs[p]?).getD []) (rowH s.hist p)) ((s.states[p]?).getD ⟨0, [], [], 0⟩)))
theorem run_procOk {j : Nat} (hj : big ≤ j) (s : Sy) (h : Small s) (p : Nat) (h1 : p < s.progs.length) (h2 : p < s.states.length) (h3 : p < s.hist.length) :
  M.run (j + 9) 71 [.agg (syR s), .c (.v (.int .i64 p))] = some ([.c (.v (.bool (procB s p)))], [.agg (syR s), .c (.v (.int .i64 p))]) := by
 have b1 := h.progs
 have e1 := run50 (j := j + 1) (by omega) s.progs[p] s.progs.length (h.prog h1)
 have e2 := run_peersOk (j := j + 3) (by omega) s.hist[p] s.progs.length (by omega) (h.his h3)
 have e3 := run_implReplay hj s.progs[p] s.hist[p] (h.prog h1) (h.his h3)
 have hl := replayS_len s.progs[p] s.hist[p]
 have e4 := run_sameState (j := j + 6) (by omega) (replayS s.progs[p] s.hist[p]) s.states[p] hl.1 hl.2
 have eq : procB s p = (progB s.progs[p] s.progs.length && (peersB s.hist[p] s.progs.length && (replayB s.progs[p] s.hist[p] && sameB (replayS s.progs[p] s.hist[p]) s.states[p]))) := by
  unfold procB rowH
  rw [List.getElem?_eq_getElem h1, List.getElem?_eq_getElem h2, List.getElem?_eq_getElem h3]
  rfl
 rw [eq, m_run (fn := Try.f71) (i0 := 0) rfl Try.func71 rfl rfl (by simp [syR])]
 generalize replayS s.progs[p] s.hist[p] = D at *
 generalize sameB D s.states[p] = q4 at *
 generalize replayB s.progs[p] s.hist[p] = q3 at *
 generalize peersB s.hist[p] s.progs.length = q2 at *
 generalize progB s.progs[p] s.progs.length = q1 at *
 simp only [tSta, stR, sSta, stS] at e3 e4
 cases q1
 ·simp -implicitDefEqProofs [syR, own1, e1, h1, rIns_at h1, rIns]
 cases q2
 ·simp -implicitDefEqProofs [syR, own1, e1, e2, h1, h3, rIns_at h1, rIns, rEvent_at h3, rEvent]
 cases q3
 ·simp -implicitDefEqProofs [syR, own1, e1, e2, e3, h1, h3, rIns_at h1, rIns, rEvent_at h3, rEvent]
 ·simp -implicitDefEqProofs [syR, own1, e1, e2, e3, e4, h1, h2, h3, rIns_at h1, rIns, rEvent_at h3, rEvent, tSta, stR, stT_1 h2, stT_2 h2, show p * 4 + 4 ≤ s.states.length * 4 by omega]
end Go.Proofs.Ytninncdacekfgaa.VM

/- Ways that fit; all ways: the program's, reckoned. -/
namespace Go.Proofs.Ytninncdacekfgaa.VM
open Go Go.Proofs
set_option linter.unusedSimpArgs false
set_option linter.unusedVariables false
set_option maxRecDepth 100000
set_option maxHeartbeats 20000000
theorem run_concat {j : Nat} (xs ys : List Int) (hx : xs.length ≤ 1048576) (hy : ys.length ≤ 1048576) : M.run (j + 1) 101 [.c (.r 25 2 [.r 3 xs.length (ints xs), .r 3 ys.length (ints ys)])] = some ([.c (.s 3 (xs ++ ys).length (ints (xs ++ ys)))], [.c (.r 25 2 [.r 3 xs.length (ints xs), .r 3 ys.length (ints ys)])]) := by
 have e : M.run (j + 1) 101 [.c (.r 25 2 [.r 3 xs.length (ints xs), .r 3 ys.length (ints ys)])] = concatG 3 [.c (.r 25 2 [.r 3 xs.length (ints xs), .r 3 ys.length (ints ys)])] := rfl
 rw [e]
 unfold concatG
 show (if _ then _ else _) = _
 rw [if_pos ⟨rfl, rfl, rfl, allV_ints xs, allV_ints ys, ints_len xs, ints_len ys, by omega⟩, List.length_append, ints_append]
def wayR (s : Sy) (a b : Nat) : List Itm := (s.ways[a * s.progs.length + b]?).getD []
def fitsB (s : Sy) (a b : Nat) : Bool := decide (valsE (rowH s.hist b) 3 a ++ numsI (wayR s a b) = valsE (rowH s.hist a) 2 b)
theorem cast_idx (a n b : Nat) : ((a * n + b : Nat) : Int) = (a : Int) * n + b := by simp
theorem run_fits {j : Nat} (hj : big ≤ j) (s : Sy) (h : Small s) (a b : Nat) (ha : a < s.progs.length) (hb : b < s.progs.length) (ha3 : a < s.hist.length) (hb3 : b < s.hist.length) (hw : a * s.progs.length + b < s.ways.length) :
  M.run (j + 3) 72 [.agg (syR s), .c (.v (.int .i64 a)), .c (.v (.int .i64 b))] = some ([.c (.v (.bool (fitsB s a b)))], [.agg (syR s), .c (.v (.int .i64 a)), .c (.v (.int .i64 b))]) := by
 have b1 := h.progs
 have e1 := run_implValues (j := j) hj s.hist[b] 3 a (h.his hb3)
 have e2 := run_wayAt (j := j) s h a b
 have e3 := run_implNumbers (j := j + 1) (by omega) s.ways[a * s.progs.length + b] (h.way hw)
 have e5 := run_implValues (j := j) hj s.hist[a] 2 b (h.his ha3)
 have l1 := valsE_le s.hist[b] 3 a
 have l2 := numsI_le s.ways[a * s.progs.length + b]
 have l3 := h.his hb3
 have l4 := h.way hw
 have eq : fitsB s a b = decide (valsE s.hist[b] 3 a ++ numsI s.ways[a * s.progs.length + b] = valsE s.hist[a] 2 b) := by
  unfold fitsB rowH wayR
  rw [List.getElem?_eq_getElem ha3, List.getElem?_eq_getElem hb3, List.getElem?_eq_getElem hw]
  rfl
 have ew : wayI s a b = (a * s.progs.length + b : Nat) := by
  unfold wayI
  rw [if_pos ⟨by simp [inB]; omega, by simp [inB]; omega, by rw [← cast_idx]; omega⟩, cast_idx]
 rw [ew] at e2
 have e4 := run_concat (j := j + 1) (valsE s.hist[b] 3 a) (numsI s.ways[a * s.progs.length + b]) (by omega) (by omega)
 have e6 := run_equalI (j := j + 1) (by omega) (valsE s.hist[b] 3 a ++ numsI s.ways[a * s.progs.length + b]) (valsE s.hist[a] 2 b) (by rw [List.length_append]; omega)
 rw [eq, m_run (fn := Try.f72) (i0 := 0) rfl Try.func72 rfl rfl (by simp [syR])]
 generalize decide (valsE s.hist[b] 3 a ++ numsI s.ways[a * s.progs.length + b] = valsE s.hist[a] 2 b) = q at *
 generalize valsE s.hist[b] 3 a = V1 at *
 generalize valsE s.hist[a] 2 b = V2 at *
 generalize numsI s.ways[a * s.progs.length + b] = V3 at *
 generalize V1 ++ V3 = W at *
 generalize hm : a * s.progs.length + b = m at *
 simp only [syR] at e2 ⊢
 simp -implicitDefEqProofs [own1, e1, e2, e3, e4, e5, e6, ha3, hb3, hw, rEvent_at ha3, rEvent_at hb3, rEvent, rItem_at hw, rItem, ros, ro_s, ros_ints]
end Go.Proofs.Ytninncdacekfgaa.VM

/- All ways; all events; the row in which the events are put: the program's, reckoned. -/
namespace Go.Proofs.Ytninncdacekfgaa.VM
open Go Go.Proofs
set_option linter.unusedSimpArgs false
set_option linter.unusedVariables false
set_option maxRecDepth 100000
set_option maxHeartbeats 20000000
def H_idxW (ws : List (List Itm)) (i : Nat) : St := ⟨[(0, .c (.sl 0 [] 0 ws.length)), (1, .fn 69 []), (7, .c (.v (.int .i64 ws.length))), (8, .c (.v (.int .i64 i)))], [(0, ⟨.ro, 92, ws.map (rItem 100)⟩)]⟩
theorem run_idxW {j : Nat} (hj : big ≤ j) (ws : List (List Itm)) (hl : ws.length ≤ 1048576) (hx : ∀ w ∈ ws, w.length ≤ 1048576) : ∃ n : Int, M.run (j + 8) 93 [.c (.r 92 ws.length (ws.map (rItem 100))), .fn 69 []] = some ([.c (.v (.int .i64 n))], [.c (.r 92 ws.length (ws.map (rItem 100))), .fn 69 []]) ∧ decide (0 ≤ n) = !ws.all wayB := by
 rcases first_bad wayB ws with hc | ⟨n, hn, hc, hg⟩
 ·refine ⟨-1, ?_, by rw [all_of hc]; rfl⟩
  rw [m_run (fn := Try.f93) (i0 := 0) rfl Try.func93 rfl rfl (by simp)]
  simp -implicitDefEqProofs
  rw [loop_to (H_idxW ws) ws.length (by simp -implicitDefEqProofs [H_idxW, hint1]) (by simp [big] at hj; omega) (fun i hi => by
   have e := run_SysOk1 (j := j) hj ws[i] (hx _ (List.getElem_mem hi))
   rw [hc i hi] at e
   simp -implicitDefEqProofs [H_idxW, hint1, hi, w64 (x := (i : Int) + 1) (by omega), rItem_at hi, rItem, e, own1]) (by simp -implicitDefEqProofs [H_idxW, stops])]
  simp -implicitDefEqProofs [H_idxW]
 ·refine ⟨n, ?_, by rw [not_all hn hc]; simp⟩
  rw [m_run (fn := Try.f93) (i0 := 0) rfl Try.func93 rfl rfl (by simp)]
  simp -implicitDefEqProofs
  have e := run_SysOk1 (j := j) hj ws[n] (hx _ (List.getElem_mem hn))
  rw [hc] at e
  rw [loop_to (H_idxW ws) n (by simp -implicitDefEqProofs [H_idxW, hint1]) (by simp [big] at hj; omega) (fun i hi => by
   have hi' : i < ws.length := by omega
   have e := run_SysOk1 (j := j) hj ws[i] (hx _ (List.getElem_mem hi'))
   rw [hg i hi] at e
   simp -implicitDefEqProofs [H_idxW, hint1, hi', w64 (x := (i : Int) + 1) (by omega), rItem_at hi', rItem, e, own1]) (by simp -implicitDefEqProofs [H_idxW, stops, hn, e, rItem_at hn, rItem, own1])]
  simp -implicitDefEqProofs [H_idxW, hn, e, own1, rItem_at hn, rItem]
theorem run_allWays {j : Nat} (hj : big ≤ j) (ws : List (List Itm)) (hl : ws.length ≤ 1048576) (hx : ∀ w ∈ ws, w.length ≤ 1048576) : M.run (j + 9) 68 [.c (.r 92 ws.length (ws.map (rItem 100))), .fn 69 []] = some ([.c (.v (.bool (!ws.all wayB)))], [.c (.r 92 ws.length (ws.map (rItem 100))), .fn 69 []]) := by
 obtain ⟨n, h1, h2⟩ := run_idxW hj ws hl hx
 rw [m_run (fn := Try.f68) (i0 := 0) rfl Try.func68 rfl rfl (by simp)]
 simp -implicitDefEqProofs [h1, own1, ← h2]
/-! ### all events -/
theorem rowH_of {h : List (List Ev)} {p : Nat} (hp : p < h.length) : rowH h p = h[p] := by
 unfold rowH
 rw [List.getElem?_eq_getElem hp]
 rfl
theorem sum_tot (h : List (List Ev)) : ∀ {n : Nat}, n ≤ h.length → sumD (fun q => (rowH h q).length) n = tot (h.take n)
 | 0, _ => by simp [sumD, tot]
 | n + 1, hn => by
  rw [sumD, sum_tot h (by omega), tot_take_succ (by omega), rowH_of (by omega)]
theorem allE_tot (h : List (List Ev)) : allE h = tot h := by
 unfold allE
 rw [sum_tot h (Nat.le_refl _), List.take_of_length_le (Nat.le_refl _)]
def H_all (h : List (List Ev)) (i : Nat) : St := ⟨[(3, .c (.v (.int .i64 (sumD (fun q => (rowH h q).length) i)))), (6, .c (.sl 0 [] 0 h.length)), (7, .c (.v (.int .i64 h.length))), (8, .c (.v (.int .i64 i)))], [(0, ⟨.ro, 54, h.map (rEvent 29)⟩)]⟩
theorem run_allEvents {j : Nat} (hj : big ≤ j) (h : List (List Ev)) (hl : h.length ≤ 1048576) (ht : tot h ≤ 1048576) : M.run (j + 1) 74 [.c (.r 54 h.length (h.map (rEvent 29)))] = some ([.c (.v (.int .i64 (allE h)))], [.c (.r 54 h.length (h.map (rEvent 29)))]) := by
 rw [m_run (fn := Try.f74) (i0 := 0) rfl Try.func74 rfl rfl (by simp)]
 simp -implicitDefEqProofs
 rw [loop_to (H_all h) h.length (by simp -implicitDefEqProofs [H_all, hint1, sumD]) (by simp [big] at hj; omega) (fun i hi => by
  have h1 : sumD (fun q => (rowH h q).length) (i + 1) ≤ 1048576 := by
   rw [sum_tot h (by omega)]
   exact Nat.le_trans (tot_take_le h (i + 1)) ht
  rw [sumD, rowH_of hi] at h1
  simp -implicitDefEqProofs [H_all, hint1, hi, sumD, rowH_of hi, rEvent_at hi, rEvent, w64 (x := (i : Int) + 1) (by omega), w64 (x := (sumD (fun q => (rowH h q).length) i : Int) + (h[i].length : Int)) (by omega)]) (by simp -implicitDefEqProofs [H_all, stops])]
 simp -implicitDefEqProofs [H_all, allE]
/-! ### the row -/
def whoF (x : Int × Int) : List T := [.v (.int .i64 x.1), .v (.int .i64 x.2)]
theorem whoF_len (x : Int × Int) : (whoF x).length = 2 := rfl
def whoT (l : List (Int × Int)) : List T := l.flatMap whoF
@[simp] theorem whoT_len (l : List (Int × Int)) : (whoT l).length = l.length * 2 := fm_len whoF_len l
@[simp] theorem whoT_v (l : List (Int × Int)) : allV (whoT l) = true := fm_v (fun _ => rfl) l
@[simp] theorem whoT_nil : whoT [] = [] := rfl
@[simp] theorem whoT_take (l : List (Int × Int)) (n : Nat) : (whoT l).take (n * 2) = whoT (l.take n) := fm_take whoF_len l n
theorem whoT_snoc (l : List (Int × Int)) (a b : Int) : whoT l ++ [.v (.int .i64 a), .v (.int .i64 b)] = whoT (l ++ [(a, b)]) := by
 unfold whoT
 rw [List.flatMap_append]
 rfl
def dL (d : Nat → Nat) (n : Nat) : List Int := (List.range n).map fun q => (d q : Int)
@[simp] theorem dL_len (d : Nat → Nat) (n : Nat) : (dL d n).length = n := by simp [dL]
theorem dL_get {d : Nat → Nat} {n p : Nat} (hp : p < n) : (ints (dL d n))[p]? = some (.v (.int .i64 (d p))) := by
 rw [ints_get (by simpa using hp)]
 simp [dL]
@[simp] theorem dL_at {d : Nat → Nat} {n p : Nat} (hp : p < (dL d n).length) : (dL d n)[p] = (d p : Int) := by simp [dL]
theorem dL_zero (n : Nat) : ints (List.replicate n 0) = ints (dL (fun _ => 0) n) := by
 congr 1
 apply List.ext_getElem?
 intro i
 simp only [dL, List.getElem?_map, List.getElem?_replicate]
 split
 ·rename_i h; rw [List.getElem?_range h]; rfl
 ·rename_i h; rw [List.getElem?_eq_none (by simpa using h)]; rfl
theorem dL_set {d : Nat → Nat} {n p : Nat} (hp : p < n) : (dL d n).set p ((d p : Int) + 1) = dL (bump d p) n := by
 apply List.ext_getElem?
 intro i
 rw [List.getElem?_set]
 simp only [dL, List.length_map, List.length_range, List.getElem?_map]
 by_cases h : p = i
 ·subst h
  rw [if_pos rfl, if_pos hp, List.getElem?_range hp]
  simp [bump]
 ·rw [if_neg h]
  rcases Nat.lt_or_ge i n with h' | h'
  ·rw [List.getElem?_range h']
   simp [bump, show ¬ i = p from fun e => h e.symm]
  ·rw [List.getElem?_eq_none (by simpa using h')]
   rfl
noncomputable def rowN (h : List (List Ev)) : Nat := Classical.choose (row_ends h)
noncomputable def rowF (h : List (List Ev)) : RowS := rowAt h (rowN h)
def PeersIn (h : List (List Ev)) : Prop := ∀ (p : Nat) (hp : p < h.length) (i : Nat) (hi : i < h[p].length), h[p][i].kind = 3 → 0 ≤ h[p][i].peer ∧ h[p][i].peer < h.length
def H_row (h : List (List Ev)) (i : Nat) : St := ⟨[(0, .c (.sl 0 [] 0 h.length)), (3, .c (.sl 512 [] 0 (rowAt h i).out.length)), (4, .c (.sl 704 [] 0 h.length)), (5, .c (.v (.int .i64 (rowAt h i).p)))], [(0, ⟨.ro, 54, h.map (rEvent 29)⟩), (512, ⟨.own, 110, whoT (rowAt h i).out⟩), (704, ⟨.own, 3, ints (dL (rowAt h i).d h.length)⟩)]⟩
theorem valsE_cnt (es : List Ev) (k p : Int) : (valsE es k p).length = cntE es k p := by
 unfold valsE cntE
 rw [List.length_map, ← List.countP_eq_length_filter]
 rfl
theorem run_rowOf {j : Nat} (hj : big ≤ j) (h : List (List Ev)) (hl : h.length ≤ 1048576) (ht : tot h ≤ 1048576) (hpe : PeersIn h) : M.run (j + 4) 73 [.c (.r 54 h.length (h.map (rEvent 29)))] = some ([.c (.s 110 (rowF h).out.length (whoT (rowF h).out))], [.c (.r 54 h.length (h.map (rEvent 29)))]) := by
 obtain ⟨q1, q2, q3, q4⟩ := Classical.choose_spec (row_ends h)
 have hN : rowN h ≤ (1048576 + 1) * (1048576 + 1) := Nat.le_trans q1 (Nat.mul_le_mul (by rw [allE_tot]; omega) (by omega))
 have q2 : (rowAt h (rowN h)).p = h.length := q2
 rw [m_run (fn := Try.f73) (i0 := 0) rfl Try.func73 rfl rfl (by simp)]
 simp -implicitDefEqProofs [le_most hl]
 rw [loop_to (H_row h) (rowN h) (by simp -implicitDefEqProofs [H_row, hint1, rowAt, again, row0, ints_rep, dL_zero]) (by simp [big] at hj; omega) (fun i hi => by
  have hp := q3 i hi
  have hI := q4 i (Nat.le_of_lt hi)
  have hd := reach_len hI.reach
  have ho : (rowAt h i).out.length ≤ 1048576 := by rw [hI.len]; exact Nat.le_trans (reach_sum hI.reach) (by rw [allE_tot]; exact ht)
  have hs : rowAt h (i + 1) = rowStep h (rowAt h i) := rfl
  have hen : ∀ d p, enB h d p = if d p = (rowH h p).length then false else !((evAt (rowH h p) (d p)).kind == 3 && decide (cntE ((rowH h (evAt (rowH h p) (d p)).peer.toNat).take (d (evAt (rowH h p) (d p)).peer.toNat)) 2 p ≤ cntE ((rowH h p).take (d p)) 3 (evAt (rowH h p) (d p)).peer)) := fun d p => rfl
  unfold rowStep at hs
  rw [hen] at hs
  clear hen
  unfold H_row
  rw [hs]
  clear hs
  generalize rowAt h i = x at *
  obtain ⟨d, p, out⟩ := x
  simp only at *
  have hdp := hd p
  rw [rowH_of hp] at *
  have tt : h[p].length ≤ tot h := tot_len h _ (List.getElem_mem hp)
  by_cases k1 : d p = h[p].length
  ·rw [if_pos k1]
   simp -implicitDefEqProofs [hint1, hp, dL_get hp, rEvent_at hp, rEvent, k1, w64 (x := (p : Int) + 1) (by omega)]
  ·have k2 : d p < h[p].length := by omega
   rw [if_neg k1, evAt_of k2]
   by_cases k3 : h[p][d p].kind = 3
   ·obtain ⟨g1, g2⟩ := hpe p hp (d p) k2 k3
    obtain ⟨q, hq⟩ : ∃ q : Nat, h[p][d p].peer = q := ⟨h[p][d p].peer.toNat, by omega⟩
    rw [hq] at g2 ⊢
    have hqn : q < h.length := by omega
    have hdq := hd q
    rw [rowH_of hqn] at hdq
    have tq : h[q].length ≤ tot h := tot_len h _ (List.getElem_mem hqn)
    have e1 := run_implCount (j := j) hj (h[p].take (d p)) 3 q (by rw [List.length_take]; omega)
    have e2 := run_implCount (j := j) hj (h[q].take (d q)) 2 p (by rw [List.length_take]; omega)
    rw [valsE_cnt, List.length_take, Nat.min_eq_left hdp] at e1
    rw [valsE_cnt, List.length_take, Nat.min_eq_left hdq] at e2
    rw [Int.toNat_natCast, rowH_of hqn, k3]
    by_cases k4 : cntE (h[q].take (d q)) 2 p ≤ cntE (h[p].take (d p)) 3 q
    ·simp -implicitDefEqProofs [hint1, hp, hqn, dL_get hp, dL_get hqn, rEvent_at hp, rEvent_at hqn, rEvent, k1, k2, k3, k4, hq, tEv, own1, e1, e2, hdp, hdq, show d q * 3 ≤ h[q].length * 3 by omega, w64 (x := (p : Int) + 1) (by omega), show ¬ ((d p : Int) = (h[p].length : Int)) by omega, show d p * 3 + 3 ≤ h[p].length * 3 by omega, show d p * 3 ≤ h[p].length * 3 by omega, show p + 1 ≤ h.length by omega]
    ·simp -implicitDefEqProofs [hint1, hp, hqn, dL_get hp, dL_get hqn, rEvent_at hp, rEvent_at hqn, rEvent, k1, k2, k3, k4, hq, tEv, own1, e1, e2, hdp, hdq, show d q * 3 ≤ h[q].length * 3 by omega, w64 (x := (d p : Int) + 1) (by omega), w64 (x := 0) (by decide), show ¬ ((d p : Int) = (h[p].length : Int)) by omega, show d p * 3 + 3 ≤ h[p].length * 3 by omega, show d p * 3 ≤ h[p].length * 3 by omega, show p + 1 ≤ h.length by omega, whoT_snoc, dL_set hp, show out.length * 2 + 2 ≤ most by unfold most; omega]
   ·simp -implicitDefEqProofs [hint1, hp, dL_get hp, rEvent_at hp, rEvent, k1, k2, k3, tEv, own1, w64 (x := (d p : Int) + 1) (by omega), w64 (x := 0) (by decide), show ¬ ((d p : Int) = (h[p].length : Int)) by omega, show d p * 3 + 3 ≤ h[p].length * 3 by omega, show d p * 3 ≤ h[p].length * 3 by omega, show p + 1 ≤ h.length by omega, whoT_snoc, dL_set hp, show out.length * 2 + 2 ≤ most by unfold most; omega]) (by simp -implicitDefEqProofs [H_row, stops, q2])]
 simp -implicitDefEqProofs [H_row, q2, rowF]
end Go.Proofs.Ytninncdacekfgaa.VM
