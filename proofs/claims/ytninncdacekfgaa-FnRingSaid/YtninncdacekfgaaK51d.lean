/- A system at a cut: the plain law; the law FnExactAt. -/
import Derived.Test.YtninncdacekfgaaK32
import Derived.Test.YtninncdacekfgaaK16
import Derived.Test.YtninncdacekfgaaK18
import Derived.Test.YtninncdacekfgaaK19
import Derived.Test.YtninncdacekfgaaK24d
import Derived.Test.YtninncdacekfgaaK25d
import Derived.Test.YtninncdacekfgaaK26d
import Derived.Test.YtninncdacekfgaaK27d
import Derived.Test.YtninncdacekfgaaK33d
import Derived.Test.YtninncdacekfgaaK34d
import Derived.Test.YtninncdacekfgaaK36d
import Derived.Test.YtninncdacekfgaaK39d
import Derived.Test.YtninncdacekfgaaK48d
set_option linter.unusedSimpArgs false
set_option linter.unusedVariables false
set_option maxHeartbeats 80000000
set_option maxRecDepth 100000
namespace Go.Proofs.Ytninncdacekfgaa.VM
open Go Go.Proofs
theorem stAt_ln2 (l : List Ins) (es : List Ev) : ∀ n, (stAt l es n).regs.length = 4 ∧ (stAt l es n).out.length ≤ n
 | 0 => ⟨rfl, by simp [stAt, s0]⟩
 | n + 1 => by
  have h1 := stAt_ln2 l es n
  have h2 : (stepS l (stAt l es n) (evAt es n)).regs.length = (stAt l es n).regs.length ∧ (stepS l (stAt l es n) (evAt es n)).out.length ≤ (stAt l es n).out.length + 1 := didF_len _ _ _ _
  exact ⟨h2.1.trans h1.1, by show (stepS l (stAt l es n) (evAt es n)).out.length ≤ n + 1; omega⟩
theorem replay_ln2 (l : List Ins) (es : List Ev) : (replayS l es).regs.length ≤ 4 ∧ (replayS l es).out.length ≤ es.length := by
 unfold replayS repS
 have := stAt_ln2 l es es.length
 (repeat' split) <;> simp [this]
theorem takeS2 (S : Sy) : (∀ l : List (List Ins), (l.map (sIns 40)).take l.length = l.map (sIns 40)) ∧ (∀ l : List Sta, (ssT l).take (l.length * 4) = ssT l) ∧ (∀ l : List (List Itm), (l.map (sItem 100)).take l.length = l.map (sItem 100)) ∧ (∀ l : List (List Ev), (l.map (sEvent 29)).take l.length = l.map (sEvent 29)) :=
 ⟨fun l => List.take_of_length_le (by simp), fun l => List.take_of_length_le (by rw [ssT_len]; exact Nat.le_refl _), fun l => List.take_of_length_le (by simp), fun l => List.take_of_length_le (by simp)⟩
theorem evAt_tk {es : List Ev} {k i : Nat} (h : i < k) : evAt (es.take k) i = evAt es i := by
 unfold evAt
 rw [List.getElem?_take, if_pos h]
theorem stAt_tk {l : List Ins} {es : List Ev} {k : Nat} : ∀ {i : Nat}, i ≤ k → stAt l (es.take k) i = stAt l es i
 | 0, _ => rfl
 | i + 1, h => by rw [stAt, stAt, stAt_tk (by omega), evAt_tk (by omega)]
theorem PRight.take {n : Nat} {l : List Ins} {es : List Ev} {st : Sta} (R : PRight n l es st) {k : Nat} (hk : k ≤ es.length) : PRight n l (es.take k) (stAt l es k) := by
 have hl : (es.take k).length = k := by rw [List.length_take]; omega
 have hR := R.len
 refine ⟨R.pr, R.pr4, by omega, fun i hi => ?_, ?_, ?_⟩
 ·rw [hl] at hi
  rw [stAt_tk (by omega), evAt_tk hi]
  exact R.can i (by omega)
 ·rw [hl, stAt_tk (Nat.le_refl _)]
 ·unfold peersB
  rw [List.all_eq_true]
  intro e he
  exact List.all_eq_true.1 R.peer e (List.mem_of_mem_take he)
theorem PRight.replay {n : Nat} {l : List Ins} {es : List Ev} {st : Sta} (R : PRight n l es st) : replayB l es = true ∧ replayS l es = st := by
 have h5 : repB l es = true := allTo_to R.can
 unfold replayB replayS repS
 rw [R.pr4, h5, decide_eq_true R.len]
 exact ⟨rfl, R.eq⟩
theorem valsE_take (es : List Ev) (k : Nat) (q p : Int) : valsE (es.take k) q p = (valsE es q p).take (cntE (es.take k) q p) := by
 have h : valsE es q p = valsE (es.take k) q p ++ valsE (es.drop k) q p := by
  have e : valsE (es.take k ++ es.drop k) q p = valsE (es.take k) q p ++ valsE (es.drop k) q p := by simp only [valsE, List.filter_append, List.map_append]
  rw [List.take_append_drop] at e
  exact e
 rw [h, ← valsE_cnt]
 exact (List.take_left).symm
def cutS (S : Sy) (c : List Int) : Sy := ⟨S.progs, sC S c S.progs.length, wyK (hC S c S.progs.length) S.progs.length (S.progs.length * S.progs.length), hC S c S.progs.length⟩
theorem cutS_way {S : Sy} {c : List Int} {a b : Nat} (ha : a < S.progs.length) (hb : b < S.progs.length) : wayR (cutS S c) a b = wyF (hC S c S.progs.length) a b := by
 unfold wayR
 show ((wyK (hC S c S.progs.length) S.progs.length (S.progs.length * S.progs.length))[a * S.progs.length + b]?).getD [] = _
 have h1 : (a * S.progs.length + b) / S.progs.length = a := by
  rw [Nat.mul_comm, Nat.mul_add_div (by omega), Nat.div_eq_of_lt hb]
  rfl
 have h2 : (a * S.progs.length + b) % S.progs.length = b := by
  rw [Nat.mul_comm, Nat.mul_add_mod, Nat.mod_eq_of_lt hb]
 unfold wyK
 rw [List.getElem?_map, List.getElem?_range (flat_lt ha hb)]
 simp [h1, h2, flat_lt ha hb]
theorem numsI_itm (l : List Int) : numsI (l.map itm) = l := by
 induction l with
 | nil => rfl
 | cons x l ih =>
  unfold numsI at ih ⊢
  simp [itm] at ih ⊢
  exact ih
theorem sent_num {S : Sy} (R : Right S) {a b : Nat} (ha : a < S.progs.length) (hb : b < S.progs.length) {v : Int} (hv : v ∈ valsE (rowH S.hist a) 2 b) : numB v = true := by
 have hf := R.fit a b ha hb
 unfold fitsB at hf
 rw [← of_decide_eq_true hf] at hv
 rcases List.mem_append.1 hv with h | h
 ·unfold valsE at h
  obtain ⟨e, he, rfl⟩ := List.mem_map.1 h
  obtain ⟨h1, h2⟩ := List.mem_filter.1 he
  obtain ⟨i, hi, rfl⟩ := List.getElem_of_mem h1
  have hk : (rowH S.hist b)[i].kind = 3 := by
   unfold isB at h2
   simp only [Bool.and_eq_true, beq_iff_eq] at h2
   exact h2.1
  have hc := (R.pr hb).can i hi
  rw [evAt_of hi] at hc
  unfold canB comesB at hc
  simp only [Bool.and_eq_true, beq_iff_eq] at hc
  have hc := hc.2
  split at hc
  ·simp only [Bool.and_eq_true] at hc
   exact hc.1
  ·rename_i hn
   simp only [Bool.and_eq_true, beq_iff_eq] at hc
   exact absurd ⟨by rw [← hc.1]; exact hk, hk⟩ hn
 ·unfold numsI at h
  obtain ⟨x, hx, rfl⟩ := List.mem_map.1 h
  have hw := R.way a b ha hb
  unfold wayB at hw
  simp only [Bool.and_eq_true] at hw
  have := List.all_eq_true.1 hw.2 x (List.mem_filter.1 hx).1
  unfold itemB at this
  simp only [Bool.and_eq_true] at this
  exact this.1
theorem whole_vals {S : Sy} (R : Right S) {c : List Int} (I : CutI S.hist c) (W : wholeB S.hist c = true) {a b : Nat} (ha : a < S.progs.length) (hb : b < S.progs.length) :
  tookC (hC S c S.progs.length) a b ≤ (sentC (hC S c S.progs.length) a b).length ∧ valsE (rowH (hC S c S.progs.length) b) 3 a = (sentC (hC S c S.progs.length) a b).take (tookC (hC S c S.progs.length) a b) ∧ ∀ v ∈ sentC (hC S c S.progs.length) a b, numB v = true := by
 have hh := R.hi
 have hw := (whole_iff I).1 W a (by omega) b (by omega)
 have hf := R.fit a b ha hb
 unfold fitsB at hf
 have hf := of_decide_eq_true hf
 have ht : tookC (hC S c S.progs.length) a b = cntE ((rowH S.hist b).take (cAt c b)) 3 a := by
  unfold tookC
  rw [hC_row hb, valsE_cnt]
 have hs : sentC (hC S c S.progs.length) a b = (valsE (rowH S.hist a) 2 b).take (cntE ((rowH S.hist a).take (cAt c a)) 2 b) := by
  unfold sentC
  rw [hC_row ha, valsE_take]
 have hsl : (sentC (hC S c S.progs.length) a b).length = cntE ((rowH S.hist a).take (cAt c a)) 2 b := by
  unfold sentC
  rw [hC_row ha, valsE_cnt]
 refine ⟨by rw [ht, hsl]; exact hw, ?_, fun v hv => ?_⟩
 ·rw [ht, hs, List.take_take, Nat.min_eq_left hw, hC_row hb, valsE_take, ← hf]
  rw [List.take_append_of_le_length]
  rw [valsE_cnt]
  have := cntE_mono (es := rowH S.hist b) (k := 3) (p := (a : Int)) (a := cAt c b) (b := max (cAt c b) (rowH S.hist b).length) (Nat.le_max_left _ _)
  rw [List.take_of_length_le (i := max (cAt c b) (rowH S.hist b).length) (Nat.le_max_right _ _)] at this
  exact this
 ·rw [hs] at hv
  exact sent_num R ha hb (List.mem_of_mem_take hv)
theorem cut_proc {S : Sy} (R : Right S) {c : List Int} (I : CutI S.hist c) {p : Nat} (hp : p < S.progs.length) : PRight S.progs.length (progOf S p) (rowH (hC S c S.progs.length) p) (replayS (progOf S p) (rowH (hC S c S.progs.length) p)) := by
 have hh := R.hi
 have hk : cAt c p ≤ (rowH S.hist p).length := (I.at_ (by rw [I.len]; omega)).2
 have P := (R.pr hp).take hk
 rw [hC_row hp]
 rw [P.replay.2]
 exact P
theorem cut_st {S : Sy} {c : List Int} {p : Nat} (hp : p < S.progs.length) : stOf (cutS S c) p = replayS (progOf S p) (rowH (hC S c S.progs.length) p) := by
 rw [hC_row hp]
 unfold stOf
 show ((sC S c S.progs.length)[p]?).getD _ = _
 unfold sC
 rw [List.getElem?_map, List.getElem?_range hp]
 rfl
theorem cut_ord {S : Sy} (R : Right S) {c : List Int} (I : CutI S.hist c) (W : wholeB S.hist c = true) : Reach (hC S c S.progs.length) (fullD (hC S c S.progs.length)) := by
 have hh := R.hi
 have hrow : ∀ q, rowH (hC S c S.progs.length) q = (rowH S.hist q).take (if q < S.progs.length then cAt c q else 0) := fun q => by
  by_cases hq : q < S.progs.length
  ·rw [if_pos hq, hC_row hq]
  ·rw [if_neg hq, rowH_out (by rw [hC_len]; omega)]
   rfl
 have hle : ∀ q, (if q < S.progs.length then cAt c q else 0) ≤ (rowH S.hist q).length := fun q => by
  by_cases hq : q < S.progs.length
  ·rw [if_pos hq]
   exact (I.at_ (by rw [I.len]; omega)).2
  ·rw [if_neg hq]
   exact Nat.zero_le _
 have := reach_cut (h := S.hist) (h' := hC S c S.progs.length) (c := fun q => if q < S.progs.length then cAt c q else 0) (by rw [hC_len]; omega) hrow hle (fun p hp i hi hk => by
  have hp' : p < S.progs.length := by omega
  simp only [if_pos hp'] at hi
  have hil : i < (rowH S.hist p).length := by
   have := hle p
   rw [if_pos hp'] at this
   omega
  have hpe := (R.pr hp').peer
  unfold peersB at hpe
  have hpe := List.all_eq_true.1 hpe _ (List.getElem_mem hil)
  rw [evAt_of hil] at hk ⊢
  unfold peerB at hpe
  rw [hk] at hpe
  have hin : inB (rowH S.hist p)[i].peer 0 ((S.progs.length : Int) - 1) = true := by simpa using hpe
  obtain ⟨q, hq, hqn⟩ := inB_nat hin
  refine ⟨q, hq, ?_⟩
  simp only [if_pos hp', if_pos hqn]
  exact (whole_iff I).1 W q (by omega) p (by omega)) R.ord
 have e : (fun q => min (fullD S.hist q) (if q < S.progs.length then cAt c q else 0)) = fullD (hC S c S.progs.length) := by
  funext q
  unfold fullD
  rw [hrow, List.length_take]
  exact Nat.min_comm _ _
 rw [← e]
 exact this
theorem cutS_right {S : Sy} (R : Right S) {c : List Int} (I : CutI S.hist c) (W : wholeB S.hist c = true) : sysB (cutS S c) = allTo (okW (hC S c S.progs.length) S.progs.length) S.progs.length := by
 have hh := R.hi
 cases hok : allTo (okW (hC S c S.progs.length) S.progs.length) S.progs.length with
 | true =>
  refine right_iff.2 ⟨R.n1, R.n4, sC_len _ _ _, hC_len _ _ _, wyK_len _ _ _, fun a b ha hb => ?_, fun p hp => ?_, fun a b ha hb => ?_, cut_ord R I W⟩
  ·have ha : a < S.progs.length := ha
   have hb : b < S.progs.length := hb
   rw [cutS_way ha hb]
   have g := of_decide_eq_true (allTo_of (allTo_of hok a ha) b hb)
   unfold wayB wyF
   rw [Bool.and_eq_true]
   refine ⟨decide_eq_true (by rw [List.length_map, List.length_drop]; omega), ?_⟩
   rw [List.all_eq_true]
   intro x hx
   obtain ⟨v, hv, rfl⟩ := List.mem_map.1 hx
   unfold itemB itm
   rw [(whole_vals R I W ha hb).2.2 v (List.mem_of_mem_drop hv)]
   rfl
  ·have hp : p < S.progs.length := hp
   refine proc_iff.2 ?_
   rw [cut_st hp]
   exact cut_proc R I hp
  ·have ha : a < S.progs.length := ha
   have hb : b < S.progs.length := hb
   unfold fitsB
   rw [cutS_way ha hb]
   refine decide_eq_true ?_
   show valsE (rowH (hC S c S.progs.length) b) 3 a ++ _ = valsE (rowH (hC S c S.progs.length) a) 2 b
   rw [(whole_vals R I W ha hb).2.1]
   unfold wyF
   rw [numsI_itm, List.take_append_drop]
   rfl
 | false =>
  cases hs : sysB (cutS S c) with
  | false => rfl
  | true =>
   have T := right_iff.1 hs
   exfalso
   have : allTo (okW (hC S c S.progs.length) S.progs.length) S.progs.length = true := allTo_to fun a ha => allTo_to fun b hb => by
    have hw := T.way a b ha hb
    rw [cutS_way ha hb] at hw
    unfold wayB wyF at hw
    rw [Bool.and_eq_true] at hw
    have := of_decide_eq_true hw.1
    rw [List.length_map, List.length_drop] at this
    exact decide_eq_true (by omega)
   rw [this] at hok
   simp at hok
theorem atF_eq {S : Sy} (R : Right S) {c : List Int} (I : CutI S.hist c) (W : wholeB S.hist c = true) : atF S c = if sysB (cutS S c) = true then (cutS S c, true) else (zSy, false) := by
 unfold atF
 rw [cutS_right R I W]
 rfl
theorem cut_small {S : Sy} (R : Right S) (c : List Int) (I : CutI S.hist c) : Small (cutS S c) := by
 have n4 := R.n4
 have nn : S.progs.length * S.progs.length ≤ 16 := Nat.mul_le_mul n4 n4
 have h := R.small
 have hle : ∀ p, p < S.progs.length → (rowH (hC S c S.progs.length) p).length ≤ 200 := fun p hp => by
  rw [hC_row hp, List.length_take]
  have := (R.pr hp).len
  omega
 have p2 : tot ((sC S c S.progs.length).map nums) ≤ 208 * ((sC S c S.progs.length).map nums).length := tot_bound fun x hx => by
  obtain ⟨y, hy, rfl⟩ := List.mem_map.1 hx
  unfold sC at hy
  obtain ⟨p, hp, rfl⟩ := List.mem_map.1 hy
  have hp := List.mem_range.1 hp
  have q := replay_ln2 (progOf S p) ((rowH S.hist p).take (cAt c p))
  have hlen := hle p hp
  rw [hC_row hp] at hlen
  show (nums (replayS (progOf S p) ((rowH S.hist p).take (cAt c p)))).length ≤ 208
  rw [nums_len]
  omega
 have p3 : tot (wyK (hC S c S.progs.length) S.progs.length (S.progs.length * S.progs.length)) ≤ 200 * (wyK (hC S c S.progs.length) S.progs.length (S.progs.length * S.progs.length)).length := tot_bound fun x hx => by
  unfold wyK at hx
  obtain ⟨w, hw, rfl⟩ := List.mem_map.1 hx
  have hw := List.mem_range.1 hw
  rw [if_pos hw]
  have ha : w / S.progs.length < S.progs.length := by
   rw [Nat.div_lt_iff_lt_mul (by have := R.n1; omega)]
   exact hw
  have h1 := valsE_le (rowH (hC S c S.progs.length) (w / S.progs.length)) 2 ((w % S.progs.length : Nat) : Int)
  have h2 := hle _ ha
  unfold wyF sentC
  rw [List.length_map, List.length_drop]
  omega
 have p4 : tot (hC S c S.progs.length) ≤ 200 * (hC S c S.progs.length).length := tot_bound fun x hx => by
  unfold hC at hx
  obtain ⟨p, hp, rfl⟩ := List.mem_map.1 hx
  have hp := List.mem_range.1 hp
  have hlen := hle p hp
  rw [hC_row hp] at hlen
  exact hlen
 have l2 := sC_len S c S.progs.length
 have l3 := wyK_len (hC S c S.progs.length) S.progs.length (S.progs.length * S.progs.length)
 have l4 := hC_len S c S.progs.length
 rw [List.length_map, l2] at p2
 rw [l3] at p3
 rw [l4] at p4
 refine ⟨h.progs, h.progsT, ?_, ?_, ?_, ?_, ?_, ?_⟩
 ·show (sC S c S.progs.length).length ≤ _
  omega
 ·show tot ((sC S c S.progs.length).map nums) ≤ _
  omega
 ·show (wyK _ _ _).length ≤ _
  omega
 ·show tot (wyK _ _ _) ≤ _
  omega
 ·show (hC S c S.progs.length).length ≤ _
  omega
 ·show tot (hC S c S.progs.length) ≤ _
  omega
end Go.Proofs.Ytninncdacekfgaa.VM
namespace Go.Proofs.Ytninncdacekfgaa.VM
open Go Go.Proofs
def oS0 (S : Sy) (h : List (List Ev)) : List (Nat × Obj) := [(0, ⟨.ro, 24, S.progs.map (rIns 40)⟩), (1, ⟨.ro, 54, h.map (rEvent 29)⟩)]
def H_y1 (S : Sy) (h : List (List Ev)) (st : List Sta) (i : Nat) : St := ⟨[(0, .c (.sl 0 [] 0 S.progs.length)), (1, .c (.sl 1 [] 0 S.progs.length)), (4, .ptr 320 [] 0), (6, .c (.v (.int .i64 S.progs.length))), (7, .ptr 512 [] 0), (25, .c (.sl 0 [] 0 S.progs.length)), (26, .c (.v (.int .i64 S.progs.length))), (27, .c (.v (.int .i64 i)))], oS0 S h ++ ([(320, zBox), (512, ⟨.box, 45, [lkZ 3776 i, lkZ 4160 i, .l 1536 [] 0 (S.progs.length * S.progs.length), lkZ 4800 i]⟩), (1536, ⟨.own, 92, List.replicate (S.progs.length * S.progs.length) (.s 100 0 [])⟩)] ++ (obZ 3776 i ⟨.own, 24, (S.progs.take i).map (sIns 40)⟩ ++ (obZ 4160 i ⟨.own, 27, ssT (st.take i)⟩ ++ obZ 4800 i ⟨.own, 54, (h.take i).map (sEvent 29)⟩)))⟩
def aO (S : Sy) (h : List (List Ev)) (st : List Sta) (W : List (List Itm)) : List (Nat × Obj) := [(320, zBox), (512, ⟨.box, 45, [.l 3776 [] 0 S.progs.length, .l 4160 [] 0 S.progs.length, .l 1536 [] 0 (S.progs.length * S.progs.length), .l 4800 [] 0 S.progs.length]⟩), (1536, ⟨.own, 92, W.map (sItem 100)⟩), (3776, ⟨.own, 24, S.progs.map (sIns 40)⟩), (4160, ⟨.own, 27, ssT st⟩), (4800, ⟨.own, 54, h.map (sEvent 29)⟩)]
def H_y2 (S : Sy) (h : List (List Ev)) (st : List Sta) (a : Nat) : St := ⟨[(4, .ptr 320 [] 0), (6, .c (.v (.int .i64 S.progs.length))), (7, .ptr 512 [] 0), (77, .c (.v (.int .i64 S.progs.length))), (78, .c (.v (.int .i64 a)))], aO S h st (wyK h S.progs.length (a * S.progs.length))⟩
def H_y3 (S : Sy) (h : List (List Ev)) (st : List Sta) (a b : Nat) : St := ⟨[(4, .ptr 320 [] 0), (6, .c (.v (.int .i64 S.progs.length))), (7, .ptr 512 [] 0), (12, .c (.v (.int .i64 a))), (77, .c (.v (.int .i64 S.progs.length))), (78, .c (.v (.int .i64 a))), (81, .c (.v (.int .i64 S.progs.length))), (82, .c (.v (.int .i64 b)))], aO S h st (wyK h S.progs.length (a * S.progs.length + b))⟩
def H_y4 (S : Sy) (h : List (List Ev)) (st : List Sta) (a b i : Nat) : St := ⟨[(4, .ptr 320 [] 0), (6, .c (.v (.int .i64 S.progs.length))), (7, .ptr 512 [] 0), (12, .c (.v (.int .i64 a))), (13, .c (.v (.int .i64 b))), (77, .c (.v (.int .i64 S.progs.length))), (78, .c (.v (.int .i64 a))), (81, .c (.v (.int .i64 S.progs.length))), (82, .c (.v (.int .i64 b))), (104, .c (.sl 5888 [] (tookC h a b) ((sentC h a b).length - tookC h a b))), (105, .c (.v (.int .i64 ((sentC h a b).length - tookC h a b : Nat)))), (106, .c (.v (.int .i64 i)))], aO S h st ((wyK h S.progs.length (a * S.progs.length + b)).set (a * S.progs.length + b) (parW h a b i)) ++ [(5888, ⟨.own, 3, ints (sentC h a b)⟩)]⟩
theorem run_systemOf {j : Nat} (hj : big ≤ j) (S : Sy) (R : Right S) (c : List Int) (I : CutI S.hist c) (W : wholeB S.hist c = true) : M.run (j + 11) 80 [.c (.r 24 S.progs.length (S.progs.map (rIns 40))), .c (.r 54 S.progs.length ((hC S c S.progs.length).map (rEvent 29)))] = some ([.agg (syS (atF S c).1), .c (.v (.bool (atF S c).2))], [.c (.r 24 S.progs.length (S.progs.map (rIns 40))), .c (.r 54 S.progs.length ((hC S c S.progs.length).map (rEvent 29)))]) := by
 have h := R.small
 have n4 := R.n4
 have n1 := R.n1
 have hh := R.hi
 have nn : S.progs.length * S.progs.length ≤ 16 := Nat.mul_le_mul n4 n4
 have hsm := cut_small R c I
 have e0 := run_implSysOk hj (cutS S c) hsm
 rw [atF_eq R I W]
 have hP : ∀ p (hp : p < S.progs.length), ∃ D, (sC S c S.progs.length)[p]? = some D ∧ PRight S.progs.length S.progs[p] (rowH (hC S c S.progs.length) p) D := fun p hp => by
  have := cut_proc R I hp
  have e : progOf S p = S.progs[p] := by unfold progOf; rw [List.getElem?_eq_getElem hp]; rfl
  rw [e] at this
  refine ⟨_, ?_, this⟩
  rw [hC_row hp, ← e]
  unfold sC
  rw [List.getElem?_map, List.getElem?_range hp]
  rfl
 have hwv := fun a b ha hb => whole_vals R I W (a := a) (b := b) ha hb
 have hcut : cutS S c = ⟨S.progs, sC S c S.progs.length, wyK (hC S c S.progs.length) S.progs.length (S.progs.length * S.progs.length), hC S c S.progs.length⟩ := rfl
 have hl := hC_len S c S.progs.length
 have sl := sC_len S c S.progs.length
 rw [hcut] at e0 hsm ⊢
 generalize hC S c S.progs.length = hh' at *
 generalize sC S c S.progs.length = st at *
 clear hcut W I
 have hz0 : S.progs.length ≠ 0 := by omega
 have hnn : ((S.progs.length : Int) * (S.progs.length : Int)) = ((S.progs.length * S.progs.length : Nat) : Int) := (Int.natCast_mul _ _).symm
 have w := w64 (x := (S.progs.length : Int) * (S.progs.length : Int)) (by rw [hnn]; omega)
 have hpn : 0 ≤ (S.progs.length : Int) * (S.progs.length : Int) := by rw [hnn]; omega
 have htn : ((S.progs.length : Int) * (S.progs.length : Int)).toNat = S.progs.length * S.progs.length := by rw [hnn]; rfl
 have hle : (S.progs.length : Int) * (S.progs.length : Int) ≤ most := by rw [hnn]; unfold most; omega
 rw [m_run (fn := Try.f80) (i0 := 0) rfl Try.func80 rfl rfl (by simp)]
 simp -implicitDefEqProofs [own1, w, hpn, htn, hle, -List.map_take]
 rw [loop_then (H_y1 S hh' st) S.progs.length (by simp -implicitDefEqProofs [H_y1, oS0, zBox, hint1]) (by simp [big] at hj; omega) (fun i hi => by
  have hi3 : i < hh'.length := by omega
  have hi2 : i < st.length := by omega
  obtain ⟨D, hD, PR⟩ := hP i hi
  rw [rowH_of hi3] at PR
  have hDD : st[i] = D := Option.some.inj (by rw [← List.getElem?_eq_getElem hi2]; exact hD)
  rw [← hDD] at PR
  obtain ⟨p1, p2⟩ := PR.replay
  have tb := PR.len
  have pl := h.prog hi
  have e3 := run_implReplay (j := j + 2) (by omega) S.progs[i] hh'[i] pl (by omega)
  rw [p1, p2] at e3
  have e4 := run_peersOk (j := j + 5) (by omega) hh'[i] S.progs.length (by omega) (by omega)
  rw [PR.peer] at e4
  have e5 := run_cloneIns (j := j + 9) S.progs[i] pl
  have e6 := run_cloneEvent (j := j + 9) hh'[i] (by omega)
  have hs1 := sIns_snoc (e := 40) hi
  have hs2 := ssT_snoc hi2
  have hs3 := sEvent_snoc (e := 29) hi3
  have tk1 := take_map (sIns 40) S.progs i
  have tk2 := ssT_tk st i
  have tk3 := take_map (sEvent 29) hh' i
  have hm1 : min i S.progs.length = i := by omega
  have hm2 : min i st.length = i := by omega
  have hm3 : min i hh'.length = i := by omega
  have hm4 : min (i + 1) S.progs.length = i + 1 := by omega
  have d1 : (ints st[i].regs).take st[i].regs.length = ints st[i].regs := List.take_of_length_le (by simp)
  have d2 : (ints st[i].out).take st[i].out.length = ints st[i].out := List.take_of_length_le (by simp)
  have l4 : 4 ≤ most := by unfold most; omega
  have l1 : 1 ≤ most := by unfold most; omega
  have lm := le_most (n := i + 1) (by omega)
  have lm2 : (i + 1) * 4 ≤ most := by unfold most; omega
  have lm3 : i * 4 + 4 ≤ most := by unfold most; omega
  simp only [sSta, stS] at e3 hs2
  clear hDD hD
  generalize st[i] = D at *
  by_cases hz : i = 0
  ·have h1 : S.progs.take i = [] := by rw [hz]; rfl
   have h2 : ssT (st.take i) = [] := by rw [hz]; rfl
   have h3 : hh'.take i = [] := by rw [hz]; rfl
   rw [h1] at hs1
   rw [h2] at hs2
   rw [h3] at hs3
   simp -implicitDefEqProofs (maxSteps := 10000000) [H_y1, oS0, zBox, hint1, hi, hi3, own1, e3, e4, e5, e6, rIns_at hi, rIns, sIns, rEvent_at hi3, rEvent, sEvent, hs1, hs2, hs3, h1, h2, h3, hm1, hm2, hm3, d1, d2, l1, l4, lkZ_z hz, obZ_z hz, w64 (x := (i : Int) + 1) (by omega)] <;> omega
  ·simp -implicitDefEqProofs (maxSteps := 10000000) [H_y1, oS0, zBox, hint1, hi, hi3, own1, e3, e4, e5, e6, rIns_at hi, rIns, sIns, rEvent_at hi3, rEvent, sEvent, hs1, hs2, hs3, tk1, tk2, tk3, hm1, hm2, hm3, d1, d2, lm, lm2, lm3, lkZ_of hz, obZ_of hz, w64 (x := (i : Int) + 1) (by omega), -List.map_take])]
 have hr : ∀ p, p < S.progs.length → (rowH hh' p).length ≤ 1048576 := fun p hp => by
  obtain ⟨D, _, PR⟩ := hP p hp
  have := PR.len
  omega
 have k1 : S.progs.take S.progs.length = S.progs := List.take_length
 have k2 : st.take S.progs.length = st := by rw [← sl]; exact List.take_length
 have k3 : hh'.take S.progs.length = hh' := by rw [← hl]; exact List.take_length
 simp -implicitDefEqProofs (maxSteps := 10000000) [H_y1, oS0, zBox, k1, k2, k3, lkZ_of hz0, obZ_of hz0]
 have set_self' : ∀ {l : List (List Itm)} {i : Nat}, l[i]? = some [] → l.set i [] = l := fun {l i} h => by
  obtain ⟨hi, e⟩ := List.getElem?_eq_some_iff.1 h
  rw [← e]
  exact List.set_getElem_self hi
 have ab_le : ∀ {a : Nat}, a < S.progs.length → S.progs.length ≤ 4 → a * S.progs.length ≤ 16 := fun {a} h1 h2 => Nat.mul_le_mul (show a ≤ 4 by omega) h2
 have w0 := wyK_0 hh' S.progs.length
 have wm0 : (wyK hh' S.progs.length 0).map (sItem 100) = List.replicate (S.progs.length * S.progs.length) (.s 100 0 []) := by
  rw [w0, List.map_replicate]
  rfl
 have tks : (ssT st).take (S.progs.length * 4) = ssT st := List.take_of_length_le (by rw [ssT_len, sl]; exact Nat.le_refl _)
 have tkh : (hh'.map (sEvent 29)).take S.progs.length = hh'.map (sEvent 29) := List.take_of_length_le (by simp [hl])
 have tkp : (S.progs.map (sIns 40)).take S.progs.length = S.progs.map (sIns 40) := List.take_of_length_le (by simp)
 rw [loop_then (H_y2 S hh' st) S.progs.length (by simp -implicitDefEqProofs [H_y2, aO, zBox, hint1, wm0]) (by simp [big] at hj; omega) (fun a ha => by
  simp -implicitDefEqProofs (maxSteps := 10000000) [H_y2, aO, zBox, hint1, ha]
  rw [loop_then (H_y3 S hh' st a) S.progs.length (by simp -implicitDefEqProofs [H_y3, aO, zBox, hint1]) (by simp [big] at hj; omega) (fun b hb => by
   obtain ⟨g1, g2, g3⟩ := hwv a b ha hb
   have ha3 : a < hh'.length := by omega
   have hb3 : b < hh'.length := by omega
   have e5 : M.run (j + 10) 99 [.c (.r 29 (rowH hh' a).length (evT (rowH hh' a))), .c (.v (.int .i64 2)), .c (.v (.int .i64 b))] = some ([.c (.s 3 (sentC hh' a b).length (ints (sentC hh' a b)))], [.c (.r 29 (rowH hh' a).length (evT (rowH hh' a))), .c (.v (.int .i64 2)), .c (.v (.int .i64 b))]) := run_implValues (j := j + 8) (by omega) _ 2 b (hr a ha)
   have e6 : M.run (j + 10) 103 [.c (.r 29 (rowH hh' b).length (evT (rowH hh' b))), .c (.v (.int .i64 3)), .c (.v (.int .i64 a))] = some ([.c (.v (.int .i64 (tookC hh' a b)))], [.c (.r 29 (rowH hh' b).length (evT (rowH hh' b))), .c (.v (.int .i64 3)), .c (.v (.int .i64 a))]) := run_implCount (j := j + 7) (by omega) _ 3 a (hr b hb)
   rw [rowH_of ha3] at e5
   rw [rowH_of hb3] at e6
   have v1 : (sentC hh' a b).length ≤ 1048576 := by
    have h1 := valsE_le (rowH hh' a) 2 b
    have h3 := hr a ha
    unfold sentC
    omega
   have hk := flat_lt ha hb
   have wl := wyK_len hh' S.progs.length (a * S.progs.length + b)
   have hset := wyK_set (h := hh') ha hb
   have hnil := wyK_at (h := hh') ha hb
   have hs0 : (wyK hh' S.progs.length (a * S.progs.length + b)).set (a * S.progs.length + b) (parW hh' a b 0) = wyK hh' S.progs.length (a * S.progs.length + b) := set_self' hnil
   have hall := parW_all (h := hh') (a := a) (b := b)
   have am := ab_le ha n4
   have ix1 : (((a * S.progs.length : Nat)) : Int) = (a : Int) * (S.progs.length : Int) := Int.natCast_mul _ _
   have ix2 : ((S.progs.length * S.progs.length : Nat) : Int) = (S.progs.length : Int) * (S.progs.length : Int) := Int.natCast_mul _ _
   have x1 := w64 (x := (a : Int) * (S.progs.length : Int)) (by omega)
   have x2 := w64 (x := (a : Int) * (S.progs.length : Int) + b) (by omega)
   have x3 : 0 ≤ (a : Int) * (S.progs.length : Int) + b := by omega
   have x4 : ((a : Int) * (S.progs.length : Int) + b).toNat = a * S.progs.length + b := by omega
   have x5 : (a : Int) * (S.progs.length : Int) + b < (S.progs.length : Int) * (S.progs.length : Int) := by omega
   have psu := fun i hi => parW_succ (h := hh') (a := a) (b := b) (i := i) hi
   have pln := fun i hi => parW_len (h := hh') (a := a) (b := b) (i := i) hi
   generalize hV : sentC hh' a b = V at *
   generalize hT : tookC hh' a b = K at *
   have c1 : ¬ (V.length : Int) < K := by omega
   have c3 : (K : Int) ≤ V.length := by omega
   have c4 : ((V.length : Int) - K).toNat = V.length - K := by omega
   have c5 : (((V.length - K : Nat)) : Int) = (V.length : Int) - K := by omega
   simp -implicitDefEqProofs (maxSteps := 10000000) [H_y3, aO, zBox, hint1, hb, ha, own1, ha3, hb3, sEvent_at ha3, sEvent_at hb3, sEvent, e5, e6, c1, c3, c4]
   rw [loop_then (H_y4 S hh' st a b) (V.length - K) (by simp -implicitDefEqProofs [H_y4, aO, zBox, hint1, hs0, hV, hT, c5]) (by simp [big] at hj; omega) (fun i hi => by
    have hki : K + i < V.length := by omega
    have p1 := psu i (by omega)
    have p2 := pln i (by omega)
    have gV := ints_get hki
    generalize hP : parW hh' a b i = P at *
    generalize hP2 : parW hh' a b (i + 1) = P2 at *
    have lW : ((wyK hh' S.progs.length (a * S.progs.length + b)).set (a * S.progs.length + b) P).length = S.progs.length * S.progs.length := by rw [List.length_set]; exact wl
    have fW : (((wyK hh' S.progs.length (a * S.progs.length + b)).set (a * S.progs.length + b) P).map (sItem 100))[a * S.progs.length + b]? = some (.s 100 i (itT P)) := by
     rw [List.getElem?_map, List.getElem?_set_self (by rw [wl]; exact hk)]
     unfold sItem
     rw [Option.map_some, p2]
    have p3 : P2.length = i + 1 := by rw [p1, List.length_append, p2]; rfl
    have fI : itT P ++ [.v (.bool false), .v (.int .i64 V[K + i])] = itT P2 := by rw [p1]; exact itT_snoc P _
    have fS : (((wyK hh' S.progs.length (a * S.progs.length + b)).set (a * S.progs.length + b) P).map (sItem 100)).set (a * S.progs.length + b) (.s 100 (i + 1) (itT P2)) = ((wyK hh' S.progs.length (a * S.progs.length + b)).set (a * S.progs.length + b) P2).map (sItem 100) := by
     rw [← p3, sItem_set, List.set_set]
    have tkP : (itT P).take (i * 2) = itT P := List.take_of_length_le (by simp [p2])
    have tkP2 : (itT P2).take ((i + 1) * 2) = itT P2 := List.take_of_length_le (by simp [p3])
    simp -implicitDefEqProofs (maxSteps := 10000000) [H_y4, aO, zBox, hint1, own1, hV, hT, hP, hP2, hi, gV, gq gV, lW, fW, gq fW, fI, fS, tkP, tkP2, p2, p3, x1, x2, x3, x4, x5, hk, c5, show a * S.progs.length + b + 1 ≤ S.progs.length * S.progs.length by omega, show i * 2 + 2 ≤ most by unfold most; omega, show (i + 1) * 2 ≤ i * 2 + 2 by omega, w64 (x := (i : Int) + 1) (by omega), show (i : Int) < (V.length : Int) - K by omega, show K + i + 1 ≤ V.length by omega, -List.map_set])]
   have hfin := hset
   rw [← hall] at hfin
   simp -implicitDefEqProofs (maxSteps := 10000000) [H_y4, H_y3, aO, zBox, hint1, hV, hT, hfin, c5, w64 (x := (b : Int) + 1) (by omega), show a * S.progs.length + (b + 1) = a * S.progs.length + b + 1 by omega, -List.map_set])]
  simp -implicitDefEqProofs (maxSteps := 10000000) [H_y3, H_y2, aO, zBox, hint1, w64 (x := (a : Int) + 1) (by omega), show (a + 1) * S.progs.length = a * S.progs.length + S.progs.length by rw [Nat.add_mul, Nat.one_mul]])]
 have tkw : ((wyK hh' S.progs.length (S.progs.length * S.progs.length)).map (sItem 100)).take (S.progs.length * S.progs.length) = (wyK hh' S.progs.length (S.progs.length * S.progs.length)).map (sItem 100) := List.take_of_length_le (by rw [List.length_map, wyK_len]; exact Nat.le_refl _)
 have wyl := wyK_len hh' S.progs.length (S.progs.length * S.progs.length)
 simp only [syR, sl, hl, wyl] at e0
 cases hq : sysB (⟨S.progs, st, wyK hh' S.progs.length (S.progs.length * S.progs.length), hh'⟩ : Sy)
 ·rw [hq] at e0
  simp -implicitDefEqProofs (maxSteps := 10000000) [H_y2, aO, zBox, own1, e0, syS, zSy, hl, sl, wyl, tks, tkh, tkw, tkp, -List.map_take]
 ·rw [hq] at e0
  simp -implicitDefEqProofs (maxSteps := 10000000) [H_y2, aO, zBox, own1, e0, syS, hl, sl, wyl, tks, tkh, tkw, tkp, -List.map_take]
def H_at (S : Sy) (c : List Int) (k : Nat) : St := ⟨[(2, .ptr 192 [] 0), (4, .ptr 320 [] 0), (6, .c (.sl 960 [] 0 k)), (15, .c (.sl 4 [] 0 c.length)), (16, .c (.v (.int .i64 c.length))), (17, .c (.v (.int .i64 k)))], sysO S ++ [(4, ⟨.ro, 3, ints c⟩), (192, sysX S), (320, zBox), (960, ⟨if k = 0 then .own else .lnk, 54, (hC S c k).map (rEvent 29)⟩)]⟩
theorem run_implAt {j : Nat} (hj : big ≤ j) (S : Sy) (h : Small S) (c : List Int) (hc : c.length ≤ 1048576) : M.run (j + 13) 48 [.agg (syR S), .c (.r 3 c.length (ints c))] = some (if wholeOkB S c = true then [.agg (syS (atF S c).1), .c (.v (.bool (atF S c).2))] else [.agg (syS zSy), .c (.v (.bool false))], [.agg (syR S), .c (.r 3 c.length (ints c))]) := by
 have e1 := run_implWhole hj S h c hc
 rw [m_run (fn := Try.f48) (i0 := 0) rfl Try.func48 rfl rfl (by simp [syR])]
 cases hq : wholeOkB S c
 ·rw [hq] at e1
  simp only [syR] at e1 ⊢
  simp -implicitDefEqProofs [own1, e1, syS, zSy]
 ·rw [hq] at e1
  have hq' := hq
  unfold wholeOkB at hq'
  simp only [Bool.and_eq_true] at hq'
  have I := cutOk_I hq'.1
  have R : Right S := by
   have := hq'.1
   unfold cutOkB at this
   simp only [Bool.and_eq_true] at this
   exact right_iff.1 this.1
  have W := hq'.2
  have e2 := run_systemOf (j := j + 1) (by omega) S R c I W
  have n4 := R.n4
  have n1 := R.n1
  have hh := R.hi
  have hcl : c.length = S.progs.length := by rw [I.len, hh]
  have tkh : ((hC S c S.progs.length).map (rEvent 29)).take S.progs.length = (hC S c S.progs.length).map (rEvent 29) := List.take_of_length_le (by simp [hC_len])
  simp only [syR] at e1 ⊢
  simp -implicitDefEqProofs [own1, e1]
  rw [loop_then (H_at S c) c.length (by simp -implicitDefEqProofs [H_at, sysO, sysX, zBox, hint1, hC]) (by simp [big] at hj; omega) (fun i hi => by
   have hi3 : i < S.hist.length := by omega
   obtain ⟨ci, li⟩ := I.at_ hi
   rw [rowH_of hi3] at li
   have tb := h.his hi3
   have gi := ints_get hi
   rw [ci] at gi
   have hhs := hC_succ S c i
   rw [rowH_of hi3] at hhs
   have hl := hC_len S c i
   have tkh : ((hC S c i).map (rEvent 29)).take i = (hC S c i).map (rEvent 29) := List.take_of_length_le (by simp [hl])
   have tke : (evT (S.hist[i].take (cAt c i))).take (cAt c i * 3) = evT (S.hist[i].take (cAt c i)) := List.take_of_length_le (by rw [evT_len, List.length_take]; omega)
   have mn : min (cAt c i) S.hist[i].length = cAt c i := Nat.min_eq_left li
   have lm := le_most (n := i + 1) (by omega)
   have l1 : 1 ≤ most := by unfold most; omega
   by_cases hz : i = 0
   ·subst hz
    have z1 : hC S c 0 = [] := rfl
    rw [z1, List.nil_append] at hhs
    simp -implicitDefEqProofs (maxSteps := 10000000) [H_at, sysO, sysX, zBox, hint1, hi, hi3, own1, hhs, z1, mn, w64 (x := 1) (by omega), Env.lendO, St.lendX, rEvent_at hi3, rEvent, gi, ci, li, l1, tke, show cAt c 0 * 3 ≤ S.hist[0].length * 3 by omega]
   ·simp -implicitDefEqProofs (maxSteps := 10000000) [H_at, sysO, sysX, zBox, hint1, hi, hi3, own1, hhs, hl, hz, mn, Env.lendO, St.lendX, rEvent_at hi3, rEvent, gi, ci, li, lm, tkh, tke, show cAt c i * 3 ≤ S.hist[i].length * 3 by omega, w64 (x := (i : Int) + 1) (by omega), -List.map_take])]
  have hz : S.progs.length ≠ 0 := by omega
  generalize atF S c = D at *
  obtain ⟨D1, D2⟩ := D
  obtain ⟨u1, u2, u3, u4⟩ := takeS2 D1
  simp only [syS] at e2 ⊢
  simp -implicitDefEqProofs (maxSteps := 10000000) [H_at, sysO, sysX, zBox, own1, hcl, e2, hz, tkh, hC_len, u1, u2, u3, u4, -List.map_take]
end Go.Proofs.Ytninncdacekfgaa.VM
namespace Go.Proofs.Ytninncdacekfgaa.VM
open Go Go.Proofs
end Go.Proofs.Ytninncdacekfgaa.VM
