/- Rows of events; what is behind a row of events. -/
import Derived.Test.YtbdidcfjaohglaaDo3
namespace Go.Proofs.Ytbdidcfjaohglaa.VM
open Go Go.Proofs
set_option linter.unusedSimpArgs false
set_option linter.unusedVariables false
set_option maxRecDepth 100000
set_option maxHeartbeats 4000000
def evT (l : List Ev) : List T := l.flatMap tEv
theorem tEv_len (x : Ev) : (tEv x).length = 3 := rfl
@[simp] theorem evT_len (l : List Ev) : (evT l).length = l.length * 3 := fm_len tEv_len l
theorem evT_rep (n : Nat) : (List.replicate n [T.v (Value.int IntKind.i64 0), T.v (Value.int IntKind.i64 0), T.v (Value.int IntKind.i64 0)]).flatten = evT (List.replicate n ⟨0, 0, 0⟩) := fm_rep (tr := tEv) n ⟨0, 0, 0⟩
@[simp] theorem evT_take (l : List Ev) (n : Nat) : (evT l).take (n * 3) = evT (l.take n) := fm_take tEv_len l n
@[simp] theorem evT_drop (l : List Ev) (n : Nat) : (evT l).drop (n * 3) = evT (l.drop n) := fm_drop tEv_len l n
@[simp] theorem evT_at {l : List Ev} {i : Nat} (hi : i < l.length) : (evT (l.drop i)).take 3 = tEv l[i] := by rw [← evT_drop]; exact fm_at tEv_len hi
@[simp] theorem evT_v (l : List Ev) : allV (evT l) = true := fm_v (fun _ => rfl) l
@[simp] theorem evT_ros (l : List Ev) : ros (evT l) = evT l := fm_ros (fun _ => rfl) l
theorem evT_set {l : List Ev} {i : Nat} (hi : i < l.length) (x : Ev) : ((((evT l).set (i * 3) (.v (.int .i64 x.kind))).set (i * 3 + 1) (.v (.int .i64 x.peer))).set (i * 3 + 1 + 1) (.v (.int .i64 x.v))) = evT (l.set i x) := by
  exact fm_set tEv_len hi x
/-! ### what is behind events -/
def s0 : Sta := ⟨0, [0, 0, 0, 0], [], 0⟩
def insAt (l : List Ins) (k : Int) : Ins := (l[k.toNat]?).getD ⟨0, 0, 0, 0, 0⟩
def stepS (l : List Ins) (s : Sta) (e : Ev) : Sta := didF (insAt l s.at_) l.length s e.v
def canB (l : List Ins) (s : Sta) (e : Ev) : Bool := s.code == 0 && comesB e (nextE (insAt l s.at_) s.regs)
def evAt (es : List Ev) (i : Nat) : Ev := (es[i]?).getD ⟨0, 0, 0⟩
def stAt (l : List Ins) (es : List Ev) : Nat → Sta
  | 0 => s0
  | i + 1 => stepS l (stAt l es i) (evAt es i)
def allTo (p : Nat → Bool) : Nat → Bool
  | 0 => true
  | n + 1 => allTo p n && p n
theorem allTo_or (p : Nat → Bool) : ∀ n, (allTo p n = true ∧ ∀ i, i < n → p i = true) ∨ (allTo p n = false ∧ ∃ m, m < n ∧ p m = false ∧ ∀ i, i < m → p i = true)
  | 0 => .inl ⟨rfl, fun i hi => by omega⟩
  | n + 1 => by
    rcases allTo_or p n with ⟨h1, h2⟩ | ⟨h1, m, h2, h3, h4⟩
    · cases h : p n with
      | true => exact .inl ⟨by simp [allTo, h1, h], fun i hi => by
          rcases Nat.lt_or_ge i n with h' | h'
          · exact h2 i h'
          · have : i = n := by omega
            subst this; exact h⟩
      | false => exact .inr ⟨by simp [allTo, h], n, by omega, h, h2⟩
    · exact .inr ⟨by simp [allTo, h1], m, by omega, h3, h4⟩
def repB (l : List Ins) (es : List Ev) : Bool := allTo (fun i => canB l (stAt l es i) (evAt es i)) es.length
def repS (l : List Ins) (es : List Ev) : Sta := if repB l es = true then stAt l es es.length else ⟨0, [], [], 0⟩
/-- A state of a program, in which all but its code is right. -/
structure Rok (l : List Ins) (s : Sta) : Prop where
  at0 : 0 ≤ s.at_ ∧ s.at_ < l.length
  regs : s.regs.length = 4
  nums : ∀ v ∈ s.regs, numB v = true
  out : s.out.length ≤ 60
theorem rok0 {l : List Ins} (h : progB l 4 = true) : Rok l s0 := by
  simp only [progB, Bool.and_eq_true] at h
  have := inB_le h.1
  refine ⟨by simp [s0]; omega, rfl, fun v hv => ?_, by simp [s0]⟩
  simp [s0] at hv
  subst hv
  rfl
theorem insAt_of {l : List Ins} {s : Sta} (h : Rok l s) : ∃ i : Nat, ∃ hi : i < l.length, s.at_ = i ∧ insAt l s.at_ = l[i] := by
  have := h.at0
  refine ⟨s.at_.toNat, by omega, by omega, ?_⟩
  unfold insAt
  rw [List.getElem?_eq_getElem (by omega)]
  rfl
theorem rok_rt {l : List Ins} {s : Sta} (hp : progB l 4 = true) (h : Rok l s) : Rt (insAt l s.at_) l.length s := by
  simp only [progB, Bool.and_eq_true] at hp
  obtain ⟨i, hi, h1, h2⟩ := insAt_of h
  have hins := ins_rt (List.all_eq_true.1 hp.2 l[i] (List.getElem_mem _))
  have hl := inB_le hp.1
  rw [h2]
  exact ⟨h.at0, by omega, h.regs, h.nums, h.out, hins.1, hins.2.1, hins.2.2.1, hins.2.2.2.1, hins.2.2.2.2.1, hins.2.2.2.2.2⟩
theorem goF_rok {l : List Ins} {s : Sta} (h : Rok l s) (k : Int) : Rok l (goF l.length s k) := by
  unfold goF
  split
  · rename_i hk
    have := inB_le hk
    exact ⟨⟨this.1, show k < (l.length : Int) by omega⟩, h.regs, h.nums, h.out⟩
  · exact ⟨h.at0, h.regs, h.nums, h.out⟩
theorem set_nums {xs : List Int} (h : ∀ v ∈ xs, numB v = true) {n : Nat} {v : Int} (hv : numB v = true) : ∀ u ∈ xs.set n v, numB u = true := fun u hu => by
  rcases List.mem_or_eq_of_mem_set hu with hu | rfl
  · exact h u hu
  · exact hv
theorem step_rok {l : List Ins} {s : Sta} {e : Ev} (h : Rok l s) (hc : comesB e (nextE (insAt l s.at_) s.regs) = true) : Rok l (stepS l s e) := by
  unfold stepS didF
  split
  · rename_i o7
    have hn : numB e.v = true := by
      have hk : (nextE (insAt l s.at_) s.regs).kind = 3 := by simp [nextE, o7]
      by_cases he : e.kind = 3
      · rw [comes_take hk he, Bool.and_eq_true] at hc
        exact hc.1
      · rw [comes_not (by simp [he])] at hc
        simp [evB, hk] at hc
        exact absurd hc.1 he
    have h' : Rok l ⟨s.at_, s.regs.set (insAt l s.at_).r.toNat e.v, s.out, s.code⟩ := ⟨h.at0, (List.length_set ..).trans h.regs, set_nums h.nums hn, h.out⟩
    exact goF_rok h' _
  split
  · split
    · exact ⟨h.at0, h.regs, h.nums, h.out⟩
    · rename_i hl
      have h' : Rok l ⟨s.at_, s.regs, s.out ++ [e.v], s.code⟩ := ⟨h.at0, h.regs, h.nums, by
        show (s.out ++ [e.v]).length ≤ 60
        rw [List.length_append, List.length_singleton]
        omega⟩
      exact goF_rok h' _
  split
  · exact goF_rok h _
  split
  · split <;> exact goF_rok h _
  split
  · exact ⟨h.at0, h.regs, h.nums, h.out⟩
  split
  · exact goF_rok h _
  split
  · rename_i hv
    have h' : Rok l ⟨s.at_, s.regs.set (insAt l s.at_).r.toNat (valF (insAt l s.at_) s.regs), s.out, s.code⟩ := ⟨h.at0, (List.length_set ..).trans h.regs, set_nums h.nums hv, h.out⟩
    exact goF_rok h' _
  · exact ⟨h.at0, h.regs, h.nums, h.out⟩
theorem st_rok {l : List Ins} {es : List Ev} (hp : progB l 4 = true) : ∀ {n : Nat}, (∀ i, i < n → canB l (stAt l es i) (evAt es i) = true) → Rok l (stAt l es n)
  | 0, _ => rok0 hp
  | n + 1, h => by
    have hn := h n (by omega)
    simp only [canB, Bool.and_eq_true] at hn
    exact step_rok (st_rok hp fun i hi => h i (by omega)) hn.2
theorem evAt_of {es : List Ev} {i : Nat} (h : i < es.length) : evAt es i = es[i] := by simp [evAt, h]
end Go.Proofs.Ytbdidcfjaohglaa.VM
