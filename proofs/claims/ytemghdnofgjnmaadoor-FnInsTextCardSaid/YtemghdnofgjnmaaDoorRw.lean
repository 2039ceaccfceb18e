/- Words of a line; the place of a word: reckoned. -/
import Derived.Test.YtemghdnofgjnmaaDoorTn
namespace Go.Proofs.YtemghdnofgjnmaaDoor.VM
open Go Go.Proofs
set_option linter.unusedSimpArgs false
set_option linter.unusedVariables false
set_option maxRecDepth 100000
set_option maxHeartbeats 20000000
@[simp] theorem strsT_len (l : List ByteArray) : (strsT l).length = l.length := by simp [strsT]
@[simp] theorem strsT_allV : ∀ l : List ByteArray, allV (strsT l) = true
  | [] => rfl
  | _ :: l => strsT_allV l
@[simp] theorem strsT_ros : ∀ l : List ByteArray, ros (strsT l) = strsT l
  | [] => rfl
  | b :: l => by
    have := strsT_ros l
    unfold strsT at this ⊢
    rw [List.map_cons, ros, this]
    rfl
@[simp] theorem strsT_take (l : List ByteArray) (n : Nat) : (strsT l).take n = strsT (l.take n) := by simp [strsT, List.map_take]
theorem strsT_cons (x : ByteArray) (l : List ByteArray) : strsT (x :: l) = .v (.string x) :: strsT l := rfl
theorem strsT_nil : strsT [] = [] := rfl
theorem strsT_app (l m : List ByteArray) : strsT (l ++ m) = strsT l ++ strsT m := by simp [strsT]
theorem strsT_at {l : List ByteArray} {i : Nat} (h : i < l.length) : (strsT l)[i]? = some (.v (.string l[i])) := by simp [strsT, h]
theorem strsT_get {l : List ByteArray} {i : Nat} (h : i < l.length) (h' : i < (strsT l).length) : (strsT l)[i] = .v (.string l[i]) := by simp [strsT]
/-- A byte of a text. -/
def bAt (s : ByteArray) (i : Nat) : UInt8 := if h : i < s.size then s[i] else 0
theorem bAt_eq {s : ByteArray} {i : Nat} (h : i < s.size) : s[i] = bAt s i := (dif_pos h).symm
section
variable {E : Env} {σ : St} {d : Nat}
def idxK (σ : St) : Option AV → Option AV → Option (Option AV × St)
  | some (.c (.v (.string s))), some (.c (.v (.int _ n))) => if 0 ≤ n ∧ n < s.size then some (some (.c (.v (.int .u8 (bAt s n.toNat).toNat))), σ) else none
  | _, _ => none
theorem idxK_str {s : ByteArray} {k : IntKind} {n : Int} : idxK σ (some (.c (.v (.string s)))) (some (.c (.v (.int k n)))) = if 0 ≤ n ∧ n < s.size then some (some (.c (.v (.int .u8 (bAt s n.toNat).toNat))), σ) else none := (rfl)
theorem op_idxS {t : TypeId} {x i : Operand} (hu : E.P.underlying t = some .string) : E.op σ d (.index t x i) = idxK σ (σ.ev x) (σ.ev i) := by
  simp only [Env.op, hu]
  cases σ.ev x with
  | none => rfl
  | some v => cases v with
    | c q => cases q with
      | v z => cases z with
        | string s => cases σ.ev i with
          | none => rfl
          | some w => cases w with
            | c q => cases q with
              | v z => cases z with
                | int k n =>
                  rw [idxK_str]
                  by_cases h : 0 ≤ n ∧ n < s.size
                  · rw [if_pos h]
                    simp only [h, and_self, dite_true]
                    rw [← bAt_eq (s := s) (i := n.toNat) (by omega)]
                  · rw [if_neg h]
                    simp only [h, dite_false]
                | _ => rfl
              | _ => rfl
            | _ => rfl
        | _ => rfl
      | _ => rfl
    | _ => rfl
def cutK (σ : St) (lo hi : Option Operand) (mx : Bool) : Option AV → Option (Option AV × St)
  | some (.c (.v (.string s))) => (intOr σ 0 lo).bind fun l => (intOr σ s.size hi).bind fun h => if 0 ≤ l ∧ l ≤ h ∧ h ≤ s.size ∧ mx = true then some (some (.c (.v (.string (s.extract l.toNat h.toNat)))), σ) else none
  | _ => none
theorem cutK_str {s : ByteArray} {lo hi : Option Operand} {mx : Bool} : cutK σ lo hi mx (some (.c (.v (.string s)))) = (intOr σ 0 lo).bind fun l => (intOr σ s.size hi).bind fun h => if 0 ≤ l ∧ l ≤ h ∧ h ≤ s.size ∧ mx = true then some (some (.c (.v (.string (s.extract l.toNat h.toNat)))), σ) else none := (rfl)
theorem op_cutS {t : TypeId} {x : Operand} {lo hi mx : Option Operand} (hu : E.P.underlying t = some .string) : E.op σ d (.slice t x lo hi mx) = cutK σ lo hi mx.isNone (σ.ev x) := by
  simp only [Env.op, hu]
  cases σ.ev x with
  | none => rfl
  | some v => cases v with
    | c q => cases q with
      | v z => cases z <;> rfl
      | _ => rfl
    | _ => rfl
end
attribute [simp] idxK_str op_idxS cutK_str op_cutS
/-- Where a word begins, and the words told, when i bytes are read. -/
def wF (s : ByteArray) : Nat → Nat × List ByteArray
  | 0 => (0, [])
  | i + 1 => if i = s.size ∨ (bAt s i).toNat = 32 then (i + 1, (wF s i).2 ++ [s.extract (wF s i).1 i]) else wF s i
theorem wF_le (s : ByteArray) : ∀ i, (wF s i).1 ≤ i ∧ (wF s i).2.length ≤ i
  | 0 => ⟨Nat.le_refl _, Nat.le_refl _⟩
  | i + 1 => by
    have := wF_le s i
    rw [wF]
    split
    · exact ⟨Nat.le_refl _, by rw [List.length_append]; simp; omega⟩
    · omega
def wS (s : ByteArray) : List ByteArray := (wF s (s.size + 1)).2
def H_wd (s : ByteArray) (i : Nat) : St := ⟨[(0, .c (.v (.string s))), (3, .c (.sl 448 [] 0 (wF s i).2.length)), (4, .c (.v (.int .i64 (wF s i).1))), (5, .c (.v (.int .i64 i)))], [(448, ⟨.own, 9, strsT (wF s i).2⟩)]⟩
theorem run_l1Words {j : Nat} (hj : big ≤ j) (s : ByteArray) (hs : s.size ≤ 1048576) : M.run (j + 1) 14 [.c (.v (.string s))] = some ([.c (.s 9 (wS s).length (strsT (wS s)))], [.c (.v (.string s))]) := by
  rw [m_run (fn := Tryd.f14) (i0 := 0) rfl Tryd.func14 rfl rfl (by simp)]
  simp -implicitDefEqProofs
  rw [loop_to (H_wd s) (s.size + 1) (by simp -implicitDefEqProofs [H_wd, hint1, wF]; rfl) (by simp -implicitDefEqProofs [big] at hj; omega)]
  · have h1 := (wF_le s (s.size + 1)).2
    unfold wS
    simp only [H_wd]
    generalize (wF s (s.size + 1)).2 = l at *
    generalize (wF s (s.size + 1)).1 = f at *
    have h2 : ¬ ((s.size : Int) + 1 ≤ s.size) := by omega
    simp -implicitDefEqProofs [h2]
    done
  · intro i hi
    obtain ⟨h1, h2⟩ := wF_le s i
    have e7 := w64 (x := (i : Int) + 1) (by omega)
    simp only [H_wd]
    rw [wF]
    generalize wF s i = q at *
    obtain ⟨f, l⟩ := q
    simp only at h1 h2 ⊢
    have hm : l.length + 1 ≤ most := by unfold most; omega
    have hi1 : (i : Int) ≤ s.size := by omega
    have hi2 : i ≤ s.size := by omega
    by_cases hz : i = s.size
    · have hz1 : (i : Int) = s.size := by omega
      rw [if_pos (.inl hz)]
      subst hz
      simp -implicitDefEqProofs [hint1, strsT_app, strsT_cons, strsT_nil, e7, h1, hm]
      done
    · have hz1 : ¬ (i : Int) = s.size := by omega
      have hzb : ((i : Int) == (s.size : Int)) = false := by simpa using hz1
      have hlt : i < s.size := by omega
      by_cases hb : (bAt s i).toNat = 32
      · have hbI : ((bAt s i).toNat : Int) = 32 := by omega
        have hbB : (((bAt s i).toNat : Int) == 32) = true := by simp [hbI]
        rw [if_pos (.inr hb)]
        simp -implicitDefEqProofs [hint1, strsT_app, strsT_cons, strsT_nil, e7, h1, hb, hbI, hbB, hz, hz1, hzb, hm, hi2, hlt]
        done
      · have hbI : ¬ ((bAt s i).toNat : Int) = 32 := by omega
        have hbB : (((bAt s i).toNat : Int) == 32) = false := by simpa using hbI
        rw [if_neg (by omega)]
        simp -implicitDefEqProofs [hint1, strsT_app, strsT_cons, strsT_nil, e7, h1, hb, hbI, hbB, hz, hz1, hzb, hm, hi2, hlt]
        done
  · simp only [H_wd]
    have h2 : ¬ ((s.size : Int) + 1 ≤ s.size) := by omega
    simp -implicitDefEqProofs [h2, stops]
/-- A word's place. -/
def idxS (l : List ByteArray) (v : ByteArray) : Int := match l.findIdx? (fun x => v == x) with
  | some n => n
  | none => -1
def H_ix (l : List ByteArray) (v : ByteArray) (i : Nat) : St := ⟨[(0, .c (.sl 0 [] 0 l.length)), (1, .c (.v (.string v))), (7, .c (.v (.int .i64 l.length))), (8, .c (.v (.int .i64 i)))], [(0, ⟨.ro, 9, strsT l⟩)]⟩
theorem run_indexS {j : Nat} (hj : big ≤ j) (l : List ByteArray) (v : ByteArray) (hl : l.length ≤ 1048576) : M.run (j + 1) 18 [.c (.r 9 l.length (strsT l)), .c (.v (.string v))] = some ([.c (.v (.int .i64 (idxS l v)))], [.c (.r 9 l.length (strsT l)), .c (.v (.string v))]) := by
  rcases first_bad (fun x : ByteArray => !(v == x)) l with hc | ⟨n, hn, hc, hg⟩
  · have hf : l.findIdx? (fun x => v == x) = none := by
      rw [List.findIdx?_eq_none_iff]
      intro x hx
      obtain ⟨i, hi, rfl⟩ := List.getElem_of_mem hx
      simpa using hc i hi
    unfold idxS
    rw [hf]
    rw [m_run (fn := Tryd.f18) (i0 := 0) rfl Tryd.func18 rfl rfl (by simp)]
    simp -implicitDefEqProofs
    rw [loop_to (H_ix l v) l.length (by simp -implicitDefEqProofs [H_ix, hint1]) (by simp [big] at hj; omega) (fun i hi => by
      have h1 := hc i hi
      simp only [Bool.not_eq_true'] at h1
      have h2 := strsT_at hi
      have h3 := fun h' => strsT_get (l := l) hi h'
      generalize l[i] = u at *
      simp -implicitDefEqProofs [H_ix, hint1, hi, w64 (x := (i : Int) + 1) (by omega), h1, h2, h3, own1]) (by simp -implicitDefEqProofs [H_ix, stops, hint1])]
    simp -implicitDefEqProofs [H_ix]
  · have hf : l.findIdx? (fun x => v == x) = some n := by
      rw [List.findIdx?_eq_some_iff_getElem]
      exact ⟨hn, by simpa using hc, fun i hi => by simpa using hg i hi⟩
    unfold idxS
    rw [hf]
    have hc' : (v == l[n]) = true := by simpa using hc
    rw [m_run (fn := Tryd.f18) (i0 := 0) rfl Tryd.func18 rfl rfl (by simp)]
    simp -implicitDefEqProofs
    have q2 := strsT_at hn
    have q3 := fun h' => strsT_get (l := l) hn h'
    generalize l[n] = z at *
    rw [loop_to (H_ix l v) n (by simp -implicitDefEqProofs [H_ix, hint1]) (by simp [big] at hj; omega) (fun i hi => by
      have h1 := hg i hi
      have hi' : i < l.length := by omega
      simp only [Bool.not_eq_true'] at h1
      have h2 := strsT_at hi'
      have h3 := fun h' => strsT_get (l := l) hi' h'
      generalize l[i] = u at *
      simp -implicitDefEqProofs [H_ix, hint1, hi', w64 (x := (i : Int) + 1) (by omega), h1, h2, h3, own1]) (by simp -implicitDefEqProofs [H_ix, stops, hn, hc', q2, q3, own1])]
    simp -implicitDefEqProofs [H_ix, hn, hc', q2, q3, own1]
end Go.Proofs.YtemghdnofgjnmaaDoor.VM
