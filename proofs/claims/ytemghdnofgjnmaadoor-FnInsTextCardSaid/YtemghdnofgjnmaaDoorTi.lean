/- An instruction's text: what InsText answers, of the program. -/
import Derived.Test.YtemghdnofgjnmaaDoorTx
namespace Go.Proofs.YtemghdnofgjnmaaDoor.VM
open Go Go.Proofs
set_option linter.unusedSimpArgs false
set_option linter.unusedVariables false
set_option maxRecDepth 100000
set_option maxHeartbeats 20000000
theorem letter_form {op : Int} {p : UInt8} (h : p ∈ formL op) : letter p := by
  unfold formL at h
  unfold letter
  (repeat' split at h) <;> simp at h <;> first | (rcases h with rfl | rfl | rfl <;> simp) | (rcases h with rfl | rfl <;> simp) | (subst h; simp)
theorem name_row {op : Int} (h : 1 ≤ op ∧ op ≤ 11) : namesT[op.toNat]? = some (.v (.string (strL (nameL op)))) := by
  have hop : op = 1 ∨ op = 2 ∨ op = 3 ∨ op = 4 ∨ op = 5 ∨ op = 6 ∨ op = 7 ∨ op = 8 ∨ op = 9 ∨ op = 10 ∨ op = 11 := by omega
  rcases hop with rfl | rfl | rfl | rfl | rfl | rfl | rfl | rfl | rfl | rfl | rfl <;> rfl
theorem name_len {op : Int} (h : 1 ≤ op ∧ op ≤ 11) : (nameL op).length ≤ 5 := by
  have hop : op = 1 ∨ op = 2 ∨ op = 3 ∨ op = 4 ∨ op = 5 ∨ op = 6 ∨ op = 7 ∨ op = 8 ∨ op = 9 ∨ op = 10 ∨ op = 11 := by omega
  rcases hop with rfl | rfl | rfl | rfl | rfl | rfl | rfl | rfl | rfl | rfl | rfl <;> decide
/-- The text of the first parts. -/
def headL (x : Ins) (l : List UInt8) : List UInt8 := nameL x.op ++ l.flatMap fun p => 32 :: partL x p
def bytesL (l : List UInt8) : List T := l.map fun b => .v (.int .u8 b.toNat)
theorem bytesT_form (op : Int) : bytesT (formS op) = bytesL (formL op) := by simp [bytesT, bytesL, formS]
def H_it (x : Ins) (l : List UInt8) (i : Nat) : St := ⟨[(1, .ptr 128 [] 0), (3, .c (.v (.string (strL (headL x (l.take i)))))), (23, .c (.sl 1536 [] 0 l.length)), (24, .c (.v (.int .i64 l.length))), (25, .c (.v (.int .i64 i)))], [(128, ⟨.box, 23, tIns x⟩), (1536, ⟨.lnk, 5, bytesL l⟩)]⟩
theorem part_len {x : Ins} {p : UInt8} (hr : 0 ≤ x.r ∧ x.r ≤ 3) (ha : 0 ≤ x.a ∧ x.a ≤ 3) (hb : 0 ≤ x.b ∧ x.b ≤ 3) (hn : -1000000000 ≤ x.n ∧ x.n ≤ 1000000000) : (partL x p).length ≤ 11 := by
  unfold partL
  repeat' split
  · exact itoa_len (by omega)
  · exact itoa_len (by omega)
  · exact itoa_len (by omega)
  · simp
  · exact itoa_len (by omega)
theorem parts_len {x : Ins} (hr : 0 ≤ x.r ∧ x.r ≤ 3) (ha : 0 ≤ x.a ∧ x.a ≤ 3) (hb : 0 ≤ x.b ∧ x.b ≤ 3) (hn : -1000000000 ≤ x.n ∧ x.n ≤ 1000000000) : ∀ l : List UInt8, (l.flatMap fun p => 32 :: partL x p).length ≤ 12 * l.length
  | [] => by simp
  | p :: l => by
    rw [List.flatMap_cons, List.length_append, List.length_cons, List.length_cons]
    have := part_len (x := x) (p := p) hr ha hb hn
    have := parts_len hr ha hb hn l
    omega
theorem head_succ (x : Ins) (l : List UInt8) {i : Nat} (h : i < l.length) : headL x (l.take (i + 1)) = headL x (l.take i) ++ (32 :: partL x l[i]) := by
  unfold headL
  rw [List.take_succ_eq_append_getElem h, List.flatMap_append, List.append_assoc]
  simp
theorem run_implText {j : Nat} (hj : big + 1 ≤ j) (x : Ins) : M.run (j + 4) 10 [.agg (tIns x)] = some ([.c (.v (.string (textS x)))], [.agg (tIns x)]) := by
  have hi := run29 (j := j) x 30 4
  rw [m_run (fn := Tryd.f10) (i0 := 0) rfl Tryd.func10 rfl rfl (by simp [tIns])]
  unfold textS
  cases hb : insB x 30 4
  · simp only [tIns, hb] at hi ⊢
    simp -implicitDefEqProofs [tIns, hi, own1, strL]
  obtain ⟨g, gr, ga, gb, gn⟩ := insB_le hb
  have hN := run_insWords (j := j + 2)
  have hF := run63 (j := j + 2) x.op
  have hP : ∀ p, letter p → M.run (j + 3) 26 [.agg (tIns x), .c (.v (.int .u8 p.toNat))] = some ([.c (.v (.string (strL (partL x p))))], [.agg (tIns x), .c (.v (.int .u8 p.toNat))]) := fun p hp => run_partText (j := j + 1) x p hp ⟨by omega, by omega⟩ ⟨by omega, by omega⟩ ⟨by omega, by omega⟩ ⟨by omega, by omega⟩
  have hr := name_row g
  have hr2 : ∀ h, namesT[x.op.toNat]'h = .v (.string (strL (nameL x.op))) := fun h => by rw [List.getElem?_eq_getElem h] at hr; injection hr
  have hl0 := name_len g
  have hl1 := formL_le x.op
  have hl4 := parts_len (x := x) gr ga gb gn
  have hq := fun p => part_len (x := x) (p := p) gr ga gb gn
  have hlen : namesT.length = 12 := rfl
  have hbt := bytesT_form x.op
  have hfs := formS_len x.op
  have hlet := fun p (h : p ∈ formL x.op) => letter_form h
  have h32 : (⟨#[32]⟩ : ByteArray) = strL [32] := rfl
  have htx : textL x = headL x (formL x.op) := rfl
  have hw : 0 ≤ x.op ∧ x.op < 12 := by omega
  rw [htx]
  generalize formL x.op = l at *
  generalize formS x.op = s at *
  have hl3 : l.length ≤ 1048576 := by omega
  simp only [hb, tIns] at hi hP
  simp -implicitDefEqProofs [tIns, hi, own1, hN, hF, hr, hr2, hlen, hw, hbt, hfs, hl3]
  rw [loop_to (H_it x l) l.length (by simp -implicitDefEqProofs [H_it, hint1, headL, tIns]; done) (by simp -implicitDefEqProofs [big] at hj; omega)]
  · simp -implicitDefEqProofs [H_it, tIns]
    done
  · intro i hi'
    simp only [H_it, tIns]
    rw [head_succ x l hi']
    have e1 : (bytesL l)[i]? = some (.v (.int .u8 (l[i].toNat : Int))) := by simp [bytesL, hi']
    have e2 := hP l[i] (hlet l[i] (List.getElem_mem _))
    have e3 := hq l[i]
    have e4 : (headL x (l.take i)).length ≤ 41 := by
      unfold headL
      rw [List.length_append]
      have := hl4 (l.take i)
      rw [List.length_take] at this
      omega
    generalize partL x l[i] = q at *
    generalize headL x (l.take i) = g at *
    generalize l[i].toNat = c at *
    have e5 : 1 + q.length ≤ most := by unfold most; omega
    have e6 : g.length + (q.length + 1) ≤ most := by unfold most; omega
    have e7 := w64 (x := (i : Int) + 1) (by omega)
    simp -implicitDefEqProofs [hint1, hi', e1, e2, h32, own1, strL_size, strL_append, e5, e6, e7]
    done
  · simp -implicitDefEqProofs [H_it, tIns, stops]
end Go.Proofs.YtemghdnofgjnmaaDoor.VM
