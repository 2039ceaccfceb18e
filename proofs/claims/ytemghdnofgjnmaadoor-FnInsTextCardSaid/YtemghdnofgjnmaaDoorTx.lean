/- An instruction's text: what InsText answers, of the specification. -/
import Derived.Test.YtemghdnofgjnmaaDoorTn
import Derived.Test.YtemghdnofgjnmaaDoorK3
namespace Go.Proofs.YtemghdnofgjnmaaDoor.VM
open Go Go.Proofs
set_option linter.unusedSimpArgs false
set_option linter.unusedVariables false
set_option maxRecDepth 100000
set_option maxHeartbeats 20000000
def textL (x : Ins) : List UInt8 := nameL x.op ++ (formL x.op).flatMap fun p => 32 :: partL x p
def textS (x : Ins) : ByteArray := if insB x 30 4 = true then strL (textL x) else strL []
theorem regB_le {n : Int} {h : Bool} (e : regB n h = true) : 0 ≤ n ∧ n ≤ 3 := by
  unfold regB inB at e
  simp at e
  omega
theorem lastB_le {op n : Int} (e : lastB op n 30 4 = true) : -1000000000 ≤ n ∧ n ≤ 1000000000 := by
  unfold lastB numB inB at e
  split at e
  · simpa using e
  · split at e
    · simp at e; omega
    · split at e
      · simp at e; omega
      · split at e
        · simp at e; omega
        · simp at e; omega
theorem insB_le {x : Ins} (h : insB x 30 4 = true) : (1 ≤ x.op ∧ x.op ≤ 11) ∧ (0 ≤ x.r ∧ x.r ≤ 3) ∧ (0 ≤ x.a ∧ x.a ≤ 3) ∧ (0 ≤ x.b ∧ x.b ≤ 3) ∧ (-1000000000 ≤ x.n ∧ x.n ≤ 1000000000) := by
  unfold insB at h
  simp only [Bool.and_eq_true] at h
  obtain ⟨⟨⟨⟨⟨h1, h2⟩, h3⟩, h4⟩, h5⟩, h6⟩ := h
  exact ⟨by simpa [formB] using h1, regB_le h3, regB_le h4, regB_le h5, lastB_le h6⟩
theorem itoa_len {n : Int} (h : -10000000000 < n ∧ n < 10000000000) : (Lib.itoa n).length ≤ 11 := by
  rw [itoa_eq]
  split
  · by_cases h0 : n = 0
    · omega
    · rw [List.length_cons]
      have := dec_len (n := n.natAbs) (by omega) (by omega)
      omega
  · by_cases h0 : n = 0
    · subst h0; rw [show (0 : Int).toNat = 0 from rfl, Lib.decDigits, dif_pos (by omega)]; decide
    · have := dec_len (n := n.toNat) (by omega) (by omega)
      omega
theorem run_specText {j : Nat} (hj : big + 1 ≤ j) (x : Ins) : M.run (j + 4) 11 [.agg (tIns x)] = some ([.c (.v (.string (textS x)))], [.agg (tIns x)]) := by
  have hi := run27 (j := j) x 30 4
  rw [spec_ins] at hi
  rw [m_run (fn := Tryd.f11) (i0 := 0) rfl Tryd.func11 rfl rfl (by simp [tIns])]
  unfold textS
  cases hb : insB x 30 4
  · simp only [tIns, hb] at hi ⊢
    simp -implicitDefEqProofs [tIns, hi, own1, strL]
  obtain ⟨⟨g1, g2⟩, gr, ga, gb, gn⟩ := insB_le hb
  have dr := run_digits (j := j + 2) (by omega) x.r (by omega)
  have da := run_digits (j := j + 2) (by omega) x.a (by omega)
  have db := run_digits (j := j + 2) (by omega) x.b (by omega)
  have dn := run_digits (j := j + 2) (by omega) x.n (by omega)
  have lr := itoa_len (n := x.r) (by omega)
  have la := itoa_len (n := x.a) (by omega)
  have lb := itoa_len (n := x.b) (by omega)
  have ln := itoa_len (n := x.n) (by omega)
  have hN := run_l1Names (j := j + 2)
  have h32 : (⟨#[32]⟩ : ByteArray) = strL [32] := rfl
  have hany : (⟨#[32, 97, 110, 121]⟩ : ByteArray) = strL [32, 97, 110, 121] := rfl
  have hm : (100 : Nat) ≤ most := by unfold most; omega
  unfold numS at dr da db dn
  simp only [tIns, hb] at hi ⊢
  unfold textL partL
  obtain ⟨op, r, a, b, n⟩ := x
  simp only at *
  generalize Lib.itoa r = sr at *
  generalize Lib.itoa a = sa at *
  generalize Lib.itoa b = sb at *
  generalize Lib.itoa n = sn at *
  have mr : 1 + sr.length ≤ most := by omega
  have ma : 1 + sa.length ≤ most := by omega
  have mb : 1 + sb.length ≤ most := by omega
  have mn : 1 + sn.length ≤ most := by omega
  have hop : op = 1 ∨ op = 2 ∨ op = 3 ∨ op = 4 ∨ op = 5 ∨ op = 6 ∨ op = 7 ∨ op = 8 ∨ op = 9 ∨ op = 10 ∨ op = 11 := by omega
  rcases hop with rfl | rfl | rfl | rfl | rfl | rfl | rfl | rfl | rfl | rfl | rfl
  · have hw : (⟨#[115, 101, 116]⟩ : ByteArray) = strL [115, 101, 116] := rfl
    simp -implicitDefEqProofs [tIns, hi, own1, hN, namesT, dr, da, db, dn, h32, hw, strL_size, strL_append, mr, ma, mb, mn, formL, nameL, namesL]
    repeat (rw [if_pos (show _ ≤ most by omega)]; simp -implicitDefEqProofs [tIns, hi, own1, hN, namesT, dr, da, db, dn, h32, hw, strL_size, strL_append, mr, ma, mb, mn, formL, nameL, namesL])
  · have hw : (⟨#[97, 100, 100]⟩ : ByteArray) = strL [97, 100, 100] := rfl
    simp -implicitDefEqProofs [tIns, hi, own1, hN, namesT, dr, da, db, dn, h32, hw, strL_size, strL_append, mr, ma, mb, mn, formL, nameL, namesL]
    repeat (rw [if_pos (show _ ≤ most by omega)]; simp -implicitDefEqProofs [tIns, hi, own1, hN, namesT, dr, da, db, dn, h32, hw, strL_size, strL_append, mr, ma, mb, mn, formL, nameL, namesL])
  · have hw : (⟨#[115, 117, 98]⟩ : ByteArray) = strL [115, 117, 98] := rfl
    simp -implicitDefEqProofs [tIns, hi, own1, hN, namesT, dr, da, db, dn, h32, hw, strL_size, strL_append, mr, ma, mb, mn, formL, nameL, namesL]
    repeat (rw [if_pos (show _ ≤ most by omega)]; simp -implicitDefEqProofs [tIns, hi, own1, hN, namesT, dr, da, db, dn, h32, hw, strL_size, strL_append, mr, ma, mb, mn, formL, nameL, namesL])
  · have hw : (⟨#[109, 117, 108]⟩ : ByteArray) = strL [109, 117, 108] := rfl
    simp -implicitDefEqProofs [tIns, hi, own1, hN, namesT, dr, da, db, dn, h32, hw, strL_size, strL_append, mr, ma, mb, mn, formL, nameL, namesL]
    repeat (rw [if_pos (show _ ≤ most by omega)]; simp -implicitDefEqProofs [tIns, hi, own1, hN, namesT, dr, da, db, dn, h32, hw, strL_size, strL_append, mr, ma, mb, mn, formL, nameL, namesL])
  · have hw : (⟨#[108, 101, 115, 115]⟩ : ByteArray) = strL [108, 101, 115, 115] := rfl
    simp -implicitDefEqProofs [tIns, hi, own1, hN, namesT, dr, da, db, dn, h32, hw, strL_size, strL_append, mr, ma, mb, mn, formL, nameL, namesL]
    repeat (rw [if_pos (show _ ≤ most by omega)]; simp -implicitDefEqProofs [tIns, hi, own1, hN, namesT, dr, da, db, dn, h32, hw, strL_size, strL_append, mr, ma, mb, mn, formL, nameL, namesL])
  · have hw : (⟨#[115, 101, 110, 100]⟩ : ByteArray) = strL [115, 101, 110, 100] := rfl
    simp -implicitDefEqProofs [tIns, hi, own1, hN, namesT, dr, da, db, dn, h32, hw, strL_size, strL_append, mr, ma, mb, mn, formL, nameL, namesL]
    repeat (rw [if_pos (show _ ≤ most by omega)]; simp -implicitDefEqProofs [tIns, hi, own1, hN, namesT, dr, da, db, dn, h32, hw, strL_size, strL_append, mr, ma, mb, mn, formL, nameL, namesL])
  · have hw : (⟨#[116, 97, 107, 101]⟩ : ByteArray) = strL [116, 97, 107, 101] := rfl
    by_cases h9 : n = 9
    · subst h9
      simp -implicitDefEqProofs [tIns, hi, own1, hN, namesT, dr, da, db, dn, h32, hany, hw, strL_size, strL_append, mr, ma, mb, mn, formL, nameL, namesL]
      repeat (rw [if_pos (show _ ≤ most by omega)]; simp -implicitDefEqProofs [tIns, hi, own1, hN, namesT, dr, da, db, dn, h32, hany, hw, strL_size, strL_append, mr, ma, mb, mn, formL, nameL, namesL])
    · simp -implicitDefEqProofs [tIns, hi, own1, hN, namesT, dr, da, db, dn, h32, hany, hw, strL_size, strL_append, mr, ma, mb, mn, formL, nameL, namesL, h9]
      repeat (rw [if_pos (show _ ≤ most by omega)]; simp -implicitDefEqProofs [tIns, hi, own1, hN, namesT, dr, da, db, dn, h32, hany, hw, strL_size, strL_append, mr, ma, mb, mn, formL, nameL, namesL, h9])
  · have hw : (⟨#[112, 114, 105, 110, 116]⟩ : ByteArray) = strL [112, 114, 105, 110, 116] := rfl
    simp -implicitDefEqProofs [tIns, hi, own1, hN, namesT, dr, da, db, dn, h32, hw, strL_size, strL_append, mr, ma, mb, mn, formL, nameL, namesL]
    repeat (rw [if_pos (show _ ≤ most by omega)]; simp -implicitDefEqProofs [tIns, hi, own1, hN, namesT, dr, da, db, dn, h32, hw, strL_size, strL_append, mr, ma, mb, mn, formL, nameL, namesL])
  · have hw : (⟨#[106, 117, 109, 112]⟩ : ByteArray) = strL [106, 117, 109, 112] := rfl
    simp -implicitDefEqProofs [tIns, hi, own1, hN, namesT, dr, da, db, dn, h32, hw, strL_size, strL_append, mr, ma, mb, mn, formL, nameL, namesL]
    repeat (rw [if_pos (show _ ≤ most by omega)]; simp -implicitDefEqProofs [tIns, hi, own1, hN, namesT, dr, da, db, dn, h32, hw, strL_size, strL_append, mr, ma, mb, mn, formL, nameL, namesL])
  · have hw : (⟨#[122, 101, 114, 111]⟩ : ByteArray) = strL [122, 101, 114, 111] := rfl
    simp -implicitDefEqProofs [tIns, hi, own1, hN, namesT, dr, da, db, dn, h32, hw, strL_size, strL_append, mr, ma, mb, mn, formL, nameL, namesL]
    repeat (rw [if_pos (show _ ≤ most by omega)]; simp -implicitDefEqProofs [tIns, hi, own1, hN, namesT, dr, da, db, dn, h32, hw, strL_size, strL_append, mr, ma, mb, mn, formL, nameL, namesL])
  · have hw : (⟨#[101, 110, 100]⟩ : ByteArray) = strL [101, 110, 100] := rfl
    simp -implicitDefEqProofs [tIns, hi, own1, hN, namesT, dr, da, db, dn, h32, hw, strL_size, strL_append, mr, ma, mb, mn, formL, nameL, namesL]
    repeat (rw [if_pos (show _ ≤ most by omega)]; simp -implicitDefEqProofs [tIns, hi, own1, hN, namesT, dr, da, db, dn, h32, hw, strL_size, strL_append, mr, ma, mb, mn, formL, nameL, namesL])
end Go.Proofs.YtemghdnofgjnmaaDoor.VM
