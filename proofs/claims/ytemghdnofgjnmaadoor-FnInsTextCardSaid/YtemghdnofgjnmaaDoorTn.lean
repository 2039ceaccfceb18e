/- Names; a part of an instruction as it is written. -/
import Derived.Test.YtemghdnofgjnmaaDoorDg
import Derived.Test.YtemghdnofgjnmaaDoorK2
namespace Go.Proofs.YtemghdnofgjnmaaDoor.VM
open Go Go.Proofs
set_option linter.unusedSimpArgs false
set_option linter.unusedVariables false
set_option maxRecDepth 100000
set_option maxHeartbeats 20000000
def namesL : List (List UInt8) := [[], [115, 101, 116], [97, 100, 100], [115, 117, 98], [109, 117, 108], [108, 101, 115, 115], [115, 101, 110, 100], [116, 97, 107, 101], [112, 114, 105, 110, 116], [106, 117, 109, 112], [122, 101, 114, 111], [101, 110, 100]]
def nameL (op : Int) : List UInt8 := (namesL[op.toNat]?).getD []
def namesT : List T := [.v (.string ⟨#[]⟩), .v (.string ⟨#[115, 101, 116]⟩), .v (.string ⟨#[97, 100, 100]⟩), .v (.string ⟨#[115, 117, 98]⟩), .v (.string ⟨#[109, 117, 108]⟩), .v (.string ⟨#[108, 101, 115, 115]⟩), .v (.string ⟨#[115, 101, 110, 100]⟩), .v (.string ⟨#[116, 97, 107, 101]⟩), .v (.string ⟨#[112, 114, 105, 110, 116]⟩), .v (.string ⟨#[106, 117, 109, 112]⟩), .v (.string ⟨#[122, 101, 114, 111]⟩), .v (.string ⟨#[101, 110, 100]⟩)]
theorem run_l1Names {j : Nat} : M.run (j + 1) 15 [] = some ([.c (.s 9 12 namesT)], []) := by
  rw [m_run (fn := Tryd.f15) (i0 := 0) rfl Tryd.func15 rfl rfl (by simp)]
  simp -implicitDefEqProofs [namesT]
theorem run_insWords {j : Nat} : M.run (j + 1) 19 [] = some ([.c (.s 9 12 namesT)], []) := by
  rw [m_run (fn := Tryd.f19) (i0 := 0) rfl Tryd.func19 rfl rfl (by simp)]
  simp -implicitDefEqProofs [namesT]
/-- A part of an instruction as it is written. -/
def partL (x : Ins) (p : UInt8) : List UInt8 := if p = 82 then Lib.itoa x.r else if p = 65 then Lib.itoa x.a else if p = 66 then Lib.itoa x.b else if p = 84 ∧ x.n = 9 then [97, 110, 121] else Lib.itoa x.n
theorem run_itoa {j : Nat} (n : Int) (h : -9223372036854775808 ≤ n ∧ n ≤ 9223372036854775807) : M.run (j + 1) 39 [.c (.v (.int .i64 n))] = some ([.c (.v (.string (strL (Lib.itoa n))))], [.c (.v (.int .i64 n))]) :=
  (show itoaG [.c (.v (.int .i64 n))] = some ([.c (.v (.string (strL (Lib.itoa n))))], [.c (.v (.int .i64 n))]) by
    unfold itoaG
    simp only
    rw [if_pos h]
    rfl)
/-- A part's letter. -/
def letter (p : UInt8) : Prop := p = 82 ∨ p = 65 ∨ p = 66 ∨ p = 84 ∨ p = 78 ∨ p = 80 ∨ p = 76
theorem run_partText {j : Nat} (x : Ins) (p : UInt8) (hp : letter p) (hr : i64 x.r) (ha : i64 x.a) (hb : i64 x.b) (hn : i64 x.n) : M.run (j + 2) 26 [.agg (tIns x), .c (.v (.int .u8 p.toNat))] = some ([.c (.v (.string (strL (partL x p))))], [.agg (tIns x), .c (.v (.int .u8 p.toNat))]) := by
  rw [m_run (fn := Tryd.f26) (i0 := 0) rfl Tryd.func26 rfl rfl (by simp [tIns])]
  have er := run_itoa (j := j) x.r hr
  have ea := run_itoa (j := j) x.a ha
  have eb := run_itoa (j := j) x.b hb
  have en := run_itoa (j := j) x.n hn
  have hany : (⟨#[97, 110, 121]⟩ : ByteArray) = strL [97, 110, 121] := rfl
  obtain ⟨op, r, a, b, n⟩ := x
  simp only at *
  rcases hp with rfl | rfl | rfl | rfl | rfl | rfl | rfl
  · simp -implicitDefEqProofs [tIns, own1, er, partL]
  · simp -implicitDefEqProofs [tIns, own1, ea, partL]
  · simp -implicitDefEqProofs [tIns, own1, eb, partL]
  · by_cases h9 : n = 9
    · subst h9
      simp -implicitDefEqProofs [tIns, own1, hany, partL]
    · simp -implicitDefEqProofs [tIns, own1, en, partL, h9]
  · simp -implicitDefEqProofs [tIns, own1, en, partL]
  · simp -implicitDefEqProofs [tIns, own1, en, partL]
  · simp -implicitDefEqProofs [tIns, own1, en, partL]
end Go.Proofs.YtemghdnofgjnmaaDoor.VM
