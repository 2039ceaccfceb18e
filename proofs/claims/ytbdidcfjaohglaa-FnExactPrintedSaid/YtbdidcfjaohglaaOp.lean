/- Arguments of the laws: rows of numbers, of instructions; states. -/
import Derived.Test.YtbdidcfjaohglaaFn3
namespace Go.Proofs.Ytbdidcfjaohglaa.VM
open Go Go.Proofs
set_option linter.unusedSimpArgs false
set_option linter.unusedVariables false
set_option maxRecDepth 100000
def i64 (n : Int) : Prop := -9223372036854775808 ≤ n ∧ n ≤ 9223372036854775807
theorem op3 : OpT Try.prog 3 (fun n : Int => [.v (.int .i64 n)]) i64 := opT_int Try.underlying3
theorem op29 : OpT Try.prog 29 (fun xs : List Int => [.r 3 xs.length (ints xs)]) (fun xs => (∀ n ∈ xs, i64 n) ∧ xs.length ≤ maxLen) := ⟨fun h => by
  obtain ⟨xs, R, h1, h2, h3⟩ := (opT_slice Try.underlying29 (by simp) op3).op h
  refine ⟨xs, R, ?_, h2, h3⟩
  have e : ∀ l : List Int, (l.flatMap fun n => [T.v (.int .i64 n)]) = ints l := fun l => by
    unfold ints
    rw [List.flatMap_def, List.flatten_eq_flatMap, List.flatMap_map]
    simp [List.map_eq_flatMap]
  rw [← e]
  exact h1⟩
def insOk (x : Ins) : Prop := i64 x.op ∧ i64 x.r ∧ i64 x.a ∧ i64 x.b ∧ i64 x.n
theorem op112 : OpT Try.prog 112 tIns insOk := by
  refine opT_struct Try.underlying112 (sz := 1 + (1 + (1 + (1 + 1)))) (by kernel_rfl) (fun x : Int × Int × Int × Int × Int => (⟨x.1, x.2.1, x.2.2.1, x.2.2.2.1, x.2.2.2.2⟩ : Ins)) tIns insOk ?_ ?_
    (opT_cons rfl rfl (by kernel_rfl) op3 (opT_cons rfl rfl (by kernel_rfl) op3 (opT_cons rfl rfl (by kernel_rfl) op3 (opT_cons rfl rfl (by kernel_rfl) op3 (opT_last rfl rfl (by kernel_rfl) op3)))))
  · exact fun _ => rfl
  · exact fun _ h => h
theorem op48 : OpT Try.prog 48 (fun xs : List Ins => [.r 112 xs.length (insT xs)]) (fun xs => (∀ x ∈ xs, insOk x) ∧ xs.length ≤ maxLen) := opT_slice Try.underlying48 (by simp) op112
structure Sta where
  at_ : Int
  regs : List Int
  out : List Int
  code : Int
def tSta (s : Sta) : List T := stR s.at_ s.regs s.out s.code
def staOk (s : Sta) : Prop := i64 s.at_ ∧ ((∀ n ∈ s.regs, i64 n) ∧ s.regs.length ≤ maxLen) ∧ ((∀ n ∈ s.out, i64 n) ∧ s.out.length ≤ maxLen) ∧ i64 s.code
theorem op50 : OpT Try.prog 50 tSta staOk := by
  refine opT_struct Try.underlying50 (sz := 1 + (1 + (1 + 1))) (by kernel_rfl) (fun x : Int × List Int × List Int × Int => (⟨x.1, x.2.1, x.2.2.1, x.2.2.2⟩ : Sta)) tSta staOk ?_ ?_
    (opT_cons rfl rfl (by kernel_rfl) op3 (opT_cons rfl rfl (by kernel_rfl) op29 (opT_cons rfl rfl (by kernel_rfl) op29 (opT_last rfl rfl (by kernel_rfl) op3))))
  · exact fun _ => rfl
  · exact fun _ h => h
end Go.Proofs.Ytbdidcfjaohglaa.VM
