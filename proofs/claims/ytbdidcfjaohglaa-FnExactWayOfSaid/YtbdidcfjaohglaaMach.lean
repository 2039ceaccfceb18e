/- The machine, with what is told by hand: has, slices.Clone. -/
import Derived.Test.YtbdidcfjaohglaaCl
namespace Go.Proofs.Ytbdidcfjaohglaa.VM
open Go Go.Proofs
set_option linter.unusedSimpArgs false
set_option linter.unusedVariables false
set_option maxRecDepth 100000
theorem has_ok : PrimOk Try.prog 124 g66 := by
  intro args rs args' hg w us Ox Rx hgv
  refine ⟨prim_enter Try.func124 rfl rfl, ?_⟩
  unfold g66 at hg
  split at hg
  · rename_i op p
    simp only [Option.some.injEq, Prod.mk.injEq] at hg
    obtain ⟨rfl, rfl⟩ := hg
    exact has_calls op p hgv
  · simp at hg
noncomputable def M : Mach := machP M0 [(124, g66), (60, cloneG 3), (70, cloneG 106)]
theorem M_ok : MachOk M := machP_ok M0_ok fun x hx => by
  simp only [List.mem_cons, List.not_mem_nil, or_false] at hx
  rcases hx with rfl | rfl | rfl
  · exact has_ok
  · exact clone_int
  · exact clone_item
@[simp] theorem MP : M.P = Try.prog := M0P
@[simp] theorem Mown : M.own = own1 := M0own
@[simp] theorem Mhint : M.hint = hint1 := M0hint
@[simp] theorem Mfar (f : Nat) : M.far f = false := M0far f
theorem run66 {j : Nat} (op p : Int) : M.run (j + 1) 124 [.c (.v (.int .i64 op)), .c (.v (.int .u8 p))] = some ([.c (.v (.bool (hasB op p)))], [.c (.v (.int .i64 op)), .c (.v (.int .u8 p))]) := rfl
theorem cloneG_eq {e n : Nat} {xs : List T} (hv : allV xs = true) (hm : xs.length ≤ most) : cloneG e [.c (.r e n xs)] = some ([.c (.s e n xs)], [.c (.r e n xs)]) := if_pos ⟨rfl, hv, hm⟩
theorem run_clone {j : Nat} (xs : List Int) (hx : xs.length ≤ 1048576) : M.run (j + 1) 60 [.c (.r 3 xs.length (ints xs))] = some ([.c (.s 3 xs.length (ints xs))], [.c (.r 3 xs.length (ints xs))]) :=
  show cloneG 3 _ = _ from cloneG_eq (allV_ints xs) (by rw [ints_len]; exact le_most hx)
end Go.Proofs.Ytbdidcfjaohglaa.VM
