/- The law FnExactNumbers, at every input: it answers true, and the input reads as it did. -/
import Derived.Test.YtkfdfjjcjcadgaaRows
import Derived.Test.YtkfdfjjcjcadgaaP11
import Derived.Test.YtkfdfjjcjcadgaaPureFnExactNumbers
import Derived.Test.YtkfdfjjcjcadgaaOpens
import Derived.WalkKit
import Derived.ProofKit
import Derived.OpenShut
import Derived.ShutString
import Derived.ChangeOld
import Derived.Below
import Derived.SizedLaws
import Derived.Deep.Slices
namespace Go.Proofs.Ytkfdfjjcjcadgaa.fnExactNumbers
open Go.ChangeShapes Go.WideShapes Go.ChangeAt Go.RowKit Go.Proofs.Ytkfdfjjcjcadgaa.Opens Go.Proofs.Ytkfdfjjcjcadgaa.P Go.Proofs.YtkfdfjjcjcadgaaW.PrintWords
open Go.ChangeMaps (open_string shut_string)
set_option linter.unusedVariables false
theorem own : ownKnob Try.prog.godebug = none := by kernel_rfl
theorem laidOut : laidOutB Try.prog = true := by kernel_rfl
theorem op92 : Opens Try.prog 92 k92 (fun x : S92 => (fun p => (fun _ : Bool => True) p.1 ∧ (fun n : Int => -9223372036854775808 ≤ n ∧ n ≤ 9223372036854775807) p.2) (x.f0, x.f1)) := (opens_struct Try.underlying92 (by kernel_rfl : Try.prog.cellsOf 92 = _) (fun x : S92 => (x.f0, x.f1)) (fun p => ⟨p.1, p.2⟩) (fun _ => rfl) (opens_cons (i := 0) rfl rfl (by kernel_rfl : Try.prog.cellsOf 4 = _) (opens_bool Try.underlying4) (opens_last (i := 1) rfl rfl (by kernel_rfl : Try.prog.cellsOf 3 = _) (opens_i64 Try.underlying3))))
set_option maxRecDepth 100000 in
theorem lifted (os : Os) (started : os.Started) (H : Type) (enc : TypeId × Value → H) :
    ReturnsInHanded {} Try.checked os 8 .any (Rows.fnExactNumbersSpec.pre6 enc Try.prog Try.f8 Rows.fnExactNumbersRow.domain false) (Rows.fnExactNumbersSpec.post enc Try.prog Try.f8 false true false false) := by
  refine returnsInHanded_of_change_sized (C := Try.checked) own started (by kernel_rfl) Try.func8
    (ChangeSpec.witness6 (enc := enc) (C := Try.checked) false ⟨#[], #[.slice none 0 0], []⟩ 8 (by kernel_rfl) (by kernel_rfl) (by kernel_rfl) (by kernel_rfl)) ?_
  intro W base args ds gs before hval0 hW hcnd hsz0 _
  have hval : ∀ (j : Nat) t v, Try.f8.params[j]? = some t → args[j]? = some v → Value.okWide Try.prog W .any base t v := hval0
  have hW' := hW
  obtain ⟨p, q, hA0, hV, rfl, hfz, hnd⟩ := hW
  have hA : DataW.TrodAll enc Try.prog W 0 (fun _ => true) true Try.f8.params.toList args.toList ds p := hA0
  rw [Try.params8] at hA hval
  obtain ⟨v0, vs0, d0, ds0, p0, q0, hargs, rfl, rfl, h0, q_0⟩ := trodAll_cons hA
  obtain ⟨rfl, rfl, rfl⟩ := trodAll_nil q_0
  obtain rfl : args = #[v0] := by cases args; simp_all
  obtain ⟨rfl, rfl⟩ := trodVars_none hV
  have k0_ := h0
  have lt0 : ∀ x ∈ p0, x.block < W.heap.size := by obtain ⟨m, hm⟩ := k0_; exact DataW.trod_lt m _ _ _ hm
  obtain ⟨A0, c0, l0, rfl, hc0, hm0, hr0, hok0⟩ := arg_slice Try.underlying44 (by kernel_rfl : Try.prog.cellsOf 92 = _) op92 z92 (hval 0 44 v0 rfl rfl) h0
  obtain ⟨k, h⟩ := Pure.FnExactNumbers l0 hok0 (by omega : l0.length ≤ 9223372036854775807)
  refine (laws_FnExactNumbers.calls k A0 c0 l0 true W hr0 hc0 h).mono fun e W' ⟨he, bel⟩ => ?_
  subst he
  exact ⟨_, rfl, _, _, _, [], _, [], hW', trodAll_mk1 (shut_bool Try.underlying4 _), (trodAll_cons_mk (Below.trod laidOut (by kernel_rfl) (of_decide_eq_true (by kernel_rfl)) k0_ bel lt0) trodAll_mk0), rfl, bel.frame _, fun h => by cases h⟩
theorem over : Rows.fnExactNumbersRow.holds Try.pinned (OpenSpec.ofChange Rows.fnExactNumbersSpec) :=
  OpenClaim.holds_of_wide 8 Try.f8 rfl rfl rfl rfl rfl rfl rfl ⟨rfl, rfl, rfl, rfl, rfl⟩ rfl rfl rfl rfl rfl (by kernel_rfl) Try.func8 (by kernel_rfl)
    (of_decide_eq_true (by kernel_rfl)) (by unfold Func.isWrapper; first | (rw [if_pos (by decide +kernel)]; kernel_rfl) | (rw [if_neg (by decide +kernel)]; exact ⟨rfl, rfl⟩))
    (fun os started H enc _ => lifted os started H enc)
theorem proved : Rows.FnExactNumbersSaid := over
#print axioms proved
end Go.Proofs.Ytkfdfjjcjcadgaa.fnExactNumbers
namespace Go.Proofs.Ytkfdfjjcjcadgaa
/-- The row, under a short name, for the claim. -/
theorem fnExactNumbers_holds : Rows.FnExactNumbersSaid := fnExactNumbers.proved
end Go.Proofs.Ytkfdfjjcjcadgaa
