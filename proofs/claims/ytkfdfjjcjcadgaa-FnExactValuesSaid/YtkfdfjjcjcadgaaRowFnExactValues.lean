/- The law FnExactValues, at every input: it answers true, and the input reads as it did. -/
import Derived.Test.YtkfdfjjcjcadgaaRows
import Derived.Test.YtkfdfjjcjcadgaaP12
import Derived.Test.YtkfdfjjcjcadgaaPureFnExactValues
import Derived.Test.YtkfdfjjcjcadgaaOpens
import Derived.WalkKit
import Derived.ProofKit
import Derived.OpenShut
import Derived.ShutString
import Derived.ChangeOld
import Derived.Below
import Derived.SizedLaws
import Derived.Deep.Slices
namespace Go.Proofs.Ytkfdfjjcjcadgaa.fnExactValues
open Go.ChangeShapes Go.WideShapes Go.ChangeAt Go.RowKit Go.Proofs.Ytkfdfjjcjcadgaa.Opens Go.Proofs.Ytkfdfjjcjcadgaa.P Go.Proofs.YtkfdfjjcjcadgaaW.PrintWords
open Go.ChangeMaps (open_string shut_string)
set_option linter.unusedVariables false
theorem own : ownKnob Try.prog.godebug = none := by kernel_rfl
theorem laidOut : laidOutB Try.prog = true := by kernel_rfl
theorem op81 : Opens Try.prog 81 k81 (fun x : S81 => (fun p => (fun n : Int => -9223372036854775808 ≤ n ∧ n ≤ 9223372036854775807) p.1 ∧ (fun p => (fun n : Int => -9223372036854775808 ≤ n ∧ n ≤ 9223372036854775807) p.1 ∧ (fun n : Int => -9223372036854775808 ≤ n ∧ n ≤ 9223372036854775807) p.2) p.2) (x.f0, x.f1, x.f2)) := (opens_struct Try.underlying81 (by kernel_rfl : Try.prog.cellsOf 81 = _) (fun x : S81 => (x.f0, x.f1, x.f2)) (fun p => ⟨p.1, p.2.1, p.2.2⟩) (fun _ => rfl) (opens_cons (i := 0) rfl rfl (by kernel_rfl : Try.prog.cellsOf 3 = _) (opens_i64 Try.underlying3) (opens_cons (i := 1) rfl rfl (by kernel_rfl : Try.prog.cellsOf 3 = _) (opens_i64 Try.underlying3) (opens_last (i := 2) rfl rfl (by kernel_rfl : Try.prog.cellsOf 3 = _) (opens_i64 Try.underlying3)))))
set_option maxRecDepth 100000 in
theorem lifted (os : Os) (started : os.Started) (H : Type) (enc : TypeId × Value → H) :
    ReturnsInHanded {} Try.checked os 9 .any (Rows.fnExactValuesSpec.pre6 enc Try.prog Try.f9 Rows.fnExactValuesRow.domain false) (Rows.fnExactValuesSpec.post enc Try.prog Try.f9 false true false false) := by
  refine returnsInHanded_of_change_sized (C := Try.checked) own started (by kernel_rfl) Try.func9
    (ChangeSpec.witness6 (enc := enc) (C := Try.checked) false ⟨#[], #[.slice none 0 0, .int .i64 0, .int .i64 0], []⟩ 8 (by kernel_rfl) (by kernel_rfl) (by kernel_rfl) (by kernel_rfl)) ?_
  intro W base args ds gs before hval0 hW hcnd hsz0 _
  have hval : ∀ (j : Nat) t v, Try.f9.params[j]? = some t → args[j]? = some v → Value.okWide Try.prog W .any base t v := hval0
  have hW' := hW
  obtain ⟨p, q, hA0, hV, rfl, hfz, hnd⟩ := hW
  have hA : DataW.TrodAll enc Try.prog W 0 (fun _ => true) true Try.f9.params.toList args.toList ds p := hA0
  rw [Try.params9] at hA hval
  obtain ⟨v0, vs0, d0, ds0, p0, q0, hargs, rfl, rfl, h0, q_0⟩ := trodAll_cons hA
  obtain ⟨v1, vs1, d1, ds1, p1, q1, rfl, rfl, rfl, h1, q_1⟩ := trodAll_cons q_0
  obtain ⟨v2, vs2, d2, ds2, p2, q2, rfl, rfl, rfl, h2, q_2⟩ := trodAll_cons q_1
  obtain ⟨rfl, rfl, rfl⟩ := trodAll_nil q_2
  obtain rfl : args = #[v0, v1, v2] := by cases args; simp_all
  obtain ⟨rfl, rfl⟩ := trodVars_none hV
  have k0_ := h0
  have lt0 : ∀ x ∈ p0, x.block < W.heap.size := by obtain ⟨m, hm⟩ := k0_; exact DataW.trod_lt m _ _ _ hm
  obtain ⟨A0, c0, l0, rfl, hc0, hm0, hr0, hok0⟩ := arg_slice Try.underlying29 (by kernel_rfl : Try.prog.cellsOf 81 = _) op81 z81 (hval 0 29 v0 rfl rfl) h0
  obtain ⟨a1, rfl, rfl, rfl, w1⟩ := open_int Try.underlying3 (hval 1 3 v1 rfl rfl) h1
  obtain ⟨a2, rfl, rfl, rfl, w2⟩ := open_int Try.underlying3 (hval 2 3 v2 rfl rfl) h2
  obtain ⟨k, h⟩ := Pure.FnExactValues l0 a1 a2 hok0 (i64_of_wf w1) (i64_of_wf w2) (by omega : l0.length ≤ 9223372036854775807)
  refine (laws_FnExactValues.calls k A0 c0 l0 a1 a2 true W hr0 hc0 h).mono fun e W' ⟨he, bel⟩ => ?_
  subst he
  exact ⟨_, rfl, _, _, _, [], _, [], hW', trodAll_mk1 (shut_bool Try.underlying4 _), (trodAll_cons_mk (Below.trod laidOut (by kernel_rfl) (of_decide_eq_true (by kernel_rfl)) k0_ bel lt0) (trodAll_cons_mk (shut_int Try.underlying3 w1) (trodAll_cons_mk (shut_int Try.underlying3 w2) trodAll_mk0))), rfl, bel.frame _, fun h => by cases h⟩
theorem over : Rows.fnExactValuesRow.holds Try.pinned (OpenSpec.ofChange Rows.fnExactValuesSpec) :=
  OpenClaim.holds_of_wide 9 Try.f9 rfl rfl rfl rfl rfl rfl rfl ⟨rfl, rfl, rfl, rfl, rfl⟩ rfl rfl rfl rfl rfl (by kernel_rfl) Try.func9 (by kernel_rfl)
    (of_decide_eq_true (by kernel_rfl)) (by unfold Func.isWrapper; first | (rw [if_pos (by decide +kernel)]; kernel_rfl) | (rw [if_neg (by decide +kernel)]; exact ⟨rfl, rfl⟩))
    (fun os started H enc _ => lifted os started H enc)
theorem proved : Rows.FnExactValuesSaid := over
#print axioms proved
end Go.Proofs.Ytkfdfjjcjcadgaa.fnExactValues
namespace Go.Proofs.Ytkfdfjjcjcadgaa
/-- The row, under a short name, for the claim. -/
theorem fnExactValues_holds : Rows.FnExactValuesSaid := fnExactValues.proved
end Go.Proofs.Ytkfdfjjcjcadgaa
