/- The law FnExactSide, at every input: it answers true, and the input reads as it did. -/
import Derived.Test.YtkgkbkpgpbpjhaaGreatRows
import Derived.Test.YtkgkbkpgpbpjhaaGreatBg
import Derived.Test.YtkgkbkpgpbpjhaaGreatK31c
import Derived.WalkKit
import Derived.ProofKit
import Derived.OpenShut
import Derived.ShutString
import Derived.ChangeOld
import Derived.Below
import Derived.SizedLaws
namespace Go.Proofs.YtkgkbkpgpbpjhaaGreat.fnExactSide
open Go.ChangeShapes Go.WideShapes Go.ChangeAt Go.RowKit Go.Proofs.YtkgkbkpgpbpjhaaGreat.VM
set_option linter.unusedVariables false
theorem own_ : ownKnob Tryz.prog.godebug = none := by kernel_rfl
theorem laidOut : laidOutB Tryz.prog = true := by kernel_rfl
set_option maxRecDepth 100000 in
theorem lifted (os : Os) (started : os.Started) (H : Type) (enc : TypeId × Value → H) :
    ReturnsInHanded {} Tryz.checked os 16 .any (Rows.fnExactSideSpec.pre6 enc Tryz.prog Tryz.f16 Rows.fnExactSideRow.domain false) (Rows.fnExactSideSpec.post enc Tryz.prog Tryz.f16 false true false false) := by
  refine returnsInHanded_of_change_sized (C := Tryz.checked) own_ started (by kernel_rfl) Tryz.func16
    (ChangeSpec.witness6 (enc := enc) (C := Tryz.checked) false ⟨#[], #[.agg #[.slice none 0 0, .slice none 0 0, .slice none 0 0, .slice none 0 0], .int .i64 0, .int .i64 0, .int .i64 0, .int .i64 0], []⟩ 8 (by kernel_rfl) (by kernel_rfl) (by kernel_rfl) (by kernel_rfl)) ?_
  intro W base args ds gs before hval0 hW hcnd hsz0 _
  have hval : ∀ (j : Nat) t v, Tryz.f16.params[j]? = some t → args[j]? = some v → Value.okWide Tryz.prog W .any base t v := hval0
  have hW' := hW
  obtain ⟨p, q, hA0, hV, rfl, hfz, hnd⟩ := hW
  have hA : DataW.TrodAll enc Tryz.prog W 0 (fun _ => true) true Tryz.f16.params.toList args.toList ds p := hA0
  rw [Tryz.params16] at hA hval
  obtain ⟨v0, vs0, d0, ds0, p0, q0, hargs, rfl, rfl, h0, q_0⟩ := trodAll_cons hA
  obtain ⟨v1, vs1, d1, ds1, p1, q1, rfl, rfl, rfl, h1, q_1⟩ := trodAll_cons q_0
  obtain ⟨v2, vs2, d2, ds2, p2, q2, rfl, rfl, rfl, h2, q_2⟩ := trodAll_cons q_1
  obtain ⟨v3, vs3, d3, ds3, p3, q3, rfl, rfl, rfl, h3, q_3⟩ := trodAll_cons q_2
  obtain ⟨v4, vs4, d4, ds4, p4, q4, rfl, rfl, rfl, h4, q_4⟩ := trodAll_cons q_3
  obtain ⟨rfl, rfl, rfl⟩ := trodAll_nil q_4
  obtain rfl : args = #[v0, v1, v2, v3, v4] := by cases args; simp_all
  obtain ⟨rfl, rfl⟩ := trodVars_none hV
  have k0_ := h0
  have lt0 : ∀ x ∈ p0, x.block < W.heap.size := by obtain ⟨m, hm⟩ := k0_; exact DataW.trod_lt m _ _ _ hm
  obtain ⟨x0, R0, r0, b0, hok0⟩ := arg_structT Tryz.underlying71 op71 (hval 0 71 v0 rfl rfl) h0
  obtain ⟨a1, rfl, rfl, rfl, w1⟩ := open_int Tryz.underlying3 (hval 1 3 v1 rfl rfl) h1
  obtain ⟨a2, rfl, rfl, rfl, w2⟩ := open_int Tryz.underlying3 (hval 2 3 v2 rfl rfl) h2
  obtain ⟨a3, rfl, rfl, rfl, w3⟩ := open_int Tryz.underlying3 (hval 3 3 v3 rfl rfl) h3
  obtain ⟨a4, rfl, rfl, rfl, w4⟩ := open_int Tryz.underlying3 (hval 4 3 v4 rfl rfl) h4
  obtain ⟨k, as_, h⟩ := law_FnExactSide x0 a1 a2 a3 a4 hok0 (i64_wf w1) (i64_wf w2) (i64_wf w3) (i64_wf w4)
  refine (law_calls M_ok h (args_cons r0 (args_cons (arg_cell rfl) (args_cons (arg_cell rfl) (args_cons (arg_cell rfl) (args_cons (arg_cell rfl) args_nil))))) rfl (both b0 (both nob (both nob (both nob (both nob nob)))))).mono fun e W' ⟨he, bel⟩ => ?_
  subst he
  exact ⟨_, rfl, _, _, _, [], _, [], hW', trodAll_mk1 (shut_bool Tryz.underlying4 _), (trodAll_cons_mk (Below.trod laidOut (by kernel_rfl) (of_decide_eq_true (by kernel_rfl)) k0_ bel lt0) (trodAll_cons_mk (shut_int Tryz.underlying3 w1) (trodAll_cons_mk (shut_int Tryz.underlying3 w2) (trodAll_cons_mk (shut_int Tryz.underlying3 w3) (trodAll_cons_mk (shut_int Tryz.underlying3 w4) trodAll_mk0))))), rfl, bel.frame _, fun h => by cases h⟩
theorem band {a b : Bool} (ha : a = true) (hb : b = true) : (a && b) = true := by rw [ha, hb]; rfl
set_option maxHeartbeats 4000000 in
theorem closed_ : joinedFacts Tryz.checked.prog 16 Tryz.f16 Rows.fnExactSideSpec Rows.fnExactSideRow = true := by
  unfold joinedFacts
  repeat' with_reducible apply band
  all_goals first
    | with_reducible exact bigEnter
    | (rw [bigFinal]; as_aux_lemma => kernel_rfl)
    | (rw [bigMake]; as_aux_lemma => kernel_rfl)
    | (as_aux_lemma => kernel_rfl)
theorem named_ : Tryz.pinned.checked.prog.funcNamed Rows.fnExactSideRow.func = some 16 := by kernel_rfl
theorem inst_ : Tryz.f16.isInstance Tryz.pinned.checked.prog Rows.fnExactSideRow.origin Rows.fnExactSideRow.targs := of_decide_eq_true (by kernel_rfl)
theorem wrap_ : Tryz.f16.isWrapper Tryz.pinned.checked.prog Rows.fnExactSideRow.wrapper Rows.fnExactSideRow.mainSum := by unfold Func.isWrapper; first | (rw [if_pos (by decide +kernel)]; kernel_rfl) | (rw [if_neg (by decide +kernel)]; exact ⟨rfl, rfl⟩)
theorem over : Rows.fnExactSideRow.holds Tryz.pinned (OpenSpec.ofChange Rows.fnExactSideSpec) :=
  OpenClaim.holds_of_wide 16 Tryz.f16 rfl rfl rfl rfl rfl rfl rfl ⟨rfl, rfl, rfl, rfl, rfl⟩ rfl rfl rfl rfl rfl named_ Tryz.func16 closed_ inst_ wrap_
    (fun os started H enc _ => lifted os started H enc)
theorem proved : Rows.FnExactSideSaid := over
#print axioms proved
end Go.Proofs.YtkgkbkpgpbpjhaaGreat.fnExactSide
namespace Go.Proofs.YtkgkbkpgpbpjhaaGreat
/-- The row, under a short name, for the claim. -/
theorem fnExactSide_holds : Rows.FnExactSideSaid := fnExactSide.proved
end Go.Proofs.YtkgkbkpgpbpjhaaGreat
