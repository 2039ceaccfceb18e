/- The law FnExactAt, at every input: it answers true, and the input reads as it did. -/
import Derived.Test.YtninncdacekfgaaGreatRows
import Derived.Test.YtninncdacekfgaaGreatBg
import Derived.Test.YtninncdacekfgaaGreatK51d
import Derived.WalkKit
import Derived.ProofKit
import Derived.OpenShut
import Derived.ShutString
import Derived.ChangeOld
import Derived.Below
import Derived.SizedLaws
namespace Go.Proofs.YtninncdacekfgaaGreat.fnExactAt
open Go.ChangeShapes Go.WideShapes Go.ChangeAt Go.RowKit Go.Proofs.YtninncdacekfgaaGreat.VM
set_option linter.unusedVariables false
theorem own_ : ownKnob Tryz.prog.godebug = none := by kernel_rfl
theorem laidOut : laidOutB Tryz.prog = true := by kernel_rfl
set_option maxRecDepth 100000 in
theorem lifted (os : Os) (started : os.Started) (H : Type) (enc : TypeId × Value → H) :
    ReturnsInHanded {} Tryz.checked os 4 .any (Rows.fnExactAtSpec.pre6 enc Tryz.prog Tryz.f4 Rows.fnExactAtRow.domain false) (Rows.fnExactAtSpec.post enc Tryz.prog Tryz.f4 false true false false) := by
  refine returnsInHanded_of_change_sized (C := Tryz.checked) own_ started (by kernel_rfl) Tryz.func4
    (ChangeSpec.witness6 (enc := enc) (C := Tryz.checked) false ⟨#[], #[.agg #[.slice none 0 0, .slice none 0 0, .slice none 0 0, .slice none 0 0], .slice none 0 0], []⟩ 8 (by kernel_rfl) (by kernel_rfl) (by kernel_rfl) (by kernel_rfl)) ?_
  intro W base args ds gs before hval0 hW hcnd hsz0 _
  have hval : ∀ (j : Nat) t v, Tryz.f4.params[j]? = some t → args[j]? = some v → Value.okWide Tryz.prog W .any base t v := hval0
  have hW' := hW
  obtain ⟨p, q, hA0, hV, rfl, hfz, hnd⟩ := hW
  have hA : DataW.TrodAll enc Tryz.prog W 0 (fun _ => true) true Tryz.f4.params.toList args.toList ds p := hA0
  rw [Tryz.params4] at hA hval
  obtain ⟨v0, vs0, d0, ds0, p0, q0, hargs, rfl, rfl, h0, q_0⟩ := trodAll_cons hA
  obtain ⟨v1, vs1, d1, ds1, p1, q1, rfl, rfl, rfl, h1, q_1⟩ := trodAll_cons q_0
  obtain ⟨rfl, rfl, rfl⟩ := trodAll_nil q_1
  obtain rfl : args = #[v0, v1] := by cases args; simp_all
  obtain ⟨rfl, rfl⟩ := trodVars_none hV
  have k0_ := h0
  have lt0 : ∀ x ∈ p0, x.block < W.heap.size := by obtain ⟨m, hm⟩ := k0_; exact DataW.trod_lt m _ _ _ hm
  obtain ⟨x0, R0, r0, b0, hok0⟩ := arg_structT Tryz.underlying44 op44 (hval 0 44 v0 rfl rfl) h0
  have k1_ := h1
  have lt1 : ∀ x ∈ p1, x.block < W.heap.size := by obtain ⟨m, hm⟩ := k1_; exact DataW.trod_lt m _ _ _ hm
  obtain ⟨x1, R1, r1, b1, hok1⟩ := arg_sliceT Tryz.underlying33 op33 (hval 1 33 v1 rfl rfl) h1
  obtain ⟨k, as_, h⟩ := law_FnExactAt x0 x1 hok0 hok1
  refine (law_calls M_ok h (args_cons r0 (args_cons r1 args_nil)) rfl (both b0 (both b1 nob))).mono fun e W' ⟨he, bel⟩ => ?_
  subst he
  exact ⟨_, rfl, _, _, _, [], _, [], hW', trodAll_mk1 (shut_bool Tryz.underlying4 _), (trodAll_cons_mk (Below.trod laidOut (by kernel_rfl) (of_decide_eq_true (by kernel_rfl)) k0_ bel lt0) (trodAll_cons_mk (Below.trod laidOut (by kernel_rfl) (of_decide_eq_true (by kernel_rfl)) k1_ bel lt1) trodAll_mk0)), rfl, bel.frame _, fun h => by cases h⟩
theorem band {a b : Bool} (ha : a = true) (hb : b = true) : (a && b) = true := by rw [ha, hb]; rfl
set_option maxHeartbeats 4000000 in
theorem closed_ : joinedFacts Tryz.checked.prog 4 Tryz.f4 Rows.fnExactAtSpec Rows.fnExactAtRow = true := by
  unfold joinedFacts
  repeat' with_reducible apply band
  all_goals first
    | with_reducible exact bigEnter
    | (rw [bigFinal]; as_aux_lemma => kernel_rfl)
    | (rw [bigMake]; as_aux_lemma => kernel_rfl)
    | (as_aux_lemma => kernel_rfl)
theorem named_ : Tryz.pinned.checked.prog.funcNamed Rows.fnExactAtRow.func = some 4 := by kernel_rfl
theorem inst_ : Tryz.f4.isInstance Tryz.pinned.checked.prog Rows.fnExactAtRow.origin Rows.fnExactAtRow.targs := of_decide_eq_true (by kernel_rfl)
theorem wrap_ : Tryz.f4.isWrapper Tryz.pinned.checked.prog Rows.fnExactAtRow.wrapper Rows.fnExactAtRow.mainSum := by unfold Func.isWrapper; first | (rw [if_pos (by decide +kernel)]; kernel_rfl) | (rw [if_neg (by decide +kernel)]; exact ⟨rfl, rfl⟩)
theorem over : Rows.fnExactAtRow.holds Tryz.pinned (OpenSpec.ofChange Rows.fnExactAtSpec) :=
  OpenClaim.holds_of_wide 4 Tryz.f4 rfl rfl rfl rfl rfl rfl rfl ⟨rfl, rfl, rfl, rfl, rfl⟩ rfl rfl rfl rfl rfl named_ Tryz.func4 closed_ inst_ wrap_
    (fun os started H enc _ => lifted os started H enc)
theorem proved : Rows.FnExactAtSaid := over
#print axioms proved
end Go.Proofs.YtninncdacekfgaaGreat.fnExactAt
namespace Go.Proofs.YtninncdacekfgaaGreat
/-- The row, under a short name, for the claim. -/
theorem fnExactAt_holds : Rows.FnExactAtSaid := fnExactAt.proved
end Go.Proofs.YtninncdacekfgaaGreat
