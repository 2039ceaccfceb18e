/- The law FnExactInsText, at every input: it answers true, and the input reads as it did. -/
import Derived.Test.YtninncdacekfgaaDoorRows
import Derived.Test.YtninncdacekfgaaDoorBg
import Derived.Test.YtninncdacekfgaaDoorLTx
import Derived.WalkKit
import Derived.ProofKit
import Derived.OpenShut
import Derived.ShutString
import Derived.ChangeOld
import Derived.Below
import Derived.SizedLaws
import Derived.LaidMore
import Derived.Stop.Joined
import Derived.Stop.LaidErr
import Derived.SevenTiedAt
import Derived.Test.YtninncdacekfgaaDoorTie
import Derived.Test.YtninncdacekfgaaDoorCards
namespace Go.Proofs.YtninncdacekfgaaDoor.fnExactInsText
open Go.ChangeShapes Go.WideShapes Go.ChangeAt Go.RowKit Go.Proofs.YtninncdacekfgaaDoor.VM
set_option linter.unusedVariables false
theorem own_ : ownKnob Tryd.prog.godebug = none := by kernel_rfl
theorem laidOut : laidOutB Tryd.prog = true := by kernel_rfl
def laidL : List (String × DataW Unit) := [("math/bits.deBruijn32tab", Rows.laid_math_bits_deBruijn32tab), ("math/bits.deBruijn64tab", Rows.laid_math_bits_deBruijn64tab), ("internal/strconv.uint64pow10", Rows.laid_internal_strconv_uint64pow10)]
theorem gTab : Tryd.prog.globalNamed "internal/strconv.uint64pow10" = some 3 := by kernel_rfl
theorem tTab : (Tryd.prog.globals[3]?).map (·.type) = some 105 := by kernel_rfl
theorem pow_eq : (Rows.laid_internal_strconv_uint64pow10 : DataW Unit) = Lib.tabData .u64 Lib.pow10Tab := rfl
set_option maxRecDepth 100000 in
theorem door_met (os : Os) (args : Array Value) : laidMetH Tryd.prog laidL ((World.doorLaid Tryd.prog 72 os).forCall (fun _ _ => 0) ⟨#[], args, []⟩).memory :=
  laidMetH_of_parts3 (fuel := 8) (laidMet_of_run' 8 (by kernel_rfl) (by kernel_rfl)) (by kernel_rfl) (by kernel_rfl)
theorem tab_on {W : World} (h : laidMetH Tryd.prog laidL W) : tabG.on W fun _ => False := by
  rw [MakeChecks.laidMetH_plain _ _ _ (by kernel_rfl)] at h
  have h2 := laidMet.tail (laidMet.tail (h))
  have hT : Lib.TabIs Tryd.prog W "internal/strconv.uint64pow10" .u64 Lib.pow10Tab := Lib.tabIs_of_head gTab tTab Tryd.underlying105 Tryd.underlying86 (by kernel_rfl) (by kernel_rfl) (by rw [pow_eq] at h2; exact h2)
  refine ⟨hT, fun b hb => ⟨?_, fun h => h.elim⟩⟩
  obtain rfl := Option.some.inj (gTab.symm.trans hb)
  unfold Lib.TabIs World.var? at hT
  rw [gTab] at hT
  rcases Nat.lt_or_ge 3 W.heap.size with h' | h'
  · exact h'
  · simp [Array.getElem?_eq_none h'] at hT
set_option maxRecDepth 100000 in
theorem lifted (os : Os) (started : os.Started) (H : Type) (enc : TypeId × Value → H) :
    ReturnsInHanded {} Tryd.checked os 3 .any (fun w args => (Rows.fnExactInsTextSpec.pre enc Tryd.prog Tryd.f3 [] false w args ∧ laidMetH Tryd.prog laidL w) ∧ sizedMet enc Tryd.prog Tryd.f3 (OpenSpec.ofChange Rows.fnExactInsTextSpec) false w args) (Rows.fnExactInsTextSpec.post enc Tryd.prog Tryd.f3 false true false false) := by
  refine returnsInHanded_of_change_and (C := Tryd.checked) (X := fun w _ => laidMetH Tryd.prog laidL w) (fun _ _ _ hh h => h.of_heap hh) own_ started (by kernel_rfl) Tryd.func3
    (ChangeSpec.witness_shaped (enc := enc) (C := Tryd.checked) (os := os) (X := fun w _ => laidMetH Tryd.prog laidL w) false (World.doorLaid Tryd.prog 72 os) #[.agg #[.int .i64 0, .int .i64 0, .int .i64 0, .int .i64 0, .int .i64 0]] 8 rfl (World.shaped_of_RefB (by kernel_rfl) (by kernel_rfl)) (by kernel_rfl) (by kernel_rfl) (by kernel_rfl) (door_met os _)) ?_
  intro W base args ds gs before hval0 hW _ _ hL _
  have hval : ∀ (j : Nat) t v, Tryd.f3.params[j]? = some t → args[j]? = some v → Value.okWide Tryd.prog W .any base t v := hval0
  have hW' := hW
  obtain ⟨p, q, hA0, hV, rfl, hfz, hnd⟩ := hW
  have hA : DataW.TrodAll enc Tryd.prog W 0 (fun _ => true) true Tryd.f3.params.toList args.toList ds p := hA0
  rw [Tryd.params3] at hA hval
  obtain ⟨v0, vs0, d0, ds0, p0, q0, hargs, rfl, rfl, h0, q_0⟩ := trodAll_cons hA
  obtain ⟨rfl, rfl, rfl⟩ := trodAll_nil q_0
  obtain rfl : args = #[v0] := by cases args; simp_all
  obtain ⟨rfl, rfl⟩ := trodVars_none hV
  have k0_ := h0
  have lt0 : ∀ x ∈ p0, x.block < W.heap.size := by obtain ⟨m, hm⟩ := k0_; exact DataW.trod_lt m _ _ _ hm
  obtain ⟨x0, R0, r0, b0, hok0⟩ := arg_structT Tryd.underlying23 op23 (hval 0 23 v0 rfl rfl) h0
  obtain ⟨k, as_, h⟩ := law_FnExactInsText x0 hok0
  refine (law_calls (gd := tabG) M_ok h (args_cons r0 args_nil) rfl (both b0 nob) (tab_on hL)).mono fun e W' ⟨he, bel⟩ => ?_
  subst he
  exact ⟨_, rfl, _, _, _, [], _, [], hW', trodAll_mk1 (shut_bool Tryd.underlying4 _), (trodAll_cons_mk (Below.trod laidOut (by kernel_rfl) (of_decide_eq_true (by kernel_rfl)) k0_ bel lt0) trodAll_mk0), rfl, bel.frame _, fun h => by cases h⟩
theorem band {a b : Bool} (ha : a = true) (hb : b = true) : (a && b) = true := by rw [ha, hb]; rfl
set_option maxHeartbeats 4000000 in
theorem closed_ : joinedFacts Tryd.checked.prog 3 Tryd.f3 Rows.fnExactInsTextSpec Rows.fnExactInsTextRow = true := by
  unfold joinedFacts
  repeat' with_reducible apply band
  all_goals first
    | with_reducible exact bigEnter
    | (rw [bigFinal]; as_aux_lemma => kernel_rfl)
    | (rw [bigMake]; as_aux_lemma => kernel_rfl)
    | (as_aux_lemma => kernel_rfl)
theorem named_ : Tryd.pinned.checked.prog.funcNamed Rows.fnExactInsTextRow.func = some 3 := by kernel_rfl
theorem inst_ : Tryd.f3.isInstance Tryd.pinned.checked.prog Rows.fnExactInsTextRow.origin Rows.fnExactInsTextRow.targs := of_decide_eq_true (by kernel_rfl)
theorem wrap_ : Tryd.f3.isWrapper Tryd.pinned.checked.prog Rows.fnExactInsTextRow.wrapper Rows.fnExactInsTextRow.mainSum := by unfold Func.isWrapper; first | (rw [if_pos (by decide +kernel)]; kernel_rfl) | (rw [if_neg (by decide +kernel)]; exact ⟨rfl, rfl⟩)
theorem over : Rows.fnExactInsTextRow.holds Tryd.pinned (OpenSpec.ofChange Rows.fnExactInsTextSpec) :=
  OpenClaim.holds_of_wide 3 Tryd.f3 rfl rfl rfl rfl rfl rfl rfl ⟨rfl, rfl, rfl, rfl, rfl⟩ rfl rfl rfl rfl rfl named_ Tryd.func3 closed_ inst_ wrap_
    (fun os started H enc _ => lifted os started H enc)
theorem proved : Rows.FnExactInsTextSaid := over
theorem card_holds : Rows.FnExactInsTextCardSaid :=
  Claim7.holds_tied_plain_at .later [] [.data, .data, .data] true (true, "b89071113e9bb7e5e45ba3cd916268692cdb6ab42cb1a12a67bed86628c7fbbe") true
    over (fun _ h => by cases h) (by kernel_rfl) (fun _ h => by cases h) YtninncdacekfgaaDoor.fnExactInsText_row_tie rfl ⟨rfl, rfl⟩ (by kernel_rfl) rfl
    (fun f fn hf hfn => by
      obtain rfl : f = 3 := (Option.some.inj (named_.symm.trans hf)).symm
      obtain rfl : fn = Tryd.f3 := (Option.some.inj (Tryd.func3.symm.trans hfn)).symm
      exact ⟨by kernel_rfl, fun j t ht => by
        rw [Tryd.params3] at ht
        have hm : t ∈ Tryd.f3.params.toList := by rw [Tryd.params3]; simpa using Array.mem_of_getElem? ht
        have hall : (Tryd.f3.params.toList.all fun u => !Tryd.prog.wantsStandIn u) = true := by kernel_rfl
        exact (show Tryd.prog.wantsStandIn t = false by simpa using List.all_eq_true.1 hall t hm)⟩)
    (by kernel_rfl)
#print axioms card_holds
end Go.Proofs.YtninncdacekfgaaDoor.fnExactInsText
namespace Go.Proofs.YtninncdacekfgaaDoor
/-- The card, under a short name, for the claim. -/
theorem fnExactInsText_holds : Rows.FnExactInsTextCardSaid := fnExactInsText.card_holds
end Go.Proofs.YtninncdacekfgaaDoor
