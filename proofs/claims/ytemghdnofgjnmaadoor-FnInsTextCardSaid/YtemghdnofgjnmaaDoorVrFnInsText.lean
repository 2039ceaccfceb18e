/- The law FnInsText, at every input: it answers true, and the input reads as it did. -/
import Derived.Test.YtemghdnofgjnmaaDoorRows
import Derived.Test.YtemghdnofgjnmaaDoorBg
import Derived.Test.YtemghdnofgjnmaaDoorLIx
import Derived.WalkKit
import Derived.ProofKit
import Derived.OpenShut
import Derived.ShutString
import Derived.ChangeOld
import Derived.Below
import Derived.SizedLaws
import Derived.LaidMore
import Derived.Lay
import Derived.Stop.Joined
import Derived.Stop.LaidErr
import Derived.SevenTiedAt
import Derived.Shelf.Vars
import Derived.Test.YtemghdnofgjnmaaDoorTie
import Derived.Test.YtemghdnofgjnmaaDoorCards
namespace Go.Proofs.YtemghdnofgjnmaaDoor.fnInsText
open Go.ChangeShapes Go.WideShapes Go.ChangeAt Go.RowKit Go.Proofs.YtemghdnofgjnmaaDoor.VM
set_option linter.unusedVariables false
theorem own_ : ownKnob Tryd.prog.godebug = none := by kernel_rfl
theorem laidOut : laidOutB Tryd.prog = true := by kernel_rfl
def laidL : List (String × DataW Unit) := Rows.fnInsTextRow.laid
theorem gTab : Tryd.prog.globalNamed "internal/strconv.uint64pow10" = some 5 := by kernel_rfl
theorem tTab : (Tryd.prog.globals[5]?).map (·.type) = some 109 := by kernel_rfl
theorem pow_eq : (Rows.laid_internal_strconv_uint64pow10 : DataW Unit) = Lib.tabData .u64 Lib.pow10Tab := rfl
/-- The type of the library's errors, by its name. -/
def nmE : String := match (Rows.laid_strconv_ErrRange : DataW Unit) with
  | .iface x _ => x
  | _ => default
theorem row_err (u : TypeId) (h : Tryd.prog.typeName? 3 u = some nmE) : u = 93 :=
  typeName_ptr_named (nm := "errors.errorString") (by kernel_rfl) (by kernel_rfl) (by decide) u (h.trans (congrArg some (by kernel_rfl)))
theorem cell_err : Tryd.prog.cellsOf 95 = 1 := by kernel_rfl
theorem cell_str : Tryd.prog.cellsOf 9 = 1 := by kernel_rfl
theorem var_cell {P : Program} {W : World} {n : String} {g : Nat} {v : Value} (hg : P.globalNamed n = some g) (h : W.var? P n = some #[v]) : W.cell? ⟨g, 0, none⟩ = some v := by
  have := World.var?_cell hg h 0
  simpa using this
theorem lives {W : World} {g : Nat} {v : Value} (h : W.cell? ⟨g, 0, none⟩ = some v) : g < W.heap.size := by
  rcases Nat.lt_or_ge g W.heap.size with h' | h'
  · exact h'
  · simp [World.cell?, Array.getElem?_eq_none h'] at h
theorem tab_on {W : World} (h : laidMetH Tryd.prog laidL W) (hsh : W.ShapedOpen Tryd.prog) : tabG.on W fun _ => False := by
  rw [MakeChecks.laidMetH_plain _ _ _ (by kernel_rfl)] at h
  have h2 := laidMet.tail (laidMet.tail (h))
  have h4 := laidMet.tail (laidMet.tail (laidMet.tail (laidMet.tail (h))))
  have h5 := laidMet.tail (laidMet.tail (laidMet.tail (laidMet.tail (laidMet.tail (h)))))
  have hT : Lib.TabIs Tryd.prog W "internal/strconv.uint64pow10" .u64 Lib.pow10Tab := Lib.tabIs_of_head gTab tTab Tryd.underlying109 Tryd.underlying82 (by kernel_rfl) (by kernel_rfl) h2
  obtain ⟨a1, s1, v1, _⟩ := laid_sentinel (g := 1) h4 (by kernel_rfl) (by kernel_rfl) Tryd.underlying45 row_err Tryd.underlying93 Tryd.underlying95 rfl rfl Tryd.underlying9 cell_err cell_str
  obtain ⟨a0, s0, v0, _⟩ := laid_sentinel (g := 0) h5 (by kernel_rfl) (by kernel_rfl) Tryd.underlying45 row_err Tryd.underlying93 Tryd.underlying95 rfl rfl Tryd.underlying9 cell_err cell_str
  have c1 := var_cell (g := 1) (by kernel_rfl) v1
  have c0 := var_cell (g := 0) (by kernel_rfl) v0
  obtain ⟨m, c2⟩ := cell_of_shapedOpen_int (g := 2) (t := 3) (zero := #[.int .i64 0]) hsh (of_decide_eq_true (by kernel_rfl)) (by kernel_rfl) rfl (by kernel_rfl) (by kernel_rfl) Tryd.underlying3
  refine ⟨⟨hT, ⟨_, _, c0⟩, ⟨_, _, c1⟩, m, c2⟩, fun b hb => ⟨?_, fun h => h.elim⟩⟩
  rcases hb with hb | rfl | rfl | rfl
  · obtain rfl := Option.some.inj (gTab.symm.trans hb)
    unfold Lib.TabIs World.var? at hT
    rw [gTab] at hT
    rcases Nat.lt_or_ge 5 W.heap.size with h' | h'
    · exact h'
    · simp [Array.getElem?_eq_none h'] at hT
  · exact lives c0
  · exact lives c1
  · exact lives c2
section
variable {H : Type} {enc : TypeId × Value → H}
/-- A row whose condition and whose world's shape are both handed to the call. -/
theorem returns_and_shaped {a : Assume} {C : Checked} {os : Os} {f : FuncId} {fn : Func} {s : ChangeSpec} {conds : List PathCond} {apart fresh handsOn again : Bool} {X : World → Array Value → Prop}
    (hX : ∀ (w w' : World) (args : Array Value), w.heap = w'.heap → X w args → X w' args)
    (own : ownKnob C.prog.godebug = none) (started : os.Started) (noInit : C.prog.inits.idxOf? f = none) (hfn : C.prog.funcs[f]? = some fn)
    (witness : ∃ (w : World) (tape : Tape) (i : Input), w.os = os ∧ (w.forCall tape i).Shaped C.prog ∧ i.vars = [] ∧ Input.okWide C.prog (w.forCall tape i) .any w.heap.size f i ∧
      ((s.pre enc C.prog fn conds apart (w.forCall tape i).memory i.args ∧ X (w.forCall tape i).memory i.args) ∧ sizedMet enc C.prog fn (OpenSpec.ofChange s) apart (w.forCall tape i).memory i.args) ∧ a.holds C.prog (lone (Frame.enter C.prog f i.args .normal) [] (w.forCall tape i)))
    (contract : ∀ (W : World) (base : Nat) (args : Array Value) (ds gs : List (DataW H)) (before : List MemPlace),
      (∀ (j : Nat) t v, fn.params[j]? = some t → args[j]? = some v → Value.okWide C.prog W .any base t v) →
      DataW.Whole enc C.prog fn.params.toList s.vars apart W args.toList ds gs before → X W args → W.ShapedOpen C.prog →
      Calls C.prog f args W fun e W' => ∃ v, e = .returned v ∧ s.post enc C.prog fn apart fresh handsOn again W args v W') :
    ReturnsInHanded a C os f .any (fun w args => (s.pre enc C.prog fn conds apart w args ∧ X w args) ∧ sizedMet enc C.prog fn (OpenSpec.ofChange s) apart w args) (s.post enc C.prog fn apart fresh handsOn again) := by
  refine returnsInHanded_of_calls own started noInit witness ?_
  intro w tape i _ hsh _ hok hpre hholds
  obtain ⟨_, _, _, fn', hfn', _, _, _, _, hval⟩ := hok
  have e : fn' = fn := Option.some.inj (hfn'.symm.trans hfn)
  subst e
  obtain ⟨⟨⟨ds, gs, before, hw, hc⟩, hx⟩, hz⟩ := hpre
  have hw' := DataW.Whole.of_heap (w' := w.forCall tape i) (by rfl) hw
  refine (contract (w.forCall tape i) w.heap.size i.args ds gs before hval hw' (hX _ _ _ (by rfl) hx) hsh).mono fun e W' ⟨v, he, hp⟩ => ?_
  subst he
  exact ChangeSpec.post_blind hp
end
set_option maxRecDepth 100000 in
theorem lifted (os : Os) (started : os.Started) (H : Type) (enc : TypeId × Value → H) :
    ReturnsInHanded {} Tryd.checked os 4 .any (fun w args => (Rows.fnInsTextSpec.pre enc Tryd.prog Tryd.f4 [] false w args ∧ laidMetH Tryd.prog laidL w) ∧ sizedMet enc Tryd.prog Tryd.f4 (OpenSpec.ofChange Rows.fnInsTextSpec) false w args) (Rows.fnInsTextSpec.post enc Tryd.prog Tryd.f4 false true false false) := by
  refine returns_and_shaped (C := Tryd.checked) (X := fun w _ => laidMetH Tryd.prog laidL w) (fun _ _ _ hh h => h.of_heap hh) own_ started (by kernel_rfl) Tryd.func4
    (ChangeSpec.witness_shaped (enc := enc) (C := Tryd.checked) (os := os) (X := fun w _ => laidMetH Tryd.prog laidL w) false (World.laidAll Tryd.prog os laidL) #[.slice none 0 0] 8 (World.laidAll_os _ _ _)
      (World.shaped_of_ZipB (by kernel_rfl) (by kernel_rfl)) (by kernel_rfl) (by kernel_rfl) (by kernel_rfl)
      (by rw [MakeChecks.laidMetH_plain _ _ _ (by kernel_rfl)]; exact laidMet_laidAll _ (by kernel_rfl) (by kernel_rfl))) ?_
  intro W base args ds gs before hval0 hW hL hsh
  have hval : ∀ (j : Nat) t v, Tryd.f4.params[j]? = some t → args[j]? = some v → Value.okWide Tryd.prog W .any base t v := hval0
  have hW' := hW
  obtain ⟨p, q, hA0, hV, rfl, hfz, hnd⟩ := hW
  have hA : DataW.TrodAll enc Tryd.prog W 0 (fun _ => true) true Tryd.f4.params.toList args.toList ds p := hA0
  rw [Tryd.params4] at hA hval
  obtain ⟨v0, vs0, d0, ds0, p0, q0, hargs, rfl, rfl, h0, q_0⟩ := trodAll_cons hA
  obtain ⟨rfl, rfl, rfl⟩ := trodAll_nil q_0
  obtain rfl : args = #[v0] := by cases args; simp_all
  obtain ⟨rfl, rfl⟩ := trodVars_none hV
  have k0_ := h0
  have lt0 : ∀ x ∈ p0, x.block < W.heap.size := by obtain ⟨m, hm⟩ := k0_; exact DataW.trod_lt m _ _ _ hm
  obtain ⟨x0, R0, r0, b0, hok0⟩ := arg_sliceT Tryd.underlying28 op28 (hval 0 28 v0 rfl rfl) h0
  refine (calls_FnInsText x0 hok0 (args_cons r0 args_nil) (both b0 nob) (tab_on hL hsh)).mono fun e W' ⟨he, bel⟩ => ?_
  subst he
  exact ⟨_, rfl, _, _, _, [], _, [], hW', trodAll_mk1 (shut_bool Tryd.underlying4 _), (trodAll_cons_mk (Below.trod laidOut (by kernel_rfl) (of_decide_eq_true (by kernel_rfl)) k0_ bel lt0) trodAll_mk0), rfl, bel.frame _, fun h => by cases h⟩
theorem band {a b : Bool} (ha : a = true) (hb : b = true) : (a && b) = true := by rw [ha, hb]; rfl
set_option maxHeartbeats 4000000 in
theorem closed_ : joinedFacts Tryd.checked.prog 4 Tryd.f4 Rows.fnInsTextSpec Rows.fnInsTextRow = true := by
  unfold joinedFacts
  repeat' with_reducible apply band
  all_goals first
    | with_reducible exact bigEnter
    | (rw [bigFinal]; as_aux_lemma => kernel_rfl)
    | (rw [bigMake]; as_aux_lemma => kernel_rfl)
    | (as_aux_lemma => kernel_rfl)
theorem named_ : Tryd.pinned.checked.prog.funcNamed Rows.fnInsTextRow.func = some 4 := by kernel_rfl
theorem inst_ : Tryd.f4.isInstance Tryd.pinned.checked.prog Rows.fnInsTextRow.origin Rows.fnInsTextRow.targs := of_decide_eq_true (by kernel_rfl)
theorem wrap_ : Tryd.f4.isWrapper Tryd.pinned.checked.prog Rows.fnInsTextRow.wrapper Rows.fnInsTextRow.mainSum := by unfold Func.isWrapper; first | (rw [if_pos (by decide +kernel)]; kernel_rfl) | (rw [if_neg (by decide +kernel)]; exact ⟨rfl, rfl⟩)
theorem over : Rows.fnInsTextRow.holds Tryd.pinned (OpenSpec.ofChange Rows.fnInsTextSpec) :=
  OpenClaim.holds_of_wide 4 Tryd.f4 rfl rfl rfl rfl rfl rfl rfl ⟨rfl, rfl, rfl, rfl, rfl⟩ rfl rfl rfl rfl rfl named_ Tryd.func4 closed_ inst_ wrap_
    (fun os started H enc _ => lifted os started H enc)
theorem proved : Rows.FnInsTextSaid := over
theorem card_holds : Rows.FnInsTextCardSaid :=
  Claim7.holds_tied_plain_at .later [] [.data, .data, .data, .data, .sentinel, .sentinel, .pinned] true (true, "317453a0d8ebc91f648de5c5839e5c4b72d7ff6575b6894858bb47c128038128") true
    over (fun _ h => by cases h) (by kernel_rfl) (fun _ h => by cases h) YtemghdnofgjnmaaDoor.fnInsText_row_tie rfl ⟨rfl, rfl⟩ (by kernel_rfl) rfl
    (fun f fn hf hfn => by
      obtain rfl : f = 4 := (Option.some.inj (named_.symm.trans hf)).symm
      obtain rfl : fn = Tryd.f4 := (Option.some.inj (Tryd.func4.symm.trans hfn)).symm
      exact ⟨by kernel_rfl, fun j t ht => by
        rw [Tryd.params4] at ht
        have hm : t ∈ Tryd.f4.params.toList := by rw [Tryd.params4]; simpa using Array.mem_of_getElem? ht
        have hall : (Tryd.f4.params.toList.all fun u => !Tryd.prog.wantsStandIn u) = true := by kernel_rfl
        exact (show Tryd.prog.wantsStandIn t = false by simpa using List.all_eq_true.1 hall t hm)⟩)
    (by kernel_rfl)
#print axioms card_holds
end Go.Proofs.YtemghdnofgjnmaaDoor.fnInsText
namespace Go.Proofs.YtemghdnofgjnmaaDoor
/-- The card, under a short name, for the claim. -/
theorem fnInsText_holds : Rows.FnInsTextCardSaid := fnInsText.card_holds
end Go.Proofs.YtemghdnofgjnmaaDoor
