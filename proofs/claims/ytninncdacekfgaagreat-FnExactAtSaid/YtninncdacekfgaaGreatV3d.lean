/- The machine on trees: calls, regions that draw their order, laws, reckoning. -/
import Derived.Test.YtninncdacekfgaaGreatV2s
import Derived.Deep.RegionHeld3
import Derived.Deep.Slices
import Derived.ChangeArms
import Derived.WideShapes
import Derived.Below
import Derived.Test.YtninncdacekfgaaGreatV3s
set_option linter.unusedVariables false
set_option linter.unusedSimpArgs false
set_option linter.constructorNameAsVariable false
namespace Go.Proofs.YtninncdacekfgaaGreat.VM
open Go Go.Proofs.YtninncdacekfgaaGreatW.PrintWords
variable {P : Program} {w w1 w2 w0 W W' : World} {mine : Ctx} {o o1 o2 : OM} {loc loc1 loc2 loc' : Nat → Value} {O R O' R' : Nat → List Nat} {σ σ1 σ2 σ' : St} {a : Act} {c : Ctx}
variable {f g : Nat → List Nat → Bool}
end Go.Proofs.YtninncdacekfgaaGreat.VM
namespace Go.Proofs.YtninncdacekfgaaGreat.VM
open Go Go.Proofs.YtninncdacekfgaaGreatW.PrintWords
end Go.Proofs.YtninncdacekfgaaGreat.VM
namespace Go.Proofs.YtninncdacekfgaaGreat.VM
open Go Go.Proofs.YtninncdacekfgaaGreatW.PrintWords
variable {P : Program} {w w1 w2 w0 : World} {mine : Ctx} {o o1 o2 : OM} {loc loc1 loc2 : Nat → Value} {O R : Nat → List Nat} {σ σ1 σ2 τ : St} {a : Act} {E : Env}
end Go.Proofs.YtninncdacekfgaaGreat.VM
namespace Go.Proofs.YtninncdacekfgaaGreat.VM
open Go Go.Proofs.YtninncdacekfgaaGreatW.PrintWords
variable {P : Program} {w w1 w2 w0 : World} {mine : Ctx} {o o1 o2 : OM} {loc loc1 loc2 : Nat → Value} {O R : Nat → List Nat} {σ σ1 σ2 σ' τ : St} {a : Act} {E : Env}
end Go.Proofs.YtninncdacekfgaaGreat.VM
namespace Go.Proofs.YtninncdacekfgaaGreat.VM
open Go Go.Proofs.YtninncdacekfgaaGreatW.PrintWords
variable {P : Program} {w w1 w2 w0 : World} {mine : Ctx} {o o1 o2 : OM} {loc loc1 loc2 : Nat → Value} {O R : Nat → List Nat} {σ σ1 σ2 σ' τ : St} {a : Act} {E : Env}
end Go.Proofs.YtninncdacekfgaaGreat.VM
namespace Go.Proofs.YtninncdacekfgaaGreat.VM
open Go Go.Proofs.YtninncdacekfgaaGreatW.PrintWords
variable {P : Program} {w w1 w2 w0 : World} {mine : Ctx} {o o1 o2 : OM} {loc loc1 loc2 : Nat → Value} {O R : Nat → List Nat} {σ σ1 σ2 σ' τ : St} {a : Act} {E : Env}
end Go.Proofs.YtninncdacekfgaaGreat.VM
namespace Go.Proofs.YtninncdacekfgaaGreat.VM
open Go Go.Proofs.YtninncdacekfgaaGreatW.PrintWords
variable {P : Program} {w w1 w2 w0 : World} {mine : Ctx} {o o1 o2 : OM} {loc loc1 loc2 : Nat → Value} {O R : Nat → List Nat} {σ σ1 σ2 σ' τ : St} {a : Act} {E : Env} {ops : Array Oper}
end Go.Proofs.YtninncdacekfgaaGreat.VM
namespace Go.Proofs.YtninncdacekfgaaGreat.VM
open Go Go.Proofs.YtninncdacekfgaaGreatW.PrintWords Go.ChangeShapes Go.WideShapes Go.Deep Go.RowKit
theorem opT_int {P : Program} {t : TypeId} (ht : P.underlying t = some (.int .i64)) : OpT P t (fun n : Int => [.v (.int .i64 n)]) (fun n => -9223372036854775808 ≤ n ∧ n ≤ 9223372036854775807) := ⟨fun h => by
 obtain ⟨n, rfl, _, hw⟩ := DataW.trod_int ht h
 refine ⟨n, [], reps_v rfl, fun b hb => by simp at hb, ?_⟩
 simp only [Lit.wf, Bool.and_eq_true, decide_eq_true_eq] at hw
 exact hw⟩
theorem opT_bool {P : Program} {t : TypeId} (ht : P.underlying t = some .bool) : OpT P t (fun b : Bool => [.v (.bool b)]) (fun _ => True) := ⟨fun h => by
 obtain ⟨n, rfl, _⟩ := DataW.trod_bool ht h
 exact ⟨n, [], reps_v rfl, fun b hb => by simp at hb, trivial⟩⟩
theorem opT_last {α : Type} {P : Program} {fs : Array Field} {i off sz : Nat} {f : Field} {tr : α → List T} {ok : α → Prop} (hf : fs[i]? = some f) (ho : f.offset = off) (hc : P.cellsOf f.type = sz) (h : OpT P f.type tr ok) : OpTF P fs i off sz tr ok := ⟨fun hl hx ht => by
 have h1 := ht i f hf
 have hi : i < fs.size := (Array.getElem?_eq_some_iff.1 hf).1
 rw [List.getElem?_eq_getElem (by omega), ho, hc, List.take_of_length_le (by rw [List.length_drop]; omega)] at h1
 exact h.op h1⟩
theorem opT_cons {α β : Type} {P : Program} {fs : Array Field} {i off sz sz' : Nat} {f : Field} {tr : α → List T} {ok : α → Prop} {tr' : β → List T} {ok' : β → Prop} (hf : fs[i]? = some f) (ho : f.offset = off) (hc : P.cellsOf f.type = sz) (h : OpT P f.type tr ok)
  (h' : OpTF P fs (i + 1) (off + sz) sz' tr' ok') : OpTF P fs i off (sz + sz') (fun x : α × β => tr x.1 ++ tr' x.2) (fun x => ok x.1 ∧ ok' x.2) := ⟨fun {H enc w hd n cs xs} hl hx ht => by
 have h1 := ht i f hf
 have hi : i < fs.size := (Array.getElem?_eq_some_iff.1 hf).1
 rw [List.getElem?_eq_getElem (by omega), ho, hc] at h1
 obtain ⟨a, R, ha, hR, hok⟩ := h.op h1
 obtain ⟨b, R', hb, hR', hok'⟩ := h'.op (by omega) hx ht
 refine ⟨(a, b), R ++ R', ?_, fun x hx => (List.mem_append.1 hx).elim (hR x) (hR' x), hok, hok'⟩
 have e : cs.drop off = (cs.drop off).take sz ++ cs.drop (off + sz) := by rw [← List.drop_drop, List.take_append_drop]
 rw [e]
 exact RepTs_append ha hb⟩
theorem opT_struct {α β : Type} {P : Program} {t : TypeId} {fs : Array Field} (ht : P.underlying t = some (.struct fs)) {sz : Nat} {tr : α → List T} {ok : α → Prop} (hc : P.cellsOf t = sz) (g : α → β) (tr' : β → List T) (ok' : β → Prop) (htr : ∀ a, tr' (g a) = tr a) (hok : ∀ a, ok a → ok' (g a))
  (h : OpTF P fs 0 0 sz tr ok) : OpT P t tr' ok' := ⟨fun {H enc w hd fuel cs x} hx => by
 obtain ⟨xs, n, _, _, hl, hxs, hf⟩ := DataW.trod_struct ht hx
 obtain ⟨a, R, ha, hR, ho⟩ := h.op (by rw [hl, hc]; omega) hxs hf
 exact ⟨g a, R, by rw [htr]; exact ha, hR, hok a ho⟩⟩
theorem arg_structT {α : Type} {P : Program} {t : TypeId} {fs : Array Field} (ht : P.underlying t = some (.struct fs)) {tr : α → List T} {ok : α → Prop} (h : OpT P t tr ok) {H : Type} {enc : TypeId × Value → H} {w : World} {hd : Bool} {v : Value} {dd : DataW H} {ps : List MemPlace} {r : Reach} {b0 : Nat}
  (hval : Value.okWide P w r b0 t v) (hx : DataW.Trod enc P w 0 (fun _ => true) hd t v dd ps) : ∃ (x : α) (R : List Nat), RepA P w (.agg (tr x)) v [] R ∧ (∀ b ∈ R, b < w.heap.size) ∧ ok x := by
 obtain ⟨cs, rfl, _⟩ := okWide_struct ht hval
 obtain ⟨fuel, hf⟩ := hx
 obtain ⟨x, R, h1, h2, h3⟩ := h.op hf
 exact ⟨x, R, by rw [RepA]; exact ⟨cs.toList, by simp, h1⟩, h2, h3⟩
end Go.Proofs.YtninncdacekfgaaGreat.VM
namespace Go.Proofs.YtninncdacekfgaaGreat.VM
open Go
variable {E : Env} {σ : St} {P : Program} {k d : Nat} {h : Nat → List Nat × List Nat}
end Go.Proofs.YtninncdacekfgaaGreat.VM
