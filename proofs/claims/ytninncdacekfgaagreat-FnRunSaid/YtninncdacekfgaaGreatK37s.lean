/- Draws of systems with something beside them: reckoned. -/
import Derived.Test.YtninncdacekfgaaGreatK34s
import Derived.Test.YtninncdacekfgaaGreatK26s
set_option linter.unusedSimpArgs false
set_option linter.unusedVariables false
set_option maxRecDepth 100000
set_option maxHeartbeats 40000000
namespace Go.Proofs.YtninncdacekfgaaGreat.VM
open Go Go.Proofs
theorem takeS (S : Sy) : (∀ l : List (List Ins), (l.map (sIns 105)).take l.length = l.map (sIns 105)) ∧ (∀ l : List Sta, (ssT l).take (l.length * 4) = ssT l) ∧ (∀ l : List (List Itm), (l.map (sItem 99)).take l.length = l.map (sItem 99)) ∧ (∀ l : List (List Ev), (l.map (sEvent 96)).take l.length = l.map (sEvent 96)) :=
 ⟨fun l => List.take_of_length_le (by simp), fun l => List.take_of_length_le (by rw [ssT_len]; exact Nat.le_refl _), fun l => List.take_of_length_le (by simp), fun l => List.take_of_length_le (by simp)⟩
end Go.Proofs.YtninncdacekfgaaGreat.VM
