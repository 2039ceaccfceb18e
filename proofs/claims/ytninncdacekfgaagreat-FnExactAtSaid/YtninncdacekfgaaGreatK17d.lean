/- States and ways: plain laws; what comes: reckoned. -/
import Derived.Test.YtninncdacekfgaaGreatK13s
import Derived.Test.YtninncdacekfgaaGreatK17s
import Derived.Test.YtninncdacekfgaaGreatV3d
import Derived.Test.YtninncdacekfgaaGreatFxd
import Derived.Test.YtninncdacekfgaaGreatMkd
import Derived.Test.YtninncdacekfgaaGreatTabd
import Derived.Test.YtninncdacekfgaaGreatK0d
import Derived.Test.YtninncdacekfgaaGreatK2d
import Derived.Test.YtninncdacekfgaaGreatK4d
import Derived.Test.YtninncdacekfgaaGreatK5d
import Derived.Test.YtninncdacekfgaaGreatK6d
import Derived.Test.YtninncdacekfgaaGreatK7d
import Derived.Test.YtninncdacekfgaaGreatK13d
import Derived.Test.YtninncdacekfgaaGreatK16d
set_option linter.unusedSimpArgs false
set_option linter.unusedVariables false
set_option maxHeartbeats 40000000
set_option maxRecDepth 100000
namespace Go.Proofs.YtninncdacekfgaaGreat.VM
open Go Go.Proofs
theorem reach_cut {h h' : List (List Ev)} {c : Nat → Nat} (hl : h'.length = h.length) (hx : ∀ q, rowH h' q = (rowH h q).take (c q)) (hc : ∀ q, c q ≤ (rowH h q).length)
  (hw : ∀ p, p < h.length → ∀ i, i < c p → (evAt (rowH h p) i).kind = 3 → ∃ q : Nat, (evAt (rowH h p) i).peer = q ∧ cntE ((rowH h p).take (c p)) 3 q ≤ cntE ((rowH h q).take (c q)) 2 p) :
  ∀ {d : Nat → Nat}, Reach h d → Reach h' (fun q => min (d q) (c q)) := by
 intro d hd
 induction hd with
 | zero =>
  have : (fun q => min 0 (c q)) = (fun _ => 0) := by funext q; exact Nat.zero_min _
  rw [this]
  exact .zero
 | @step d p hr hp he ih =>
  have hlt := enB_lt hr he
  have hle := reach_len hr
  by_cases hcp : d p < c p
  ·have e : (fun q => min (bump d p q) (c q)) = bump (fun q => min (d q) (c q)) p := by
    funext q
    simp only [bump]
    split
    ·rename_i hq
     subst hq
     omega
    ·rfl
   rw [e]
   refine .step ih (by omega) ?_
   have hm : min (d p) (c p) = d p := by omega
   have ev : evAt (rowH h' p) (d p) = evAt (rowH h p) (d p) := by
    unfold evAt
    rw [hx, List.getElem?_take, if_pos hcp]
   have hlt' : min (d p) (c p) < (rowH h' p).length := by
    rw [hx, List.length_take]
    omega
   rw [enB_iff hlt']
   rw [enB_iff hlt] at he
   simp only [hm, ev]
   intro hk
   have he := he hk
   obtain ⟨q, hq, hwq⟩ := hw p hp (d p) hcp hk
   rw [hq] at he ⊢
   rw [Int.toNat_natCast] at he ⊢
   rw [hx, hx, List.take_take, List.take_take, Nat.min_eq_left (Nat.le_of_lt hcp), Nat.min_assoc, Nat.min_self]
   rcases Nat.le_total (d q) (c q) with hdq | hdq
   ·rw [Nat.min_eq_left hdq]
    exact he
   ·rw [Nat.min_eq_right hdq]
    have h1 := cntE_succ hlt 3 q
    have h2 := evAt_of hlt
    rw [h2] at hk hq
    rw [show isB (rowH h p)[d p] 3 q = true by unfold isB; simp [hk, hq], if_pos rfl] at h1
    have h3 := cntE_mono (es := rowH h p) (k := 3) (p := (q : Int)) (a := d p + 1) (b := c p) hcp
    omega
  ·have e : (fun q => min (bump d p q) (c q)) = fun q => min (d q) (c q) := by
    funext q
    simp only [bump]
    split
    ·rename_i hq
     subst hq
     omega
    ·rfl
   rw [e]
   exact ih
end Go.Proofs.YtninncdacekfgaaGreat.VM
namespace Go.Proofs.YtninncdacekfgaaGreat.VM
open Go Go.Proofs
end Go.Proofs.YtninncdacekfgaaGreat.VM
namespace Go.Proofs.YtninncdacekfgaaGreat.VM
open Go Go.Proofs
end Go.Proofs.YtninncdacekfgaaGreat.VM
