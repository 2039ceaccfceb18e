/- Cuts: the plain law. -/
import Derived.Test.YtninncdacekfgaaGreatK29s
import Derived.Test.YtninncdacekfgaaGreatK14s
import Derived.Test.YtninncdacekfgaaGreatV3d
import Derived.Test.YtninncdacekfgaaGreatFxd
import Derived.Test.YtninncdacekfgaaGreatMkd
import Derived.Test.YtninncdacekfgaaGreatTabd
import Derived.Test.YtninncdacekfgaaGreatK0d
import Derived.Test.YtninncdacekfgaaGreatK2d
import Derived.Test.YtninncdacekfgaaGreatK4d
import Derived.Test.YtninncdacekfgaaGreatK5d
import Derived.Test.YtninncdacekfgaaGreatK6d
import Derived.Test.YtninncdacekfgaaGreatK7d
import Derived.Test.YtninncdacekfgaaGreatK13d
import Derived.Test.YtninncdacekfgaaGreatK16d
import Derived.Test.YtninncdacekfgaaGreatK17d
import Derived.Test.YtninncdacekfgaaGreatK18d
import Derived.Test.YtninncdacekfgaaGreatK19d
import Derived.Test.YtninncdacekfgaaGreatK20d
import Derived.Test.YtninncdacekfgaaGreatK21d
import Derived.Test.YtninncdacekfgaaGreatK23d
import Derived.Test.YtninncdacekfgaaGreatK24d
import Derived.Test.YtninncdacekfgaaGreatK25d
import Derived.Test.YtninncdacekfgaaGreatK29d
set_option linter.unusedSimpArgs false
set_option linter.unusedVariables false
namespace Go.Proofs.YtninncdacekfgaaGreat.VM
open Go Go.Proofs
theorem lackF_iff {h : List (List Ev)} {c : List Int} {a b : Nat} (hl : cAt c b ≤ (rowH h b).length) : lackF h c a b < 0 ↔ cntE ((rowH h b).take (cAt c b)) 3 a ≤ cntE ((rowH h a).take (cAt c a)) 2 b := by
 unfold lackF
 rw [nth_cut hl]
 constructor
 ·intro hlt
  split at hlt
  ·assumption
  ·rename_i hc
   have h1 := nth_lt hl (k := 3) (p := a) (n := cntE ((rowH h a).take (cAt c a)) 2 b) (by omega)
   rw [nthF_of (by omega)] at hlt
   omega
 ·intro hc
  rw [if_pos hc]
  omega
theorem whole_iff {h : List (List Ev)} {c : List Int} (I : CutI h c) : wholeB h c = true ↔ ∀ a, a < h.length → ∀ b, b < h.length → cntE ((rowH h b).take (cAt c b)) 3 a ≤ cntE ((rowH h a).take (cAt c a)) 2 b := by
 unfold wholeB
 rw [I.len]
 constructor
 ·intro w a ha b hb
  have h1 := of_decide_eq_true (allTo_of (allTo_of w a ha) b hb)
  exact (lackF_iff (I.at_ (by rw [I.len]; exact hb)).2).1 h1
 ·intro w
  exact allTo_to fun a ha => allTo_to fun b hb => decide_eq_true ((lackF_iff (I.at_ (by rw [I.len]; exact hb)).2).2 (w a ha b hb))
end Go.Proofs.YtninncdacekfgaaGreat.VM
