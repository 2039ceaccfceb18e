/- Close, Full, Sender: reckoned. -/
import Derived.Test.YtninncdacekfgaaGreatK13s
set_option linter.unusedSimpArgs false
set_option linter.unusedVariables false
set_option maxRecDepth 100000
set_option maxHeartbeats 40000000
namespace Go.Proofs.YtninncdacekfgaaGreat.VM
open Go Go.Proofs
theorem CutI.small {h : List (List Ev)} {c : List Int} (I : CutI h c) : ∀ p, (hp : p < c.length) → c[p] = cAt c p := fun p hp => (I.at_ hp).1
end Go.Proofs.YtninncdacekfgaaGreat.VM
namespace Go.Proofs.YtninncdacekfgaaGreat.VM
open Go Go.Proofs
end Go.Proofs.YtninncdacekfgaaGreat.VM
namespace Go.Proofs.YtninncdacekfgaaGreat.VM
open Go Go.Proofs
def lensI (h : List (List Ev)) : List Int := h.map fun x => (x.length : Int)
@[simp] theorem lensI_len (h : List (List Ev)) : (lensI h).length = h.length := by simp [lensI]
def senderF (h : List (List Ev)) (p i : Nat) : Int := if (evAt (rowH h p) i).kind = 3 then nthF (rowH h (evAt (rowH h p) i).peer.toNat) 2 p (cntE ((rowH h p).take i) 3 (evAt (rowH h p) i).peer) else -1
end Go.Proofs.YtninncdacekfgaaGreat.VM
