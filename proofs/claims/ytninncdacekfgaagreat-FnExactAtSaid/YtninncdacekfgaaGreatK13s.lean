/- What is told by its number; cuts: reckoned. -/
import Derived.Test.YtninncdacekfgaaGreatK12s
set_option linter.unusedSimpArgs false
set_option linter.unusedVariables false
set_option maxRecDepth 100000
set_option maxHeartbeats 20000000
namespace Go.Proofs.YtninncdacekfgaaGreat.VM
open Go Go.Proofs
def lead (p : Nat → Bool) : Nat → Nat
 | 0 => 0
 | n + 1 => if lead p n = n ∧ p n = true then n + 1 else lead p n
def nthG (es : List Ev) (k p : Int) (n i : Nat) : Bool := !(isB (evAt es i) k p && decide (cntE (es.take i) k p = n))
def nthN (es : List Ev) (k p : Int) (n : Nat) : Nat := lead (nthG es k p n) es.length
def nthF (es : List Ev) (k p : Int) (n : Nat) : Int := if nthN es k p n = es.length then -1 else nthN es k p n
def cAt (c : List Int) (p : Nat) : Nat := ((c[p]?).getD 0).toNat
structure CutI (h : List (List Ev)) (c : List Int) : Prop where
 len : c.length = h.length
 inn : ∀ p, (hp : p < c.length) → ∃ m : Nat, c[p] = m ∧ m ≤ (rowH h p).length
theorem CutI.at_ {h : List (List Ev)} {c : List Int} (I : CutI h c) {p : Nat} (hp : p < c.length) : c[p] = cAt c p ∧ cAt c p ≤ (rowH h p).length := by
 obtain ⟨m, hm, hl⟩ := I.inn p hp
 unfold cAt
 rw [List.getElem?_eq_getElem hp, Option.getD_some, hm]
 simp
 exact hl
end Go.Proofs.YtninncdacekfgaaGreat.VM
namespace Go.Proofs.YtninncdacekfgaaGreat.VM
open Go Go.Proofs
end Go.Proofs.YtninncdacekfgaaGreat.VM
namespace Go.Proofs.YtninncdacekfgaaGreat.VM
open Go Go.Proofs
end Go.Proofs.YtninncdacekfgaaGreat.VM
