/- Calls that no literal comes ahead of. -/
import Derived.Test.YtemghdnofgjnmaaDoorV3
/- Where no literal comes ahead of a call that keeps its place. -/
namespace Go.Proofs.YtemghdnofgjnmaaDoor.VM
open Go Go.Proofs
set_option linter.unusedSimpArgs false
noncomputable def Env.leadX (E : Env) (ops : Array Oper) (σ : St) (o : Oper) (σ' : St) (q : Oper) : Bool := E.leadOk ops σ o σ' q
@[simp] theorem leadOk_if {E : Env} {ops : Array Oper} {σ σ' : St} {o q : Oper} : E.leadOk ops σ o σ' q = if isLit q = true then E.leadX ops σ o σ' q else true := by
 unfold Env.leadX
 split
 ·rfl
 ·rename_i h
  unfold Env.leadOk
  rw [Bool.not_eq_true] at h
  rw [h]
  rfl
end Go.Proofs.YtemghdnofgjnmaaDoor.VM
