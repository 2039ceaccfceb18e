/- ProgOk, Next, Do of the specification: reckoned. -/
import Derived.Test.YtninncdacekfgaaGreatK3s
import Derived.Test.YtninncdacekfgaaGreatK2s
import Derived.Test.YtninncdacekfgaaGreatK4s
import Derived.Test.YtninncdacekfgaaGreatV3d
import Derived.Test.YtninncdacekfgaaGreatFxd
import Derived.Test.YtninncdacekfgaaGreatMkd
import Derived.Test.YtninncdacekfgaaGreatTabd
import Derived.Test.YtninncdacekfgaaGreatK0d
import Derived.Test.YtninncdacekfgaaGreatK2d
set_option linter.unusedSimpArgs false
set_option linter.unusedVariables false
set_option maxRecDepth 100000
set_option maxHeartbeats 40000000
namespace Go.Proofs.YtninncdacekfgaaGreat.VM
open Go Go.Proofs
end Go.Proofs.YtninncdacekfgaaGreat.VM
namespace Go.Proofs.YtninncdacekfgaaGreat.VM
open Go Go.Proofs
theorem run56 {j : Nat} (e : Ev) : M.run (j + 1) 161 [.agg (tEv e), .agg (tEv e)] = some ([.c (.v (.bool true))], [.agg (tEv e), .agg (tEv e)]) := by
 rw [m_run (fn := Tryz.f161) (i0 := 0) rfl Tryz.func161 rfl rfl (by simp [tEv])]
 simp -implicitDefEqProofs [tEv]
end Go.Proofs.YtninncdacekfgaaGreat.VM
namespace Go.Proofs.YtninncdacekfgaaGreat.VM
open Go Go.Proofs
def rr {α : Type} (e : TypeId) (tr : α → List T) (xs : List α) : T := .r e xs.length (xs.flatMap tr)
theorem fm_one {α : Type} (f : α → T) : ∀ xs : List α, (xs.flatMap fun x => [f x]) = xs.map f
 | [] => rfl
 | x :: xs => by rw [List.flatMap_cons, fm_one f xs]; rfl
theorem opT_rows {α : Type} {P : Program} {t e u : TypeId} (ht : P.underlying t = some (.slice e)) {tr : α → List T} {ok' : List α → Prop} (hpos : 0 < P.cellsOf e) (h : OpT P e (fun xs : List α => [rr u tr xs]) ok') : OpT P t (fun xss : List (List α) => [.r e xss.length (xss.map (rr u tr))]) (fun xss => (∀ y ∈ xss, ok' y) ∧ xss.length ≤ maxLen) := by
 have := opT_slice ht hpos h
 simp only [fm_one] at this
 exact this
def evOk (x : Ev) : Prop := i64 x.kind ∧ i64 x.peer ∧ i64 x.v
def itemOk (x : Itm) : Prop := True ∧ i64 x.v
theorem opEv : OpT Tryz.prog 173 tEv evOk := by
 refine opT_struct Tryz.underlying173 (sz := 1 + (1 + 1)) (by kernel_rfl) (fun x : Int × Int × Int => (⟨x.1, x.2.1, x.2.2⟩ : Ev)) tEv evOk ?_ ?_
  (opT_cons rfl rfl (by kernel_rfl) op3 (opT_cons rfl rfl (by kernel_rfl) op3 (opT_last rfl rfl (by kernel_rfl) op3)))
 ·exact fun _ => rfl
 ·exact fun _ h => h
theorem op4 : OpT Tryz.prog 4 (fun b : Bool => [.v (.bool b)]) (fun _ => True) := opT_bool Tryz.underlying4
theorem opItem : OpT Tryz.prog 171 tItem itemOk := by
 refine opT_struct Tryz.underlying171 (sz := 1 + 1) (by kernel_rfl) (fun x : Bool × Int => (⟨x.1, x.2⟩ : Itm)) tItem itemOk ?_ ?_
  (opT_cons rfl rfl (by kernel_rfl) op4 (opT_last rfl rfl (by kernel_rfl) op3))
 ·exact fun _ => rfl
 ·exact fun _ h => h
theorem op135 : OpT Tryz.prog 135 (fun xs : List Ev => [rr 173 tEv xs]) (fun xs => (∀ x ∈ xs, evOk x) ∧ xs.length ≤ maxLen) := opT_slice Tryz.underlying135 (by simp) opEv
theorem op133 : OpT Tryz.prog 133 (fun xs : List Itm => [rr 171 tItem xs]) (fun xs => (∀ x ∈ xs, itemOk x) ∧ xs.length ≤ maxLen) := opT_slice Tryz.underlying133 (by simp) opItem
theorem opInsR : OpT Tryz.prog 129 (fun xs : List Ins => [rr 169 tIns xs]) (fun xs => (∀ x ∈ xs, insOk x) ∧ xs.length ≤ maxLen) := op129
theorem op39 : OpT Tryz.prog 39 (fun xss : List (List Ins) => [.r 129 xss.length (xss.map (rr 169 tIns))]) (fun xss => (∀ y ∈ xss, (∀ x ∈ y, insOk x) ∧ y.length ≤ maxLen) ∧ xss.length ≤ maxLen) := opT_rows Tryz.underlying39 (by simp) opInsR
theorem op42 : OpT Tryz.prog 42 (fun xss : List (List Ev) => [.r 135 xss.length (xss.map (rr 173 tEv))]) (fun xss => (∀ y ∈ xss, (∀ x ∈ y, evOk x) ∧ y.length ≤ maxLen) ∧ xss.length ≤ maxLen) := opT_rows Tryz.underlying42 (by simp) op135
theorem op41 : OpT Tryz.prog 41 (fun xss : List (List Itm) => [.r 133 xss.length (xss.map (rr 171 tItem))]) (fun xss => (∀ y ∈ xss, (∀ x ∈ y, itemOk x) ∧ y.length ≤ maxLen) ∧ xss.length ≤ maxLen) := opT_rows Tryz.underlying41 (by simp) op133
theorem op40 : OpT Tryz.prog 40 (fun xs : List Sta => [rr 131 tSta xs]) (fun xs => (∀ x ∈ xs, staOk x) ∧ xs.length ≤ maxLen) := opT_slice Tryz.underlying40 (by simp) op131
def tSyL (s : Sy) : List T := [.r 129 s.progs.length (s.progs.map (rr 169 tIns)), rr 131 tSta s.states, .r 133 s.ways.length (s.ways.map (rr 171 tItem)), .r 135 s.hist.length (s.hist.map (rr 173 tEv))]
def syOk (s : Sy) : Prop := ((∀ y ∈ s.progs, (∀ x ∈ y, insOk x) ∧ y.length ≤ maxLen) ∧ s.progs.length ≤ maxLen) ∧ ((∀ x ∈ s.states, staOk x) ∧ s.states.length ≤ maxLen) ∧ ((∀ y ∈ s.ways, (∀ x ∈ y, itemOk x) ∧ y.length ≤ maxLen) ∧ s.ways.length ≤ maxLen) ∧ ((∀ y ∈ s.hist, (∀ x ∈ y, evOk x) ∧ y.length ≤ maxLen) ∧ s.hist.length ≤ maxLen)
theorem op44 : OpT Tryz.prog 44 tSyL syOk := by
 refine opT_struct Tryz.underlying44 (sz := 1 + (1 + (1 + 1))) (by kernel_rfl) (fun x : List (List Ins) × List Sta × List (List Itm) × List (List Ev) => (⟨x.1, x.2.1, x.2.2.1, x.2.2.2⟩ : Sy)) tSyL syOk ?_ ?_
  (opT_cons rfl rfl (by kernel_rfl) op39 (opT_cons rfl rfl (by kernel_rfl) op40 (opT_cons rfl rfl (by kernel_rfl) op41 (opT_last rfl rfl (by kernel_rfl) op42))))
 ·exact fun _ => rfl
 ·exact fun _ h => h
end Go.Proofs.YtninncdacekfgaaGreat.VM
namespace Go.Proofs.YtninncdacekfgaaGreat.VM
open Go Go.Proofs
end Go.Proofs.YtninncdacekfgaaGreat.VM
namespace Go.Proofs.YtninncdacekfgaaGreat.VM
open Go Go.Proofs
end Go.Proofs.YtninncdacekfgaaGreat.VM
