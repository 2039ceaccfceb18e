/- Arguments of the laws: systems. -/
import Derived.Test.YtbdidcfjaohglaaOp
import Derived.Test.YtbdidcfjaohglaaFn9
namespace Go.Proofs.Ytbdidcfjaohglaa.VM
open Go Go.Proofs
set_option linter.unusedSimpArgs false
set_option linter.unusedVariables false
set_option maxRecDepth 100000
structure Itm where
  mark : Bool
  v : Int
def tItem (x : Itm) : List T := [.v (.bool x.mark), .v (.int .i64 x.v)]
structure Sy where
  progs : List (List Ins)
  states : List Sta
  ways : List (List Itm)
  hist : List (List Ev)
/-- Rows of rows, read only. -/
def rr {α : Type} (e : TypeId) (tr : α → List T) (xs : List α) : T := .r e xs.length (xs.flatMap tr)
def rs {α : Type} (e : TypeId) (tr : α → List T) (xs : List α) : T := .s e xs.length (xs.flatMap tr)
theorem fm_one {α : Type} (f : α → T) : ∀ xs : List α, (xs.flatMap fun x => [f x]) = xs.map f
  | [] => rfl
  | x :: xs => by rw [List.flatMap_cons, fm_one f xs]; rfl
theorem opT_rows {α : Type} {P : Program} {t e u : TypeId} (ht : P.underlying t = some (.slice e)) {tr : α → List T} {ok' : List α → Prop} (hpos : 0 < P.cellsOf e) (h : OpT P e (fun xs : List α => [rr u tr xs]) ok') : OpT P t (fun xss : List (List α) => [.r e xss.length (xss.map (rr u tr))]) (fun xss => (∀ y ∈ xss, ok' y) ∧ xss.length ≤ maxLen) := by
  have := opT_slice ht hpos h
  simp only [fm_one] at this
  exact this
def evOk (x : Ev) : Prop := i64 x.kind ∧ i64 x.peer ∧ i64 x.v
def itemOk (x : Itm) : Prop := True ∧ i64 x.v
theorem opEv : OpT Try.prog 52 tEv evOk := by
  refine opT_struct Try.underlying52 (sz := 1 + (1 + 1)) (by kernel_rfl) (fun x : Int × Int × Int => (⟨x.1, x.2.1, x.2.2⟩ : Ev)) tEv evOk ?_ ?_
    (opT_cons rfl rfl (by kernel_rfl) op3 (opT_cons rfl rfl (by kernel_rfl) op3 (opT_last rfl rfl (by kernel_rfl) op3)))
  · exact fun _ => rfl
  · exact fun _ h => h
theorem op4 : OpT Try.prog 4 (fun b : Bool => [.v (.bool b)]) (fun _ => True) := opT_bool Try.underlying4
theorem opItem : OpT Try.prog 146 tItem itemOk := by
  refine opT_struct Try.underlying146 (sz := 1 + 1) (by kernel_rfl) (fun x : Bool × Int => (⟨x.1, x.2⟩ : Itm)) tItem itemOk ?_ ?_
    (opT_cons rfl rfl (by kernel_rfl) op4 (opT_last rfl rfl (by kernel_rfl) op3))
  · exact fun _ => rfl
  · exact fun _ h => h
theorem op52 : OpT Try.prog 52 tEv evOk := opEv
theorem op74 : OpT Try.prog 74 (fun xs : List Ev => [rr 52 tEv xs]) (fun xs => (∀ x ∈ xs, evOk x) ∧ xs.length ≤ maxLen) := opT_slice Try.underlying74 (by simp) opEv
theorem op130 : OpT Try.prog 130 (fun xs : List Itm => [rr 146 tItem xs]) (fun xs => (∀ x ∈ xs, itemOk x) ∧ xs.length ≤ maxLen) := opT_slice Try.underlying130 (by simp) opItem
theorem opInsR : OpT Try.prog 48 (fun xs : List Ins => [rr 112 tIns xs]) (fun xs => (∀ x ∈ xs, insOk x) ∧ xs.length ≤ maxLen) := op48
theorem op22 : OpT Try.prog 22 (fun xss : List (List Ins) => [.r 48 xss.length (xss.map (rr 112 tIns))]) (fun xss => (∀ y ∈ xss, (∀ x ∈ y, insOk x) ∧ y.length ≤ maxLen) ∧ xss.length ≤ maxLen) := opT_rows Try.underlying22 (by simp) opInsR
theorem op25 : OpT Try.prog 25 (fun xss : List (List Ev) => [.r 74 xss.length (xss.map (rr 52 tEv))]) (fun xss => (∀ y ∈ xss, (∀ x ∈ y, evOk x) ∧ y.length ≤ maxLen) ∧ xss.length ≤ maxLen) := opT_rows Try.underlying25 (by simp) op74
theorem op24 : OpT Try.prog 24 (fun xss : List (List Itm) => [.r 130 xss.length (xss.map (rr 146 tItem))]) (fun xss => (∀ y ∈ xss, (∀ x ∈ y, itemOk x) ∧ y.length ≤ maxLen) ∧ xss.length ≤ maxLen) := opT_rows Try.underlying24 (by simp) op130
theorem op23 : OpT Try.prog 23 (fun xs : List Sta => [rr 50 tSta xs]) (fun xs => (∀ x ∈ xs, staOk x) ∧ xs.length ≤ maxLen) := opT_slice Try.underlying23 (by simp) op50
/-- A system, as the laws have it. -/
def tSyL (s : Sy) : List T := [.r 48 s.progs.length (s.progs.map (rr 112 tIns)), rr 50 tSta s.states, .r 130 s.ways.length (s.ways.map (rr 146 tItem)), .r 74 s.hist.length (s.hist.map (rr 52 tEv))]
def syOk (s : Sy) : Prop := ((∀ y ∈ s.progs, (∀ x ∈ y, insOk x) ∧ y.length ≤ maxLen) ∧ s.progs.length ≤ maxLen) ∧ ((∀ x ∈ s.states, staOk x) ∧ s.states.length ≤ maxLen) ∧ ((∀ y ∈ s.ways, (∀ x ∈ y, itemOk x) ∧ y.length ≤ maxLen) ∧ s.ways.length ≤ maxLen) ∧ ((∀ y ∈ s.hist, (∀ x ∈ y, evOk x) ∧ y.length ≤ maxLen) ∧ s.hist.length ≤ maxLen)
theorem op27 : OpT Try.prog 27 tSyL syOk := by
  refine opT_struct Try.underlying27 (sz := 1 + (1 + (1 + 1))) (by kernel_rfl) (fun x : List (List Ins) × List Sta × List (List Itm) × List (List Ev) => (⟨x.1, x.2.1, x.2.2.1, x.2.2.2⟩ : Sy)) tSyL syOk ?_ ?_
    (opT_cons rfl rfl (by kernel_rfl) op22 (opT_cons rfl rfl (by kernel_rfl) op23 (opT_cons rfl rfl (by kernel_rfl) op24 (opT_last rfl rfl (by kernel_rfl) op25))))
  · exact fun _ => rfl
  · exact fun _ h => h
end Go.Proofs.Ytbdidcfjaohglaa.VM
