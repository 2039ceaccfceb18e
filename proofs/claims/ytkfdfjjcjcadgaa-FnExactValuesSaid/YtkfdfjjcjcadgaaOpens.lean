/- What it is to read a value as data, kind by kind: from the row's own reading (trod) into the kinds that the printed contracts speak of. -/
import Derived.Deep.Slices
import Derived.ChangeArms
import Derived.WideShapes
import Derived.Test.YtkfdfjjcjcadgaaWWords
namespace Go.Proofs.Ytkfdfjjcjcadgaa.Opens
open Go.ChangeShapes Go.WideShapes Go.Deep Go.Proofs.YtkfdfjjcjcadgaaW.PrintWords

/-- A value of type t, read as data, is of kind d, and meets ok. -/
structure Opens {α : Type} (P : Program) (t : TypeId) (d : Kd α) (ok : α → Prop) : Prop where
  op : ∀ {H : Type} {enc : TypeId × Value → H} {w : World} {sp : Nat → Bool} {hd : Bool} {fuel : Nat} {cs : List Value} {x : DataW H × List MemPlace},
    DataW.trod enc P w 0 sp hd fuel t cs = some x → ∃ a, d.K w a cs ∧ ok a

/-- The fields from place i on, at the cells from off on. -/
structure OpF {α : Type} (P : Program) (fs : Array Field) (i off : Nat) (d : Kd α) (ok : α → Prop) : Prop where
  op : ∀ {H : Type} {enc : TypeId × Value → H} {w : World} {sp : Nat → Bool} {hd : Bool} {n : Nat} {cs : List Value} {xs : List (DataW H × List MemPlace)},
    cs.length = off + d.sz → xs.length = fs.size →
    (∀ (j : Nat) (f : Field), fs[j]? = some f → DataW.trod enc P w 0 sp hd n f.type ((cs.drop f.offset).take (P.cellsOf f.type)) = xs[j]?) →
    ∃ a, d.K w a (cs.drop off) ∧ ok a

theorem opens_int {P : Program} {t : TypeId} (k : IntKind) (ht : P.underlying t = some (.int k)) : Opens P t (Kd.int k) (fun n => (Lit.int k n).wf = true) := ⟨fun h => by
  obtain ⟨n, rfl, _, hw⟩ := DataW.trod_int ht h
  exact ⟨n, rfl, hw⟩⟩
theorem i64_of_wf {n : Int} (h : (Lit.int .i64 n).wf = true) : -9223372036854775808 ≤ n ∧ n ≤ 9223372036854775807 := by
  simp only [Lit.wf, Bool.and_eq_true, decide_eq_true_eq] at h
  exact h
theorem opens_i64 {P : Program} {t : TypeId} (ht : P.underlying t = some (.int .i64)) : Opens P t (Kd.int .i64) (fun n => -9223372036854775808 ≤ n ∧ n ≤ 9223372036854775807) := ⟨fun h => by
  obtain ⟨n, rfl, _, hw⟩ := DataW.trod_int ht h
  exact ⟨n, rfl, i64_of_wf hw⟩⟩
theorem opens_bool {P : Program} {t : TypeId} (ht : P.underlying t = some .bool) : Opens P t Kd.bool (fun _ => True) := ⟨fun h => by
  obtain ⟨n, rfl, _⟩ := DataW.trod_bool ht h
  exact ⟨n, rfl, trivial⟩⟩

theorem opens_last {α : Type} {P : Program} {fs : Array Field} {i off : Nat} {f : Field} {d : Kd α} {ok : α → Prop} (hf : fs[i]? = some f) (ho : f.offset = off) (hc : P.cellsOf f.type = d.sz) (h : Opens P f.type d ok) : OpF P fs i off d ok := ⟨fun hl hx ht => by
  have h1 := ht i f hf
  have hi : i < fs.size := (Array.getElem?_eq_some_iff.1 hf).1
  rw [List.getElem?_eq_getElem (by omega), ho, hc, List.take_of_length_le (by rw [List.length_drop]; omega)] at h1
  exact h.op h1⟩
theorem opens_cons {α β : Type} {P : Program} {fs : Array Field} {i off : Nat} {f : Field} {d : Kd α} {ok : α → Prop} {e : Kd β} {ok' : β → Prop} (hf : fs[i]? = some f) (ho : f.offset = off) (hc : P.cellsOf f.type = d.sz) (h : Opens P f.type d ok)
    (h' : OpF P fs (i + 1) (off + d.sz) e ok') : OpF P fs i off (Kd.pair d e) (fun x => ok x.1 ∧ ok' x.2) := ⟨fun {H enc w sp hd n cs xs} hl hx ht => by
  have h1 := ht i f hf
  have hi : i < fs.size := (Array.getElem?_eq_some_iff.1 hf).1
  rw [List.getElem?_eq_getElem (by omega), ho, hc] at h1
  obtain ⟨a, ha, hok⟩ := h.op h1
  have hl' : cs.length = off + d.sz + e.sz := by rw [hl]; show off + (d.sz + e.sz) = _; omega
  obtain ⟨b, hb, hok'⟩ := h'.op hl' hx ht
  refine ⟨(a, b), ⟨(cs.drop off).take d.sz, cs.drop (off + d.sz), ?_, ha, hb⟩, hok, hok'⟩
  rw [← List.drop_drop, List.take_append_drop]⟩
theorem opens_struct {α β : Type} {P : Program} {t : TypeId} {fs : Array Field} (ht : P.underlying t = some (.struct fs)) {d : Kd α} {ok : α → Prop} (hc : P.cellsOf t = d.sz) (f : β → α) (g : α → β) (hg : ∀ a, f (g a) = a)
    (h : OpF P fs 0 0 d ok) : Opens P t (Kd.iso d f) (fun x => ok (f x)) := ⟨fun {H enc w sp hd fuel cs x} hx => by
  obtain ⟨xs, n, _, _, hl, hxs, hf⟩ := DataW.trod_struct ht hx
  obtain ⟨a, ha, hok⟩ := h.op (by rw [hl, hc]; omega) hxs hf
  refine ⟨g a, ?_, by rw [hg]; exact hok⟩
  show d.K w (f (g a)) cs
  rw [hg]
  exact ha⟩
theorem opens_pairs {α : Type} {P : Program} {t : TypeId} {fs : Array Field} (ht : P.underlying t = some (.struct fs)) {d : Kd α} {ok : α → Prop} (hc : P.cellsOf t = d.sz)
    (h : OpF P fs 0 0 d ok) : Opens P t d ok := ⟨fun {H enc w sp hd fuel cs x} hx => by
  obtain ⟨xs, n, _, _, hl, hxs, hf⟩ := DataW.trod_struct ht hx
  obtain ⟨a, ha, hok⟩ := h.op (by rw [hl, hc]; omega) hxs hf
  exact ⟨a, ha, hok⟩⟩
theorem opens_row {α : Type} {P : Program} {t e : TypeId} (ht : P.underlying t = some (.slice e)) {d : Kd α} {ok : α → Prop} (hc : P.cellsOf e = d.sz) (h : Opens P e d ok) (z : α) {H : Type} {enc : TypeId × Value → H} {w : World} {sp : Nat → Bool} {hd : Bool} {fuel : Nat} {cs : List Value} {x : DataW H × List MemPlace}
    (hx : DataW.trod enc P w 0 sp hd fuel t cs = some x) : ∃ (A : Option Addr) (c : Nat) (xs : List α), cs = [.slice A xs.length c] ∧ xs.length ≤ c ∧ c ≤ 9223372036854775807 ∧ d.C w A xs.length xs ∧ ∀ y ∈ xs, ok y := by
  rcases open_slice ht hx with ⟨rfl, _⟩ | ⟨a, len, cap, m, n, D, Pl, rfl, hb, hl, hm, hmm, rfl, hq⟩
  · exact ⟨none, 0, [], rfl, Nat.le_refl _, by omega, ⟨rfl, by simp, fun h => by simp at h⟩, fun y hy => by simp at hy⟩
  · unfold maxLen at hm
    have hlm : len ≤ m := by rw [hmm]; split <;> omega
    have hall : ∀ i, i < len → ∃ y cs', w.cells? 0 (a.add (i * P.cellsOf e)) (P.cellsOf e) = some cs' ∧ d.K w y cs' ∧ ok y := fun i hi => by
      obtain ⟨cs', h1, h2⟩ := hq i (by omega)
      obtain ⟨y, hy, hok⟩ := h.op h2
      exact ⟨y, cs', h1, hy, hok⟩
    haveI : Inhabited α := ⟨z⟩
    obtain ⟨f, hf⟩ := choose_lt hall
    refine ⟨some a, cap, (List.range len).map f, by simp, by simp; omega, by omega, ⟨rfl, by simp; omega, fun _ => ⟨a, rfl, fun j p hj => ?_⟩⟩, fun y hy => ?_⟩
    · rw [List.getElem?_map, Option.map_eq_some_iff] at hj
      obtain ⟨i, hi, rfl⟩ := hj
      obtain ⟨hj', rfl⟩ := List.getElem?_eq_some_iff.1 hi
      rw [List.length_range] at hj'
      rw [List.getElem_range]
      obtain ⟨cs', h1, hK, _⟩ := hf j hj'
      obtain ⟨_, h2, h3⟩ := World.cells?_some h1
      refine ⟨cs', d.K_len hK, hK, fun i u hu => ?_⟩
      have hi' : i < cs'.length := (List.getElem?_eq_some_iff.1 hu).1
      have := h3 i (by omega)
      rw [Go.Deep.add_add, hc] at this
      rw [this, hu]
    · obtain ⟨i, hi, rfl⟩ := List.mem_map.1 hy
      obtain ⟨cs', _, _, hok⟩ := hf i (List.mem_range.1 hi)
      exact hok
theorem opens_slice {α : Type} {P : Program} {t e : TypeId} (ht : P.underlying t = some (.slice e)) {d : Kd α} {ok : α → Prop} (hc : P.cellsOf e = d.sz) (h : Opens P e d ok) (z : α) : Opens P t (Kd.slice e d) (fun xs => ∀ y ∈ xs, ok y) := ⟨fun hx => by
  obtain ⟨A, c, xs, rfl, hl, _, hC, hok⟩ := opens_row ht hc h z hx
  exact ⟨xs, ⟨A, c, rfl, hl, hC⟩, hok⟩⟩
/-- An argument of a slice's type. -/
theorem arg_slice {α : Type} {P : Program} {t e : TypeId} (ht : P.underlying t = some (.slice e)) {d : Kd α} {ok : α → Prop} (hc : P.cellsOf e = d.sz) (h : Opens P e d ok) (z : α) {H : Type} {enc : TypeId × Value → H} {w : World} {sp : Nat → Bool} {hd : Bool} {v : Value} {dd : DataW H} {ps : List MemPlace} {r : Reach} {b0 : Nat}
    (hval : Value.okWide P w r b0 t v) (hx : DataW.Trod enc P w 0 sp hd t v dd ps) : ∃ (A : Option Addr) (c : Nat) (xs : List α), v = .slice A xs.length c ∧ xs.length ≤ c ∧ c ≤ 9223372036854775807 ∧ d.C w A xs.length xs ∧ ∀ y ∈ xs, ok y := by
  obtain ⟨A, n, c, rfl⟩ := okWide_slice ht hval
  obtain ⟨fuel, hf⟩ := hx
  obtain ⟨A', c', xs, he, h1⟩ := opens_row ht hc h z hf
  have he' : [Value.slice A n c] = [.slice A' xs.length c'] := he
  injection he' with he'
  injection he' with e1 e2 e3
  subst e1; subst e2; subst e3
  exact ⟨_, _, xs, rfl, h1⟩
/-- An argument of a struct's type. -/
theorem arg_struct {α : Type} {P : Program} {t : TypeId} {fs : Array Field} (ht : P.underlying t = some (.struct fs)) {d : Kd α} {ok : α → Prop} (h : Opens P t d ok) {H : Type} {enc : TypeId × Value → H} {w : World} {sp : Nat → Bool} {hd : Bool} {v : Value} {dd : DataW H} {ps : List MemPlace} {r : Reach} {b0 : Nat}
    (hval : Value.okWide P w r b0 t v) (hx : DataW.Trod enc P w 0 sp hd t v dd ps) : ∃ (x : α) (cs : List Value), v = .agg cs.toArray ∧ d.K w x cs ∧ ok x := by
  obtain ⟨cs, rfl, _⟩ := okWide_struct ht hval
  obtain ⟨fuel, hf⟩ := hx
  obtain ⟨a, ha, hok⟩ := h.op hf
  exact ⟨a, cs.toList, by simp, ha, hok⟩
end Go.Proofs.Ytkfdfjjcjcadgaa.Opens
