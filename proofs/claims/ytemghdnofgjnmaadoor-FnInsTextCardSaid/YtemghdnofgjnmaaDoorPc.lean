/- InsRead of the specification and of the program answer the same: the plain law. -/
import Derived.Test.YtemghdnofgjnmaaDoorPw
namespace Go.Proofs.YtemghdnofgjnmaaDoor.VM
open Go Go.Proofs
set_option linter.unusedSimpArgs false
set_option linter.unusedVariables false
set_option maxRecDepth 100000
set_option maxHeartbeats 4000000
theorem has_no {op p : Int} (h : hasB op p = false) {n : Int} (hr : regB n (hasB op p) = true) : n = 0 := by
  unfold regB at hr
  rw [h] at hr
  simpa using hr
/-- What the parts that an instruction has not are. -/
theorem insB_cases {y : Ins} (h : insB y 30 4 = true) : (y.op = 1 ∧ y.a = 0 ∧ y.b = 0) ∨ ((y.op = 2 ∨ y.op = 3 ∨ y.op = 4 ∨ y.op = 5) ∧ y.n = 0) ∨ (y.op = 6 ∧ y.r = 0 ∧ y.b = 0) ∨ (y.op = 7 ∧ y.a = 0 ∧ y.b = 0) ∨ (y.op = 8 ∧ y.r = 0 ∧ y.b = 0 ∧ y.n = 0) ∨ (y.op = 9 ∧ y.r = 0 ∧ y.a = 0 ∧ y.b = 0) ∨ (y.op = 10 ∧ y.r = 0 ∧ y.b = 0) ∨ (y.op = 11 ∧ y.r = 0 ∧ y.a = 0 ∧ y.b = 0 ∧ y.n = 0) := by
  obtain ⟨⟨g1, g2⟩, _⟩ := insB_le h
  unfold insB at h
  simp only [Bool.and_eq_true] at h
  obtain ⟨⟨⟨⟨⟨_, _⟩, h3⟩, h4⟩, h5⟩, h6⟩ := h
  obtain ⟨op, r, a, b, n⟩ := y
  simp only at *
  have hn : ∀ op, hasB op 78 = false → hasB op 80 = false → hasB op 84 = false → hasB op 76 = false → lastB op n 30 4 = true → n = 0 := fun op e1 e2 e3 e4 h => by
    unfold lastB at h
    rw [e1, e2, e3, e4] at h
    simpa using h
  have hop : op = 1 ∨ op = 2 ∨ op = 3 ∨ op = 4 ∨ op = 5 ∨ op = 6 ∨ op = 7 ∨ op = 8 ∨ op = 9 ∨ op = 10 ∨ op = 11 := by omega
  rcases hop with rfl | rfl | rfl | rfl | rfl | rfl | rfl | rfl | rfl | rfl | rfl
  · exact .inl ⟨rfl, has_no (by decide +kernel) h4, has_no (by decide +kernel) h5⟩
  · exact .inr (.inl ⟨by decide, hn _ (by decide +kernel) (by decide +kernel) (by decide +kernel) (by decide +kernel) h6⟩)
  · exact .inr (.inl ⟨by decide, hn _ (by decide +kernel) (by decide +kernel) (by decide +kernel) (by decide +kernel) h6⟩)
  · exact .inr (.inl ⟨by decide, hn _ (by decide +kernel) (by decide +kernel) (by decide +kernel) (by decide +kernel) h6⟩)
  · exact .inr (.inl ⟨by decide, hn _ (by decide +kernel) (by decide +kernel) (by decide +kernel) (by decide +kernel) h6⟩)
  · exact .inr (.inr (.inl ⟨rfl, has_no (by decide +kernel) h3, has_no (by decide +kernel) h5⟩))
  · exact .inr (.inr (.inr (.inl ⟨rfl, has_no (by decide +kernel) h4, has_no (by decide +kernel) h5⟩)))
  · exact .inr (.inr (.inr (.inr (.inl ⟨rfl, has_no (by decide +kernel) h3, has_no (by decide +kernel) h5, hn _ (by decide +kernel) (by decide +kernel) (by decide +kernel) (by decide +kernel) h6⟩))))
  · exact .inr (.inr (.inr (.inr (.inr (.inl ⟨rfl, has_no (by decide +kernel) h3, has_no (by decide +kernel) h4, has_no (by decide +kernel) h5⟩)))))
  · exact .inr (.inr (.inr (.inr (.inr (.inr (.inl ⟨rfl, has_no (by decide +kernel) h3, has_no (by decide +kernel) h5⟩))))))
  · exact .inr (.inr (.inr (.inr (.inr (.inr (.inr ⟨rfl, has_no (by decide +kernel) h3, has_no (by decide +kernel) h4, has_no (by decide +kernel) h5, hn _ (by decide +kernel) (by decide +kernel) (by decide +kernel) (by decide +kernel) h6⟩))))))
/-- The words of an instruction's text. -/
def wordsL (y : Ins) : List ByteArray := ((formL y.op).map (partL y)).map strL
theorem text_join (y : Ins) : textL y = joinL (nameL y.op) ((formL y.op).map (partL y)) := by
  unfold textL joinL
  rw [List.flatMap_map]
theorem name_sp {op : Int} (h : 1 ≤ op ∧ op ≤ 11) : (32 : UInt8) ∉ nameL op := by
  have hop : op = 1 ∨ op = 2 ∨ op = 3 ∨ op = 4 ∨ op = 5 ∨ op = 6 ∨ op = 7 ∨ op = 8 ∨ op = 9 ∨ op = 10 ∨ op = 11 := by omega
  rcases hop with rfl | rfl | rfl | rfl | rfl | rfl | rfl | rfl | rfl | rfl | rfl <;> decide +kernel
theorem part_sp (y : Ins) (p : UInt8) : (32 : UInt8) ∉ partL y p := by
  have hi : ∀ n, (32 : UInt8) ∉ Lib.itoa n := fun n h => absurd (itoa_byte n 32 h) (by decide)
  unfold partL
  repeat' split
  · exact hi _
  · exact hi _
  · exact hi _
  · decide
  · exact hi _
theorem text_words {y : Ins} (h : insB y 30 4 = true) : wS (textS y) = strL (nameL y.op) :: wordsL y ∧ wI (textS y) = strL (nameL y.op) :: wordsL y := by
  have g := (insB_le h).1
  have h2 : ∀ p ∈ (formL y.op).map (partL y), (32 : UInt8) ∉ p := fun p hp => by
    obtain ⟨q, _, rfl⟩ := List.mem_map.1 hp
    exact part_sp y q
  unfold textS
  rw [if_pos h, text_join]
  exact ⟨wS_join (name_sp g) h2, wI_join (name_sp g) h2⟩
theorem text_ne {y : Ins} (h : insB y 30 4 = true) : (textS y == strL []) = false := by
  cases hq : textS y == strL [] with
  | false => rfl
  | true =>
    have hq := ba_eq hq
    unfold textS at hq
    rw [if_pos h] at hq
    have hq := strL_inj hq
    unfold textL at hq
    have h1 := List.append_eq_nil_iff.1 hq
    have hop := (insB_le h).1
    generalize y.op = op at *
    have hop : op = 1 ∨ op = 2 ∨ op = 3 ∨ op = 4 ∨ op = 5 ∨ op = 6 ∨ op = 7 ∨ op = 8 ∨ op = 9 ∨ op = 10 ∨ op = 11 := by omega
    have h1 := h1.1
    rcases hop with rfl | rfl | rfl | rfl | rfl | rfl | rfl | rfl | rfl | rfl | rfl <;> exact absurd h1 (by decide +kernel)
theorem ba_ne (s : ByteArray) : (s != s) = false := by
  show (!(s == s)) = false
  rw [ba_refl]
  rfl
theorem out_text {y : Ins} (h : insB y 30 4 = true) : outI (textS y) y = (y, true) := if_neg (by rw [text_ne h, ba_ne]; simp)
theorem out_cases (line : ByteArray) (x : Ins) : outI line x = (zI, false) ∨ (outI line x = (x, true) ∧ insB x 30 4 = true ∧ line = textS x) := by
  unfold outI
  split
  · exact .inl rfl
  · rename_i h
    have h1 : ¬ (line == strL []) = true := fun e => h (.inl e)
    have h2 : textS x = line := by
      cases e : textS x == line with
      | true => exact ba_eq e
      | false => exact absurd (.inr (by show (!(textS x == line)) = true; rw [e]; rfl)) h
    refine .inr ⟨rfl, ?_, h2.symm⟩
    cases hb : insB x 30 4 with
    | true => rfl
    | false =>
      refine absurd ?_ h1
      rw [← h2]
      unfold textS
      rw [if_neg (by rw [hb]; decide)]
      exact ba_refl _
/-! ### the words' values -/
theorem val_num {n : Int} (h : -10000000000 < n ∧ n < 10000000000) : valR (numS n) = n ∧ okR (numS n) = true := by
  unfold valR okR
  rw [num_any, read_num h]
  exact ⟨rfl, rfl⟩
theorem val_any : valR anyS = 9 ∧ okR anyS = true := by
  unfold valR okR
  rw [ba_refl]
  exact ⟨rfl, rfl⟩
theorem okA_num {n : Int} (h : -10000000000 < n ∧ n < 10000000000) : okA (numS n) = true := by
  unfold okA
  rw [(atoi_num h).2]
  rfl
theorem okA_any : okA anyS = true := by
  unfold okA
  rw [ba_refl, Bool.or_true]
theorem step_num {n : Int} (h : -10000000000 < n ∧ n < 10000000000) (x : Ins) (p : UInt8) : stepI x p (numS n) = setP x p n := by
  unfold stepI
  rw [num_any, (atoi_num h).1]
  rfl
theorem step_any (x : Ins) (p : UInt8) : stepI x p anyS = setN (setP x p (atoiV anyS)) := by
  unfold stepI
  rw [ba_refl]
  rfl
theorem spec_of {line w0 : ByteArray} {ws : List ByteArray} {y : Ins} {op a b c : Int} (ho : opR w0 11 = op) (hk : (ws.take 4).all okR = true) (ha : nthQ ((ws.take 4).map valR) 0 = a) (hb : nthQ ((ws.take 4).map valR) 1 = b) (hc : nthQ ((ws.take 4).map valR) 2 = c) (hf : fillI op a b c = y) (h : insB y 30 4 = true) (hl : line = textS y) : specI line w0 ws = (y, true) := by
  unfold specI
  rw [if_pos hk, ho, ha, hb, hc, hf, hl, out_text h]
theorem impl_of {line w0 : ByteArray} {ws : List ByteArray} {y : Ins} {op : Int} (ho : idxS namesB w0 = op) (hfb : formB op = true) (hlen : ws.length = (formL op).length) (hk : ws.all okA = true) (hx : XI op (formL op) ws ws.length = y) (h : insB y 30 4 = true) (hl : line = textS y) : implI line w0 ws = (y, true) := by
  unfold implI
  rw [ho, if_pos ⟨hfb, hlen, hk⟩, hx, hl, out_text h]
theorem both_full {y : Ins} (h : insB y 30 4 = true) : specI (textS y) (strL (nameL y.op)) (wordsL y) = (y, true) ∧ implI (textS y) (strL (nameL y.op)) (wordsL y) = (y, true) := by
  obtain ⟨_, gr, ga, gb, gn⟩ := insB_le h
  have hc := insB_cases h
  have r1 := val_num (n := y.r) (by omega)
  have a1 := val_num (n := y.a) (by omega)
  have b1 := val_num (n := y.b) (by omega)
  have n1 := val_num (n := y.n) (by omega)
  have r2 := okA_num (n := y.r) (by omega)
  have a2 := okA_num (n := y.a) (by omega)
  have b2 := okA_num (n := y.b) (by omega)
  have n2 := okA_num (n := y.n) (by omega)
  have r3 := step_num (n := y.r) (by omega)
  have a3 := step_num (n := y.a) (by omega)
  have b3 := step_num (n := y.b) (by omega)
  have n3 := step_num (n := y.n) (by omega)
  have nS : ∀ n, strL (Lib.itoa n) = numS n := fun _ => rfl
  have aS : strL [97, 110, 121] = anyS := rfl
  obtain ⟨op, r, a, b, n⟩ := y
  simp only at *
  have three : (op = 2 ∨ op = 3 ∨ op = 4 ∨ op = 5) → n = 0 → specI (textS ⟨op, r, a, b, n⟩) (strL (nameL op)) (wordsL ⟨op, r, a, b, n⟩) = (⟨op, r, a, b, n⟩, true) ∧ implI (textS ⟨op, r, a, b, n⟩) (strL (nameL op)) (wordsL ⟨op, r, a, b, n⟩) = (⟨op, r, a, b, n⟩, true) := fun hop hn => by
    subst hn
    have hw : wordsL ⟨op, r, a, b, 0⟩ = [numS r, numS a, numS b] := by
      rcases hop with rfl | rfl | rfl | rfl <;> rfl
    rw [hw]
    refine ⟨spec_of (op := op) (a := r) (b := a) (c := b) ?_ (by simp [r1, a1, b1]) (by simp [r1, a1, b1, nthQ]) (by simp [r1, a1, b1, nthQ]) (by simp [r1, a1, b1, nthQ]) ?_ h rfl, impl_of (op := op) ?_ ?_ ?_ (by simp [r2, a2, b2]) ?_ h rfl⟩
    · rcases hop with rfl | rfl | rfl | rfl <;> decide +kernel
    · rcases hop with rfl | rfl | rfl | rfl <;> rfl
    · rcases hop with rfl | rfl | rfl | rfl <;> decide +kernel
    · rcases hop with rfl | rfl | rfl | rfl <;> decide +kernel
    · rcases hop with rfl | rfl | rfl | rfl <;> rfl
    · have hf : formL op = [82, 65, 66] := by rcases hop with rfl | rfl | rfl | rfl <;> rfl
      rw [hf]
      simp [XI, r3, a3, b3, setP]
  rcases hc with ⟨rfl, rfl, rfl⟩ | ⟨hop, hn⟩ | ⟨rfl, rfl, rfl⟩ | ⟨rfl, rfl, rfl⟩ | ⟨rfl, rfl, rfl, rfl⟩ | ⟨rfl, rfl, rfl, rfl⟩ | ⟨rfl, rfl, rfl⟩ | ⟨rfl, rfl, rfl, rfl, rfl⟩
  · rw [show wordsL ⟨1, r, 0, 0, n⟩ = [numS r, numS n] from rfl]
    exact ⟨spec_of (op := 1) (a := r) (b := n) (c := 0) (by decide +kernel) (by simp [r1, n1]) (by simp [r1, n1, nthQ]) (by simp [r1, n1, nthQ]) (by simp [r1, n1, nthQ]) rfl h rfl, impl_of (op := 1) (by decide +kernel) (by decide +kernel) rfl (by simp [r2, n2]) (by rw [show formL 1 = [82, 78] from rfl]; simp [XI, r3, n3, setP]) h rfl⟩
  · exact three hop hn
  · rw [show wordsL ⟨6, 0, a, 0, n⟩ = [numS n, numS a] from rfl]
    exact ⟨spec_of (op := 6) (a := n) (b := a) (c := 0) (by decide +kernel) (by simp [a1, n1]) (by simp [a1, n1, nthQ]) (by simp [a1, n1, nthQ]) (by simp [a1, n1, nthQ]) rfl h rfl, impl_of (op := 6) (by decide +kernel) (by decide +kernel) rfl (by simp [a2, n2]) (by rw [show formL 6 = [80, 65] from rfl]; simp [XI, a3, n3, setP]) h rfl⟩
  · by_cases h9 : n = 9
    · subst h9
      rw [show wordsL ⟨7, r, 0, 0, 9⟩ = [numS r, anyS] from rfl]
      exact ⟨spec_of (op := 7) (a := r) (b := 9) (c := 0) (by decide +kernel) (by simp [r1, val_any]) (by simp [r1, val_any, nthQ]) (by simp [r1, val_any, nthQ]) (by simp [r1, val_any, nthQ]) rfl h rfl, impl_of (op := 7) (by decide +kernel) (by decide +kernel) rfl (by simp [r2, okA_any]) (by rw [show formL 7 = [82, 84] from rfl]; simp [XI, r3, step_any, setP, setN]) h rfl⟩
    · rw [show wordsL ⟨7, r, 0, 0, n⟩ = [numS r, numS n] from by
        unfold wordsL
        rw [show formL 7 = [82, 84] from rfl]
        simp [partL, h9, nS]]
      exact ⟨spec_of (op := 7) (a := r) (b := n) (c := 0) (by decide +kernel) (by simp [r1, n1]) (by simp [r1, n1, nthQ]) (by simp [r1, n1, nthQ]) (by simp [r1, n1, nthQ]) rfl h rfl, impl_of (op := 7) (by decide +kernel) (by decide +kernel) rfl (by simp [r2, n2]) (by rw [show formL 7 = [82, 84] from rfl]; simp [XI, r3, n3, setP]) h rfl⟩
  · rw [show wordsL ⟨8, 0, a, 0, 0⟩ = [numS a] from rfl]
    exact ⟨spec_of (op := 8) (a := a) (b := 0) (c := 0) (by decide +kernel) (by simp [a1]) (by simp [a1, nthQ]) (by simp [a1, nthQ]) (by simp [a1, nthQ]) rfl h rfl, impl_of (op := 8) (by decide +kernel) (by decide +kernel) rfl (by simp [a2]) (by rw [show formL 8 = [65] from rfl]; simp [XI, a3, setP]) h rfl⟩
  · rw [show wordsL ⟨9, 0, 0, 0, n⟩ = [numS n] from rfl]
    exact ⟨spec_of (op := 9) (a := n) (b := 0) (c := 0) (by decide +kernel) (by simp [n1]) (by simp [n1, nthQ]) (by simp [n1, nthQ]) (by simp [n1, nthQ]) rfl h rfl, impl_of (op := 9) (by decide +kernel) (by decide +kernel) rfl (by simp [n2]) (by rw [show formL 9 = [76] from rfl]; simp [XI, n3, setP]) h rfl⟩
  · rw [show wordsL ⟨10, 0, a, 0, n⟩ = [numS a, numS n] from rfl]
    exact ⟨spec_of (op := 10) (a := a) (b := n) (c := 0) (by decide +kernel) (by simp [a1, n1]) (by simp [a1, n1, nthQ]) (by simp [a1, n1, nthQ]) (by simp [a1, n1, nthQ]) rfl h rfl, impl_of (op := 10) (by decide +kernel) (by decide +kernel) rfl (by simp [a2, n2]) (by rw [show formL 10 = [65, 76] from rfl]; simp [XI, a3, n3, setP]) h rfl⟩
  · rw [show wordsL ⟨11, 0, 0, 0, 0⟩ = [] from rfl]
    exact ⟨spec_of (op := 11) (a := 0) (b := 0) (c := 0) (by decide +kernel) rfl rfl rfl rfl rfl h rfl, impl_of (op := 11) (by decide +kernel) (by decide +kernel) rfl rfl rfl h rfl⟩
/-- The two answer the same, and what they accept is written as it was. -/
theorem read_same {line w0 v0 : ByteArray} {ws vs : List ByteArray} (hS : wS line = w0 :: ws) (hI : wI line = v0 :: vs) : specI line w0 ws = implI line v0 vs ∧ (specI line w0 ws = (zI, false) ∨ ∃ x, specI line w0 ws = (x, true) ∧ insB x 30 4 = true ∧ line = textS x) := by
  have full : ∀ x, insB x 30 4 = true → line = textS x → specI line w0 ws = (x, true) ∧ implI line v0 vs = (x, true) := fun x hx hl => by
    obtain ⟨h1, h2⟩ := text_words hx
    rw [← hl, hS] at h1
    rw [← hl, hI] at h2
    injection h1 with e1 e2
    injection h2 with e3 e4
    have := both_full hx
    rw [e1, e2, e3, e4, hl]
    exact this
  have hs : specI line w0 ws = (zI, false) ∨ ∃ x, specI line w0 ws = (x, true) ∧ insB x 30 4 = true ∧ line = textS x := by
    unfold specI
    split
    · rcases out_cases line (fillI (opR w0 11) (nthQ ((ws.take 4).map valR) 0) (nthQ ((ws.take 4).map valR) 1) (nthQ ((ws.take 4).map valR) 2)) with h | ⟨h, h1, h2⟩
      · exact .inl h
      · exact .inr ⟨_, h, h1, h2⟩
    · exact .inl rfl
  have hi : implI line v0 vs = (zI, false) ∨ ∃ x, implI line v0 vs = (x, true) ∧ insB x 30 4 = true ∧ line = textS x := by
    unfold implI
    split
    · rcases out_cases line (XI (idxS namesB v0) (formL (idxS namesB v0)) vs vs.length) with h | ⟨h, h1, h2⟩
      · exact .inl h
      · exact .inr ⟨_, h, h1, h2⟩
    · exact .inl rfl
  refine ⟨?_, hs⟩
  rcases hs with hs | ⟨x, hs, h1, h2⟩
  · rcases hi with hi | ⟨x, hi, h1, h2⟩
    · rw [hs, hi]
    · rw [(full x h1 h2).1] at hs
      cases hs
  · rw [hs, (full x h1 h2).2]
/-- What is read of an instruction's text. -/
theorem read_text {y : Ins} (h : insB y 30 4 = true) {w0 : ByteArray} {ws : List ByteArray} (hI : wI (textS y) = w0 :: ws) : implI (textS y) w0 ws = (y, true) := by
  have h2 := (text_words h).2
  rw [hI] at h2
  injection h2 with e3 e4
  rw [e3, e4]
  exact (both_full h).2
end Go.Proofs.YtemghdnofgjnmaaDoor.VM
