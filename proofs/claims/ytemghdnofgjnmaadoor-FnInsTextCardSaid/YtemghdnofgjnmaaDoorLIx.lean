/- The law FnInsText: reckoned. -/
import Derived.Test.YtemghdnofgjnmaaDoorDv
import Derived.Test.YtemghdnofgjnmaaDoorSr
namespace Go.Proofs.YtemghdnofgjnmaaDoor.VM
open Go Go.Proofs Go.RowKit
set_option linter.unusedSimpArgs false
set_option linter.unusedVariables false
set_option maxRecDepth 100000
set_option maxHeartbeats 40000000
theorem ne_text (x : Ins) : (textS x != strL []) = insB x 30 4 := by
  cases h : insB x 30 4 with
  | true => show (!(textS x == strL [])) = true; rw [text_ne h]; rfl
  | false => rw [show textS x = strL [] from if_neg (by rw [h]; decide), ba_ne]
open Classical in
/-- The machine, and a line that is drawn by hand. -/
noncomputable def runD (k : Nat) (bs : List Int) (line : ByteArray) (f : FuncId) (xs : List A) : Ans := if f = 13 then (if xs = [.c (.r 5 bs.length (octT bs))] then some ([.c (.v (.string line))], [.c (.r 5 bs.length (octT bs))]) else none) else M.run k f xs
theorem runD_M {k : Nat} {bs : List Int} {line : ByteArray} {f : FuncId} {xs : List A} (h : ¬ f = 13) : runD k bs line f xs = M.run k f xs := if_neg h
theorem runD_D {k : Nat} {bs : List Int} {line : ByteArray} : runD k bs line 13 [.c (.r 5 bs.length (octT bs))] = some ([.c (.v (.string line))], [.c (.r 5 bs.length (octT bs))]) := (if_pos rfl).trans (if_pos rfl)
theorem runD_sound {k : Nat} {bs : List Int} {line : ByteArray} (hl : ∀ (w : World) (us : List Value) (Ox Rx : List Nat), Given tabG Tryd.prog w [.c (.r 5 bs.length (octT bs))] us Ox Rx → (callFunc 13 us.toArray).run Tryd.prog w = .ok (.enter 13 us.toArray) w ∧ Calls Tryd.prog 13 us.toArray w (AnswersX Tryd.prog w [.c (.r 5 bs.length (octT bs))] us Ox [.c (.v (.string line))] [.c (.r 5 bs.length (octT bs))])) : Sound tabG Tryd.prog (runD k bs line) := by
  intro f xs rs ys h w us Ox Rx hg
  unfold runD at h
  split at h
  · rename_i hf
    split at h
    · rename_i hx
      simp only [Option.some.injEq, Prod.mk.injEq] at h
      obtain ⟨rfl, rfl⟩ := h
      subst hf
      subst hx
      exact hl w us Ox Rx hg
    · simp at h
  · exact sound M_ok k f xs rs ys h w us Ox Rx hg
theorem run_FnInsText {j : Nat} (hj : big + 1 ≤ j) (bs : List Int) (line : ByteArray) (hl : line.size ≤ 1000) (hb : bs.length ≤ 1048576) (e0 : M.run (j + 5) 8 [.c (.r 5 bs.length (octT bs))] = some ([.c (.v (.bool false))], [.c (.r 5 bs.length (octT bs))])) : Env.func ⟨Tryd.prog, Tryd.f4.ntmps, runD (j + 5) bs line, own1⟩ 1 (hint1 4) (fun _ => []) 0 Tryd.f4 [.c (.r 5 bs.length (octT bs))] = some ([.c (.v (.bool true))], [.c (.r 5 bs.length (octT bs))]) := by
  rw [f_func rfl (by simp)]
  have lift : ∀ {f : FuncId} {xs : List A} {r : Ans}, ¬ f = 13 → M.run (j + 5) f xs = r → runD (j + 5) bs line f xs = r := fun hf h => (runD_M hf).trans h
  obtain ⟨x, e1⟩ := run_drawInsText (j := j) bs hb
  have e2 := runD_D (k := j + 5) (bs := bs) (line := line)
  have e3 := run_implText (j := j + 1) (by omega) x
  have e4 := run_specText (j := j + 1) (by omega) x
  have e5 := run29 (j := j + 2) x 30 4
  have hs := text_size x
  have hne := ne_text x
  have hbn := ba_ne (textS x)
  obtain ⟨v0, vs, hI, hI1, hI2⟩ := wI_all (textS x)
  have e6 := run_implRead hj (textS x) v0 vs (by omega) hI (fun w hw => by have := hI1 w hw; omega) (by omega)
  have hnil : (⟨#[]⟩ : ByteArray) = strL [] := rfl
  have hback : insB x 30 4 = true → implI (textS x) v0 vs = (x, true) := fun h => read_text h hI
  obtain ⟨w0, ws, hS2, hS3, hS4⟩ := wS_all line
  obtain ⟨u0, us, hI3, hI4, hI5⟩ := wI_all line
  have e7 := run_implRead hj line u0 us (by omega) hI3 (fun w hw => by have := hI4 w hw; omega) (by omega)
  have e8 := run_specRead hj line w0 ws (by omega) hS2 (fun w hw => by have := hS3 w hw; omega) (by omega)
  obtain ⟨hsame, hcases⟩ := read_same hS2 hI3
  have eT := fun y => run_implText (j := j + 1) (by omega) y
  rw [hsame] at e8 hcases
  have e0 := lift (by decide) e0
  have e1 := lift (by decide) e1
  have e3 := lift (by decide) e3
  have e4 := lift (by decide) e4
  have e5 := lift (by decide) e5
  have e6 := lift (by decide) e6
  have e7 := lift (by decide) e7
  have e8 := lift (by decide) e8
  have eT := fun y => lift (by decide) (eT y)
  clear lift
  generalize runD (j + 5) bs line = rD at *
  generalize implI (textS x) v0 vs = q at *
  generalize implI line u0 us = z at *
  generalize textS x = s at *
  obtain ⟨op, r, a, b, n⟩ := x
  rcases hcases with rfl | ⟨⟨yo, yr, ya, yb, yn⟩, rfl, hy1, rfl⟩
  · cases hB : insB ⟨op, r, a, b, n⟩ 30 4
    · rw [hB] at hne e5
      obtain ⟨⟨qo, qr, qa, qb, qn⟩, qk⟩ := q
      simp only [tIns] at e1 e3 e4 e5 e6 e7 e8
      simp only [zI] at e7 e8
      simp -implicitDefEqProofs [flat41, eq41, own1, e0, e1, e2, e3, e4, e5, e6, e7, e8, hne, hbn, hnil]
      done
    · rw [hB] at hne e5
      obtain rfl := hback hB
      simp only [tIns] at e1 e3 e4 e5 e6 e7 e8
      simp only [zI] at e7 e8
      simp -implicitDefEqProofs [flat41, eq41, own1, e0, e1, e2, e3, e4, e5, e6, e7, e8, hne, hbn, hnil]
      done
  · have eY := eT ⟨yo, yr, ya, yb, yn⟩
    have hby := ba_refl (textS ⟨yo, yr, ya, yb, yn⟩)
    generalize textS ⟨yo, yr, ya, yb, yn⟩ = line at *
    cases hB : insB ⟨op, r, a, b, n⟩ 30 4
    · rw [hB] at hne e5
      obtain ⟨⟨qo, qr, qa, qb, qn⟩, qk⟩ := q
      simp only [tIns] at e1 e3 e4 e5 e6 e7 e8 eY
      simp -implicitDefEqProofs [flat41, eq41, own1, e0, e1, e2, e3, e4, e5, e6, e7, e8, eY, hby, hne, hbn, hnil]
      done
    · rw [hB] at hne e5
      obtain rfl := hback hB
      simp only [tIns] at e1 e3 e4 e5 e6 e7 e8 eY
      simp -implicitDefEqProofs [flat41, eq41, own1, e0, e1, e2, e3, e4, e5, e6, e7, e8, eY, hby, hne, hbn, hnil]
      done
theorem calls_FnInsText (bs : List Int) (hb : (∀ n ∈ bs, 0 ≤ n ∧ n ≤ 255) ∧ bs.length ≤ maxLen) {w : World} {us : List Value} {R : List Nat} (hr : RepAs Tryd.prog w [.c (.r 5 bs.length (octT bs))] us [] R) (hR : ∀ b ∈ R, b < w.heap.size) (hgd : tabG.on w fun _ => False) : Calls Tryd.prog 4 us.toArray w fun e w' => e = .returned (.bool true) ∧ Below w.heap.size w w' := by
  have hb2 : bs.length ≤ 9223372036854775807 := by have := hb.2; unfold maxLen at this; omega
  have hgiven : Given tabG Tryd.prog w [.c (.r 5 bs.length (octT bs))] us [] R := ⟨hr, rfl, List.nodup_nil, fun b hb => by simp at hb, fun b hb => ⟨hR b hb, by simp⟩, hgd.1, fun b hb => ⟨(hgd.2 b hb).1, by simp⟩⟩
  have fin : Calls Tryd.prog 4 us.toArray w (Answers Tryd.prog w [.c (.r 5 bs.length (octT bs))] us [] [.c (.v (.bool true))] [.c (.r 5 bs.length (octT bs))]) := by
    have e0 := run_bigD (j := big + 1 + 4) bs.length (octT bs) hb2
    by_cases h1 : 1048576 < bs.length
    · rw [decide_eq_true h1] at e0
      have hm : M.run (big + 1 + 6) 4 [.c (.r 5 bs.length (octT bs))] = some ([.c (.v (.bool true))], [.c (.r 5 bs.length (octT bs))]) := by
        rw [m_run (fn := Tryd.f4) (i0 := 0) rfl Tryd.func4 rfl rfl (by simp)]
        simp -implicitDefEqProofs [own1, e0]
      have := (mach_calls hm w us [] R hgiven).2
      rw [AnswersX_none (show maker [.c (.v (.bool true))] = none from rfl)] at this
      exact this
    rw [decide_eq_false h1] at e0
    have hj : big + 1 ≤ big + 1 := Nat.le_refl _
    obtain ⟨line, hl, hdir⟩ := dir_calls hj bs (by omega)
    have hS := runD_sound (k := big + 1 + 5) hdir
    have hlt : (1048576 : Nat) < 9223372036854775807 := by omega
    refine func_sound (gd := tabG) (E := ⟨Tryd.prog, Tryd.f4.ntmps, runD (big + 1 + 5) bs line, own1⟩) (k := 1) (hint := hint1 4) (sk := fun _ => []) (i0 := 0) (fn := Tryd.f4) (fun w0 mine hgd => callsOk_of hS w0 mine hgd) (fun w0 mine hgd => draws_sound (callsOk_of hS w0 mine hgd) M_ok.mixed) Tryd.func4 (fun c hc => by injection hc with hc; subst hc; kernel_rfl) rfl ?_ hgiven
    exact run_FnInsText hj bs line hl (by omega) e0
  refine fin.mono fun e w' he => ?_
  cases e with
  | returned v =>
    obtain ⟨vs, O1, O2, rfl, hl⟩ := he
    have hrep := hl.rep
    rw [RepAs] at hrep
    obtain ⟨u, us', Oa, Ra, Ob, Rb, rfl, h1, h2, _⟩ := hrep
    rw [RepAs] at h2
    obtain ⟨rfl, _⟩ := h2
    rw [RepA, RepT] at h1
    obtain ⟨rfl, _⟩ := h1
    exact ⟨rfl, ⟨hl.still.os, hl.still.tape, hl.still.output, hl.size, fun b hb => hl.kept b hb (by simp)⟩⟩
  | panicked c => exact he.elim
  | outgrown => exact he.elim
end Go.Proofs.YtemghdnofgjnmaaDoor.VM
