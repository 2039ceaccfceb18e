/- A line read as an instruction, by the program: reckoned. -/
import Derived.Test.YtemghdnofgjnmaaDoorSd
import Derived.Test.YtemghdnofgjnmaaDoorK53
namespace Go.Proofs.YtemghdnofgjnmaaDoor.VM
open Go Go.Proofs
set_option linter.unusedSimpArgs false
set_option linter.unusedVariables false
set_option maxRecDepth 100000
set_option maxHeartbeats 40000000
theorem run_atoi {j : Nat} (w : ByteArray) (h : w.size ≤ 281474976710656) : M.run (j + 1) 21 [.c (.v (.string w))] = some ([.c (.v (.int .i64 (atoiV w))), errA (atoiB w)], [.c (.v (.string w))]) :=
  (show atoiG [.c (.v (.string w))] = _ from if_pos h)
def spS : ByteArray := strL [32]
/-- The words of a line. -/
def wI (line : ByteArray) : List ByteArray := Lib.splitB spS 0 (Lib.countB line spS) line
theorem spS_size : 1 ≤ spS.size := by rw [spS, strL_size]; decide
theorem wI_len (line : ByteArray) : (wI line).length = Lib.countB line spS + 1 := Lib.splitB_all spS spS_size 0 _ line rfl
theorem run_split {j : Nat} (line : ByteArray) (h : line.size ≤ 1048576) : M.run (j + 1) 17 [.c (.v (.string line)), .c (.v (.string spS))] = some ([.c (.s 9 (wI line).length (strsT (wI line)))], [.c (.v (.string line)), .c (.v (.string spS))]) := by
  rw [wI_len]
  exact (show splitG [.c (.v (.string line)), .c (.v (.string spS))] = _ from if_pos ⟨h, spS_size⟩)
def namesB : List ByteArray := namesL.map strL
theorem namesB_T : namesT = strsT namesB := rfl
def okA (w : ByteArray) : Bool := atoiB w || (w == anyS)
def setP (x : Ins) (p : UInt8) (n : Int) : Ins := if p = 82 then ⟨x.op, n, x.a, x.b, x.n⟩ else if p = 65 then ⟨x.op, x.r, n, x.b, x.n⟩ else if p = 66 then ⟨x.op, x.r, x.a, n, x.n⟩ else ⟨x.op, x.r, x.a, x.b, n⟩
def setN (x : Ins) : Ins := ⟨x.op, x.r, x.a, x.b, 9⟩
def stepI (x : Ins) (p : UInt8) (w : ByteArray) : Ins := if (w == anyS) = true then setN (setP x p (atoiV w)) else setP x p (atoiV w)
/-- The instruction when k words are read. -/
def XI (op : Int) (f : List UInt8) (ws : List ByteArray) : Nat → Ins
  | 0 => ⟨op, 0, 0, 0, 0⟩
  | k + 1 => stepI (XI op f ws k) ((f[k]?).getD 0) ((ws[k]?).getD ⟨#[]⟩)
def implI (line w0 : ByteArray) (ws : List ByteArray) : Ins × Bool :=
  if formB (idxS namesB w0) = true ∧ ws.length = (formL (idxS namesB w0)).length ∧ ws.all okA = true then outI line (XI (idxS namesB w0) (formL (idxS namesB w0)) ws ws.length) else (zI, false)
theorem bAt_strL (l : List UInt8) (i : Nat) : bAt (strL l) i = (l[i]?).getD 0 := by
  unfold bAt
  split
  · rename_i h
    rw [strL_size] at h
    rw [List.getElem?_eq_getElem h]
    rfl
  · rename_i h
    rw [strL_size] at h
    rw [List.getElem?_eq_none (by omega)]
    rfl
theorem formS_strL (op : Int) : formS op = strL (formL op) := rfl
theorem setP_op (x : Ins) (p : UInt8) (n : Int) : (setP x p n).op = x.op := by unfold setP; (repeat' split) <;> rfl
theorem XI_op (op : Int) (f : List UInt8) (ws : List ByteArray) : ∀ k, (XI op f ws k).op = op
  | 0 => rfl
  | k + 1 => by
    rw [XI, stepI]
    split
    · show (setP _ _ _).op = _
      rw [setP_op, XI_op op f ws k]
    · rw [setP_op, XI_op op f ws k]
def H_ir (line w0 : ByteArray) (ws : List ByteArray) (op : Int) (f : List UInt8) (i : Nat) : St := ⟨[(0, .c (.v (.string line))), (2, .ptr 192 [] 0), (5, .ptr 384 [] 0), (6, .c (.v (.string (strL f)))), (38, .c (.sl 896 [] 1 ws.length)), (39, .c (.v (.int .i64 ws.length))), (40, .c (.v (.int .i64 i)))], [(192, ⟨.box, 23, zT5 0⟩), (384, ⟨.box, 23, tIns (XI op f ws i)⟩), (896, ⟨.own, 9, .v (.string w0) :: strsT ws⟩)]⟩
theorem run_implRead {j : Nat} (hj : big + 1 ≤ j) (line w0 : ByteArray) (ws : List ByteArray) (hl : line.size ≤ 1048576) (hW : wI line = w0 :: ws) (hsz : ∀ w ∈ ws, w.size ≤ 1048576) (hlen : ws.length ≤ 1048576) : M.run (j + 5) 6 [.c (.v (.string line))] = some ([.agg (tIns (implI line w0 ws).1), .c (.v (.bool (implI line w0 ws).2))], [.c (.v (.string line))]) := by
  have hw := run_split (j := j + 3) line hl
  have hN := run_insWords (j := j + 3)
  have hT := fun x => run_implText hj x
  have hX := run_indexS (j := j + 3) (by omega) namesB w0 (by decide)
  have hF := run63 (j := j + 3) (idxS namesB w0)
  have hA := fun (w : ByteArray) (h : w.size ≤ 1048576) => run_atoi (j := j + 3) w (by omega)
  have hany : (⟨#[97, 110, 121]⟩ : ByteArray) = anyS := rfl
  have hsp : (⟨#[32]⟩ : ByteArray) = spS := rfl
  have hnil : (⟨#[]⟩ : ByteArray) = strL [] := rfl
  have hlen12 : namesB.length = 12 := rfl
  rw [hW, strsT_cons, List.length_cons] at hw
  rw [namesB_T] at hN
  rw [hlen12] at hX
  have hnl : (strsT namesB).length = 12 := rfl
  have hnt : (strsT namesB).take 12 = strsT namesB := rfl
  unfold implI
  rw [m_run (fn := Tryd.f6) (i0 := 0) rfl Tryd.func6 rfl rfl (by simp)]
  have hfl := formL_le (idxS namesB w0)
  rw [formS_strL] at hF
  generalize idxS namesB w0 = op at *
  have wf := w64 (x := ((formL op).length : Int) + 1) (by omega)
  by_cases h1 : formB op = true
  · by_cases h2 : ws.length = (formL op).length
    · have h2a : (ws.length : Int) = (formL op).length := by omega
      have h2b : (((ws.length : Int)) != ((formL op).length : Int)) = false := by simpa using h2a
      generalize formL op = f at *
      have hmx : max ((f.length : Int) + 1) 0 = (f.length : Int) + 1 := by omega
      have hm1 : (1 : Int) ≤ (f.length : Int) + 1 := by omega
      rcases first_bad okA ws with hc | ⟨n, hn, hc, hg⟩
      · have hall : ws.all okA = true := all_of hc
        rw [if_pos ⟨h1, h2, hall⟩]
        simp -implicitDefEqProofs [hw, hN, hX, hF, own1, hsp, hnl, hnt, h1, h2, h2a, h2b, wf, strL_size, hmx, hm1]
        rw [loop_to (H_ir line w0 ws op f) ws.length (by simp -implicitDefEqProofs [H_ir, hint1, zT5, XI, tIns, h2]; done) (by simp -implicitDefEqProofs [big] at hj; omega) (fun k hk => by
          have hok := hc k hk
          have hkf : k < f.length := by omega
          have hq := hA ws[k] (hsz _ (List.getElem_mem _))
          have h3 := strsT_at hk
          have h4 := fun h' => strsT_get (l := ws) hk h'
          have hb : bAt (strL f) k = f[k] := by rw [bAt_strL, List.getElem?_eq_getElem hkf]; rfl
          simp only [H_ir]
          rw [XI, List.getElem?_eq_getElem hkf, List.getElem?_eq_getElem hk, Option.getD_some, Option.getD_some]
          generalize XI op f ws k = x at *
          generalize ws[k] = w at *
          generalize f[k] = p at *
          have e1 : (T.v (.string w0) :: strsT ws)[1 + k]? = some (.v (.string w)) := by rw [Nat.add_comm]; exact h3
          have e2 : ∀ h', (T.v (.string w0) :: strsT ws)[1 + k]'h' = .v (.string w) := fun h' => by
            rw [List.getElem?_eq_getElem h'] at e1
            exact Option.some.inj e1
          have e3 := w64 (x := (k : Int) + 1) (by omega)
          have e4 : (k : Int) < f.length := by omega
          have e5 : (k : Int) < ws.length := by omega
          obtain ⟨xo, xr, xa, xb, xn⟩ := x
          unfold stepI
          have hp : p = 82 ∨ p = 65 ∨ p = 66 ∨ (¬ p = 82 ∧ ¬ p = 65 ∧ ¬ p = 66) := by
            by_cases q1 : p = 82
            · exact .inl q1
            · by_cases q2 : p = 65
              · exact .inr (.inl q2)
              · by_cases q3 : p = 66
                · exact .inr (.inr (.inl q3))
                · exact .inr (.inr (.inr ⟨q1, q2, q3⟩))
          have hne : ∀ c : UInt8, ¬ p = c → ¬ (p.toNat : Int) = (c.toNat : Int) := fun c h h' => h (UInt8.toNat_inj.1 (by omega))
          have hok2 : ((w == anyS) = true ∧ atoiB w = true) ∨ ((w == anyS) = true ∧ atoiB w = false) ∨ ((w == anyS) = false ∧ atoiB w = true) := by
            unfold okA at hok
            cases q1 : (w == anyS) <;> cases q2 : atoiB w <;> simp [q1, q2] at hok ⊢
          clear hok
          have hneq : (w != anyS) = !(w == anyS) := rfl
          rcases hok2 with ⟨ha, hat⟩ | ⟨ha, hat⟩ | ⟨ha, hat⟩
          all_goals rw [hat] at hq
          all_goals rw [ha] at hneq
          · rw [if_pos ha]
            rcases hp with rfl | rfl | rfl | ⟨q1, q2, q3⟩
            · simp -implicitDefEqProofs [hint1, own1, hq, hb, e1, e2, e3, e4, e5, hk, hkf, strL_size, ha, hneq, hany, errA, zT5, tIns, setP, setN]
              done
            · simp -implicitDefEqProofs [hint1, own1, hq, hb, e1, e2, e3, e4, e5, hk, hkf, strL_size, ha, hneq, hany, errA, zT5, tIns, setP, setN]
              done
            · simp -implicitDefEqProofs [hint1, own1, hq, hb, e1, e2, e3, e4, e5, hk, hkf, strL_size, ha, hneq, hany, errA, zT5, tIns, setP, setN]
              done
            · have q4 : ¬ (p.toNat : Int) = 82 := hne 82 q1
              have q5 : ¬ (p.toNat : Int) = 65 := hne 65 q2
              have q6 : ¬ (p.toNat : Int) = 66 := hne 66 q3
              simp -implicitDefEqProofs [hint1, own1, hq, hb, e1, e2, e3, e4, e5, hk, hkf, strL_size, ha, hneq, hany, errA, zT5, tIns, setP, setN, q1, q2, q3, q4, q5, q6]
              done
          · rw [if_pos ha]
            rcases hp with rfl | rfl | rfl | ⟨q1, q2, q3⟩
            · simp -implicitDefEqProofs [hint1, own1, hq, hb, e1, e2, e3, e4, e5, hk, hkf, strL_size, ha, hneq, hany, errA, zT5, tIns, setP, setN]
              done
            · simp -implicitDefEqProofs [hint1, own1, hq, hb, e1, e2, e3, e4, e5, hk, hkf, strL_size, ha, hneq, hany, errA, zT5, tIns, setP, setN]
              done
            · simp -implicitDefEqProofs [hint1, own1, hq, hb, e1, e2, e3, e4, e5, hk, hkf, strL_size, ha, hneq, hany, errA, zT5, tIns, setP, setN]
              done
            · have q4 : ¬ (p.toNat : Int) = 82 := hne 82 q1
              have q5 : ¬ (p.toNat : Int) = 65 := hne 65 q2
              have q6 : ¬ (p.toNat : Int) = 66 := hne 66 q3
              simp -implicitDefEqProofs [hint1, own1, hq, hb, e1, e2, e3, e4, e5, hk, hkf, strL_size, ha, hneq, hany, errA, zT5, tIns, setP, setN, q1, q2, q3, q4, q5, q6]
              done
          · rw [if_neg (by rw [ha]; decide)]
            rcases hp with rfl | rfl | rfl | ⟨q1, q2, q3⟩
            · simp -implicitDefEqProofs [hint1, own1, hq, hb, e1, e2, e3, e4, e5, hk, hkf, strL_size, ha, hneq, hany, errA, zT5, tIns, setP, setN]
              done
            · simp -implicitDefEqProofs [hint1, own1, hq, hb, e1, e2, e3, e4, e5, hk, hkf, strL_size, ha, hneq, hany, errA, zT5, tIns, setP, setN]
              done
            · simp -implicitDefEqProofs [hint1, own1, hq, hb, e1, e2, e3, e4, e5, hk, hkf, strL_size, ha, hneq, hany, errA, zT5, tIns, setP, setN]
              done
            · have q4 : ¬ (p.toNat : Int) = 82 := hne 82 q1
              have q5 : ¬ (p.toNat : Int) = 65 := hne 65 q2
              have q6 : ¬ (p.toNat : Int) = 66 := hne 66 q3
              simp -implicitDefEqProofs [hint1, own1, hq, hb, e1, e2, e3, e4, e5, hk, hkf, strL_size, ha, hneq, hany, errA, zT5, tIns, setP, setN, q1, q2, q3, q4, q5, q6]
              done) (by simp -implicitDefEqProofs [H_ir, stops])]
        simp only [H_ir]
        rw [h2]
        have ht := hT (XI op f ws f.length)
        generalize XI op f ws f.length = x at *
        obtain ⟨xo, xr, xa, xb, xn⟩ := x
        unfold outI
        simp only [tIns] at ht
        generalize textS ⟨xo, xr, xa, xb, xn⟩ = tx at *
        cases q1 : line == strL []
        · cases q2 : tx != line
          · simp -implicitDefEqProofs [zT5, own1, ht, hnil, q1, q2, tIns]
            done
          · simp -implicitDefEqProofs [zT5, own1, ht, hnil, q1, q2, tIns, zI]
            done
        · simp -implicitDefEqProofs [zT5, own1, ht, hnil, q1, tIns, zI]
          done
      · have hall : ¬ (formB op = true ∧ ws.length = f.length ∧ ws.all okA = true) := fun h => by
          have := List.all_eq_true.1 h.2.2 _ (List.getElem_mem hn)
          rw [this] at hc
          cases hc
        rw [if_neg hall]
        simp -implicitDefEqProofs [hw, hN, hX, hF, own1, hsp, hnl, hnt, h1, h2, h2a, h2b, wf, strL_size, hmx, hm1]
        have hq := hA ws[n] (hsz _ (List.getElem_mem _))
        have h3 := strsT_at hn
        have e1 : (T.v (.string w0) :: strsT ws)[1 + n]? = some (.v (.string ws[n])) := by rw [Nat.add_comm]; exact h3
        have e2 : ∀ h', (T.v (.string w0) :: strsT ws)[1 + n]'h' = .v (.string ws[n]) := fun h' => by
          rw [List.getElem?_eq_getElem h'] at e1
          exact Option.some.inj e1
        have e4 : (n : Int) < f.length := by omega
        have e5 : (n : Int) < ws.length := by omega
        unfold okA at hc
        rw [Bool.or_eq_false_iff] at hc
        obtain ⟨hat, ha⟩ := hc
        have hneq : (ws[n] != anyS) = true := by
          show (!(ws[n] == anyS)) = true
          rw [ha]
          rfl
        rw [hat] at hq
        rw [loop_to (H_ir line w0 ws op f) n (by simp -implicitDefEqProofs [H_ir, hint1, zT5, XI, tIns, h2]; done) (by simp -implicitDefEqProofs [big] at hj; omega) (fun k hk2 => by
          have hk : k < ws.length := by omega
          have hok := hg k hk2
          have hkf : k < f.length := by omega
          have hq := hA ws[k] (hsz _ (List.getElem_mem _))
          have h3 := strsT_at hk
          have h4 := fun h' => strsT_get (l := ws) hk h'
          have hb : bAt (strL f) k = f[k] := by rw [bAt_strL, List.getElem?_eq_getElem hkf]; rfl
          simp only [H_ir]
          rw [XI, List.getElem?_eq_getElem hkf, List.getElem?_eq_getElem hk, Option.getD_some, Option.getD_some]
          generalize XI op f ws k = x at *
          generalize ws[k] = w at *
          generalize f[k] = p at *
          have e1 : (T.v (.string w0) :: strsT ws)[1 + k]? = some (.v (.string w)) := by rw [Nat.add_comm]; exact h3
          have e2 : ∀ h', (T.v (.string w0) :: strsT ws)[1 + k]'h' = .v (.string w) := fun h' => by
            rw [List.getElem?_eq_getElem h'] at e1
            exact Option.some.inj e1
          have e3 := w64 (x := (k : Int) + 1) (by omega)
          have e4 : (k : Int) < f.length := by omega
          have e5 : (k : Int) < ws.length := by omega
          obtain ⟨xo, xr, xa, xb, xn⟩ := x
          unfold stepI
          have hp : p = 82 ∨ p = 65 ∨ p = 66 ∨ (¬ p = 82 ∧ ¬ p = 65 ∧ ¬ p = 66) := by
            by_cases q1 : p = 82
            · exact .inl q1
            · by_cases q2 : p = 65
              · exact .inr (.inl q2)
              · by_cases q3 : p = 66
                · exact .inr (.inr (.inl q3))
                · exact .inr (.inr (.inr ⟨q1, q2, q3⟩))
          have hne : ∀ c : UInt8, ¬ p = c → ¬ (p.toNat : Int) = (c.toNat : Int) := fun c h h' => h (UInt8.toNat_inj.1 (by omega))
          have hok2 : ((w == anyS) = true ∧ atoiB w = true) ∨ ((w == anyS) = true ∧ atoiB w = false) ∨ ((w == anyS) = false ∧ atoiB w = true) := by
            unfold okA at hok
            cases q1 : (w == anyS) <;> cases q2 : atoiB w <;> simp [q1, q2] at hok ⊢
          clear hok
          have hneq : (w != anyS) = !(w == anyS) := rfl
          rcases hok2 with ⟨ha, hat⟩ | ⟨ha, hat⟩ | ⟨ha, hat⟩
          all_goals rw [hat] at hq
          all_goals rw [ha] at hneq
          · rw [if_pos ha]
            rcases hp with rfl | rfl | rfl | ⟨q1, q2, q3⟩
            · simp -implicitDefEqProofs [hint1, own1, hq, hb, e1, e2, e3, e4, e5, hk, hkf, strL_size, ha, hneq, hany, errA, zT5, tIns, setP, setN]
              done
            · simp -implicitDefEqProofs [hint1, own1, hq, hb, e1, e2, e3, e4, e5, hk, hkf, strL_size, ha, hneq, hany, errA, zT5, tIns, setP, setN]
              done
            · simp -implicitDefEqProofs [hint1, own1, hq, hb, e1, e2, e3, e4, e5, hk, hkf, strL_size, ha, hneq, hany, errA, zT5, tIns, setP, setN]
              done
            · have q4 : ¬ (p.toNat : Int) = 82 := hne 82 q1
              have q5 : ¬ (p.toNat : Int) = 65 := hne 65 q2
              have q6 : ¬ (p.toNat : Int) = 66 := hne 66 q3
              simp -implicitDefEqProofs [hint1, own1, hq, hb, e1, e2, e3, e4, e5, hk, hkf, strL_size, ha, hneq, hany, errA, zT5, tIns, setP, setN, q1, q2, q3, q4, q5, q6]
              done
          · rw [if_pos ha]
            rcases hp with rfl | rfl | rfl | ⟨q1, q2, q3⟩
            · simp -implicitDefEqProofs [hint1, own1, hq, hb, e1, e2, e3, e4, e5, hk, hkf, strL_size, ha, hneq, hany, errA, zT5, tIns, setP, setN]
              done
            · simp -implicitDefEqProofs [hint1, own1, hq, hb, e1, e2, e3, e4, e5, hk, hkf, strL_size, ha, hneq, hany, errA, zT5, tIns, setP, setN]
              done
            · simp -implicitDefEqProofs [hint1, own1, hq, hb, e1, e2, e3, e4, e5, hk, hkf, strL_size, ha, hneq, hany, errA, zT5, tIns, setP, setN]
              done
            · have q4 : ¬ (p.toNat : Int) = 82 := hne 82 q1
              have q5 : ¬ (p.toNat : Int) = 65 := hne 65 q2
              have q6 : ¬ (p.toNat : Int) = 66 := hne 66 q3
              simp -implicitDefEqProofs [hint1, own1, hq, hb, e1, e2, e3, e4, e5, hk, hkf, strL_size, ha, hneq, hany, errA, zT5, tIns, setP, setN, q1, q2, q3, q4, q5, q6]
              done
          · rw [if_neg (by rw [ha]; decide)]
            rcases hp with rfl | rfl | rfl | ⟨q1, q2, q3⟩
            · simp -implicitDefEqProofs [hint1, own1, hq, hb, e1, e2, e3, e4, e5, hk, hkf, strL_size, ha, hneq, hany, errA, zT5, tIns, setP, setN]
              done
            · simp -implicitDefEqProofs [hint1, own1, hq, hb, e1, e2, e3, e4, e5, hk, hkf, strL_size, ha, hneq, hany, errA, zT5, tIns, setP, setN]
              done
            · simp -implicitDefEqProofs [hint1, own1, hq, hb, e1, e2, e3, e4, e5, hk, hkf, strL_size, ha, hneq, hany, errA, zT5, tIns, setP, setN]
              done
            · have q4 : ¬ (p.toNat : Int) = 82 := hne 82 q1
              have q5 : ¬ (p.toNat : Int) = 65 := hne 65 q2
              have q6 : ¬ (p.toNat : Int) = 66 := hne 66 q3
              simp -implicitDefEqProofs [hint1, own1, hq, hb, e1, e2, e3, e4, e5, hk, hkf, strL_size, ha, hneq, hany, errA, zT5, tIns, setP, setN, q1, q2, q3, q4, q5, q6]
              done) (by
          simp only [H_ir]
          generalize XI op f ws n = x at *
          generalize ws[n] = w at *
          obtain ⟨xo, xr, xa, xb, xn⟩ := x
          simp -implicitDefEqProofs [stops, own1, hq, e1, e2, e4, e5, hn, ha, hneq, hany, errA, zT5, tIns])]
        simp only [H_ir]
        generalize XI op f ws n = x at *
        generalize ws[n] = w at *
        obtain ⟨xo, xr, xa, xb, xn⟩ := x
        simp -implicitDefEqProofs [own1, hq, e1, e2, e4, e5, hn, ha, hneq, hany, errA, zT5, tIns, zI]
        done
    · rw [if_neg (fun h => h2 h.2.1)]
      have h2a : ¬ (ws.length : Int) = (formL op).length := by omega
      have h2b : (((ws.length : Int)) != ((formL op).length : Int)) = true := by simpa using h2a
      simp -implicitDefEqProofs [hw, hN, hX, hF, own1, hsp, hnl, hnt, h1, h2, h2a, h2b, wf, strL_size, tIns, zI, zT5]
      done
  · rw [if_neg (fun h => h1 h.1)]
    simp only [Bool.not_eq_true] at h1
    simp -implicitDefEqProofs [hw, hN, hX, hF, own1, hsp, hnl, hnt, h1, tIns, zI, zT5]
    done
end Go.Proofs.YtemghdnofgjnmaaDoor.VM
