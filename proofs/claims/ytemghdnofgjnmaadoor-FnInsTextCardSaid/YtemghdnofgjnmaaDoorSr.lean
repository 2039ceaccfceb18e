/- A line read as an instruction, by the specification: reckoned. -/
import Derived.Test.YtemghdnofgjnmaaDoorSd
namespace Go.Proofs.YtemghdnofgjnmaaDoor.VM
open Go Go.Proofs
set_option linter.unusedSimpArgs false
set_option linter.unusedVariables false
set_option maxRecDepth 100000
set_option maxHeartbeats 40000000
def H_sr1 (line w0 : ByteArray) (ws : List ByteArray) (i : Nat) : St := ⟨[(0, .c (.v (.string line))), (2, .ptr 192 [] 0), (4, .c (.sl 896 [] 0 (ws.length + 1))), (5, .ptr 384 [] 0), (6, .c (.sl 1024 [] 0 12)), (7, .c (.v (.int .i64 ((i : Int) + 1))))], [(192, ⟨.box, 23, zT5 0⟩), (384, ⟨.box, 23, zT5 (opR w0 i)⟩), (896, ⟨.own, 9, .v (.string w0) :: strsT ws⟩), (1024, ⟨.own, 9, namesT⟩)]⟩
def H_sr2 (line w0 : ByteArray) (ws : List ByteArray) (k : Nat) : St := ⟨[(0, .c (.v (.string line))), (2, .ptr 192 [] 0), (4, .c (.sl 896 [] 0 (ws.length + 1))), (5, .ptr 384 [] 0), (8, .c (.sl 2112 [] 0 k)), (9, .c (.v (.int .i64 ((k : Int) + 1))))], [(192, ⟨.box, 23, zT5 0⟩), (384, ⟨.box, 23, zT5 (opR w0 11)⟩), (896, ⟨.own, 9, .v (.string w0) :: strsT ws⟩), (2112, ⟨.own, 3, ints ((ws.take k).map valR)⟩)]⟩
theorem run_specRead {j : Nat} (hj : big + 1 ≤ j) (line w0 : ByteArray) (ws : List ByteArray) (hl : line.size ≤ 1048576) (hW : wS line = w0 :: ws) (hsz : ∀ w ∈ ws, w.size ≤ 1048576) (hlen : ws.length ≤ 1048576) : M.run (j + 5) 5 [.c (.v (.string line))] = some ([.agg (tIns (specI line w0 ws).1), .c (.v (.bool (specI line w0 ws).2))], [.c (.v (.string line))]) := by
  have hw := run_l1Words (j := j + 3) (by omega) line hl
  have hN := run_l1Names (j := j + 3)
  have hR := fun (w : ByteArray) (h : w.size ≤ 1048576) => run_l1Read (j := j + 3) (by omega) w h
  have hT := fun x => run_specText hj x
  have hany : (⟨#[97, 110, 121]⟩ : ByteArray) = anyS := rfl
  have hnil : (⟨#[]⟩ : ByteArray) = strL [] := rfl
  rw [hW, strsT_cons, List.length_cons] at hw
  have hlen12 : namesT.length = 12 := rfl
  have hz5 : zT5 0 = [.v (.int .i64 0), .v (.int .i64 0), .v (.int .i64 0), .v (.int .i64 0), .v (.int .i64 0)] := rfl
  rw [m_run (fn := Tryd.f5) (i0 := 0) rfl Tryd.func5 rfl rfl (by simp)]
  simp -implicitDefEqProofs [hw, hN, own1]
  rw [loop_to (H_sr1 line w0 ws) 11 (by simp -implicitDefEqProofs [H_sr1, hint1, zT5, opR, namesT]; done) (by simp -implicitDefEqProofs [big] at hj; omega) (fun i hi => by
    have hr0 := name_row (op := (i : Int) + 1) (by omega)
    rw [show ((i : Int) + 1).toNat = i + 1 by omega] at hr0
    have hr2 : ∀ h, namesT[i + 1]'h = .v (.string (strL (nameL ((i : Int) + 1)))) := fun h => by rw [List.getElem?_eq_getElem h] at hr0; injection hr0
    simp only [H_sr1]
    rw [opR]
    have e0 := w64 (x := (i : Int) + 1 + 1) (by omega)
    have e1 : (i : Int) + 1 < 12 := by omega
    have e2 : (0 : Int) ≤ (i : Int) + 1 := by omega
    have e3 : i + 1 < 12 := by omega
    have e4 : i < 11 := hi
    have e5 : (i : Int) < 11 := by omega
    generalize strL (nameL ((i : Int) + 1)) = nm at *
    generalize opR w0 i = o at *
    by_cases h : (nm == w0) = true
    · rw [if_pos h]
      simp -implicitDefEqProofs [zT5, hint1, own1, hr0, hr2, hlen12, e0, e1, e2, e3, e4, e5, h]
      done
    · rw [if_neg h]
      simp only [Bool.not_eq_true] at h
      simp -implicitDefEqProofs [zT5, hint1, own1, hr0, hr2, hlen12, e0, e1, e2, e3, e4, e5, h]
      done) (by simp -implicitDefEqProofs [H_sr1, stops])]
  have hmap : ∀ k, k < min 4 ws.length → (ws.take (k + 1)).map valR = (ws.take k).map valR ++ [valR (ws[k]!)] := fun k hk => by
    have h : k < ws.length := by omega
    rw [List.take_succ_eq_append_getElem h, List.map_append, getElem!_pos ws k h]
    rfl
  have hround : ∀ k, k < min 4 ws.length → okR (ws[k]!) = true → ∀ q : Nat, True := fun _ _ _ _ => trivial
  simp -implicitDefEqProofs [H_sr1]
  rcases first_bad okR (ws.take 4) with hc | ⟨n, hn, hc, hg⟩
  · have hall : (ws.take 4).all okR = true := all_of hc
    unfold specI
    rw [if_pos hall]
    rw [loop_to (H_sr2 line w0 ws) (min 4 ws.length) (by simp -implicitDefEqProofs [H_sr2, hint1, zT5, ints]; done) (by simp -implicitDefEqProofs [big] at hj; omega) (fun k hk => by
      have f4 : k < ws.length := by omega
      have hk4 : k < (ws.take 4).length := by rw [List.length_take]; omega
      have hok := hc k hk4
      rw [List.getElem_take] at hok
      have hm := hmap k hk
      rw [getElem!_pos ws k f4] at hm
      have hq := hR ws[k] (hsz _ (List.getElem_mem _))
      have h2 := strsT_at f4
      have h3 := fun h' => strsT_get (l := ws) f4 h'
      simp only [H_sr2]
      rw [hm]
      have hkl : ((ws.take k).map valR).length = k := by rw [List.length_map, List.length_take]; omega
      generalize (ws.take k).map valR = vs at *
      generalize ws[k] = w at *
      have f1 : (k : Int) + 1 < ws.length + 1 := by omega
      have f2 : (k : Int) + 1 < 5 := by omega
      have f3 : (0 : Int) ≤ (k : Int) + 1 := by omega
      have f5 : k + 1 < 5 := by omega
      have f6 : k < 4 := by omega
      have f7 : (k : Int) < 4 := by omega
      have f8 : (k : Int) < ws.length := by omega
      have f9 := w64 (x := (k : Int) + 1 + 1) (by omega)
      have fm : k + 1 ≤ most := by unfold most; omega
      unfold okR at hok
      unfold valR
      have hi : ints (vs ++ [if (w == anyS) = true then 9 else (readR w).1]) = ints vs ++ [.v (.int .i64 (if (w == anyS) = true then 9 else (readR w).1))] := by simp [ints]
      have hil : (ints vs).length = k := by rw [ints_len]; exact hkl
      have hit : (ints vs).take k = ints vs := List.take_of_length_le (by omega)
      rw [hi]
      by_cases h : (w == anyS) = true
      · rw [if_pos h]
        simp -implicitDefEqProofs [zT5, hint1, own1, hq, h2, h3, hany, h, hil, hit, f1, f2, f3, f4, f5, f6, f7, f8, f9, fm]
        done
      · rw [if_neg h]
        simp only [Bool.not_eq_true] at h
        rw [h] at hok
        simp only [Bool.false_or] at hok
        simp -implicitDefEqProofs [zT5, hint1, own1, hq, h2, h3, hany, h, hok, hil, hit, f1, f2, f3, f4, f5, f6, f7, f8, f9, fm]
        done) (by
      simp only [H_sr2]
      have hm4 : (min 4 ws.length = 4 ∧ 4 ≤ ws.length) ∨ (min 4 ws.length = ws.length ∧ ¬ 4 < ws.length) := by omega
      rcases hm4 with ⟨hm4, hm5⟩ | ⟨hm4, hm5⟩
      · rw [hm4]
        by_cases hm6 : 4 < ws.length
        · have hm7 : (4 : Int) < ws.length := by omega
          have hm8 : (5 : Int) < (ws.length : Int) + 1 := by omega
          simp -implicitDefEqProofs [stops, hm6, hm7, hm8]
        · have hm7 : ¬ (4 : Int) < ws.length := by omega
          have hm8 : ¬ (5 : Int) < (ws.length : Int) + 1 := by omega
          simp -implicitDefEqProofs [stops, hm6, hm7, hm8]
      · rw [hm4]
        simp -implicitDefEqProofs [stops])]
    have htk : (ws.take 4).map valR = (ws.take (min 4 ws.length)).map valR := by
      by_cases h : ws.length ≤ 4
      · rw [show min 4 ws.length = ws.length by omega, List.take_of_length_le h, List.take_length]
      · rw [show min 4 ws.length = 4 by omega]
    rw [htk]
    simp only [H_sr2]
    have hkl : ((ws.take (min 4 ws.length)).map valR).length = min 4 ws.length := by rw [List.length_map, List.length_take]; omega
    have hL : ((min 4 ws.length = 4 ∧ 4 ≤ ws.length) ∨ (min 4 ws.length = ws.length ∧ ¬ 4 < ws.length)) := by omega
    obtain ⟨r3, hr3⟩ := nth3 ((ws.take (min 4 ws.length)).map valR)
    have hop := opR_le w0 11
    generalize (ws.take (min 4 ws.length)).map valR = vs at *
    generalize min 4 ws.length = L at *
    generalize nthQ vs 0 = a at *
    generalize nthQ vs 1 = b at *
    generalize nthQ vs 2 = c at *
    generalize opR w0 11 = op at *
    have eq0 : ints vs ++ [.v (.int .i64 0), .v (.int .i64 0), .v (.int .i64 0)] = .v (.int .i64 a) :: .v (.int .i64 b) :: .v (.int .i64 c) :: ints r3 := by
      have := ints_append vs [0, 0, 0]
      rw [hr3] at this
      exact this.symm
    have hr3l : r3.length = L := by
      have := congrArg List.length hr3
      simp at this
      omega
    have hil : (ints vs).length = L := by rw [ints_len]; exact hkl
    have hvt : vs.take L = vs := List.take_of_length_le (by omega)
    have hLm : L + 3 ≤ most := by unfold most; omega
    have g0 : (0 : Int) < (L : Int) + 3 := by omega
    have g1 : (1 : Int) < (L : Int) + 3 := by omega
    have g2 : (2 : Int) < (L : Int) + 3 := by omega
    have g3 : 0 < L + 3 := by omega
    have g4 : 1 < L + 3 := by omega
    have g5 : 2 < L + 3 := by omega
    have hex : (¬ (L : Int) < ws.length ∧ ¬ L < ws.length ∧ ¬ (L : Int) + 1 < (ws.length : Int) + 1) ∨ ((L : Int) < ws.length ∧ L < ws.length ∧ (L : Int) + 1 < (ws.length : Int) + 1 ∧ L = 4) := by omega
    clear hr3 htk hround hmap hsz hc hall
    have hopc : op = 0 ∨ op = 1 ∨ op = 2 ∨ op = 3 ∨ op = 4 ∨ op = 5 ∨ op = 6 ∨ op = 7 ∨ op = 8 ∨ op = 9 ∨ op = 10 ∨ op = 11 := by omega
    unfold outI
    rcases hopc with rfl | rfl | rfl | rfl | rfl | rfl | rfl | rfl | rfl | rfl | rfl | rfl
    · have ht := hT (⟨0, 0, 0, 0, 0⟩)
      rw [show fillI 0 a b c = ⟨0, 0, 0, 0, 0⟩ from rfl]
      simp only [tIns] at ht
      generalize textS (⟨0, 0, 0, 0, 0⟩) = tx at *
      rcases hex with ⟨hx1, hx2, hx3⟩ | ⟨hx1, hx2, hx3, rfl⟩
      · cases h1 : line == strL []
        · cases h2 : tx != line
          · simp -implicitDefEqProofs [zT5, own1, ht, hnil, hil, hvt, eq0, hLm, g0, g1, g2, g3, g4, g5, hr3l, h1, h2, hx1, hx2, hx3, tIns]
            done
          · simp -implicitDefEqProofs [zT5, own1, ht, hnil, hil, hvt, eq0, hLm, g0, g1, g2, g3, g4, g5, hr3l, h1, h2, hx1, hx2, hx3, tIns, zI]
            done
        · simp -implicitDefEqProofs [zT5, own1, ht, hnil, hil, hvt, eq0, hLm, g0, g1, g2, g3, g4, g5, hr3l, h1, hx1, hx2, hx3, tIns, zI]
          done
      · have hx4 : (5 : Int) < (ws.length : Int) + 1 := by omega
        cases h1 : line == strL []
        · cases h2 : tx != line
          · simp -implicitDefEqProofs [zT5, own1, ht, hnil, hil, hvt, eq0, hLm, g0, g1, g2, g3, g4, g5, hr3l, h1, h2, hx1, hx2, hx3, hx4, tIns]
            done
          · simp -implicitDefEqProofs [zT5, own1, ht, hnil, hil, hvt, eq0, hLm, g0, g1, g2, g3, g4, g5, hr3l, h1, h2, hx1, hx2, hx3, hx4, tIns, zI]
            done
        · simp -implicitDefEqProofs [zT5, own1, ht, hnil, hil, hvt, eq0, hLm, g0, g1, g2, g3, g4, g5, hr3l, h1, hx1, hx2, hx3, hx4, tIns, zI]
          done
    · have ht := hT (⟨1, a, 0, 0, b⟩)
      rw [show fillI 1 a b c = ⟨1, a, 0, 0, b⟩ from rfl]
      simp only [tIns] at ht
      generalize textS (⟨1, a, 0, 0, b⟩) = tx at *
      rcases hex with ⟨hx1, hx2, hx3⟩ | ⟨hx1, hx2, hx3, rfl⟩
      · cases h1 : line == strL []
        · cases h2 : tx != line
          · simp -implicitDefEqProofs [zT5, own1, ht, hnil, hil, hvt, eq0, hLm, g0, g1, g2, g3, g4, g5, hr3l, h1, h2, hx1, hx2, hx3, tIns]
            done
          · simp -implicitDefEqProofs [zT5, own1, ht, hnil, hil, hvt, eq0, hLm, g0, g1, g2, g3, g4, g5, hr3l, h1, h2, hx1, hx2, hx3, tIns, zI]
            done
        · simp -implicitDefEqProofs [zT5, own1, ht, hnil, hil, hvt, eq0, hLm, g0, g1, g2, g3, g4, g5, hr3l, h1, hx1, hx2, hx3, tIns, zI]
          done
      · have hx4 : (5 : Int) < (ws.length : Int) + 1 := by omega
        cases h1 : line == strL []
        · cases h2 : tx != line
          · simp -implicitDefEqProofs [zT5, own1, ht, hnil, hil, hvt, eq0, hLm, g0, g1, g2, g3, g4, g5, hr3l, h1, h2, hx1, hx2, hx3, hx4, tIns]
            done
          · simp -implicitDefEqProofs [zT5, own1, ht, hnil, hil, hvt, eq0, hLm, g0, g1, g2, g3, g4, g5, hr3l, h1, h2, hx1, hx2, hx3, hx4, tIns, zI]
            done
        · simp -implicitDefEqProofs [zT5, own1, ht, hnil, hil, hvt, eq0, hLm, g0, g1, g2, g3, g4, g5, hr3l, h1, hx1, hx2, hx3, hx4, tIns, zI]
          done
    · have ht := hT (⟨2, a, b, c, 0⟩)
      rw [show fillI 2 a b c = ⟨2, a, b, c, 0⟩ from rfl]
      simp only [tIns] at ht
      generalize textS (⟨2, a, b, c, 0⟩) = tx at *
      rcases hex with ⟨hx1, hx2, hx3⟩ | ⟨hx1, hx2, hx3, rfl⟩
      · cases h1 : line == strL []
        · cases h2 : tx != line
          · simp -implicitDefEqProofs [zT5, own1, ht, hnil, hil, hvt, eq0, hLm, g0, g1, g2, g3, g4, g5, hr3l, h1, h2, hx1, hx2, hx3, tIns]
            done
          · simp -implicitDefEqProofs [zT5, own1, ht, hnil, hil, hvt, eq0, hLm, g0, g1, g2, g3, g4, g5, hr3l, h1, h2, hx1, hx2, hx3, tIns, zI]
            done
        · simp -implicitDefEqProofs [zT5, own1, ht, hnil, hil, hvt, eq0, hLm, g0, g1, g2, g3, g4, g5, hr3l, h1, hx1, hx2, hx3, tIns, zI]
          done
      · have hx4 : (5 : Int) < (ws.length : Int) + 1 := by omega
        cases h1 : line == strL []
        · cases h2 : tx != line
          · simp -implicitDefEqProofs [zT5, own1, ht, hnil, hil, hvt, eq0, hLm, g0, g1, g2, g3, g4, g5, hr3l, h1, h2, hx1, hx2, hx3, hx4, tIns]
            done
          · simp -implicitDefEqProofs [zT5, own1, ht, hnil, hil, hvt, eq0, hLm, g0, g1, g2, g3, g4, g5, hr3l, h1, h2, hx1, hx2, hx3, hx4, tIns, zI]
            done
        · simp -implicitDefEqProofs [zT5, own1, ht, hnil, hil, hvt, eq0, hLm, g0, g1, g2, g3, g4, g5, hr3l, h1, hx1, hx2, hx3, hx4, tIns, zI]
          done
    · have ht := hT (⟨3, a, b, c, 0⟩)
      rw [show fillI 3 a b c = ⟨3, a, b, c, 0⟩ from rfl]
      simp only [tIns] at ht
      generalize textS (⟨3, a, b, c, 0⟩) = tx at *
      rcases hex with ⟨hx1, hx2, hx3⟩ | ⟨hx1, hx2, hx3, rfl⟩
      · cases h1 : line == strL []
        · cases h2 : tx != line
          · simp -implicitDefEqProofs [zT5, own1, ht, hnil, hil, hvt, eq0, hLm, g0, g1, g2, g3, g4, g5, hr3l, h1, h2, hx1, hx2, hx3, tIns]
            done
          · simp -implicitDefEqProofs [zT5, own1, ht, hnil, hil, hvt, eq0, hLm, g0, g1, g2, g3, g4, g5, hr3l, h1, h2, hx1, hx2, hx3, tIns, zI]
            done
        · simp -implicitDefEqProofs [zT5, own1, ht, hnil, hil, hvt, eq0, hLm, g0, g1, g2, g3, g4, g5, hr3l, h1, hx1, hx2, hx3, tIns, zI]
          done
      · have hx4 : (5 : Int) < (ws.length : Int) + 1 := by omega
        cases h1 : line == strL []
        · cases h2 : tx != line
          · simp -implicitDefEqProofs [zT5, own1, ht, hnil, hil, hvt, eq0, hLm, g0, g1, g2, g3, g4, g5, hr3l, h1, h2, hx1, hx2, hx3, hx4, tIns]
            done
          · simp -implicitDefEqProofs [zT5, own1, ht, hnil, hil, hvt, eq0, hLm, g0, g1, g2, g3, g4, g5, hr3l, h1, h2, hx1, hx2, hx3, hx4, tIns, zI]
            done
        · simp -implicitDefEqProofs [zT5, own1, ht, hnil, hil, hvt, eq0, hLm, g0, g1, g2, g3, g4, g5, hr3l, h1, hx1, hx2, hx3, hx4, tIns, zI]
          done
    · have ht := hT (⟨4, a, b, c, 0⟩)
      rw [show fillI 4 a b c = ⟨4, a, b, c, 0⟩ from rfl]
      simp only [tIns] at ht
      generalize textS (⟨4, a, b, c, 0⟩) = tx at *
      rcases hex with ⟨hx1, hx2, hx3⟩ | ⟨hx1, hx2, hx3, rfl⟩
      · cases h1 : line == strL []
        · cases h2 : tx != line
          · simp -implicitDefEqProofs [zT5, own1, ht, hnil, hil, hvt, eq0, hLm, g0, g1, g2, g3, g4, g5, hr3l, h1, h2, hx1, hx2, hx3, tIns]
            done
          · simp -implicitDefEqProofs [zT5, own1, ht, hnil, hil, hvt, eq0, hLm, g0, g1, g2, g3, g4, g5, hr3l, h1, h2, hx1, hx2, hx3, tIns, zI]
            done
        · simp -implicitDefEqProofs [zT5, own1, ht, hnil, hil, hvt, eq0, hLm, g0, g1, g2, g3, g4, g5, hr3l, h1, hx1, hx2, hx3, tIns, zI]
          done
      · have hx4 : (5 : Int) < (ws.length : Int) + 1 := by omega
        cases h1 : line == strL []
        · cases h2 : tx != line
          · simp -implicitDefEqProofs [zT5, own1, ht, hnil, hil, hvt, eq0, hLm, g0, g1, g2, g3, g4, g5, hr3l, h1, h2, hx1, hx2, hx3, hx4, tIns]
            done
          · simp -implicitDefEqProofs [zT5, own1, ht, hnil, hil, hvt, eq0, hLm, g0, g1, g2, g3, g4, g5, hr3l, h1, h2, hx1, hx2, hx3, hx4, tIns, zI]
            done
        · simp -implicitDefEqProofs [zT5, own1, ht, hnil, hil, hvt, eq0, hLm, g0, g1, g2, g3, g4, g5, hr3l, h1, hx1, hx2, hx3, hx4, tIns, zI]
          done
    · have ht := hT (⟨5, a, b, c, 0⟩)
      rw [show fillI 5 a b c = ⟨5, a, b, c, 0⟩ from rfl]
      simp only [tIns] at ht
      generalize textS (⟨5, a, b, c, 0⟩) = tx at *
      rcases hex with ⟨hx1, hx2, hx3⟩ | ⟨hx1, hx2, hx3, rfl⟩
      · cases h1 : line == strL []
        · cases h2 : tx != line
          · simp -implicitDefEqProofs [zT5, own1, ht, hnil, hil, hvt, eq0, hLm, g0, g1, g2, g3, g4, g5, hr3l, h1, h2, hx1, hx2, hx3, tIns]
            done
          · simp -implicitDefEqProofs [zT5, own1, ht, hnil, hil, hvt, eq0, hLm, g0, g1, g2, g3, g4, g5, hr3l, h1, h2, hx1, hx2, hx3, tIns, zI]
            done
        · simp -implicitDefEqProofs [zT5, own1, ht, hnil, hil, hvt, eq0, hLm, g0, g1, g2, g3, g4, g5, hr3l, h1, hx1, hx2, hx3, tIns, zI]
          done
      · have hx4 : (5 : Int) < (ws.length : Int) + 1 := by omega
        cases h1 : line == strL []
        · cases h2 : tx != line
          · simp -implicitDefEqProofs [zT5, own1, ht, hnil, hil, hvt, eq0, hLm, g0, g1, g2, g3, g4, g5, hr3l, h1, h2, hx1, hx2, hx3, hx4, tIns]
            done
          · simp -implicitDefEqProofs [zT5, own1, ht, hnil, hil, hvt, eq0, hLm, g0, g1, g2, g3, g4, g5, hr3l, h1, h2, hx1, hx2, hx3, hx4, tIns, zI]
            done
        · simp -implicitDefEqProofs [zT5, own1, ht, hnil, hil, hvt, eq0, hLm, g0, g1, g2, g3, g4, g5, hr3l, h1, hx1, hx2, hx3, hx4, tIns, zI]
          done
    · have ht := hT (⟨6, 0, b, 0, a⟩)
      rw [show fillI 6 a b c = ⟨6, 0, b, 0, a⟩ from rfl]
      simp only [tIns] at ht
      generalize textS (⟨6, 0, b, 0, a⟩) = tx at *
      rcases hex with ⟨hx1, hx2, hx3⟩ | ⟨hx1, hx2, hx3, rfl⟩
      · cases h1 : line == strL []
        · cases h2 : tx != line
          · simp -implicitDefEqProofs [zT5, own1, ht, hnil, hil, hvt, eq0, hLm, g0, g1, g2, g3, g4, g5, hr3l, h1, h2, hx1, hx2, hx3, tIns]
            done
          · simp -implicitDefEqProofs [zT5, own1, ht, hnil, hil, hvt, eq0, hLm, g0, g1, g2, g3, g4, g5, hr3l, h1, h2, hx1, hx2, hx3, tIns, zI]
            done
        · simp -implicitDefEqProofs [zT5, own1, ht, hnil, hil, hvt, eq0, hLm, g0, g1, g2, g3, g4, g5, hr3l, h1, hx1, hx2, hx3, tIns, zI]
          done
      · have hx4 : (5 : Int) < (ws.length : Int) + 1 := by omega
        cases h1 : line == strL []
        · cases h2 : tx != line
          · simp -implicitDefEqProofs [zT5, own1, ht, hnil, hil, hvt, eq0, hLm, g0, g1, g2, g3, g4, g5, hr3l, h1, h2, hx1, hx2, hx3, hx4, tIns]
            done
          · simp -implicitDefEqProofs [zT5, own1, ht, hnil, hil, hvt, eq0, hLm, g0, g1, g2, g3, g4, g5, hr3l, h1, h2, hx1, hx2, hx3, hx4, tIns, zI]
            done
        · simp -implicitDefEqProofs [zT5, own1, ht, hnil, hil, hvt, eq0, hLm, g0, g1, g2, g3, g4, g5, hr3l, h1, hx1, hx2, hx3, hx4, tIns, zI]
          done
    · have ht := hT (⟨7, a, 0, 0, b⟩)
      rw [show fillI 7 a b c = ⟨7, a, 0, 0, b⟩ from rfl]
      simp only [tIns] at ht
      generalize textS (⟨7, a, 0, 0, b⟩) = tx at *
      rcases hex with ⟨hx1, hx2, hx3⟩ | ⟨hx1, hx2, hx3, rfl⟩
      · cases h1 : line == strL []
        · cases h2 : tx != line
          · simp -implicitDefEqProofs [zT5, own1, ht, hnil, hil, hvt, eq0, hLm, g0, g1, g2, g3, g4, g5, hr3l, h1, h2, hx1, hx2, hx3, tIns]
            done
          · simp -implicitDefEqProofs [zT5, own1, ht, hnil, hil, hvt, eq0, hLm, g0, g1, g2, g3, g4, g5, hr3l, h1, h2, hx1, hx2, hx3, tIns, zI]
            done
        · simp -implicitDefEqProofs [zT5, own1, ht, hnil, hil, hvt, eq0, hLm, g0, g1, g2, g3, g4, g5, hr3l, h1, hx1, hx2, hx3, tIns, zI]
          done
      · have hx4 : (5 : Int) < (ws.length : Int) + 1 := by omega
        cases h1 : line == strL []
        · cases h2 : tx != line
          · simp -implicitDefEqProofs [zT5, own1, ht, hnil, hil, hvt, eq0, hLm, g0, g1, g2, g3, g4, g5, hr3l, h1, h2, hx1, hx2, hx3, hx4, tIns]
            done
          · simp -implicitDefEqProofs [zT5, own1, ht, hnil, hil, hvt, eq0, hLm, g0, g1, g2, g3, g4, g5, hr3l, h1, h2, hx1, hx2, hx3, hx4, tIns, zI]
            done
        · simp -implicitDefEqProofs [zT5, own1, ht, hnil, hil, hvt, eq0, hLm, g0, g1, g2, g3, g4, g5, hr3l, h1, hx1, hx2, hx3, hx4, tIns, zI]
          done
    · have ht := hT (⟨8, 0, a, 0, 0⟩)
      rw [show fillI 8 a b c = ⟨8, 0, a, 0, 0⟩ from rfl]
      simp only [tIns] at ht
      generalize textS (⟨8, 0, a, 0, 0⟩) = tx at *
      rcases hex with ⟨hx1, hx2, hx3⟩ | ⟨hx1, hx2, hx3, rfl⟩
      · cases h1 : line == strL []
        · cases h2 : tx != line
          · simp -implicitDefEqProofs [zT5, own1, ht, hnil, hil, hvt, eq0, hLm, g0, g1, g2, g3, g4, g5, hr3l, h1, h2, hx1, hx2, hx3, tIns]
            done
          · simp -implicitDefEqProofs [zT5, own1, ht, hnil, hil, hvt, eq0, hLm, g0, g1, g2, g3, g4, g5, hr3l, h1, h2, hx1, hx2, hx3, tIns, zI]
            done
        · simp -implicitDefEqProofs [zT5, own1, ht, hnil, hil, hvt, eq0, hLm, g0, g1, g2, g3, g4, g5, hr3l, h1, hx1, hx2, hx3, tIns, zI]
          done
      · have hx4 : (5 : Int) < (ws.length : Int) + 1 := by omega
        cases h1 : line == strL []
        · cases h2 : tx != line
          · simp -implicitDefEqProofs [zT5, own1, ht, hnil, hil, hvt, eq0, hLm, g0, g1, g2, g3, g4, g5, hr3l, h1, h2, hx1, hx2, hx3, hx4, tIns]
            done
          · simp -implicitDefEqProofs [zT5, own1, ht, hnil, hil, hvt, eq0, hLm, g0, g1, g2, g3, g4, g5, hr3l, h1, h2, hx1, hx2, hx3, hx4, tIns, zI]
            done
        · simp -implicitDefEqProofs [zT5, own1, ht, hnil, hil, hvt, eq0, hLm, g0, g1, g2, g3, g4, g5, hr3l, h1, hx1, hx2, hx3, hx4, tIns, zI]
          done
    · have ht := hT (⟨9, 0, 0, 0, a⟩)
      rw [show fillI 9 a b c = ⟨9, 0, 0, 0, a⟩ from rfl]
      simp only [tIns] at ht
      generalize textS (⟨9, 0, 0, 0, a⟩) = tx at *
      rcases hex with ⟨hx1, hx2, hx3⟩ | ⟨hx1, hx2, hx3, rfl⟩
      · cases h1 : line == strL []
        · cases h2 : tx != line
          · simp -implicitDefEqProofs [zT5, own1, ht, hnil, hil, hvt, eq0, hLm, g0, g1, g2, g3, g4, g5, hr3l, h1, h2, hx1, hx2, hx3, tIns]
            done
          · simp -implicitDefEqProofs [zT5, own1, ht, hnil, hil, hvt, eq0, hLm, g0, g1, g2, g3, g4, g5, hr3l, h1, h2, hx1, hx2, hx3, tIns, zI]
            done
        · simp -implicitDefEqProofs [zT5, own1, ht, hnil, hil, hvt, eq0, hLm, g0, g1, g2, g3, g4, g5, hr3l, h1, hx1, hx2, hx3, tIns, zI]
          done
      · have hx4 : (5 : Int) < (ws.length : Int) + 1 := by omega
        cases h1 : line == strL []
        · cases h2 : tx != line
          · simp -implicitDefEqProofs [zT5, own1, ht, hnil, hil, hvt, eq0, hLm, g0, g1, g2, g3, g4, g5, hr3l, h1, h2, hx1, hx2, hx3, hx4, tIns]
            done
          · simp -implicitDefEqProofs [zT5, own1, ht, hnil, hil, hvt, eq0, hLm, g0, g1, g2, g3, g4, g5, hr3l, h1, h2, hx1, hx2, hx3, hx4, tIns, zI]
            done
        · simp -implicitDefEqProofs [zT5, own1, ht, hnil, hil, hvt, eq0, hLm, g0, g1, g2, g3, g4, g5, hr3l, h1, hx1, hx2, hx3, hx4, tIns, zI]
          done
    · have ht := hT (⟨10, 0, a, 0, b⟩)
      rw [show fillI 10 a b c = ⟨10, 0, a, 0, b⟩ from rfl]
      simp only [tIns] at ht
      generalize textS (⟨10, 0, a, 0, b⟩) = tx at *
      rcases hex with ⟨hx1, hx2, hx3⟩ | ⟨hx1, hx2, hx3, rfl⟩
      · cases h1 : line == strL []
        · cases h2 : tx != line
          · simp -implicitDefEqProofs [zT5, own1, ht, hnil, hil, hvt, eq0, hLm, g0, g1, g2, g3, g4, g5, hr3l, h1, h2, hx1, hx2, hx3, tIns]
            done
          · simp -implicitDefEqProofs [zT5, own1, ht, hnil, hil, hvt, eq0, hLm, g0, g1, g2, g3, g4, g5, hr3l, h1, h2, hx1, hx2, hx3, tIns, zI]
            done
        · simp -implicitDefEqProofs [zT5, own1, ht, hnil, hil, hvt, eq0, hLm, g0, g1, g2, g3, g4, g5, hr3l, h1, hx1, hx2, hx3, tIns, zI]
          done
      · have hx4 : (5 : Int) < (ws.length : Int) + 1 := by omega
        cases h1 : line == strL []
        · cases h2 : tx != line
          · simp -implicitDefEqProofs [zT5, own1, ht, hnil, hil, hvt, eq0, hLm, g0, g1, g2, g3, g4, g5, hr3l, h1, h2, hx1, hx2, hx3, hx4, tIns]
            done
          · simp -implicitDefEqProofs [zT5, own1, ht, hnil, hil, hvt, eq0, hLm, g0, g1, g2, g3, g4, g5, hr3l, h1, h2, hx1, hx2, hx3, hx4, tIns, zI]
            done
        · simp -implicitDefEqProofs [zT5, own1, ht, hnil, hil, hvt, eq0, hLm, g0, g1, g2, g3, g4, g5, hr3l, h1, hx1, hx2, hx3, hx4, tIns, zI]
          done
    · have ht := hT (⟨11, 0, 0, 0, 0⟩)
      rw [show fillI 11 a b c = ⟨11, 0, 0, 0, 0⟩ from rfl]
      simp only [tIns] at ht
      generalize textS (⟨11, 0, 0, 0, 0⟩) = tx at *
      rcases hex with ⟨hx1, hx2, hx3⟩ | ⟨hx1, hx2, hx3, rfl⟩
      · cases h1 : line == strL []
        · cases h2 : tx != line
          · simp -implicitDefEqProofs [zT5, own1, ht, hnil, hil, hvt, eq0, hLm, g0, g1, g2, g3, g4, g5, hr3l, h1, h2, hx1, hx2, hx3, tIns]
            done
          · simp -implicitDefEqProofs [zT5, own1, ht, hnil, hil, hvt, eq0, hLm, g0, g1, g2, g3, g4, g5, hr3l, h1, h2, hx1, hx2, hx3, tIns, zI]
            done
        · simp -implicitDefEqProofs [zT5, own1, ht, hnil, hil, hvt, eq0, hLm, g0, g1, g2, g3, g4, g5, hr3l, h1, hx1, hx2, hx3, tIns, zI]
          done
      · have hx4 : (5 : Int) < (ws.length : Int) + 1 := by omega
        cases h1 : line == strL []
        · cases h2 : tx != line
          · simp -implicitDefEqProofs [zT5, own1, ht, hnil, hil, hvt, eq0, hLm, g0, g1, g2, g3, g4, g5, hr3l, h1, h2, hx1, hx2, hx3, hx4, tIns]
            done
          · simp -implicitDefEqProofs [zT5, own1, ht, hnil, hil, hvt, eq0, hLm, g0, g1, g2, g3, g4, g5, hr3l, h1, h2, hx1, hx2, hx3, hx4, tIns, zI]
            done
        · simp -implicitDefEqProofs [zT5, own1, ht, hnil, hil, hvt, eq0, hLm, g0, g1, g2, g3, g4, g5, hr3l, h1, hx1, hx2, hx3, hx4, tIns, zI]
          done
  · have hall : ¬ (ws.take 4).all okR = true := fun h => by
      have := List.all_eq_true.1 h _ (List.getElem_mem hn)
      rw [this] at hc
      cases hc
    unfold specI
    rw [if_neg hall]
    have hn4 : n < min 4 ws.length := by rw [List.length_take] at hn; omega
    have f4 : n < ws.length := by omega
    rw [List.getElem_take] at hc
    have hc' : okR (ws[n]'f4) = false := hc
    rw [loop_to (H_sr2 line w0 ws) n (by simp -implicitDefEqProofs [H_sr2, hint1, zT5, ints]; done) (by simp -implicitDefEqProofs [big] at hj; omega) (fun k hk2 => by
      have hk : k < min 4 ws.length := by omega
      have f4 : k < ws.length := by omega
      have hk4 : k < (ws.take 4).length := by rw [List.length_take]; omega
      have hok := hg k hk2
      rw [List.getElem_take] at hok
      have hm := hmap k hk
      rw [getElem!_pos ws k f4] at hm
      have hq := hR ws[k] (hsz _ (List.getElem_mem _))
      have h2 := strsT_at f4
      have h3 := fun h' => strsT_get (l := ws) f4 h'
      simp only [H_sr2]
      rw [hm]
      have hkl : ((ws.take k).map valR).length = k := by rw [List.length_map, List.length_take]; omega
      generalize (ws.take k).map valR = vs at *
      generalize ws[k] = w at *
      have f1 : (k : Int) + 1 < ws.length + 1 := by omega
      have f2 : (k : Int) + 1 < 5 := by omega
      have f3 : (0 : Int) ≤ (k : Int) + 1 := by omega
      have f5 : k + 1 < 5 := by omega
      have f6 : k < 4 := by omega
      have f7 : (k : Int) < 4 := by omega
      have f8 : (k : Int) < ws.length := by omega
      have f9 := w64 (x := (k : Int) + 1 + 1) (by omega)
      have fm : k + 1 ≤ most := by unfold most; omega
      unfold okR at hok
      unfold valR
      have hi : ints (vs ++ [if (w == anyS) = true then 9 else (readR w).1]) = ints vs ++ [.v (.int .i64 (if (w == anyS) = true then 9 else (readR w).1))] := by simp [ints]
      have hil : (ints vs).length = k := by rw [ints_len]; exact hkl
      have hit : (ints vs).take k = ints vs := List.take_of_length_le (by omega)
      rw [hi]
      by_cases h : (w == anyS) = true
      · rw [if_pos h]
        simp -implicitDefEqProofs [zT5, hint1, own1, hq, h2, h3, hany, h, hil, hit, f1, f2, f3, f4, f5, f6, f7, f8, f9, fm]
        done
      · rw [if_neg h]
        simp only [Bool.not_eq_true] at h
        rw [h] at hok
        simp only [Bool.false_or] at hok
        simp -implicitDefEqProofs [zT5, hint1, own1, hq, h2, h3, hany, h, hok, hil, hit, f1, f2, f3, f4, f5, f6, f7, f8, f9, fm]
        done) (by
      have hq := hR ws[n] (hsz _ (List.getElem_mem _))
      have h2 := strsT_at f4
      have h3 := fun h' => strsT_get (l := ws) f4 h'
      simp only [H_sr2]
      generalize (ws.take n).map valR = vs at *
      generalize ws[n] = w at *
      have f1 : (n : Int) + 1 < ws.length + 1 := by omega
      have f2 : (n : Int) + 1 < 5 := by omega
      have f3 : (0 : Int) ≤ (n : Int) + 1 := by omega
      have f6 : n < 4 := by omega
      have f7 : (n : Int) < 4 := by omega
      have f8 : (n : Int) < ws.length := by omega
      unfold okR at hc'
      rw [Bool.or_eq_false_iff] at hc'
      obtain ⟨h, hok⟩ := hc'
      simp -implicitDefEqProofs [stops, zT5, hint1, own1, hq, h2, h3, hany, h, hok, f1, f2, f3, f4, f6, f7, f8])]
    have hq := hR ws[n] (hsz _ (List.getElem_mem _))
    have h2 := strsT_at f4
    have h3 := fun h' => strsT_get (l := ws) f4 h'
    simp only [H_sr2]
    generalize (ws.take n).map valR = vs at *
    generalize ws[n] = w at *
    have f1 : (n : Int) + 1 < ws.length + 1 := by omega
    have f2 : (n : Int) + 1 < 5 := by omega
    have f3 : (0 : Int) ≤ (n : Int) + 1 := by omega
    have f6 : n < 4 := by omega
    have f7 : (n : Int) < 4 := by omega
    have f8 : (n : Int) < ws.length := by omega
    unfold okR at hc'
    rw [Bool.or_eq_false_iff] at hc'
    obtain ⟨h, hok⟩ := hc'
    simp -implicitDefEqProofs [zT5, hint1, own1, hq, h2, h3, hany, h, hok, f1, f2, f3, f4, f6, f7, f8, tIns, zI]
end Go.Proofs.YtemghdnofgjnmaaDoor.VM
