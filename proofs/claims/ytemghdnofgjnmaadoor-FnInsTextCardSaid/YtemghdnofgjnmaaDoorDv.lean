/- Draws of instructions and of lines: reckoned. -/
import Derived.Test.YtemghdnofgjnmaaDoorDr2
import Derived.Test.YtemghdnofgjnmaaDoorPc
import Derived.Test.YtemghdnofgjnmaaDoorSc
namespace Go.Proofs.YtemghdnofgjnmaaDoor.VM
open Go Go.Proofs
set_option linter.unusedSimpArgs false
set_option linter.unusedVariables false
set_option maxRecDepth 100000
set_option maxHeartbeats 20000000
theorem op28 : OpT Tryd.prog 28 (fun bs : List Int => [.r 5 bs.length (octT bs)]) (fun bs => (∀ n ∈ bs, 0 ≤ n ∧ n ≤ 255) ∧ bs.length ≤ maxLen) := ⟨fun h => by
  obtain ⟨xs, R, h1, h2, h3⟩ := (opT_slice Tryd.underlying28 (by simp) (opT_u8 Tryd.underlying5)).op h
  refine ⟨xs, R, ?_, h2, h3⟩
  have e : ∀ l : List Int, (l.flatMap fun n => [T.v (.int .u8 n)]) = octT l := fun l => by
    unfold octT
    induction l with
    | nil => rfl
    | cons x l ih => rw [List.flatMap_cons, ih]; rfl
  rw [← e xs]
  exact h1⟩
theorem run_bigD {j : Nat} (n : Nat) (l : List T) (hn : n ≤ 9223372036854775807) : M.run (j + 1) 8 [.c (.r 5 n l)] = some ([.c (.v (.bool (decide (1048576 < n))))], [.c (.r 5 n l)]) := by
  rw [m_run (fn := Tryd.f8) (i0 := 0) rfl Tryd.func8 rfl rfl (by simp)]
  simp -implicitDefEqProofs
  by_cases h : 1048576 < n
  · simp [h, show (1048576 : Int) < n by omega]
  · simp [h, show ¬ (1048576 : Int) < n by omega]
theorem z0D : ((0 : Nat) : Int) = 0 := rfl
theorem run_newD {j : Nat} {bs : List Int} (h : bs.length ≤ 1048576) : M.run (j + 1) 22 [.c (.r 5 bs.length (octT bs))] = some ([.box 64 [.h, .v (.int .i64 0), .v (.int .i64 (hashK bs (min bs.length 4000)))]], [.c (.r 5 bs.length (octT bs))]) :=
  show newG _ = _ from newG_eq h
theorem new_curD {bs : List Int} (h : bs.length ≤ 1048576) : CuOk ⟨bs, 0, hashK bs (min bs.length 4000)⟩ := ⟨Nat.zero_le _, h⟩
theorem pickS_ex {bs : List Int} {i : Nat} {h : Int} (ok : CuOk ⟨bs, i, h⟩) (l : List ByteArray) (hl : 0 < l.length ∧ l.length ≤ 256) : ∃ (v : ByteArray) (i' : Nat) (h' : Int), CuOk ⟨bs, i', h'⟩ ∧ v ∈ l ∧ ∀ j, M.run (j + 3) 34 [curT bs i h, .c (.r 9 l.length (strsT l))] = some ([.c (.v (.string v))], [curT bs i' h', .c (.r 9 l.length (strsT l))]) := by
  obtain ⟨v, i1, h1, k1, _, l1, e1⟩ := below_ex ok l.length
  have l1 := l1 (by omega)
  obtain ⟨m, rfl⟩ : ∃ m : Nat, v = m := ⟨v.toNat, by omega⟩
  have hm : m < l.length := by omega
  refine ⟨l[m], i1, h1, k1, List.getElem_mem hm, fun j => ?_⟩
  have e1 := e1 j
  have h2 := strsT_at hm
  have h3 := fun h' => strsT_get (l := l) hm h'
  generalize l[m] = z at *
  rw [m_run (fn := Tryd.f34) (i0 := 0) rfl Tryd.func34 rfl rfl (by simp [curT])]
  simp only [curT] at e1 ⊢
  simp -implicitDefEqProofs [own1, e1, hm, h2, h3]
theorem run_drawInsText {j : Nat} (bs : List Int) (hb : bs.length ≤ 1048576) : ∃ x : Ins, M.run (j + 5) 9 [.c (.r 5 bs.length (octT bs))] = some ([.agg (tIns x)], [.c (.r 5 bs.length (octT bs))]) := by
  have e0 := run_newD (j := j + 3) hb
  have k0 := new_curD hb
  generalize hashK bs (min bs.length 4000) = h0 at *
  obtain ⟨x, i1, h1, k1, sx, e1⟩ := drawIns_ex k0 8 3 (by omega) (by omega)
  have e1 := e1 j
  obtain ⟨b, i2, h2, k2, e2⟩ := once_ex k1 2
  have e2 := e2 (j + 1)
  cases b
  · refine ⟨x, ?_⟩
    rw [m_run (fn := Tryd.f9) (i0 := 0) rfl Tryd.func9 rfl rfl (by simp)]
    simp only [curT, z0D, tIns] at e1 e2 ⊢
    simp -implicitDefEqProofs [own1, St.make, maker, e0, e1, e2, ros]
  · obtain ⟨y, i3, h3, k3, _, e3⟩ := spoil_ex k2 x sx
    have e3 := e3 j
    refine ⟨y, ?_⟩
    rw [m_run (fn := Tryd.f9) (i0 := 0) rfl Tryd.func9 rfl rfl (by simp)]
    simp only [curT, z0D, tIns] at e1 e2 e3 ⊢
    simp -implicitDefEqProofs [own1, St.make, maker, e0, e1, e2, e3, ros]
theorem text_size (x : Ins) : (textS x).size ≤ 41 := by
  unfold textS
  split
  · rename_i h
    obtain ⟨g, gr, ga, gb, gn⟩ := insB_le h
    have h1 := name_len g
    have h2 := parts_len (x := x) gr ga gb gn (formL x.op)
    have h3 := formL_le x.op
    rw [strL_size]
    unfold textL
    rw [List.length_append]
    omega
  · rw [strL_size]
    simp
def pickW : List ByteArray := [strL [32], strL [48], strL [45], strL [120], strL [57], strL [32, 97, 110, 121]]
def mvS (_ : Nat) : List Nat := [0, 1, 2, 7, 8, 9, 3, 4, 5, 6, 10, 11]
theorem mach_calls {k : Nat} {f : FuncId} {as1 rs as' : List A} (h : M.run k f as1 = some (rs, as')) (w : World) (us : List Value) (Ox Rx : List Nat) (hg : Given tabG Tryd.prog w as1 us Ox Rx) : (callFunc f us.toArray).run Tryd.prog w = .ok (.enter f us.toArray) w ∧ Calls Tryd.prog f us.toArray w (AnswersX Tryd.prog w as1 us Ox rs as') :=
  sound M_ok k f as1 rs as' h w us Ox Rx hg
/-- A line is drawn. -/
theorem dir_calls {j : Nat} (hj : big + 1 ≤ j) (bs : List Int) (hb : bs.length ≤ 1048576) : ∃ s : ByteArray, s.size ≤ 1000 ∧ ∀ (w : World) (us : List Value) (Ox Rx : List Nat), Given tabG Tryd.prog w [.c (.r 5 bs.length (octT bs))] us Ox Rx → (callFunc 13 us.toArray).run Tryd.prog w = .ok (.enter 13 us.toArray) w ∧ Calls Tryd.prog 13 us.toArray w (AnswersX Tryd.prog w [.c (.r 5 bs.length (octT bs))] us Ox [.c (.v (.string s))] [.c (.r 5 bs.length (octT bs))]) := by
  have e0 := run_newD (j := j + 3) hb
  have k0 := new_curD hb
  generalize hashK bs (min bs.length 4000) = h0 at *
  obtain ⟨x, i1, h1, k1, sx, e1⟩ := drawIns_ex k0 8 3 (by omega) (by omega)
  have e1 := e1 j
  have eT := run_specText hj x
  have hT := text_size x
  generalize textS x = s at *
  obtain ⟨at_, i2, h2, k2, _, l2, e2⟩ := below_ex k1 ((s.size : Int) + 1)
  have e2 := e2 (j + 2)
  have l2 := l2 (by omega)
  obtain ⟨a, rfl⟩ : ∃ a : Nat, at_ = a := ⟨at_.toNat, by omega⟩
  obtain ⟨v, i3, h3, k3, _, l3, e3⟩ := below_ex k2 5
  have e3 := e3 (j + 2)
  have l3 := l3 (by omega)
  have w1 := w64 (x := (s.size : Int) + 1) (by omega)
  have ha : a ≤ s.size := by omega
  by_cases v0 : v = 0
  · subst v0
    refine ⟨s.extract 0 a, by have := cut_size s 0 a; omega, mach_calls (k := j + 5) ?_⟩
    rw [m_run (fn := Tryd.f13) (i0 := 0) rfl Tryd.func13 rfl rfl (by simp)]
    simp only [curT, z0D, tIns] at e1 e2 e3 eT ⊢
    simp -implicitDefEqProofs [own1, St.make, maker, e0, e1, e2, e3, eT, ros, w1, ha]
    done
  by_cases v1 : v = 1
  · subst v1
    obtain ⟨p, i4, h4, k4, hp, e4⟩ := pickS_ex k3 pickW (by decide)
    have e4 := e4 (j + 1)
    have hps : p.size ≤ 4 := by
      unfold pickW at hp
      simp only [List.mem_cons, List.not_mem_nil, or_false] at hp
      rcases hp with rfl | rfl | rfl | rfl | rfl | rfl <;> decide
    have c1 := cut_size s 0 a
    have c2 := cut_size s a s.size
    have hm : (1000 : Nat) ≤ most := by unfold most; omega
    have m1 : (s.extract 0 a).size + p.size ≤ most := by omega
    have m2 : ((s.extract 0 a) ++ p).size + (s.extract a s.size).size ≤ most := by rw [ByteArray.size_append]; omega
    have m3 : (s.extract 0 a).size + p.size + (s.extract a s.size).size ≤ most := by omega
    refine ⟨(s.extract 0 a ++ p) ++ s.extract a s.size, by rw [ByteArray.size_append, ByteArray.size_append]; omega, fun w us Ox Rx hg => ⟨prim_enter Tryd.func13 rfl rfl, ?_⟩⟩
    rw [AnswersX_none (show maker [.c (.v (.string _))] = none from rfl)]
    have hS : Sound tabG Tryd.prog (M.run (j + 4)) := sound M_ok (j + 4)
    refine func_S (E := ⟨Tryd.prog, Tryd.f13.ntmps, M.run (j + 4), own1⟩) (sc := mvS) (i0 := 0) (fn := Tryd.f13) (fun w0 mine hgd => callsOk_of hS w0 mine hgd) M_ok.mixed Tryd.func13 rfl rfl (by kernel_rfl) (by simp) ?_ hg
    rw [show pickW.length = 6 from rfl] at e4
    have hpT : strsT pickW = [.v (.string (strL [32])), .v (.string (strL [48])), .v (.string (strL [45])), .v (.string (strL [120])), .v (.string (strL [57])), .v (.string (strL [32, 97, 110, 121]))] := rfl
    rw [hpT] at e4
    have q1 : (⟨#[32]⟩ : ByteArray) = strL [32] := rfl
    have q2 : (⟨#[48]⟩ : ByteArray) = strL [48] := rfl
    have q3 : (⟨#[45]⟩ : ByteArray) = strL [45] := rfl
    have q4 : (⟨#[120]⟩ : ByteArray) = strL [120] := rfl
    have q5 : (⟨#[57]⟩ : ByteArray) = strL [57] := rfl
    have q6 : (⟨#[32, 97, 110, 121]⟩ : ByteArray) = strL [32, 97, 110, 121] := rfl
    simp only [curT, z0D, tIns] at e1 e2 e3 e4 eT ⊢
    generalize hu : s.extract 0 a = u1 at *
    generalize hv : s.extract a s.size = u2 at *
    simp -implicitDefEqProofs [mvS, own1, St.make, maker, e0, e1, e2, e3, e4, eT, ros, w1, ha, hu, hv, m1, m2, m3, q1, q2, q3, q4, q5, q6]
    done
  · have v0B : (v == 0) = false := by simpa using v0
    have v1B : (v == 1) = false := by simpa using v1
    refine ⟨s, by omega, mach_calls (k := j + 5) ?_⟩
    rw [m_run (fn := Tryd.f13) (i0 := 0) rfl Tryd.func13 rfl rfl (by simp)]
    simp only [curT, z0D, tIns] at e1 e2 e3 eT ⊢
    simp -implicitDefEqProofs [own1, St.make, maker, e0, e1, e2, e3, eT, ros, w1, ha, v0, v1, v0B, v1B]
    done
end Go.Proofs.YtemghdnofgjnmaaDoor.VM
