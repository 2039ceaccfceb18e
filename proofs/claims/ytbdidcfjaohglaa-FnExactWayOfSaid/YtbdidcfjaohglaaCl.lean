/- Rows that are copied: what is told by hand of slices.Clone. -/
import Derived.Test.YtbdidcfjaohglaaHas2
import Derived.Test.YtbdidcfjaohglaaPr3
namespace Go.Proofs.Ytbdidcfjaohglaa.VM
open Go Go.Proofs Go.Proofs.YtbdidcfjaohglaaW.PrintWords
set_option linter.unusedSimpArgs false
set_option linter.unusedVariables false
set_option maxRecDepth 100000
set_option maxHeartbeats 4000000
noncomputable def ECLint : Env := ⟨Try.prog, 8, fun _ _ => none, fun _ _ => false⟩
theorem clone_int : PrimOk Try.prog 60 (cloneG 3) := by
  intro args rs args' hg w us Ox Rx hgv
  refine ⟨prim_enter Try.func60 rfl rfl, ?_⟩
  unfold cloneG at hg
  split at hg
  · rename_i e' n xs
    split at hg
    · rename_i hc
      obtain ⟨rfl, hv, hm⟩ := hc
      simp only [Option.some.injEq, Prod.mk.injEq] at hg
      obtain ⟨rfl, rfl⟩ := hg
      have hs : Sound ECLint.P ECLint.run := fun f xs rs ys h => by cases h
      have hcalls : ∀ w0 mine, CallsOk ECLint w0 mine := fun w0 mine => callsOk_of hs w0 mine
      have hdraws : ∀ w0 mine, DrawsOk ECLint w0 mine := fun w0 mine => draws_sound (callsOk_of hs w0 mine) M0_ok.mixed
      obtain ⟨A, c, rfl, hN⟩ := given_row hgv
      have hlen : xs.length = n * Try.prog.cellsOf 3 := by
        have h := hgv.rep
        rw [RepAs] at h
        obtain ⟨u, us', O1, R1, O2, R2, _, h1, _⟩ := h
        rw [RepA, RepT] at h1
        obtain ⟨_, A', c', vs, R', _, _, _, _, hl, _, hr, _⟩ := h1
        rw [← hl, RepTs_len hr]
      have hz : n = 0 → xs = [] := fun h => by subst h; rw [Nat.zero_mul] at hlen; exact List.length_eq_zero_iff.1 hlen
      have hm' := hm
      rw [hlen] at hm'
      simp -implicitDefEqProofs at hm'
      refine func_any (E := ECLint) (i0 := 0) (fn := Try.f60) Try.func60 rfl rfl (by simp [enter.enters, enter, enterC, ECLint]) hgv ?_
      intro c0 a loc O R Q hc hn hQ
      refine wp_seq (exec_sound (hcalls _ _) (hdraws _ _) (k := 1) (hint := fun _ => ([], [])) (x := .normal) (σ1 := ⟨[(0, .c (.sl 0 [] 0 n)), (2, .c .z)], [(0, ⟨.ro, 3, xs⟩)]⟩) _ rfl hc hn (by simp -implicitDefEqProofs [ECLint]) fun a1 w1 loc1 O1 R1 hc1 hn1 hd1 => ?_)
      obtain ⟨A1, c1, hu1, hN1⟩ := sl_val hc1 (c_rep (rep_ev (x := .tmp 0) (av := .c (.sl 0 [] 0 n)) hc1.tm (by simp [St.ev, lk]))) (k := .ro) (e := 3) (xs := xs) (by simp [lk]) (by show 0 < Try.prog.cellsOf 3; simp)
      refine wp_seq (wp_seq (wp_region ?_))
      rw [show ∀ (ops : Array Oper) (Q : Exit → Act → World → Prop), wpOps ECLint.P ops Q (List.range ops.size) = wpList ECLint.P ops Q ops.toList from fun ops Q => by
        rw [List.range_eq_range', ← Array.length_toList]
        exact wpOps_eq_wpList ops.toList 0 (fun j => by simp)]
      refine nil_region rfl rfl rfl rfl rfl rfl (by simp [ECLint]) (by show Try.prog.underlying 29 = _; rw [Try.underlying29]) hc1 hn1 (av := .c (.sl 0 [] 0 n)) (by simp [St.ev, lk]) hu1 fun a2 hc2 hn2 hd2 => ?_
      cases A1 with
      | none =>
        obtain rfl := hN1 rfl
        obtain rfl := hz rfl
        refine exec_sound (hcalls _ _) (hdraws _ _) (k := 1) (hint := fun _ => ([], [])) (x := .ret) (σ1 := ⟨[(0, .c (.sl 0 [] 0 0)), (2, .c .z), (3, .c (.sl 0 [] 0 0)), (4, .c (.v (.bool true)))], [(0, ⟨.ro, 3, []⟩)]⟩) _ rfl hc2 hn2 (by simp -implicitDefEqProofs [ECLint]) fun a3 w3 loc3 O3 R3 hc3 hn3 hd3 => ?_
        exact hQ .ret _ a3 w3 loc3 O3 R3 (by simp -implicitDefEqProofs [ECLint]) hc3 hn3 (hd3.trans (hd2.trans hd1))
      | some ad =>
        refine exec_sound (hcalls _ _) (hdraws _ _) (k := 1) (hint := fun _ => ([], [])) (x := .normal) (σ1 := ⟨[(0, .c (.sl 0 [] 0 n)), (2, .c .z), (3, .c (.sl 0 [] 0 n)), (4, .c (.v (.bool false)))], [(0, ⟨.ro, 3, xs⟩)]⟩) _ rfl hc2 hn2 (by simp -implicitDefEqProofs [ECLint]) fun a3 w3 loc3 O3 R3 hc3 hn3 hd3 => ?_
        refine exec_sound (hcalls _ _) (hdraws _ _) (k := 1) (hint := fun _ => ([], [])) (x := .ret) (σ1 := ⟨[(0, .c (.sl 0 [] 0 n)), (2, .c (.sl 384 [] 0 n)), (3, .c (.sl 0 [] 0 n)), (4, .c (.v (.bool false))), (6, .c (.sl 0 [] 0 n)), (7, .c (.sl 384 [] 0 n))], [(0, ⟨.ro, 3, xs⟩), (384, ⟨.own, 3, xs⟩)]⟩) _ rfl hc3 hn3 (by simp -implicitDefEqProofs [ECLint, hv, hm, hm', hlen, List.take_of_length_le]) fun a4 w4 loc4 O4 R4 hc4 hn4 hd4 => ?_
        exact hQ .ret _ a4 w4 loc4 O4 R4 (by simp -implicitDefEqProofs [ECLint, hv, hm, hm', hlen, List.take_of_length_le]) hc4 hn4 (hd4.trans (hd3.trans (hd2.trans hd1)))
    · simp at hg
  · simp at hg
noncomputable def ECLitem : Env := ⟨Try.prog, 8, fun _ _ => none, fun _ _ => false⟩
theorem clone_item : PrimOk Try.prog 70 (cloneG 106) := by
  intro args rs args' hg w us Ox Rx hgv
  refine ⟨prim_enter Try.func70 rfl rfl, ?_⟩
  unfold cloneG at hg
  split at hg
  · rename_i e' n xs
    split at hg
    · rename_i hc
      obtain ⟨rfl, hv, hm⟩ := hc
      simp only [Option.some.injEq, Prod.mk.injEq] at hg
      obtain ⟨rfl, rfl⟩ := hg
      have hs : Sound ECLitem.P ECLitem.run := fun f xs rs ys h => by cases h
      have hcalls : ∀ w0 mine, CallsOk ECLitem w0 mine := fun w0 mine => callsOk_of hs w0 mine
      have hdraws : ∀ w0 mine, DrawsOk ECLitem w0 mine := fun w0 mine => draws_sound (callsOk_of hs w0 mine) M0_ok.mixed
      obtain ⟨A, c, rfl, hN⟩ := given_row hgv
      have hlen : xs.length = n * Try.prog.cellsOf 106 := by
        have h := hgv.rep
        rw [RepAs] at h
        obtain ⟨u, us', O1, R1, O2, R2, _, h1, _⟩ := h
        rw [RepA, RepT] at h1
        obtain ⟨_, A', c', vs, R', _, _, _, _, hl, _, hr, _⟩ := h1
        rw [← hl, RepTs_len hr]
      have hz : n = 0 → xs = [] := fun h => by subst h; rw [Nat.zero_mul] at hlen; exact List.length_eq_zero_iff.1 hlen
      have hm' := hm
      rw [hlen] at hm'
      simp -implicitDefEqProofs at hm'
      refine func_any (E := ECLitem) (i0 := 0) (fn := Try.f70) Try.func70 rfl rfl (by simp [enter.enters, enter, enterC, ECLitem]) hgv ?_
      intro c0 a loc O R Q hc hn hQ
      refine wp_seq (exec_sound (hcalls _ _) (hdraws _ _) (k := 1) (hint := fun _ => ([], [])) (x := .normal) (σ1 := ⟨[(0, .c (.sl 0 [] 0 n)), (2, .c .z)], [(0, ⟨.ro, 106, xs⟩)]⟩) _ rfl hc hn (by simp -implicitDefEqProofs [ECLitem]) fun a1 w1 loc1 O1 R1 hc1 hn1 hd1 => ?_)
      obtain ⟨A1, c1, hu1, hN1⟩ := sl_val hc1 (c_rep (rep_ev (x := .tmp 0) (av := .c (.sl 0 [] 0 n)) hc1.tm (by simp [St.ev, lk]))) (k := .ro) (e := 106) (xs := xs) (by simp [lk]) (by show 0 < Try.prog.cellsOf 106; simp)
      refine wp_seq (wp_seq (wp_region ?_))
      rw [show ∀ (ops : Array Oper) (Q : Exit → Act → World → Prop), wpOps ECLitem.P ops Q (List.range ops.size) = wpList ECLitem.P ops Q ops.toList from fun ops Q => by
        rw [List.range_eq_range', ← Array.length_toList]
        exact wpOps_eq_wpList ops.toList 0 (fun j => by simp)]
      refine nil_region rfl rfl rfl rfl rfl rfl (by simp [ECLitem]) (by show Try.prog.underlying 43 = _; rw [Try.underlying43]) hc1 hn1 (av := .c (.sl 0 [] 0 n)) (by simp [St.ev, lk]) hu1 fun a2 hc2 hn2 hd2 => ?_
      cases A1 with
      | none =>
        obtain rfl := hN1 rfl
        obtain rfl := hz rfl
        refine exec_sound (hcalls _ _) (hdraws _ _) (k := 1) (hint := fun _ => ([], [])) (x := .ret) (σ1 := ⟨[(0, .c (.sl 0 [] 0 0)), (2, .c .z), (3, .c (.sl 0 [] 0 0)), (4, .c (.v (.bool true)))], [(0, ⟨.ro, 106, []⟩)]⟩) _ rfl hc2 hn2 (by simp -implicitDefEqProofs [ECLitem]) fun a3 w3 loc3 O3 R3 hc3 hn3 hd3 => ?_
        exact hQ .ret _ a3 w3 loc3 O3 R3 (by simp -implicitDefEqProofs [ECLitem]) hc3 hn3 (hd3.trans (hd2.trans hd1))
      | some ad =>
        refine exec_sound (hcalls _ _) (hdraws _ _) (k := 1) (hint := fun _ => ([], [])) (x := .normal) (σ1 := ⟨[(0, .c (.sl 0 [] 0 n)), (2, .c .z), (3, .c (.sl 0 [] 0 n)), (4, .c (.v (.bool false)))], [(0, ⟨.ro, 106, xs⟩)]⟩) _ rfl hc2 hn2 (by simp -implicitDefEqProofs [ECLitem]) fun a3 w3 loc3 O3 R3 hc3 hn3 hd3 => ?_
        refine exec_sound (hcalls _ _) (hdraws _ _) (k := 1) (hint := fun _ => ([], [])) (x := .ret) (σ1 := ⟨[(0, .c (.sl 0 [] 0 n)), (2, .c (.sl 384 [] 0 n)), (3, .c (.sl 0 [] 0 n)), (4, .c (.v (.bool false))), (6, .c (.sl 0 [] 0 n)), (7, .c (.sl 384 [] 0 n))], [(0, ⟨.ro, 106, xs⟩), (384, ⟨.own, 106, xs⟩)]⟩) _ rfl hc3 hn3 (by simp -implicitDefEqProofs [ECLitem, hv, hm, hm', hlen, List.take_of_length_le]) fun a4 w4 loc4 O4 R4 hc4 hn4 hd4 => ?_
        exact hQ .ret _ a4 w4 loc4 O4 R4 (by simp -implicitDefEqProofs [ECLitem, hv, hm, hm', hlen, List.take_of_length_le]) hc4 hn4 (hd4.trans (hd3.trans (hd2.trans hd1)))
    · simp at hg
  · simp at hg
end Go.Proofs.Ytbdidcfjaohglaa.VM
