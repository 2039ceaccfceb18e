/- What is told by hand of one function, and that it is so: which parts an instruction has. The machine. -/
import Derived.Test.YtbdidcfjaohglaaHas
import Derived.Laws.AppendOwn
namespace Go.Proofs.Ytbdidcfjaohglaa.VM
open Go Go.Proofs
set_option linter.unusedSimpArgs false
set_option linter.unusedVariables false
set_option maxRecDepth 100000
def g66 : List A → Ans
  | [.c (.v (.int .i64 op)), .c (.v (.int .u8 p))] => some ([.c (.v (.bool (hasB op p)))], [.c (.v (.int .i64 op)), .c (.v (.int .u8 p))])
  | _ => none
noncomputable def E66 : Env := ⟨Try.prog, 16, M0.run (big + 5), own1⟩
theorem by8_bytes (op : Int) : bytesT (formS op) = by8 (formL op) := by simp [bytesT, by8, formS]
theorem formS_len (op : Int) : (formS op).size = (formL op).length := by simp [formS, ByteArray.size]
theorem formL_le (op : Int) : (formL op).length ≤ 3 := by unfold formL; (repeat' split) <;> simp
set_option maxHeartbeats 4000000 in
theorem has_calls (op p : Int) {w : World} {us : List Value} {Ox Rx : List Nat} (hg : Given Try.prog w [.c (.v (.int .i64 op)), .c (.v (.int .u8 p))] us Ox Rx) :
    Calls Try.prog 124 us.toArray w (Answers Try.prog w [.c (.v (.int .i64 op)), .c (.v (.int .u8 p))] us Ox [.c (.v (.bool (hasB op p)))] [.c (.v (.int .i64 op)), .c (.v (.int .u8 p))]) := by
  have hs : Sound E66.P E66.run := sound M0_ok (big + 5)
  have hcalls : ∀ w0 mine, CallsOk E66 w0 mine := fun w0 mine => callsOk_of hs w0 mine
  have hdraws : ∀ w0 mine, DrawsOk E66 w0 mine := fun w0 mine => draws_sound (callsOk_of hs w0 mine) M0_ok.mixed
  refine func_of (E := E66) (i0 := 0) (fn := Try.f124) (x := .ret) (σ := ⟨[(0, .c (.v (.int .i64 op))), (1, .c (.v (.int .u8 p))), (4, .c (.v (.bool (hasB op p)))), (5, .c (.v (.string (formS op)))), (6, .c (.v (.bool (formB op)))), (7, .tup [.c (.v (.string (formS op))), .c (.v (.bool (formB op)))]), (8, .c (.v (.int .i64 op))), (9, .tup [.c (.v (.string (formS op))), .c (.v (.bool (formB op)))]), (10, .c (.v (.string (formS op)))), (11, .c (.v (.bool (formB op))))], []⟩) Try.func124 rfl rfl (by simp [enter.enters, enter, enterC, E66]) hg ?_ (by simp -implicitDefEqProofs [E66])
  intro c a loc O R Q hc hn hQ
  refine wp_seq (exec_sound (hcalls _ _) (hdraws _ _) (k := 1) (hint := fun _ => ([], [])) (x := .normal) (σ1 := ⟨[(0, .c (.v (.int .i64 op))), (1, .c (.v (.int .u8 p))), (4, .c (.v (.bool false)))], []⟩) _ rfl hc hn (by simp -implicitDefEqProofs [E66]) fun a1 w1 loc1 O1 R1 hc1 hn1 hd1 => ?_)
  refine wp_seq (exec_sound (hcalls _ _) (hdraws _ _) (k := 1) (hint := fun _ => ([], [])) (x := .normal) (σ1 := ⟨[(0, .c (.v (.int .i64 op))), (1, .c (.v (.int .u8 p))), (4, .c (.v (.bool false))), (5, .c (.v (.string (formS op)))), (6, .c (.v (.bool (formB op)))), (7, .tup [.c (.v (.string (formS op))), .c (.v (.bool (formB op)))]), (8, .c (.v (.int .i64 op))), (9, .tup [.c (.v (.string (formS op))), .c (.v (.bool (formB op)))]), (10, .c (.v (.string (formS op)))), (11, .c (.v (.bool (formB op))))], []⟩) _ rfl hc1 hn1 (by simp -implicitDefEqProofs [E66, form63, own1]) fun a2 w2 loc2 O2 R2 hc2 hn2 hd2 => ?_)
  refine wp_seq (wp_region ?_)
  rw [show ∀ (ops : Array Oper) (Q : Exit → Act → World → Prop), wpOps E66.P ops Q (List.range ops.size) = wpList E66.P ops Q ops.toList from fun ops Q => by
    rw [List.range_eq_range', ← Array.length_toList]
    exact wpOps_eq_wpList ops.toList 0 (fun j => by simp)]
  have hr : E66.run 127 [.c (.r 5 (formS op).size (bytesT (formS op))), .c (.v (.int .u8 p))] = some ([.c (.v (.bool (hasB op p)))], [.c (.r 5 (formL op).length (by8 (formL op))), .c (.v (.int .u8 p))]) := by
    rw [by8_bytes, formS_len]
    exact run87 (j := big + 3) (by omega) (formL op) p (by have := formL_le op; omega)
  refine conv_region hs rfl rfl rfl rfl rfl rfl rfl rfl rfl rfl rfl rfl rfl rfl rfl (by simp [E66]) (by decide) (s := formS op) (p := p) (rv := .bool (hasB op p)) (by show Try.prog.underlying 9 = _; rw [Try.underlying9]) (by show Try.prog.underlying 68 = _; rw [Try.underlying68]) (by show Try.prog.underlying 5 = _; rw [Try.underlying5]) (by show Try.prog.cellsOf 5 = _; simp) (fun w => ⟨grownCap_le_maxLen w _ _ _ (by rw [formS_len]; have := formL_le op; unfold maxLen; omega), grownCap_ge w _ _ _⟩) rfl hr hc2 hn2 (by simp [St.ev, lk]) (fun d hd => by simp at hd; subst hd; decide) ⟨_, rfl⟩ (by simp [St.ev, lk]) ?_
  intro a3 w3 loc3 O3 R3 hc3 hn3 hd3
  exact wp_ret (hQ a3 w3 loc3 O3 R3 (by simpa [ins, del] using hc3) hn3 (hd3.trans (hd2.trans hd1)))
end Go.Proofs.Ytbdidcfjaohglaa.VM
