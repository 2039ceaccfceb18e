/- A region that makes bytes of a text, and asks a function of them. -/
import Derived.Test.YtbdidcfjaohglaaPr
namespace Go.Proofs.Ytbdidcfjaohglaa.VM
open Go Go.Proofs Go.Proofs.YtbdidcfjaohglaaW.PrintWords
set_option linter.unusedVariables false
set_option linter.unusedSimpArgs false
variable {P : Program} {w w1 w2 w0 : World} {mine : Ctx} {o o1 o2 : OM} {loc loc1 loc2 : Nat → Value} {O R : Nat → List Nat} {σ σ1 σ2 : St} {a : Act}

/-- A text's bytes, as a row's cells. -/
def bytesT (s : ByteArray) : List T := s.data.toList.map fun b => .v (.int .u8 b.toNat)
theorem bytesT_len (s : ByteArray) : (bytesT s).length = s.size := by simp [bytesT]
theorem reps_bytes : ∀ (l : List UInt8), RepTs P w (l.map fun b => T.v (.int .u8 b.toNat)) (l.map fun b => Value.int .u8 b.toNat) [] []
  | [] => by rw [List.map_nil, List.map_nil, RepTs]; exact ⟨rfl, rfl, rfl⟩
  | b :: l => by
    rw [List.map_cons, List.map_cons, RepTs]
    refine ⟨_, _, [], [], [], [], rfl, ?_, reps_bytes l, rfl, rfl⟩
    rw [RepT]
    exact ⟨rfl, rfl, rfl, rfl⟩
theorem still_bytes (w : World) (e : TypeId) (s : ByteArray) : Still w (Lib.bytesWorld w e s) := ⟨rfl, rfl, rfl⟩
theorem Cor.drop (h : Cor P w0 mine σ a w loc O R) {d : Nat} (hd : d < a.tmps.size) (v : Value) : Cor P w0 mine ⟨del σ.t d, σ.o⟩ (a.put (some d) v) w loc O R :=
  ⟨h.inv, fun d' v' hl => by
    rw [lk_del _ _ _ h.st] at hl
    split at hl
    · simp at hl
    · rename_i hne
      rw [getD_put _ _ _ _ hd, if_neg hne]
      exact h.tm d' v' hl, srt_del _ _ h.st, h.so, h.par⟩
theorem wp_mv {x : Oper} {y : Operand} (ho : x.op = .move y ∨ x.op = .assign y) {K : Act → World → Prop} {Q : Exit → Act → World → Prop} (hK : K (a.put x.dst (a.eval y)) w) : x.wp P a w K Q := by
  refine wp_value ?_ hK
  unfold execOp
  rcases ho with ho | ho <;> rw [ho] <;> rfl
/-- Bytes of a text: a new row. -/
theorem wp_conv {x : Oper} {src dst e : TypeId} {y : Operand} {s : ByteArray} {u : TypeDesc} (ho : x.op = .convert src dst y) (hy : a.eval y = .string s) (hs : P.underlying src = some u) (hd : P.underlying dst = some (.slice e)) (he : P.underlying e = some (.int .u8))
    {K : Act → World → Prop} {Q : Exit → Act → World → Prop} (hK : K (a.put x.dst (.slice (some ⟨w.heap.size, 0, none⟩) s.size (grownCap w s.size 0 e))) (Lib.bytesWorld w e s)) : x.wp P a w K Q := by
  refine wp_value ?_ hK
  unfold execOp
  rw [ho]
  simp only [hy, Sem.run_bind, Lib.run_convert_string_bytes w src dst e s hs hd he]
  rfl
theorem cell_same {v v' : World} {ad : Addr} (h : v'.heap[ad.block]? = v.heap[ad.block]?) : v'.cell? ad = v.cell? ad := by
  simp [World.cell?, h]
/-- The new row, as an argument. -/
theorem given_bytes (w : World) (e : TypeId) (s : ByteArray) (hc : P.cellsOf e = 1) (hm : grownCap w s.size 0 e ≤ maxLen) (hn : s.size ≤ grownCap w s.size 0 e) (p : Int) :
    ∃ Rx, Given P (Lib.bytesWorld w e s) [.c (.r e s.size (bytesT s)), .c (.v (.int .u8 p))] [.slice (some ⟨w.heap.size, 0, none⟩) s.size (grownCap w s.size 0 e), .int .u8 p] [] Rx := by
  refine ⟨(hdrB (some ⟨w.heap.size, 0, none⟩) s.size ++ []) ++ ([] ++ []), ?_, by simp [knowns, A.known, known], List.nodup_nil, fun b hb => by simp at hb, fun b hb => ?_⟩
  · rw [RepAs]
    refine ⟨_, _, [], _, [], _, rfl, ?_, ?_, rfl, rfl⟩
    · rw [RepA, RepT]
      refine ⟨rfl, some ⟨w.heap.size, 0, none⟩, _, s.data.toList.map fun b => Value.int .u8 b.toNat, [], rfl, hn, hm, fun _ => ⟨_, rfl, rfl⟩, by simp [hc], fun j x hx => ⟨_, rfl, ?_⟩, reps_bytes _, rfl⟩
      have hj : j < s.size := by
        have := (List.getElem?_eq_some_iff.1 hx).1
        simpa using this
      have e1 : Addr.add ⟨w.heap.size, 0, none⟩ j = ⟨w.heap.size, j, none⟩ := by unfold Addr.add; split <;> simp_all
      rw [e1, Lib.bytesWorld_cell w e s j hj]
      rw [List.getElem?_map] at hx
      obtain ⟨b, hb, rfl⟩ := Option.map_eq_some_iff.1 hx
      simp [List.getD, hb]
    · rw [RepAs]
      refine ⟨_, [], [], [], [], [], rfl, ?_, ?_, rfl, rfl⟩
      · rw [RepA, RepT]
        exact ⟨rfl, rfl, rfl, rfl⟩
      · rw [RepAs]
        exact ⟨rfl, rfl, rfl⟩
  · have hb : b ∈ hdrB (some ⟨w.heap.size, 0, none⟩) s.size := by simpa using hb
    unfold hdrB at hb
    simp only at hb
    split at hb
    · simp at hb
    · simp only [List.mem_singleton] at hb
      subst hb
      rw [Lib.bytesWorld_size]
      exact ⟨by omega, by simp⟩
/-- A call that only tells. -/
theorem wp_tell {x : Oper} {run : FuncId → List A → Ans} (hrun : Sound P run) {g : FuncId} {args : Array Operand} {ts : Array TypeId} (ho : x.op = .call { callee := .value (.func g), args := args, argTypes := ts }) {as as' : List A} {us : List Value} (hus : (args.map a.eval) = us.toArray) {Rx : List Nat} (hg : Given P w as us [] Rx) {rv : Value} (hr : run g as = some ([.c (.v rv)], as'))
    {K : Act → World → Prop} {Q : Exit → Act → World → Prop} (hK : ∀ w', w.heap.size ≤ w'.heap.size → Still w w' → (∀ b, b < w.heap.size → w'.heap[b]? = w.heap[b]?) → K (a.put x.dst rv) w') : x.wp P a w K Q := by
  obtain ⟨k1, k2⟩ := hrun g as _ _ hr w us [] Rx hg
  unfold Oper.wp
  have he : (execOp a.eval x).run P w = .ok (.enter g us.toArray) w := by
    unfold execOp
    rw [ho]
    have hfe : a.eval (.func g) = .func (.func g) #[] #[] := rfl
    simp only [resolve, hfe, Deferred.ofValue, Sem.run_bind, Sem.run_pure, Result.andThen_ok, invoke, hus]
    have : (#[] ++ us.toArray ++ #[]) = us.toArray := by simp
    rw [this]
    exact k1
  rw [he]
  show Calls P g us.toArray w _
  refine k2.mono fun e w' he => ?_
  cases e with
  | returned v' =>
    obtain ⟨vs, O1, O2, rfl, hl⟩ := he
    have hrep := hl.rep
    rw [RepAs] at hrep
    obtain ⟨u, us', Oa, Ra, Ob, Rb, rfl, h1, h2, _⟩ := hrep
    rw [RepA, RepT] at h1
    rw [RepAs] at h2
    obtain ⟨rfl, _⟩ := h1
    obtain ⟨rfl, _⟩ := h2
    exact hK w' hl.size hl.still (fun b hb => hl.kept b hb (by simp))
  | panicked chain => exact he.elim
  | outgrown => exact he.elim
/-- Five operations: a text, its bytes, a byte, the question, the answer. -/
theorem conv_region {E : Env} (hrun : Sound E.P E.run) {ops : Array Oper} {x0 x1 x2 x3 x4 : Oper} {y0 y2 : Operand} {d0 d1 d2 d3 d4 : Nat} {src dst e : TypeId} {g : FuncId} {ts : Array TypeId} {u : TypeDesc} {s : ByteArray} {p : Int} {rv : Value} {as' : List A}
    (h0 : x0.op = .move y0) (q0 : x0.dst = some d0) (g0 : x0.guard = none)
    (h1 : x1.op = .convert src dst (.tmp d0)) (q1 : x1.dst = some d1) (g1 : x1.guard = none)
    (h2 : x2.op = .move y2) (q2 : x2.dst = some d2) (g2 : x2.guard = none)
    (h3 : x3.op = .call { callee := .value (.func g), args := #[.tmp d1, .tmp d2], argTypes := ts }) (q3 : x3.dst = some d3) (g3 : x3.guard = none)
    (h4 : x4.op = .assign (.tmp d3)) (q4 : x4.dst = some d4) (g4 : x4.guard = none)
    (hd : d0 < E.n ∧ d1 < E.n ∧ d2 < E.n ∧ d3 < E.n ∧ d4 < E.n) (hne : d2 ≠ d1)
    (hs : E.P.underlying src = some u) (hds : E.P.underlying dst = some (.slice e)) (he : E.P.underlying e = some (.int .u8)) (hc : E.P.cellsOf e = 1)
    (hcap : ∀ w, grownCap w s.size 0 e ≤ maxLen ∧ s.size ≤ grownCap w s.size 0 e)
    (hone : rv.oneCell' = true)
    (hr : E.run g [.c (.r e s.size (bytesT s)), .c (.v (.int .u8 p))] = some ([.c (.v rv)], as'))
    (h : Cor E.P w0 mine σ a w loc O R) (hn : a.tmps.size = E.n) (hy0 : σ.ev y0 = some (.c (.v (.string s)))) (hy2 : ∀ d, y2 = .tmp d → d ≠ d0 ∧ d ≠ d1) (hyt : ∃ d, y2 = .tmp d) (hy2v : σ.ev y2 = some (.c (.v (.int .u8 p)))) {Q : Exit → Act → World → Prop}
    (hQ : ∀ a' w' loc' O' R', Cor E.P w0 mine ⟨ins (del (del (del (del σ.t d0) d1) d2) d3) d4 (.c (.v rv)), σ.o⟩ a' w' loc' O' R' → a'.tmps.size = E.n → a'.defers = a.defers → Q .normal a' w') : wpList E.P ops Q [x0, x1, x2, x3, x4] a w := by
  have e0 : a.eval y0 = .string s := (rep_int (rep_ev h.tm hy0)).1
  have e2 : a.eval y2 = .int .u8 p := (rep_int (rep_ev h.tm hy2v)).1
  have wt : ∀ {x : Oper} {t : Array Value}, x.guard = none → Region.wanted x (yielded ops t) = true := fun hg => by unfold Region.wanted; rw [hg]
  obtain ⟨b0, b1, b2, b3, b4⟩ := hd
  rw [wpList, wt g0, if_pos rfl]
  refine .inl (wp_mv (.inl h0) ?_)
  rw [q0, e0]
  have c0 := h.drop (d := d0) (by rw [hn]; exact b0) (.string s)
  have n0 : (a.put (some d0) (.string s)).tmps.size = E.n := by rw [put_size]; exact hn
  have v0 : (a.put (some d0) (.string s)).eval (.tmp d0) = .string s := by
    show (a.put (some d0) (.string s)).tmps.getD d0 undef = _
    rw [getD_put _ _ _ _ (by rw [hn]; exact b0), if_pos rfl]
  obtain ⟨dy, rfl⟩ := hyt
  obtain ⟨m1, m2⟩ := hy2 dy rfl
  have v2 : (a.put (some d0) (.string s)).tmps.getD dy undef = .int .u8 p := by
    rw [getD_put _ _ _ _ (by rw [hn]; exact b0), if_neg (Ne.symm m1)]
    exact e2
  generalize ha1 : a.put (some d0) (.string s) = a1 at *
  rw [wpList, wt g1, if_pos rfl]
  refine .inl (wp_conv h1 v0 hs hds he ?_)
  rw [q1]
  obtain ⟨k1, k2⟩ := hcap w
  have c1 := (c0.grow (by rw [Lib.bytesWorld_size]; omega) (still_bytes w e s) (fun b hb => Lib.bytesWorld_at_old w e s b hb)).drop (d := d1) (by rw [n0]; exact b1) (.slice (some ⟨w.heap.size, 0, none⟩) s.size (grownCap w s.size 0 e))
  have n1 : (a1.put (some d1) (.slice (some ⟨w.heap.size, 0, none⟩) s.size (grownCap w s.size 0 e))).tmps.size = E.n := by rw [put_size]; exact n0
  have v1 : (a1.put (some d1) (.slice (some ⟨w.heap.size, 0, none⟩) s.size (grownCap w s.size 0 e))).tmps.getD d1 undef = .slice (some ⟨w.heap.size, 0, none⟩) s.size (grownCap w s.size 0 e) := by
    rw [getD_put _ _ _ _ (by rw [n0]; exact b1), if_pos rfl]
  have v2' : (a1.put (some d1) (.slice (some ⟨w.heap.size, 0, none⟩) s.size (grownCap w s.size 0 e))).tmps.getD dy undef = .int .u8 p := by
    rw [getD_put _ _ _ _ (by rw [n0]; exact b1), if_neg (Ne.symm m2)]
    exact v2
  have dd1 : (a1.put (some d1) (.slice (some ⟨w.heap.size, 0, none⟩) s.size (grownCap w s.size 0 e))).defers = a1.defers := rfl
  generalize ha2 : a1.put (some d1) (.slice (some ⟨w.heap.size, 0, none⟩) s.size (grownCap w s.size 0 e)) = a2 at *
  rw [wpList, wt g2, if_pos rfl]
  refine .inl (wp_mv (.inl h2) ?_)
  rw [q2, show a2.eval (.tmp dy) = .int .u8 p from v2']
  have c2 := c1.drop (d := d2) (by rw [n1]; exact b2) (.int .u8 p)
  have n2 : (a2.put (some d2) (.int .u8 p)).tmps.size = E.n := by rw [put_size]; exact n1
  have w1' : (a2.put (some d2) (.int .u8 p)).tmps.getD d1 undef = .slice (some ⟨w.heap.size, 0, none⟩) s.size (grownCap w s.size 0 e) := by
    rw [getD_put _ _ _ _ (by rw [n1]; exact b2), if_neg hne]
    exact v1
  have w2' : (a2.put (some d2) (.int .u8 p)).tmps.getD d2 undef = .int .u8 p := by
    rw [getD_put _ _ _ _ (by rw [n1]; exact b2), if_pos rfl]
  have dd2 : (a2.put (some d2) (.int .u8 p)).defers = a2.defers := rfl
  generalize ha3 : a2.put (some d2) (.int .u8 p) = a3 at *
  rw [wpList, wt g3, if_pos rfl]
  obtain ⟨Rx, hg⟩ := given_bytes (P := E.P) w e s hc k1 k2 p
  refine .inl (wp_tell hrun h3 (us := [.slice (some ⟨w.heap.size, 0, none⟩) s.size (grownCap w s.size 0 e), .int .u8 p]) ?_ hg hr fun w' hz hst hk => ?_)
  · have hm : Array.map a3.eval #[Operand.tmp d1, Operand.tmp d2] = #[a3.eval (.tmp d1), a3.eval (.tmp d2)] := by simp
    rw [hm, show a3.eval (.tmp d1) = _ from w1', show a3.eval (.tmp d2) = _ from w2']
  rw [q3]
  have c3 := (c2.grow hz hst hk).drop (d := d3) (by rw [n2]; exact b3) rv
  have n3 : (a3.put (some d3) rv).tmps.size = E.n := by rw [put_size]; exact n2
  have v3 : (a3.put (some d3) rv).tmps.getD d3 undef = rv := by
    rw [getD_put _ _ _ _ (by rw [n2]; exact b3), if_pos rfl]
  have dd3 : (a3.put (some d3) rv).defers = a3.defers := rfl
  generalize ha4 : a3.put (some d3) rv = a4 at *
  rw [wpList, wt g4, if_pos rfl]
  refine .inl (wp_mv (.inr h4) ?_)
  rw [q4, show a4.eval (.tmp d3) = rv from v3]
  rw [wpList]
  refine hQ _ _ _ _ _ (c3.put (d := d4) (av := .c (.v rv)) (by rw [n3]; exact b4) (rep_v hone)) (by rw [put_size]; exact n3) ?_
  show a4.defers = a.defers
  rw [dd3, dd2, dd1, ← ha1]
  rfl
end Go.Proofs.Ytbdidcfjaohglaa.VM
