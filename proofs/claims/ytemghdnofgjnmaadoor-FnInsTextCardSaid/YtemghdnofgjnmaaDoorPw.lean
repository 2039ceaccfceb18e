/- A line's words: a line that is put together is taken apart again. -/
import Derived.Test.YtemghdnofgjnmaaDoorPn
import Derived.Test.YtemghdnofgjnmaaDoorIr
namespace Go.Proofs.YtemghdnofgjnmaaDoor.VM
open Go Go.Proofs
set_option linter.unusedSimpArgs false
set_option linter.unusedVariables false
def wstep (s : List (List UInt8) × List UInt8) (b : UInt8) : List (List UInt8) × List UInt8 := if b = 32 then (s.1 ++ [s.2], []) else (s.1, s.2 ++ [b])
/-- A line of words. -/
def joinL (w : List UInt8) (ps : List (List UInt8)) : List UInt8 := w ++ ps.flatMap fun p => 32 :: p
theorem fold_word : ∀ (w : List UInt8) (O : List (List UInt8)) (c : List UInt8), 32 ∉ w → w.foldl wstep (O, c) = (O, c ++ w)
  | [], O, c, _ => by simp
  | b :: w, O, c, h => by
    have hb : ¬ b = 32 := fun e => h (by rw [e]; exact List.mem_cons_self ..)
    rw [List.foldl_cons, wstep, if_neg hb, fold_word w O (c ++ [b]) fun hm => h (List.mem_cons_of_mem _ hm)]
    simp
theorem fold_line : ∀ (ps : List (List UInt8)) (O : List (List UInt8)) (c : List UInt8), (∀ p ∈ ps, 32 ∉ p) → ((ps.flatMap fun p => 32 :: p).foldl wstep (O, c)).1 ++ [((ps.flatMap fun p => 32 :: p).foldl wstep (O, c)).2] = O ++ c :: ps
  | [], O, c, _ => by simp
  | p :: ps, O, c, h => by
    rw [List.flatMap_cons, List.cons_append, List.foldl_cons, List.foldl_append, wstep, if_pos rfl, fold_word p _ _ (h p (List.mem_cons_self ..)), fold_line ps _ _ fun q hq => h q (List.mem_cons_of_mem _ hq)]
    simp
theorem fold_join {w : List UInt8} {ps : List (List UInt8)} (h0 : 32 ∉ w) (h : ∀ p ∈ ps, 32 ∉ p) : ((joinL w ps).foldl wstep ([], [])).1 ++ [((joinL w ps).foldl wstep ([], [])).2] = w :: ps := by
  unfold joinL
  rw [List.foldl_append, fold_word w _ _ h0, fold_line ps _ _ h]
  simp
def listS (s : ByteArray) : List UInt8 := s.data.toList
theorem strL_listS (s : ByteArray) : strL (listS s) = s := by
  obtain ⟨a⟩ := s
  simp [strL, listS]
theorem cut_list (l : List UInt8) (a b : Nat) : listS ((strL l).extract a b) = (l.drop a).take (b - a) := Lib.extract_data (strL l) a b
theorem wF_fold (l : List UInt8) : ∀ i, i ≤ l.length → (wF (strL l) i).2.map listS = ((l.take i).foldl wstep ([], [])).1 ∧ listS ((strL l).extract (wF (strL l) i).1 i) = ((l.take i).foldl wstep ([], [])).2
  | 0, _ => by
    rw [List.take_zero]
    exact ⟨rfl, by rw [cut_list]; rfl⟩
  | i + 1, hi => by
    obtain ⟨h1, h2⟩ := wF_fold l i (by omega)
    have hle := (wF_le (strL l) i).1
    rw [List.take_succ_eq_append_getElem (by omega), List.foldl_append, List.foldl_cons, List.foldl_nil]
    rw [wF]
    have hb : bAt (strL l) i = l[i] := by rw [bAt_l, List.getElem?_eq_getElem (by omega)]; rfl
    rw [hb, strL_size]
    generalize (l.take i).foldl wstep ([], []) = q at *
    generalize wF (strL l) i = z at *
    by_cases h : l[i] = 32
    · rw [if_pos (.inr (by rw [h]; rfl)), wstep, if_pos h]
      refine ⟨?_, ?_⟩
      · rw [List.map_append, h1, List.map_cons, List.map_nil, h2]
      · rw [cut_list, Nat.sub_self, List.take_zero]
    · rw [if_neg (fun hh => hh.elim (fun e => by omega) (fun e => h (UInt8.toNat_inj.1 e))), wstep, if_neg h]
      refine ⟨h1, ?_⟩
      rw [← h2, cut_list, cut_list, show i + 1 - z.1 = i - z.1 + 1 by omega, List.take_succ_eq_append_getElem (by rw [List.length_drop]; omega), List.getElem_drop]
      congr 3
      congr 1
      omega
theorem wS_list (l : List UInt8) : (wS (strL l)).map listS = (l.foldl wstep ([], [])).1 ++ [(l.foldl wstep ([], [])).2] := by
  obtain ⟨h1, h2⟩ := wF_fold l l.length (Nat.le_refl _)
  rw [List.take_length] at h1 h2
  unfold wS
  rw [wF, if_pos (.inl rfl), strL_size, List.map_append, h1, List.map_cons, List.map_nil, h2]
theorem map_listS {L : List ByteArray} {M : List (List UInt8)} (h : L.map listS = M) : L = M.map strL := by
  rw [← h, List.map_map]
  have : (strL ∘ listS) = id := funext strL_listS
  rw [this, List.map_id]
theorem wS_join {w : List UInt8} {ps : List (List UInt8)} (h0 : 32 ∉ w) (h : ∀ p ∈ ps, 32 ∉ p) : wS (strL (joinL w ps)) = strL w :: ps.map strL :=
  map_listS ((wS_list _).trans (fold_join h0 h))
/-! ### strings.Split -/
theorem index_at : ∀ (w r : List UInt8), 32 ∉ w → Lib.index (w ++ 32 :: r) [32] = w.length
  | [], r, _ => by rw [List.nil_append, Lib.index]; simp [List.isPrefixOf]
  | b :: w, r, h => by
    have hb : ¬ 32 = b := fun e => h (by rw [← e]; exact List.mem_cons_self ..)
    have ih := index_at w r fun hm => h (List.mem_cons_of_mem _ hm)
    have hp : ([32] : List UInt8).isPrefixOf (b :: (w ++ 32 :: r)) = false := by simp [List.isPrefixOf, hb]
    rw [List.cons_append, Lib.index, hp, ih, if_neg (by decide), if_neg (fun e => by have := eq_of_beq e; omega), List.length_cons]
    omega
theorem split_join : ∀ (ps : List (List UInt8)) (w : List UInt8), 32 ∉ w → (∀ p ∈ ps, 32 ∉ p) → Lib.splitK [32] 0 (Lib.count (joinL w ps) [32]) (joinL w ps) = w :: ps
  | [], w, h0, _ => by
    unfold joinL
    rw [List.flatMap_nil, List.append_nil, Lib.count_one, List.count_eq_zero.2 h0]
    rfl
  | p :: ps, w, h0, h => by
    have hp := h p (List.mem_cons_self ..)
    have hR : joinL w (p :: ps) = w ++ 32 :: joinL p ps := by
      unfold joinL
      rw [List.flatMap_cons]
      simp
    have hc : Lib.count (joinL w (p :: ps)) [32] = Lib.count (joinL p ps) [32] + 1 := by
      rw [hR, Lib.count_one, Lib.count_one, List.count_append, List.count_eq_zero.2 h0, List.count_cons_self]
      omega
    have ih := split_join ps p hp fun q hq => h q (List.mem_cons_of_mem _ hq)
    have hi := index_at w (joinL p ps) h0
    rw [hc, hR, Lib.splitK, hi, if_neg (fun e => by have := eq_of_beq e; omega)]
    have ht : ((w.length : Int)).toNat = w.length := rfl
    rw [ht]
    congr 1
    · rw [Nat.add_zero, List.take_left]
    · rw [show ([32] : List UInt8).length = 1 from rfl, List.drop_append, List.drop_of_length_le (by omega), Nat.add_sub_cancel_left]
      exact ih
theorem wI_join {w : List UInt8} {ps : List (List UInt8)} (h0 : 32 ∉ w) (h : ∀ p ∈ ps, 32 ∉ p) : wI (strL (joinL w ps)) = strL w :: ps.map strL :=
  map_listS (M := w :: ps) (((Lib.splitB_data spS 0 _ (strL (joinL w ps))).trans (split_join ps w h0 h)))
/-! ### sizes -/
theorem cut_size (s : ByteArray) (a b : Nat) : (s.extract a b).size ≤ s.size := by
  rw [ByteArray.size_extract]
  omega
theorem wF_sizes (s : ByteArray) : ∀ i, ∀ w ∈ (wF s i).2, w.size ≤ s.size
  | 0, w, h => by simp [wF] at h
  | i + 1, w, h => by
    rw [wF] at h
    split at h
    · rw [List.mem_append, List.mem_singleton] at h
      rcases h with h | rfl
      · exact wF_sizes s i w h
      · exact cut_size _ _ _
    · exact wF_sizes s i w h
theorem wS_all (s : ByteArray) : ∃ w0 ws, wS s = w0 :: ws ∧ (∀ w ∈ ws, w.size ≤ s.size) ∧ ws.length ≤ s.size := by
  have hs := wF_sizes s (s.size + 1)
  have hl := (wF_le s (s.size + 1)).2
  have hm := congrArg List.length (wS_list (listS s))
  rw [strL_listS, List.length_map, List.length_append, List.length_singleton] at hm
  unfold wS at hm ⊢
  generalize (wF s (s.size + 1)).2 = l at *
  cases l with
  | nil => simp at hm
  | cons a l => exact ⟨a, l, rfl, fun w hw => hs w (List.mem_cons_of_mem _ hw), by simpa using hl⟩
theorem splitB_sizes (sep : ByteArray) : ∀ (k : Nat) (s : ByteArray), ∀ w ∈ Lib.splitB sep 0 k s, w.size ≤ s.size
  | 0, s, w, h => by
    rw [Lib.splitB] at h
    simp only [List.mem_singleton] at h
    rw [h]
    exact Nat.le_refl _
  | k + 1, s, w, h => by
    rw [Lib.splitB] at h
    split at h
    · simp only [List.mem_singleton] at h
      rw [h]
      exact Nat.le_refl _
    · rw [List.mem_cons] at h
      rcases h with rfl | h
      · exact cut_size _ _ _
      · exact Nat.le_trans (splitB_sizes sep k _ w h) (cut_size _ _ _)
theorem wI_all (s : ByteArray) : ∃ w0 ws, wI s = w0 :: ws ∧ (∀ w ∈ ws, w.size ≤ s.size) ∧ ws.length ≤ s.size := by
  have hs : ∀ w ∈ wI s, w.size ≤ s.size := splitB_sizes spS _ s
  have hl := wI_len s
  have hb := Lib.countB_le spS spS_size _ s (Nat.le_refl _)
  generalize wI s = l at *
  cases l with
  | nil => simp at hl
  | cons a l => exact ⟨a, l, rfl, fun w hw => hs w (List.mem_cons_of_mem _ hw), by rw [List.length_cons] at hl; omega⟩
end Go.Proofs.YtemghdnofgjnmaaDoor.VM
