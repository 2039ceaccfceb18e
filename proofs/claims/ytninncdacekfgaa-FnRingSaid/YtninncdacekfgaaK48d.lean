/- A system that is taken back: reckoned. -/
import Derived.Test.YtninncdacekfgaaK14
import Derived.Test.YtninncdacekfgaaK16
import Derived.Test.YtninncdacekfgaaK18
import Derived.Test.YtninncdacekfgaaK19
import Derived.Test.YtninncdacekfgaaK24d
import Derived.Test.YtninncdacekfgaaK25d
import Derived.Test.YtninncdacekfgaaK26d
import Derived.Test.YtninncdacekfgaaK27d
import Derived.Test.YtninncdacekfgaaK33d
import Derived.Test.YtninncdacekfgaaK34d
import Derived.Test.YtninncdacekfgaaK36d
import Derived.Test.YtninncdacekfgaaK39d
set_option linter.unusedSimpArgs false
set_option linter.unusedVariables false
set_option maxRecDepth 100000
set_option maxHeartbeats 80000000
namespace Go.Proofs.Ytninncdacekfgaa.VM
open Go Go.Proofs
def hC (S : Sy) (c : List Int) (i : Nat) : List (List Ev) := (List.range i).map fun p => (rowH S.hist p).take (cAt c p)
def sC (S : Sy) (c : List Int) (i : Nat) : List Sta := (List.range i).map fun p => replayS (progOf S p) ((rowH S.hist p).take (cAt c p))
theorem hC_len (S : Sy) (c : List Int) (i : Nat) : (hC S c i).length = i := by simp [hC]
theorem sC_len (S : Sy) (c : List Int) (i : Nat) : (sC S c i).length = i := by simp [sC]
theorem hC_succ (S : Sy) (c : List Int) (i : Nat) : hC S c (i + 1) = hC S c i ++ [(rowH S.hist i).take (cAt c i)] := by simp [hC, List.range_succ]
theorem hC_row {S : Sy} {c : List Int} {i p : Nat} (hp : p < i) : rowH (hC S c i) p = (rowH S.hist p).take (cAt c p) := by
 unfold hC
 conv => lhs; unfold rowH
 rw [List.getElem?_map, List.getElem?_range hp]
 rfl
def sentC (h : List (List Ev)) (a b : Nat) : List Int := valsE (rowH h a) 2 b
def tookC (h : List (List Ev)) (a b : Nat) : Nat := (valsE (rowH h b) 3 a).length
def itm (v : Int) : Itm := ⟨false, v⟩
def wyF (h : List (List Ev)) (a b : Nat) : List Itm := ((sentC h a b).drop (tookC h a b)).map itm
def wyK (h : List (List Ev)) (n k : Nat) : List (List Itm) := (List.range (n * n)).map fun w => if w < k then wyF h (w / n) (w % n) else []
theorem wyK_len (h : List (List Ev)) (n k : Nat) : (wyK h n k).length = n * n := by simp [wyK]
theorem wyK_0 (h : List (List Ev)) (n : Nat) : wyK h n 0 = List.replicate (n * n) [] := by
 unfold wyK
 simp [List.map_const']
theorem flat_lt {a b n : Nat} (ha : a < n) (hb : b < n) : a * n + b < n * n := by
 have h1 : (a + 1) * n ≤ n * n := Nat.mul_le_mul_right n ha
 rw [Nat.add_mul, Nat.one_mul] at h1
 omega
theorem wyK_at {h : List (List Ev)} {n a b : Nat} (ha : a < n) (hb : b < n) : (wyK h n (a * n + b))[a * n + b]? = some [] := by
 unfold wyK
 rw [List.getElem?_map, List.getElem?_range (flat_lt ha hb)]
 simp
theorem wyK_set {h : List (List Ev)} {n a b : Nat} (ha : a < n) (hb : b < n) : (wyK h n (a * n + b)).set (a * n + b) (wyF h a b) = wyK h n (a * n + b + 1) := by
 apply List.ext_getElem?
 intro w
 rw [List.getElem?_set]
 by_cases e : a * n + b = w
 ·subst e
  rw [if_pos rfl, wyK_len, if_pos (flat_lt ha hb)]
  unfold wyK
  rw [List.getElem?_map, List.getElem?_range (flat_lt ha hb)]
  have h1 : (a * n + b) / n = a := by
   rw [Nat.mul_comm, Nat.mul_add_div (by omega), Nat.div_eq_of_lt hb]
   rfl
  have h2 : (a * n + b) % n = b := by
   rw [Nat.mul_comm, Nat.mul_add_mod, Nat.mod_eq_of_lt hb]
  simp [h1, h2]
 ·rw [if_neg e]
  unfold wyK
  rw [List.getElem?_map, List.getElem?_map]
  rcases Nat.lt_or_ge w (n * n) with h' | h'
  ·rw [List.getElem?_range h']
   simp only [Option.map_some]
   congr 1
   by_cases h1 : w < a * n + b
   ·rw [if_pos h1, if_pos (by omega)]
   ·rw [if_neg h1, if_neg (by omega)]
  ·rw [List.getElem?_eq_none (by simpa using h')]
   rfl
def okW (h : List (List Ev)) (n a : Nat) : Bool := allTo (fun b => decide ((sentC h a b).length ≤ 12 + tookC h a b)) n
noncomputable def atF (S : Sy) (c : List Int) : Sy × Bool :=
 if allTo (okW (hC S c S.progs.length) S.progs.length) S.progs.length = true then (⟨S.progs, sC S c S.progs.length, wyK (hC S c S.progs.length) S.progs.length (S.progs.length * S.progs.length), hC S c S.progs.length⟩, true) else (zSy, false)
def parW (h : List (List Ev)) (a b i : Nat) : List Itm := (((sentC h a b).drop (tookC h a b)).take i).map itm
theorem parW_succ {h : List (List Ev)} {a b i : Nat} (hi : tookC h a b + i < (sentC h a b).length) : parW h a b (i + 1) = parW h a b i ++ [itm ((sentC h a b)[tookC h a b + i])] := by
 unfold parW
 rw [List.take_add_one, List.map_append, List.getElem?_drop, List.getElem?_eq_getElem hi]
 rfl
theorem parW_len {h : List (List Ev)} {a b i : Nat} (hi : tookC h a b + i ≤ (sentC h a b).length) : (parW h a b i).length = i := by
 unfold parW
 rw [List.length_map, List.length_take, List.length_drop]
 omega
theorem parW_all {h : List (List Ev)} {a b : Nat} : parW h a b ((sentC h a b).length - tookC h a b) = wyF h a b := by
 unfold parW wyF
 rw [List.take_of_length_le (by rw [List.length_drop]; exact Nat.le_refl _)]
theorem itT_snoc (l : List Itm) (v : Int) : itT l ++ [.v (.bool false), .v (.int .i64 v)] = itT (l ++ [itm v]) := by simp [itT, tItem, itm]
theorem sItem_set {l : List (List Itm)} {e : TypeId} {m : Nat} (r : List Itm) : (l.map (sItem e)).set m (.s e r.length (itT r)) = (l.set m r).map (sItem e) := by
 rw [List.map_set]
 rfl
end Go.Proofs.Ytninncdacekfgaa.VM
namespace Go.Proofs.Ytninncdacekfgaa.VM
open Go Go.Proofs
theorem lens_at {h : List (List Ev)} {p : Nat} (hp : p < h.length) : (lensI h)[p]? = some ((rowH h p).length : Int) := by
 unfold lensI rowH
 rw [List.getElem?_map, List.getElem?_eq_getElem hp]
 simp
theorem lens_set_cut {h : List (List Ev)} {m n : Nat} (hm : m < h.length) (hn : n ≤ (rowH h m).length) : CutI h ((lensI h).set m (n : Int)) := ⟨by simp [lensI], fun p hp => by
 rw [List.length_set] at hp
 have hp' : p < h.length := by simpa [lensI] using hp
 by_cases e : m = p
 ·subst e
  exact ⟨n, by rw [List.getElem_set_self], hn⟩
 ·refine ⟨(rowH h p).length, ?_, Nat.le_refl _⟩
  rw [List.getElem_set_ne e]
  exact Option.some.inj (by rw [← List.getElem?_eq_getElem hp]; exact lens_at hp')⟩
end Go.Proofs.Ytninncdacekfgaa.VM
