/- What a row asks of the whole program: the head of its order's word. -/
import Derived.Test.YtemghdnofgjnmaaDoorRows
import Derived.Test.YtemghdnofgjnmaaDoorChecked
import Derived.JoinedOf
import Derived.KernelRfl
namespace Go.Proofs.YtemghdnofgjnmaaDoor.VM
open Go Go.Proofs
set_option maxRecDepth 100000
set_option linter.unusedSimpArgs false
theorem ws_word : ∀ (a b : List Char), (a.all fun c => c != Char.ofNat 32) = true → wordsSigns (a ++ Char.ofNat 32 :: b) = a :: wordsSigns b
  | [], b, _ => by rw [List.nil_append]; exact wordsSigns.eq_2 b
  | c :: a, b, h => by
    rw [List.all_cons, Bool.and_eq_true] at h
    have ih := ws_word a b h.2
    have hc : c ≠ Char.ofNat 32 := by simpa using h.1
    rw [List.cons_append, wordsSigns]
    · rw [ih]
    · exact hc
def signs1 : List Char := [51, 49, 55, 52, 53, 51, 97, 48, 100, 56, 101, 98, 99, 57, 49, 102, 54, 52, 56, 100, 101, 53, 99, 53, 56, 51, 57, 101, 53, 99, 52, 98, 55, 50, 100, 55, 102, 102, 54, 53, 55, 53, 98, 54, 56, 57, 52, 56, 53, 56, 98, 98, 52, 55, 99, 49, 50, 56, 48, 51, 56, 49, 50, 56].map Char.ofNat
def signs2 : List Char := [97, 116, 32, 108, 111, 111, 112, 46, 101, 120, 97, 109, 112, 108, 101, 47, 103, 48, 48, 49, 57, 54, 47, 108, 97, 119, 115, 46, 70, 110, 69, 120, 97, 99, 116, 73, 110, 115, 82, 101, 97, 100, 32, 108, 111, 111, 112, 46, 101, 120, 97, 109, 112, 108, 101, 47, 103, 48, 48, 49, 57, 54, 47, 108, 97, 119, 115, 46, 70, 110, 73, 110, 115, 84, 101, 120, 116].map Char.ofNat
def harn : List Char := [104, 97, 114, 110, 101, 115, 115].map Char.ofNat
def cut_ : List Char := [99, 117, 116].map Char.ofNat
theorem order_ : Tryd.prog.initOrder = String.ofList (harn ++ Char.ofNat 32 :: (signs1 ++ Char.ofNat 32 :: (cut_ ++ Char.ofNat 32 :: signs2))) := by kernel_rfl
theorem signs_ok : (((harn.all fun c => c != Char.ofNat 32) && (signs1.all fun c => c != Char.ofNat 32)) && (cut_.all fun c => c != Char.ofNat 32)) = true := by kernel_rfl
theorem signs_sum : ((harn == "harness".toList || harn == "ownmain".toList) && isSumSigns signs1) = true := by kernel_rfl
theorem words_ : behindMainWord (wordsSigns Tryd.prog.initOrder.toList) = cut_ :: wordsSigns signs2 := by
  have h := signs_ok
  rw [Bool.and_eq_true, Bool.and_eq_true] at h
  rw [order_, String.toList_ofList, ws_word _ _ h.1.1, ws_word _ _ h.1.2, ws_word _ _ h.2, behindMainWord, signs_sum]
  rfl
theorem is_gc : (cut_ == "gc".toList) = false := by kernel_rfl
theorem is_spec : (cut_ == "spec".toList) = false := by kernel_rfl
theorem is_cut : (cut_ == "cut".toList) = true := by kernel_rfl
theorem is_finals : (cut_ == "finals".toList) = false := by kernel_rfl
theorem is_carried : (cut_ == "carried".toList) = false := by kernel_rfl
theorem some_beq (a b : List Char) : (some a == some b) = (a == b) := rfl
theorem make_of (P : Program) (X : List (List Char)) (h : behindMainWord (wordsSigns P.initOrder.toList) = cut_ :: X) : P.make = some .cut := by
  unfold Program.make
  rw [h]
  simp only [is_gc, is_spec, is_cut, Bool.or_self, Bool.false_eq_true, if_false, Bool.true_or, if_true]
theorem make_ : Tryd.prog.make = some .cut := make_of _ _ words_
theorem strip_of (w : List Char) (X : List (List Char)) : ∀ os : List String, (os.all fun o => o != String.ofList w) = true → stripLifts os (w :: X) = ([], w :: X)
  | [], _ => rfl
  | o :: os, h => by
    rw [List.all_cons, Bool.and_eq_true] at h
    have hne : ¬ (w == o.toList) = true := fun e => by
      have e : w = o.toList := by simpa using e
      rw [e, String.ofList_toList] at h
      simp at h
    rw [stripLifts, if_neg hne]
    exact strip_of w X os h.2
theorem lw_ : (liftWords.all fun o => o != String.ofList cut_) = true := by kernel_rfl
theorem strip_ (X : List (List Char)) : stripLifts liftWords (cut_ :: X) = ([], cut_ :: X) := strip_of cut_ X liftWords lw_
theorem lifts_of (P : Program) (X : List (List Char)) (h : behindMainWord (wordsSigns P.initOrder.toList) = cut_ :: X) : P.headLifts = [] := by
  unfold Program.headLifts
  rw [h]
  simp only [strip_, List.head?_cons, some_beq, is_cut, if_true]
theorem final_of (P : Program) (X : List (List Char)) (h : behindMainWord (wordsSigns P.initOrder.toList) = cut_ :: X) : P.liftsFinal = false := by
  unfold Program.liftsFinal
  rw [h, lifts_of P X h]
  simp only [List.head?_cons, some_beq, is_carried, Bool.false_and, Bool.false_or, List.contains_nil]
theorem final_ : Tryd.prog.liftsFinal = false := final_of _ _ words_
theorem enter_of (P : Program) (X : List (List Char)) (h : behindMainWord (wordsSigns P.initOrder.toList) = cut_ :: X) (h1 : P.laysLater = false) (h2 : P.bearsReflect = false) (h3 : P.doorFits [] = true) : P.mayEnter = true := by
  unfold Program.mayEnter
  rw [h]
  simp only [strip_, h1, h2, h3, List.head?_cons, some_beq, is_gc, is_spec, is_cut, is_carried, Bool.false_and, Bool.or_self, Bool.not_false, Bool.or_true, Bool.and_true, List.contains_nil]
theorem later_ : Tryd.prog.laysLater = false := by kernel_rfl
theorem bears_ : Tryd.prog.bearsReflect = false := by kernel_rfl
theorem door_ : Tryd.prog.doorFits [] = true := by kernel_rfl
theorem enter_ : Tryd.prog.mayEnter = true := enter_of _ _ words_ later_ bears_ door_
theorem bigEnter : Tryd.checked.prog.mayEnter = true := enter_
theorem bigFinal : Tryd.checked.prog.liftsFinal = false := final_
theorem bigMake : Tryd.checked.prog.make = some .cut := make_
end Go.Proofs.YtemghdnofgjnmaaDoor.VM
