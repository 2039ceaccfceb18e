/- Rows of instructions, states: copied, compared, measured. -/
import Derived.Test.YtbdidcfjaohglaaFn2
namespace Go.Proofs.Ytbdidcfjaohglaa.VM
open Go Go.Proofs
set_option linter.unusedSimpArgs false
set_option linter.unusedVariables false
set_option maxRecDepth 100000
def H71 (xs : List Int) (i : Nat) : St := ⟨[(0, .c (.sl 0 [] 0 xs.length)), (3, .c (.sl 512 [] 0 xs.length)), (4, .c (.v (.int .i64 i)))], [(0, ⟨.ro, 3, ints xs⟩), (512, ⟨.own, 3, ints (tp xs 0 i)⟩)]⟩
theorem run71 {j : Nat} (hj : big ≤ j) (xs : List Int) (hl : xs.length ≤ 1048576) :
    M.run (j + 1) 77 [.c (.r 3 xs.length (ints xs))] = some ([.c (.s 3 xs.length (ints xs))], [.c (.r 3 xs.length (ints xs))]) := by
  rw [m_run (fn := Try.f77) (i0 := 0) rfl Try.func77 rfl rfl (by simp)]
  simp -implicitDefEqProofs [le_most hl, ints_rep]
  rw [loop_up (H71 xs) xs.length (.exit 0) ⟨ins (ins (ins (ins (H71 xs xs.length).t 8 (.c (.v (.int .i64 xs.length)))) 9 (.c (.sl 0 [] 0 xs.length))) 10 (.c (.v (.int .i64 xs.length)))) 11 (.c (.v (.bool false))), (H71 xs xs.length).o⟩ (by simp) (by simp -implicitDefEqProofs [H71, hint1]) (by simp -implicitDefEqProofs [big] at hj; omega)]
  · simp -implicitDefEqProofs [H71]
  · intro i hi
    simp -implicitDefEqProofs [H71, hint1, hi, w64 (x := (i : Int) + 1) (by omega), show i + 1 ≤ xs.length by omega]
  · simp -implicitDefEqProofs [H71]
def insT (l : List Ins) : List T := l.flatMap tIns
theorem tIns_len (x : Ins) : (tIns x).length = 5 := rfl
@[simp] theorem insT_len (l : List Ins) : (insT l).length = l.length * 5 := fm_len tIns_len l
theorem insT_rep (n : Nat) : (List.replicate n [T.v (Value.int IntKind.i64 0), T.v (Value.int IntKind.i64 0), T.v (Value.int IntKind.i64 0), T.v (Value.int IntKind.i64 0), T.v (Value.int IntKind.i64 0)]).flatten = insT (List.replicate n ⟨0, 0, 0, 0, 0⟩) := fm_rep (tr := tIns) n ⟨0, 0, 0, 0, 0⟩
@[simp] theorem insT_take (l : List Ins) (n : Nat) : (insT l).take (n * 5) = insT (l.take n) := fm_take tIns_len l n
@[simp] theorem insT_drop (l : List Ins) (n : Nat) : (insT l).drop (n * 5) = insT (l.drop n) := fm_drop tIns_len l n
@[simp] theorem insT_at {l : List Ins} {i : Nat} (hi : i < l.length) : (insT (l.drop i)).take 5 = tIns l[i] := by rw [← insT_drop]; exact fm_at tIns_len hi
theorem run28x {j : Nat} (o r a b n : Int) : M.run (j + 1) 76 [.agg [.v (.int .i64 o), .v (.int .i64 r), .v (.int .i64 a), .v (.int .i64 b), .v (.int .i64 n)]] = some ([.agg [.v (.int .i64 o), .v (.int .i64 r), .v (.int .i64 a), .v (.int .i64 b), .v (.int .i64 n)]], [.agg [.v (.int .i64 o), .v (.int .i64 r), .v (.int .i64 a), .v (.int .i64 b), .v (.int .i64 n)]]) := run28 ⟨o, r, a, b, n⟩
@[simp] theorem insT_v (l : List Ins) : allV (insT l) = true := fm_v (fun _ => rfl) l
@[simp] theorem insT_ros (l : List Ins) : ros (insT l) = insT l := fm_ros (fun _ => rfl) l
theorem insT_set {l : List Ins} {i : Nat} (hi : i < l.length) (x : Ins) : (((((insT l).set (i * 5) (.v (.int .i64 x.op))).set (i * 5 + 1) (.v (.int .i64 x.r))).set (i * 5 + 1 + 1) (.v (.int .i64 x.a))).set (i * 5 + 1 + 1 + 1) (.v (.int .i64 x.b))).set (i * 5 + 1 + 1 + 1 + 1) (.v (.int .i64 x.n)) = insT (l.set i x) := fm_set tIns_len hi x
def H45 (xs : List Ins) (i : Nat) : St := ⟨[(0, .c (.sl 0 [] 0 xs.length)), (3, .c (.sl 512 [] 0 xs.length)), (4, .c (.v (.int .i64 i)))], [(0, ⟨.ro, 112, insT xs⟩), (512, ⟨.own, 110, insT (tp xs ⟨0,0,0,0,0⟩ i)⟩)]⟩
theorem run45 {j : Nat} (hj : big ≤ j) (xs : List Ins) (hl : xs.length ≤ 1048576) :
    M.run (j + 2) 26 [.c (.r 112 xs.length (insT xs))] = some ([.c (.s 110 xs.length (insT xs))], [.c (.r 112 xs.length (insT xs))]) := by
  rw [m_run (fn := Try.f26) (i0 := 0) rfl Try.func26 rfl rfl (by simp)]
  simp -implicitDefEqProofs [le_most hl, insT_rep]
  rw [loop_up (H45 xs) xs.length (.exit 0) ⟨ins (ins (ins (ins (H45 xs xs.length).t 8 (.c (.v (.int .i64 xs.length)))) 9 (.c (.sl 0 [] 0 xs.length))) 10 (.c (.v (.int .i64 xs.length)))) 11 (.c (.v (.bool false))), (H45 xs xs.length).o⟩ (by simp) (by simp -implicitDefEqProofs [H45, hint1]) (by simp -implicitDefEqProofs [big] at hj; omega)]
  · simp -implicitDefEqProofs [H45]
  · intro i hi
    simp -implicitDefEqProofs [H45, hint1, hi, w64 (x := (i : Int) + 1) (by omega), show i * 5 + 1 ≤ xs.length * 5 by omega, show i * 5 + 5 ≤ xs.length * 5 by omega, hi, tIns, run28x, insT_set (l := tp xs ⟨0,0,0,0,0⟩ i) (by simpa using hi)]
    done
  · simp -implicitDefEqProofs [H45]
theorem run70 {j : Nat} (n : Nat) (l : List T) (k : Int) (hn : n ≤ 9223372036854775807) (hk : 0 ≤ k ∧ k ≤ 1048576) :
    M.run (j + 1) 72 [.c (.r 3 n l), .c (.v (.int .i64 k))] = some ([.c (.v (.int .i64 (if k - n < 0 then -1 else k - n)))], [.c (.r 3 n l), .c (.v (.int .i64 k))]) := by
  rw [m_run (fn := Try.f72) (i0 := 0) rfl Try.func72 rfl rfl (by simp)]
  by_cases h : k - n < 0 <;> simp -implicitDefEqProofs [h, w64 (x := k - n) (by omega)]
theorem run42 {j : Nat} (n : Nat) (l : List T) (k : Int) (hn : n ≤ 9223372036854775807) (hk : 0 ≤ k ∧ k ≤ 1048576) :
    M.run (j + 1) 23 [.c (.r 112 n l), .c (.v (.int .i64 k))] = some ([.c (.v (.int .i64 (if k - n < 0 then -1 else k - n)))], [.c (.r 112 n l), .c (.v (.int .i64 k))]) := by
  rw [m_run (fn := Try.f23) (i0 := 0) rfl Try.func23 rfl rfl (by simp)]
  by_cases h : k - n < 0 <;> simp -implicitDefEqProofs [h, w64 (x := k - n) (by omega)]
theorem run43 {j : Nat} (a c : Int) (xs ys : List Int) (k : Int) (hx : xs.length ≤ 9223372036854775807) (hy : ys.length ≤ 9223372036854775807) (hk : 0 ≤ k ∧ k ≤ 1048576) :
    M.run (j + 2) 24 [.agg (stR a xs ys c), .c (.v (.int .i64 k))] = some ([.c (.v (.int .i64 (if k - xs.length < 0 then -1 else if k - xs.length - ys.length < 0 then -1 else k - xs.length - ys.length)))], [.agg (stR a xs ys c), .c (.v (.int .i64 k))]) := by
  rw [m_run (fn := Try.f24) (i0 := 0) rfl Try.func24 rfl rfl (by simp -implicitDefEqProofs [stR])]
  by_cases h : k - xs.length < 0
  · simp -implicitDefEqProofs [h, stR, own1, run70 xs.length _ k hx hk]
  · by_cases h2 : k - xs.length - ys.length < 0
    · simp -implicitDefEqProofs [h, h2, stR, own1, run70 xs.length _ k hx hk, run70 ys.length _ (k - xs.length) hy (by omega)]
    · simp -implicitDefEqProofs [h, h2, stR, own1, run70 xs.length _ k hx hk, run70 ys.length _ (k - xs.length) hy (by omega)]
theorem run46 {j : Nat} (hj : big ≤ j) (a c : Int) (xs ys : List Int) (hx : xs.length ≤ 1048576) (hy : ys.length ≤ 1048576) :
    M.run (j + 2) 27 [.agg (stR a xs ys c)] = some ([.agg (stS a xs ys c)], [.agg (stR a xs ys c)]) := by
  rw [m_run (fn := Try.f27) (i0 := 0) rfl Try.func27 rfl rfl (by simp -implicitDefEqProofs [stR])]
  simp -implicitDefEqProofs [stR, stS, own1, run71 hj xs hx, run71 hj ys hy]
theorem run73 {j : Nat} (o r a b n : Int) : M.run (j + 1) 81 [.agg [.v (.int .i64 o), .v (.int .i64 r), .v (.int .i64 a), .v (.int .i64 b), .v (.int .i64 n)], .agg [.v (.int .i64 o), .v (.int .i64 r), .v (.int .i64 a), .v (.int .i64 b), .v (.int .i64 n)]] = some ([.c (.v (.bool true))], [.agg [.v (.int .i64 o), .v (.int .i64 r), .v (.int .i64 a), .v (.int .i64 b), .v (.int .i64 n)], .agg [.v (.int .i64 o), .v (.int .i64 r), .v (.int .i64 a), .v (.int .i64 b), .v (.int .i64 n)]]) := by
  rw [m_run (fn := Try.f81) (i0 := 0) rfl Try.func81 rfl rfl (by simp)]
  simp -implicitDefEqProofs
def H48 (xs : List Ins) (i : Nat) : St := ⟨[(0, .c (.sl 0 [] 0 xs.length)), (1, .c (.sl 1 [] 0 xs.length)), (5, .c (.v (.int .i64 i)))], [(0, ⟨.ro, 110, insT xs⟩), (1, ⟨.ro, 110, insT xs⟩)]⟩
theorem run48 {j : Nat} (hj : big ≤ j) (xs : List Ins) (hl : xs.length ≤ 4611686018427387904) :
    M.run (j + 2) 31 [.c (.r 110 xs.length (insT xs)), .c (.r 110 xs.length (insT xs))] = some ([.c (.v (.bool true))], [.c (.r 110 xs.length (insT xs)), .c (.r 110 xs.length (insT xs))]) := by
  rw [m_run (fn := Try.f31) (i0 := 0) rfl Try.func31 rfl rfl (by simp)]
  simp -implicitDefEqProofs
  rw [loop_up (H48 xs) xs.length (.exit 0) ⟨ins (ins (ins (ins (H48 xs xs.length).t 11 (.c (.v (.int .i64 xs.length)))) 12 (.c (.sl 0 [] 0 xs.length))) 13 (.c (.v (.int .i64 xs.length)))) 14 (.c (.v (.bool false))), (H48 xs xs.length).o⟩ (by simp) (by simp -implicitDefEqProofs [H48, hint1]) (by simp -implicitDefEqProofs [big] at hj; omega)]
  · simp -implicitDefEqProofs [H48]
  · intro i hi
    simp -implicitDefEqProofs [H48, hint1, hi, w64 (x := (i : Int) + 1) (by omega), tIns, run73, own1]
  · simp -implicitDefEqProofs [H48]
end Go.Proofs.Ytbdidcfjaohglaa.VM
