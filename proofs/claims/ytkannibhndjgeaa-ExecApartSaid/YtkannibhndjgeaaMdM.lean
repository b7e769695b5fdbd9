/- Plain definitions: words cut to a width, flags, a machine's registers (P1.2, P14.1, P15.1); rules by which a register is read and written. -/
import Derived.Test.YtkannibhndjgeaaMdZ
namespace Go.Ev
open Go
set_option linter.unusedVariables false
set_option linter.unusedSimpArgs false

def u64 (n : Int) : Int := IntKind.u64.wrap n
def cutM (v w : Int) : Int := if w = 8 then v % 256 else if w = 16 then v % 65536 else if w = 32 then v % 4294967296 else v
def signM (v w : Int) : Int :=
  if w = 8 then u64 (IntKind.i8.wrap v) else if w = 16 then u64 (IntKind.i16.wrap v) else if w = 32 then u64 (IntKind.i32.wrap v) else v
/-- A word's sign. -/
def negM (v w : Int) : Bool := decide (IntKind.i64.wrap (signM v w) < 0)
def xor64 (a b : Int) : Int := u64 ((BitVec.ofInt 64 a ^^^ BitVec.ofInt 64 b).toNat : Int)
def and64u (a b : Int) : Int := u64 ((BitVec.ofInt 64 a &&& BitVec.ofInt 64 b).toNat : Int)
def or64u (a b : Int) : Int := u64 ((BitVec.ofInt 64 a ||| BitVec.ofInt 64 b).toNat : Int)

/-- Flags, written out. -/
def fD (k c z s o : Bool) : D := .agg [.bool k, .bool c, .bool z, .bool s, .bool o]

/-! ### What an operation does with two words -/
def byM (b w : Int) : Int := and64u b (u64 (IntKind.i8.wrap (w - 1)))
def opM (op a b by' w : Int) : Int :=
  if op = 0 then u64 (a + b)
  else if op = 1 then u64 (a - b)
  else if op = 2 then u64 (a * b)
  else if op = 3 then (if b = 0 then 0 else u64 (a.tdiv b))
  else if op = 4 then or64u a b
  else if op = 5 then and64u a b
  else if op = 6 then u64 (a * 2 ^ (min by'.toNat 64))
  else if op = 7 then a.fdiv (2 ^ (min by'.toNat 64))
  else if op = 8 then u64 (0 - a)
  else if op = 9 then (if b = 0 then a else a.tmod b)
  else if op = 10 then xor64 a b
  else if op = 11 then b
  else u64 ((IntKind.i64.wrap (signM a w)).fdiv (2 ^ (min by'.toNat 64)))
def doM (op w a b : Int) : Int := cutM (opM op (cutM a w) (cutM b w) (byM (cutM b w) w) w) w

theorem neD {x c : Int} {v : Bool} (h : (x == c) = v) : decide (x ≠ c) = !v := by
  rw [← h]; by_cases e : x = c <;> simp [e]

/-! ### Registers -/
def rg (l : List Int) (i : Int) : Int := l.getD i.toNat 0
def st (j i v r : Int) : Int := if i = j then v else r

theorem in16 {i : Int} (h0 : 0 ≤ i) (h1 : i ≤ 15) : decide ((0 : Int) ≤ i ∧ i < ((16 : Nat) : Int)) = true := by
  rw [decide_eq_true_eq]; omega
/-- A register is put. -/
def putD (i v r0 r1 r2 r3 r4 r5 r6 r7 r8 r9 r10 r11 r12 r13 r14 r15 : Int) (tl : List D) : List D := .int .u64 (st 0 i v r0) :: .int .u64 (st 1 i v r1) :: .int .u64 (st 2 i v r2) :: .int .u64 (st 3 i v r3) :: .int .u64 (st 4 i v r4) :: .int .u64 (st 5 i v r5) :: .int .u64 (st 6 i v r6) :: .int .u64 (st 7 i v r7) :: .int .u64 (st 8 i v r8) :: .int .u64 (st 9 i v r9) :: .int .u64 (st 10 i v r10) :: .int .u64 (st 11 i v r11) :: .int .u64 (st 12 i v r12) :: .int .u64 (st 13 i v r13) :: .int .u64 (st 14 i v r14) :: .int .u64 (st 15 i v r15) :: tl
theorem wkL_put {i v r0 r1 r2 r3 r4 r5 r6 r7 r8 r9 r10 r11 r12 r13 r14 r15 : Int} {tl tl' : List D} (h : wkL tl tl') : wkL (putD i v r0 r1 r2 r3 r4 r5 r6 r7 r8 r9 r10 r11 r12 r13 r14 r15 tl) (putD i v r0 r1 r2 r3 r4 r5 r6 r7 r8 r9 r10 r11 r12 r13 r14 r15 tl') := by
  unfold putD
  simp only [wkL, wk, true_and]
  exact h
/-- Nothing is known (short, for long rows of slots). -/
abbrev uu : D := .undef
abbrev PutsA (l : List D) (i : Nat) (xs l' : List D) : Prop := l.take i ++ (xs ++ l.drop (i + xs.length)) = l' ∧ i + xs.length ≤ l.length
abbrev GetsA (l : List D) (i n : Nat) (l' : List D) : Prop := (l.drop i).take n = l' ∧ i + n ≤ l.length

section
variable {r0 r1 r2 r3 r4 r5 r6 r7 r8 r9 r10 r11 r12 r13 r14 r15 i v : Int} {tl : List D}
theorem cases15 {p : Int → Prop} (h : ∀ n : Fin 16, p (n.val : Int)) {i : Int} (h0 : 0 ≤ i) (h1 : i ≤ 15) : p i := upto15 h h0 h1
theorem get_reg (h0 : 0 ≤ i) (h1 : i ≤ 15) : (D.int .u64 r0 :: D.int .u64 r1 :: D.int .u64 r2 :: D.int .u64 r3 :: D.int .u64 r4 :: D.int .u64 r5 :: D.int .u64 r6 :: D.int .u64 r7 :: D.int .u64 r8 :: D.int .u64 r9 :: D.int .u64 r10 :: D.int .u64 r11 :: D.int .u64 r12 :: D.int .u64 r13 :: D.int .u64 r14 :: D.int .u64 r15 :: tl : List D)[0 + i.toNat * 1]? =
    some (.int .u64 (rg [r0, r1, r2, r3, r4, r5, r6, r7, r8, r9, r10, r11, r12, r13, r14, r15] i)) := by
  obtain ⟨n, rfl⟩ := fin16 h0 h1
  have : n.val = 0 ∨ n.val = 1 ∨ n.val = 2 ∨ n.val = 3 ∨ n.val = 4 ∨ n.val = 5 ∨ n.val = 6 ∨ n.val = 7 ∨ n.val = 8 ∨ n.val = 9 ∨ n.val = 10 ∨ n.val = 11 ∨ n.val = 12 ∨ n.val = 13 ∨ n.val = 14 ∨ n.val = 15 := by omega
  rcases this with e | e | e | e | e | e | e | e | e | e | e | e | e | e | e | e <;> rw [e] <;> rfl
theorem get_reg' (h0 : 0 ≤ i) (h1 : i ≤ 15) : (D.int .u64 r0 :: D.int .u64 r1 :: D.int .u64 r2 :: D.int .u64 r3 :: D.int .u64 r4 :: D.int .u64 r5 :: D.int .u64 r6 :: D.int .u64 r7 :: D.int .u64 r8 :: D.int .u64 r9 :: D.int .u64 r10 :: D.int .u64 r11 :: D.int .u64 r12 :: D.int .u64 r13 :: D.int .u64 r14 :: D.int .u64 r15 :: tl : List D)[i.toNat * 1]? =
    some (.int .u64 (rg [r0, r1, r2, r3, r4, r5, r6, r7, r8, r9, r10, r11, r12, r13, r14, r15] i)) := by
  have := get_reg (r0 := r0) (r1 := r1) (r2 := r2) (r3 := r3) (r4 := r4) (r5 := r5) (r6 := r6) (r7 := r7) (r8 := r8) (r9 := r9) (r10 := r10) (r11 := r11) (r12 := r12) (r13 := r13) (r14 := r14) (r15 := r15) (tl := tl) h0 h1
  rwa [Nat.zero_add] at this
theorem put_reg (h0 : 0 ≤ i) (h1 : i ≤ 15) : PutsA (D.int .u64 r0 :: D.int .u64 r1 :: D.int .u64 r2 :: D.int .u64 r3 :: D.int .u64 r4 :: D.int .u64 r5 :: D.int .u64 r6 :: D.int .u64 r7 :: D.int .u64 r8 :: D.int .u64 r9 :: D.int .u64 r10 :: D.int .u64 r11 :: D.int .u64 r12 :: D.int .u64 r13 :: D.int .u64 r14 :: D.int .u64 r15 :: tl : List D) (0 + i.toNat * 1) [D.int .u64 v]
    (D.int .u64 (st 0 i v r0) :: D.int .u64 (st 1 i v r1) :: D.int .u64 (st 2 i v r2) :: D.int .u64 (st 3 i v r3) :: D.int .u64 (st 4 i v r4) :: D.int .u64 (st 5 i v r5) :: D.int .u64 (st 6 i v r6) :: D.int .u64 (st 7 i v r7) :: D.int .u64 (st 8 i v r8) :: D.int .u64 (st 9 i v r9) :: D.int .u64 (st 10 i v r10) :: D.int .u64 (st 11 i v r11) :: D.int .u64 (st 12 i v r12) :: D.int .u64 (st 13 i v r13) :: D.int .u64 (st 14 i v r14) :: D.int .u64 (st 15 i v r15) :: tl) := by
  obtain ⟨n, rfl⟩ := fin16 h0 h1
  have : n.val = 0 ∨ n.val = 1 ∨ n.val = 2 ∨ n.val = 3 ∨ n.val = 4 ∨ n.val = 5 ∨ n.val = 6 ∨ n.val = 7 ∨ n.val = 8 ∨ n.val = 9 ∨ n.val = 10 ∨ n.val = 11 ∨ n.val = 12 ∨ n.val = 13 ∨ n.val = 14 ∨ n.val = 15 := by omega
  rcases this with e | e | e | e | e | e | e | e | e | e | e | e | e | e | e | e <;> rw [e] <;> refine ⟨rfl, by simp⟩
end
end Go.Ev
