/- Plain definitions: registers as bits; which registers an instruction reads (P11.1); which its steps take and give. -/
import Derived.Test.YteakhlhhmgpidaaMdG
namespace Go.Ev
open Go
set_option linter.unusedVariables false
set_option linter.unusedSimpArgs false

/-- 1 at a place, as 'bit' has it. -/
def sh1 (n : Int) : Int := IntKind.i64.wrap (1 * 2 ^ (min (IntKind.u64.wrap n).toNat IntKind.i64.bits))
def sh8 (n : Int) : Int := IntKind.i64.wrap (1 * 2 ^ (min n.toNat IntKind.i64.bits))
def or64 (a b : Int) : Int := IntKind.i64.wrap ((BitVec.ofInt IntKind.i64.bits a ||| BitVec.ofInt IntKind.i64.bits b).toNat : Int)
def andNot64 (a b : Int) : Int := IntKind.i64.wrap ((BitVec.ofInt IntKind.i64.bits a &&& ~~~BitVec.ofInt IntKind.i64.bits b).toNat : Int)
def low4 (r : Int) : Int := IntKind.i8.wrap ((BitVec.ofInt IntKind.i8.bits r &&& BitVec.ofInt IntKind.i8.bits 15).toNat : Int)
/-- What a call reads. -/
def readsCall (imm : Int) : Int := if imm % 6 = 0 then 0 else if imm % 6 = 1 then 2 else if imm % 6 = 2 then 6 else if imm % 6 = 3 then 14 else if imm % 6 = 4 then 30 else 62
def readsM (kind op : Int) (byReg : Bool) (dst src imm : Int) : Int :=
  if kind = 0 then (if byReg then or64 (if op = 11 then 0 else sh1 dst) (sh1 src) else (if op = 11 then 0 else sh1 dst))
  else if kind = 1 then sh1 src
  else if kind = 2 then or64 (sh1 dst) (sh1 src)
  else if kind = 3 then (if byReg then or64 (sh1 dst) (sh1 src) else sh1 dst)
  else if kind = 5 then readsCall imm
  else if kind = 6 then 1
  else 0
/-- The registers that steps of a kind name. -/
def namesF (k : Int) (l : List IrS) (n : Int) : Int := l.foldl (fun n s => if s.kind = k then or64 n (sh8 (low4 s.reg)) else n) n
def namesD (k : Int) (l : List D) : Int := namesF k (l.map irOf) 0
def wantM (kind dst : Int) : Int := if kind = 0 ∨ kind = 1 then sh8 dst else if kind = 5 then 63 else 0

theorem and15 (a : Int) : ((BitVec.ofInt 8 a &&& BitVec.ofInt 8 15).toNat : Int) = a % 16 := by have := and_ones 8 4 (by omega) a; exact this
theorem low4_nn (r : Int) : decide (0 ≤ IntKind.i8.wrap ((BitVec.ofInt IntKind.i8.bits r &&& BitVec.ofInt IntKind.i8.bits 15).toNat : Int)) = true := by
  have : ((BitVec.ofInt IntKind.i8.bits r &&& BitVec.ofInt IntKind.i8.bits 15).toNat : Int) = r % 16 := and15 r
  rw [this, w_i8, decide_eq_true_eq]
  omega
theorem succ_wrap {k : Nat} (h : (k : Int) < 9223372036854775807) : IntKind.i64.wrap ((k : Int) + 1) = ((k + 1 : Nat) : Int) := by rw [w_i64]; omega
theorem upto10 {p : Int → Prop} (h : ∀ n : Fin 11, p (n.val : Int)) {d : Int} (h0 : 0 ≤ d) (h1 : d ≤ 10) : p d := by
  have := h ⟨d.toNat, by omega⟩
  simpa [Int.toNat_of_nonneg h0] using this
theorem low4_small {d : Int} (h0 : 0 ≤ d) (h1 : d ≤ 10) : low4 d = d := upto10 (p := fun d => low4 d = d) (by decide) h0 h1
theorem sh1_small {d : Int} (h0 : 0 ≤ d) (h1 : d ≤ 10) : sh1 d = sh8 d := upto10 (p := fun d => sh1 d = sh8 d) (by decide) h0 h1
theorem or64_0 {d : Int} (h0 : 0 ≤ d) (h1 : d ≤ 10) : or64 0 (sh8 d) = sh8 d := upto10 (p := fun d => or64 0 (sh8 d) = sh8 d) (by decide) h0 h1
theorem or64_self {d : Int} (h0 : 0 ≤ d) (h1 : d ≤ 10) : or64 (sh8 d) (sh8 d) = sh8 d := upto10 (p := fun d => or64 (sh8 d) (sh8 d) = sh8 d) (by decide) h0 h1
theorem upto10' {p : Int → Int → Prop} (h : ∀ m n : Fin 11, p (m.val : Int) (n.val : Int)) {c d : Int} (h0 : 0 ≤ c) (h1 : c ≤ 10) (h2 : 0 ≤ d) (h3 : d ≤ 10) : p c d :=
  upto10 (p := fun c => p c d) (fun m => upto10 (p := fun d => p (m.val : Int) d) (h m) h2 h3) h0 h1
theorem or64_or {c d : Int} (h0 : 0 ≤ c) (h1 : c ≤ 10) (h2 : 0 ≤ d) (h3 : d ≤ 10) : or64 (or64 (sh8 c) (sh8 d)) (sh8 d) = or64 (sh8 c) (sh8 d) := upto10' (p := fun c d => or64 (or64 (sh8 c) (sh8 d)) (sh8 d) = or64 (sh8 c) (sh8 d)) (by decide +kernel) h0 h1 h2 h3
theorem or64_or' {c d : Int} (h0 : 0 ≤ c) (h1 : c ≤ 10) (h2 : 0 ≤ d) (h3 : d ≤ 10) : or64 (or64 (sh8 c) (sh8 d)) (sh8 c) = or64 (sh8 c) (sh8 d) := upto10' (p := fun c d => or64 (or64 (sh8 c) (sh8 d)) (sh8 c) = or64 (sh8 c) (sh8 d)) (by decide +kernel) h0 h1 h2 h3
theorem or64_com {c d : Int} (h0 : 0 ≤ c) (h1 : c ≤ 10) (h2 : 0 ≤ d) (h3 : d ≤ 10) : or64 (sh8 c) (sh8 d) = or64 (sh8 d) (sh8 c) := upto10' (p := fun c d => or64 (sh8 c) (sh8 d) = or64 (sh8 d) (sh8 c)) (by decide +kernel) h0 h1 h2 h3
theorem andNot_self {d : Int} (h0 : 0 ≤ d) (h1 : d ≤ 10) : andNot64 (sh8 d) (sh8 d) = 0 := upto10 (p := fun d => andNot64 (sh8 d) (sh8 d) = 0) (by decide) h0 h1
theorem andNot_0 (a : Int) : andNot64 0 a = 0 := by
  simp only [andNot64]
  have : BitVec.ofInt IntKind.i64.bits 0 = 0#IntKind.i64.bits := rfl
  rw [this]
  simp [w_i64]
theorem andNot_or {c d : Int} (h0 : 0 ≤ c) (h1 : c ≤ 10) (h2 : 0 ≤ d) (h3 : d ≤ 10) : andNot64 (or64 (sh8 c) (sh8 d)) (or64 (sh8 c) (sh8 d)) = 0 := upto10' (p := fun c d => andNot64 (or64 (sh8 c) (sh8 d)) (or64 (sh8 c) (sh8 d)) = 0) (by decide +kernel) h0 h1 h2 h3

theorem andNot_sub {c d : Int} (h0 : 0 ≤ c) (h1 : c ≤ 10) (h2 : 0 ≤ d) (h3 : d ≤ 10) : andNot64 (sh8 c) (or64 (sh8 c) (sh8 d)) = 0 := upto10' (p := fun c d => andNot64 (sh8 c) (or64 (sh8 c) (sh8 d)) = 0) (by decide +kernel) h0 h1 h2 h3

/-- An instruction's steps give its destination alone (a call: 0 to 5). -/
theorem gives_want {kind op width size : Int} {byReg : Bool} {dst src off imm : Int} (h : mayM kind op width size byReg dst src off imm = true) :
    namesD 2 (stepsM kind op width size byReg dst src off imm) = if kind = 3 ∨ kind = 4 then 0 else wantM kind dst := by
  obtain ⟨⟨d0, d1, s0, s1, _, _, _, _⟩, hf⟩ := may_forms h
  have e1 := low4_small d0 d1
  have e3 := or64_0 d0 d1
  rcases hf with ⟨rfl, rfl, rfl, _, h8, ho, hw, _, _⟩ | ⟨rfl, rfl, rfl, rfl, rfl, _, hs⟩ | ⟨rfl, rfl, rfl, rfl, rfl, hs⟩ | ⟨rfl, _⟩ | ⟨rfl, _⟩ | ⟨rfl, rfl, rfl, rfl, rfl, rfl, rfl, rfl, _⟩ | ⟨rfl, rfl, rfl, rfl, rfl, rfl, rfl, rfl, rfl⟩
  · clear h h8
    rcases ho with rfl | rfl | rfl | rfl | rfl | rfl | rfl | rfl | rfl | rfl | rfl | rfl | rfl <;> cases byReg <;> simp [stepsM, aluM, wantM]
    all_goals (repeat' split)
    all_goals (simp [namesD, namesF, irOf, e1, e3])
  · simp [stepsM, namesD, namesF, irOf, wantM, e1, e3]
  · simp [stepsM, namesD, namesF, irOf, wantM, e1, e3]
  · simp [stepsM, namesD, namesF]
  · simp [stepsM, namesD, namesF]
  · have : or64 (or64 (or64 (or64 (or64 (or64 0 (sh8 (low4 0))) (sh8 (low4 1))) (sh8 (low4 2))) (sh8 (low4 3))) (sh8 (low4 4))) (sh8 (low4 5)) = 63 := by decide +kernel
    simp [stepsM, namesD, namesF, irOf, wantM, this]
  · simp [stepsM, namesD, namesF, irOf, wantM]
/-- An instruction's steps take what it reads alone. -/
theorem takes_reads {kind op width size : Int} {byReg : Bool} {dst src off imm : Int} (h : mayM kind op width size byReg dst src off imm = true) (h3 : kind ≠ 3) (h4 : kind ≠ 4) :
    andNot64 (namesD 1 (stepsM kind op width size byReg dst src off imm)) (readsM kind op byReg dst src imm) = 0 := by
  obtain ⟨⟨d0, d1, s0, s1, _, _, _, _⟩, hf⟩ := may_forms h
  have e1 := low4_small d0 d1
  have e2 := low4_small s0 s1
  have e3 := or64_0 d0 d1
  have e4 := or64_0 s0 s1
  have e5 := or64_or d0 d1 s0 s1
  have e6 := or64_or' d0 d1 s0 s1
  have e7 := or64_com d0 d1 s0 s1
  have e8 := andNot_self d0 d1
  have e9 := andNot_self s0 s1
  have e10 := andNot_or d0 d1 s0 s1
  have e11 := sh1_small d0 d1
  have e12 := sh1_small s0 s1
  have e13 := or64_com s0 s1 d0 d1
  have e14 := or64_self d0 d1
  have e15 := andNot_sub d0 d1 s0 s1
  rcases hf with ⟨rfl, rfl, rfl, _, h8, ho, hw, _, _⟩ | ⟨rfl, rfl, rfl, rfl, rfl, _, hs⟩ | ⟨rfl, rfl, rfl, rfl, rfl, hs⟩ | ⟨rfl, _⟩ | ⟨rfl, _⟩ | ⟨rfl, rfl, rfl, rfl, rfl, rfl, rfl, rfl, _⟩ | ⟨rfl, rfl, rfl, rfl, rfl, rfl, rfl, rfl, rfl⟩
  · clear h h8
    rcases ho with rfl | rfl | rfl | rfl | rfl | rfl | rfl | rfl | rfl | rfl | rfl | rfl | rfl <;> cases byReg <;> simp [stepsM, aluM, readsM]
    all_goals (repeat' split)
    all_goals (simp [namesD, namesF, irOf, andNot_0, e1, e2, e3, e4, e5, e6, e8, e9, e10, e11, e12, e14, e15])
  · simp [stepsM, namesD, namesF, irOf, readsM, e2, e4, e12, e9]
  · simp [stepsM, namesD, namesF, irOf, readsM, e1, e2, e3, e11, e12, e10]
  · exact absurd rfl h3
  · exact absurd rfl h4
  · simp [stepsM, namesD, namesF, irOf, andNot_0]
  · simp [stepsM, namesD, namesF, irOf, andNot_0]
end Go.Ev
