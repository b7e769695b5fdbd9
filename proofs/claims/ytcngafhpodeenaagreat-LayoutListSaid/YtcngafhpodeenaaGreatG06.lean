/- Contracts and plain laws that a statement's proof leans on (texts merged: MdP3, MdW, MdF2, MdE, MdT, MdRd, XQ1, XQ1A, XQ2, Az, XOf, ZR0, XQS, XQ2A, XQN). -/
import Derived.Test.YtcngafhpodeenaaGreatG05
set_option linter.unusedVariables false
set_option linter.unusedSimpArgs false
namespace Go.Ev
open Go
def xsD (x : XS) : D := xD x.op x.w x.dst x.src x.base x.disp x.imm x.cc
def mayXS (x : XS) : Bool := mayX x.op x.w x.dst x.src x.base x.disp x.imm x.cc
def bytesXS (x : XS) : List Int := bytesM x.op x.w x.dst x.src x.base x.disp x.imm x.cc
theorem shape_range : ∀ n : Fin 32, 1 ≤ shapeM (n.val : Int) ∧ shapeM (n.val : Int) ≤ 11 := by decide +kernel
theorem shape_some {k : Int} (k0 : 0 ≤ k) (k1 : k ≤ 31) : shapeM k = 1 ∨ shapeM k = 2 ∨ shapeM k = 3 ∨ shapeM k = 4 ∨ shapeM k = 5 ∨ shapeM k = 6 ∨ shapeM k = 7 ∨ shapeM k = 8 ∨ shapeM k = 9 ∨ shapeM k = 10 ∨ shapeM k = 11 := by
 have := shape_range ⟨k.toNat, by omega⟩
 have e : ((⟨k.toNat, by omega⟩ : Fin 32).val : Int) = k := by simp; omega
 rw [e] at this
 omega
theorem wr_op {k : Int} (k0 : 0 ≤ k) (k1 : k ≤ 31) : IntKind.i8.wrap k = k := by rw [w_i8]; omega
theorem par_small {b : List Int} (hb : isB b) {s : RawS} (h : parM b = some s) : 0 ≤ s.code ∧ s.code ≤ 255 ∧ (s.high = 0 ∨ s.high = 8) := by
 have code : ∀ {w R M : Int} {u : List Int}, isB u → (M = 0 ∨ M = 8) → parCode w R M u = some s → 0 ≤ s.code ∧ s.code ≤ 255 ∧ (s.high = 0 ∨ s.high = 8) := by
  intro w R M u hu hM h
  match u, hu with
  | [], _ => cases h
  | c :: v, hu =>
   obtain ⟨⟨c0, c1⟩, hv⟩ := isB_cons.1 hu
   by_cases hc : c = 15
   ·subst hc
    match v, hv, h with
    | [], _, h => rw [show parCode w R M [15] = some (parRest w R M false 15 []) from rfl] at h; cases h; exact ⟨by simp [parRest], by simp [parRest], hM⟩
    | d :: z, hv, h => rw [parCode_15] at h; cases h; exact ⟨(hv d (by simp)).1, (hv d (by simp)).2, hM⟩
   ·rw [parCode_c hc] at h; cases h; exact ⟨c0, c1, hM⟩
 have rex : ∀ {w : Int} {u : List Int}, isB u → parRex w u = some s → 0 ≤ s.code ∧ s.code ≤ 255 ∧ (s.high = 0 ∨ s.high = 8) := by
  intro w u hu h
  match u, hu with
  | [], _ => cases h
  | c :: v, hu =>
   by_cases hq : rexQ c = true
   ·simp only [parRex, if_pos hq] at h
    exact code (isB_cons.1 hu).2 (by omega) h
   ·simp only [parRex, if_neg hq] at h
    exact code hu (.inl rfl) h
 unfold parM at h
 split at h
 ·exact rex (fun x hx => hb x (List.mem_of_mem_drop hx)) h
 ·exact rex hb h
def fitsX (b : List Int) (x : XS) : Bool := mayXS x && (bytesXS x).isPrefixOf b
def firstX (b : List Int) (s : RawS) : List Int → Option XS
  | [] => none
  | k :: r => if fitsX b (asM s k) then some (asM s k) else firstX b s r
def readM (b : List Int) : Option XS := if fitsX b (decM b) then some (decM b) else none
theorem fits_back {b : List Int} {x : XS} (h : fitsX b x = true) : decM b = x ∧ ∃ s, parM b = some s ∧ asM s x.op = x := by
 unfold fitsX at h
 rw [Bool.and_eq_true, List.isPrefixOf_iff_prefix] at h
 obtain ⟨hm, t, rfl⟩ := h
 exact ⟨dec_back hm t, par_back hm t⟩
theorem first_some {b : List Int} {s : RawS} {x : XS} : ∀ {l : List Int}, firstX b s l = some x → fitsX b x = true
 | [], h => by cases h
 | k :: r, h => by
  unfold firstX at h
  split at h
  ·rename_i hf; cases h; exact hf
  ·exact first_some h
theorem first_none {b : List Int} {s : RawS} : ∀ {l : List Int}, firstX b s l = none → ∀ k ∈ l, fitsX b (asM s k) = false
 | [], _, k, hk => by cases hk
 | a :: r, h, k, hk => by
  unfold firstX at h
  split at h
  ·cases h
  ·rename_i hf
   rcases List.mem_cons.1 hk with rfl | hk
   ·simpa using hf
   ·exact first_none h k hk
theorem may_op {x : XS} (h : mayXS x = true) : x.op ∈ ops32 := by
 have hs := (mayX_parts h).2
 have hsh : shapeM x.op ≠ 0 := by intro e; rw [e] at hs; simp [mayS] at hs
 have := shape_ops hsh
 unfold ops32
 simp only [List.mem_cons, List.not_mem_nil, or_false]
 exact this
theorem first_read {b : List Int} {s : RawS} (hs : parM b = some s) : firstX b s ops32 = readM b := by
 unfold readM
 cases h : firstX b s ops32 with
 | some x =>
  have hf := first_some h
  rw [(fits_back hf).1, if_pos hf]
 | none =>
  split
  ·rename_i hf
   obtain ⟨_, s', hs', ha⟩ := fits_back hf
   rw [hs] at hs'
   obtain rfl := Option.some.inj hs'
   have hop := may_op (by unfold fitsX at hf; rw [Bool.and_eq_true] at hf; exact hf.1)
   have := first_none h _ hop
   rw [ha, hf] at this
   cases this
  ·rfl
theorem read_none {b : List Int} (hs : parM b = none) : readM b = none := by
 unfold readM
 split
 ·rename_i hf
  obtain ⟨_, s', hs', _⟩ := fits_back hf
  rw [hs] at hs'
  cases hs'
 ·rfl
theorem allB (l : List Int) : (bD l).all isByte = true := by simp [bD, isByte]
theorem allB_take (l : List Int) (n : Nat) : ((bD l).take n).all isByte = true := by
 rw [show (bD l).take n = bD (l.take n) by simp [bD, List.map_take]]
 exact allB _
def formsL : List D := [.int .i8 1, .int .u8 137, .int .i8 0, .int .i8 3, .int .u8 199, .int .i8 0, .int .i8 1, .int .u8 1, .int .i8 0, .int .i8 1, .int .u8 9, .int .i8 0, .int .i8 1, .int .u8 33, .int .i8 0, .int .i8 1, .int .u8 41, .int .i8 0, .int .i8 1, .int .u8 49, .int .i8 0, .int .i8 1, .int .u8 57, .int .i8 0, .int .i8 1, .int .u8 133, .int .i8 0, .int .i8 3, .int .u8 129, .int .i8 0, .int .i8 3, .int .u8 129, .int .i8 1, .int .i8 3, .int .u8 129, .int .i8 4, .int .i8 3, .int .u8 129, .int .i8 5, .int .i8 3, .int .u8 129, .int .i8 6, .int .i8 3, .int .u8 129, .int .i8 7, .int .i8 3, .int .u8 247, .int .i8 0, .int .i8 2, .int .u8 175, .int .i8 0, .int .i8 4, .int .u8 193, .int .i8 4, .int .i8 4, .int .u8 193, .int .i8 5, .int .i8 4, .int .u8 193, .int .i8 7, .int .i8 5, .int .u8 211, .int .i8 4, .int .i8 5, .int .u8 211, .int .i8 5, .int .i8 5, .int .u8 211, .int .i8 7, .int .i8 5, .int .u8 247, .int .i8 3, .int .i8 5, .int .u8 247, .int .i8 6, .int .i8 6, .int .u8 64, .int .i8 0, .int .i8 7, .int .u8 139, .int .i8 0, .int .i8 8, .int .u8 137, .int .i8 0, .int .i8 9, .int .u8 233, .int .i8 0, .int .i8 10, .int .u8 128, .int .i8 0, .int .i8 11, .int .u8 195, .int .i8 0, .int .i8 11, .int .u8 5, .int .i8 0]
theorem formsL_at (n : Nat) (hn : n < 32) : (formsL.drop (n * 3)).take 3 = [D.int .i8 (shapeM (n : Int)), D.int .u8 (codeM (n : Int)), D.int .i8 (numM (n : Int))] := by
 have : n = 0 ∨ n = 1 ∨ n = 2 ∨ n = 3 ∨ n = 4 ∨ n = 5 ∨ n = 6 ∨ n = 7 ∨ n = 8 ∨ n = 9 ∨ n = 10 ∨ n = 11 ∨ n = 12 ∨ n = 13 ∨ n = 14 ∨ n = 15 ∨ n = 16 ∨ n = 17 ∨ n = 18 ∨ n = 19 ∨ n = 20 ∨ n = 21 ∨ n = 22 ∨ n = 23 ∨ n = 24 ∨ n = 25 ∨ n = 26 ∨ n = 27 ∨ n = 28 ∨ n = 29 ∨ n = 30 ∨ n = 31 := by omega
 rcases this with rfl | rfl | rfl | rfl | rfl | rfl | rfl | rfl | rfl | rfl | rfl | rfl | rfl | rfl | rfl | rfl | rfl | rfl | rfl | rfl | rfl | rfl | rfl | rfl | rfl | rfl | rfl | rfl | rfl | rfl | rfl | rfl <;> rfl
theorem get_form {k : Int} (k0 : 0 ≤ k) (k1 : k ≤ 31) : GetsA formsL (k.toNat * 3) 3 [D.int .i8 (shapeM k), D.int .u8 (codeM k), D.int .i8 (numM k)] := by
 have h := formsL_at k.toNat (by omega)
 have e : (k.toNat : Int) = k := by omega
 rw [e] at h
 refine ⟨h, ?_⟩
 have hl : formsL.length = 96 := rfl
 rw [hl]
 omega
theorem A255_isB {l : List Int} (h : A255 l) : isB l := by
 intro x hx
 exact h x hx
theorem bytesXS_isB {x : XS} (h : mayXS x = true) : isB (bytesXS x) := A255_isB (bytesM_range h)
theorem fit_str {own b : List Int} (ho : isB own) (hb : isB b) : (own.isPrefixOf b = true ↔ ((bD own).length : Int) ≤ ((bD b).length : Int) ∧ ((strD (bD own)).toList == (strD (List.take (Int.toNat ((List.length (bD own) : Nat) : Int)) (bD b))).toList) = true) := by
 rw [List.isPrefixOf_iff_prefix, List.prefix_iff_eq_take, len_bD, len_bD, Int.toNat_natCast, show (bD b).take own.length = bD (b.take own.length) by simp [bD, List.map_take], beq_iff_eq]
 constructor
 ·intro h
  refine ⟨?_, by rw [← h]⟩
  have := congrArg List.length h
  rw [List.length_take] at this
  omega
 ·rintro ⟨_, h2⟩
  exact bD_inj ho (fun x hx => hb x (List.mem_of_mem_take hx)) h2
theorem ops_drop {n : Nat} (hn : n < 32) : ops32.drop n = (n : Int) :: ops32.drop (n + 1) := by
 have : n = 0 ∨ n = 1 ∨ n = 2 ∨ n = 3 ∨ n = 4 ∨ n = 5 ∨ n = 6 ∨ n = 7 ∨ n = 8 ∨ n = 9 ∨ n = 10 ∨ n = 11 ∨ n = 12 ∨ n = 13 ∨ n = 14 ∨ n = 15 ∨ n = 16 ∨ n = 17 ∨ n = 18 ∨ n = 19 ∨ n = 20 ∨ n = 21 ∨ n = 22 ∨ n = 23 ∨ n = 24 ∨ n = 25 ∨ n = 26 ∨ n = 27 ∨ n = 28 ∨ n = 29 ∨ n = 30 ∨ n = 31 := by omega
 rcases this with rfl | rfl | rfl | rfl | rfl | rfl | rfl | rfl | rfl | rfl | rfl | rfl | rfl | rfl | rfl | rfl | rfl | rfl | rfl | rfl | rfl | rfl | rfl | rfl | rfl | rfl | rfl | rfl | rfl | rfl | rfl | rfl <;> rfl
theorem asM_op (s : RawS) (k : Int) : (asM s k).op = k := by
 simp only [asM, asS, apply_ite XS.op, ite_self]
def readD : Option XS → D
  | none => .tup [xD 0 0 0 0 0 0 0 0, .int .i64 0, .int .i64 30]
  | some x => .tup [xsD x, .int .i64 (bytesXS x).length, .int .i64 0]
end Go.Ev

namespace Go.Ev
open Go
def readsX (op dst src base : Int) : Int :=
  if op = 0 then sh8 src
  else if op = 1 ∨ op = 28 ∨ op = 29 then 0
  else if 20 ≤ op ∧ op ≤ 22 then or64 (sh8 dst) (sh8 1)
  else if op = 24 then or64 (or64 (sh8 dst) (sh8 0)) (sh8 2)
  else if op = 26 then sh8 base
  else if op = 27 then or64 (sh8 base) (sh8 src)
  else if op = 30 then 17
  else if op = 31 then 1477
  else if shapeM op = 1 ∨ shapeM op = 2 ∨ shapeM op = 6 then or64 (sh8 dst) (sh8 src)
  else sh8 dst
def writesX (op dst : Int) : Int :=
  if op = 7 ∨ op = 8 ∨ op = 14 ∨ op = 15 ∨ op = 27 ∨ op = 28 ∨ op = 29 then 0
  else if op = 24 then 5
  else if op = 30 then 16
  else if op = 31 then 2051
  else sh8 dst
def readsXX (op w dst src base disp imm cc : Int) : Int := if mayX op w dst src base disp imm cc then readsX op dst src base else 0
def writesXX (op w dst src base disp imm cc : Int) : Int := if mayX op w dst src base disp imm cc then writesX op dst else 0
end Go.Ev

namespace Go.Ev
open Go
def addC (w a b : Int) : Bool := decide (cutM (u64 (a + b)) w < cutM a w)
def addO (w a b : Int) : Bool := negM (and64u (xor64 a (u64 (a + b))) (xor64 b (u64 (a + b)))) w
def subC (w a b : Int) : Bool := decide (cutM a w < cutM b w)
def subO (w a b : Int) : Bool := negM (and64u (xor64 a b) (xor64 a (u64 (a - b)))) w
def holdM (cc : Int) (c z s o : Bool) : Bool :=
  if cc = 2 then c else if cc = 3 then !c else if cc = 4 then z else if cc = 5 then !z else if cc = 6 then (c || z) else if cc = 7 then !(c || z)
  else if cc = 12 then (s != o) else if cc = 13 then !(s != o) else if cc = 14 then (z || (s != o)) else !(z || (s != o))
def wrOp (op : Int) : Bool := !(decide (op = 7 ∨ op = 8 ∨ op = 14 ∨ op = 15 ∨ op = 27 ∨ op = 28 ∨ op = 29))
end Go.Ev

namespace Go.Ev
open Go
def inU (n : Int) : Prop := 0 ≤ n ∧ n ≤ 18446744073709551615
theorem cut_cut (v w : Int) : cutM (cutM v w) w = cutM v w := by
 unfold cutM
 split
 ·omega
 ·split
  ·omega
  ·split
   ·omega
   ·rfl
def bitOf (w k : Int) : Int := IntKind.i64.wrap ((BitVec.ofInt 64 (w.fdiv (2 ^ (min k.toNat 64))) &&& BitVec.ofInt 64 1).toNat : Int)
def mayP (w dst src : Int) : Bool := longM w && regM dst && regM src
end Go.Ev

namespace Go.Ev
open Go
theorem and8u (a : Int) : ((BitVec.ofInt 64 a &&& BitVec.ofInt 64 255).toNat : Int) = a % 256 := by have := and_ones 64 8 (by omega) a; exact this
theorem bit_at (v : Int) (i : Nat) : (BitVec.ofInt 64 v).getLsbD i = decide ((v % 18446744073709551616).toNat / 2 ^ i % 2 = 1) := by
 rw [← BitVec.testBit_toNat, toNat_ofInt, Nat.testBit_eq_decide_div_mod_eq]
 rfl
def topM (v w : Int) : Bool := IntKind.u64.wrap ((BitVec.ofInt 64 (v.fdiv (2 ^ (min (IntKind.i8.wrap (w - 1)).toNat 64))) &&& BitVec.ofInt 64 1).toNat : Int) == 1
theorem and1 (a : Int) : ((BitVec.ofInt 64 a &&& BitVec.ofInt 64 1).toNat : Int) = a % 2 := by have := and_ones 64 1 (by omega) a; exact this
theorem top32 (v : Int) : topM v 32 = (BitVec.ofInt 64 v).getLsbD 31 := by
 have e : topM v 32 = (IntKind.u64.wrap ((BitVec.ofInt 64 (v.fdiv 2147483648) &&& BitVec.ofInt 64 1).toNat : Int) == 1) := rfl
 rw [e, and1, w_u64, Int.fdiv_eq_ediv_of_nonneg _ (by decide), bit_at, Bool.eq_iff_iff, beq_iff_eq, decide_eq_true_eq]
 omega
theorem top_cut {w v : Int} (hw : longM w = true) : topM (cutM v w) w = topM v w := by
 rcases long_cases hw with rfl | rfl
 ·rw [top32, top32, bit_at, bit_at, show cutM v 32 = v % 4294967296 from rfl, decide_eq_decide]
  omega
 ·rfl
theorem sign32_t {v : Int} (h : topM (cutM v 32) 32 = true) : IntKind.u64.wrap (cutM v 32 - 4294967296) = signM v 32 := by
 rw [show signM v 32 = IntKind.u64.wrap (IntKind.i32.wrap v) from rfl]
 rw [top_cut rfl, top32, bit_at, decide_eq_true_eq] at h
 rw [show cutM v 32 = v % 4294967296 from rfl, w_u64, w_u64, w_i32]
 omega
theorem sign32_f {v : Int} (h : topM (cutM v 32) 32 = false) : cutM v 32 = signM v 32 := by
 rw [show signM v 32 = IntKind.u64.wrap (IntKind.i32.wrap v) from rfl]
 rw [top_cut rfl, top32, bit_at, decide_eq_false_iff_not] at h
 rw [show cutM v 32 = v % 4294967296 from rfl, w_u64, w_i32]
 omega
theorem sign32_t' {v : Int} (h : IntKind.u64.wrap ((BitVec.ofInt 64 ((cutM v 32).fdiv 2147483648) &&& BitVec.ofInt 64 1).toNat : Int) = 1) : IntKind.u64.wrap (cutM v 32 - 4294967296) = signM v 32 := by
 refine sign32_t ?_
 have e : topM (cutM v 32) 32 = (IntKind.u64.wrap ((BitVec.ofInt 64 ((cutM v 32).fdiv 2147483648) &&& BitVec.ofInt 64 1).toNat : Int) == 1) := rfl
 rw [e, h]
 rfl
theorem sign32_f' {v : Int} (h : ¬ IntKind.u64.wrap ((BitVec.ofInt 64 ((cutM v 32).fdiv 2147483648) &&& BitVec.ofInt 64 1).toNat : Int) = 1) : cutM v 32 = signM v 32 := by
 refine sign32_f ?_
 have e : topM (cutM v 32) 32 = (IntKind.u64.wrap ((BitVec.ofInt 64 ((cutM v 32).fdiv 2147483648) &&& BitVec.ofInt 64 1).toNat : Int) == 1) := rfl
 rw [e]
 exact beq_eq_false_iff_ne.mpr h
end Go.Ev

namespace Go.Ev
open Go
def rdV (b : List Int) (at_ : Nat) : Int := b.getD at_ 0
def rdA (b : List Int) (at_ : Nat) : Nat := if at_ < b.length then at_ + 1 else at_
def rdX (b : List Int) (at_ : Nat) (bad : Bool) : Bool := bad || decide (b.length ≤ at_)
theorem rdA_le {b : List Int} {at_ : Nat} (h : at_ ≤ b.length) : rdA b at_ ≤ b.length := by unfold rdA; split <;> omega
theorem sign8_t' {v : Int} (h : IntKind.u64.wrap ((BitVec.ofInt 64 ((cutM v 8).fdiv 128) &&& BitVec.ofInt 64 1).toNat : Int) = 1) : IntKind.u64.wrap (cutM v 8 - 256) = signM v 8 := by
 rw [show signM v 8 = IntKind.u64.wrap (IntKind.i8.wrap v) from rfl]
 rw [and1, w_u64, Int.fdiv_eq_ediv_of_nonneg _ (by decide), show cutM v 8 = v % 256 from rfl] at h
 rw [show cutM v 8 = v % 256 from rfl, w_u64, w_u64, w_i8]
 omega
theorem sign8_f' {v : Int} (h : ¬ IntKind.u64.wrap ((BitVec.ofInt 64 ((cutM v 8).fdiv 128) &&& BitVec.ofInt 64 1).toNat : Int) = 1) : cutM v 8 = signM v 8 := by
 rw [show signM v 8 = IntKind.u64.wrap (IntKind.i8.wrap v) from rfl]
 rw [and1, w_u64, Int.fdiv_eq_ediv_of_nonneg _ (by decide), show cutM v 8 = v % 256 from rfl] at h
 rw [show cutM v 8 = v % 256 from rfl, w_u64, w_i8]
 omega
def rdN4 (b : List Int) (k : Nat) : Int := IntKind.i32.wrap (rdV b k + 256 * rdV b (rdA b k) + 65536 * rdV b (rdA b (rdA b k)) + 16777216 * rdV b (rdA b (rdA b (rdA b k))))
def rdN1 (b : List Int) (k : Nat) : Int := IntKind.i8.wrap (rdV b k)
def rdA4 (b : List Int) (k : Nat) : Nat := rdA b (rdA b (rdA b (rdA b k)))
def rdX4 (b : List Int) (k : Nat) (bad : Bool) : Bool := rdX b (rdA b (rdA b (rdA b k))) (rdX b (rdA b (rdA b k)) (rdX b (rdA b k) (rdX b k bad)))
def rdHi (n rr : Int) : Int := IntKind.i8.wrap (IntKind.i8.wrap (IntKind.i64.wrap ((BitVec.ofInt 64 (n.fdiv 8) &&& BitVec.ofInt 64 7).toNat : Int)) + IntKind.i8.wrap (8 * rr))
def rdLo (n mm : Int) : Int := IntKind.i8.wrap (IntKind.i8.wrap (IntKind.i64.wrap ((BitVec.ofInt 64 n &&& BitVec.ofInt 64 7).toNat : Int)) + IntKind.i8.wrap (8 * mm))
theorem and64_7 (a : Int) : ((BitVec.ofInt 64 a &&& BitVec.ofInt 64 7).toNat : Int) = a % 8 := by have := and_ones 64 3 (by omega) a; exact this
theorem rdHi_eq {n rr : Int} (hn : 0 ≤ n ∧ n ≤ 255) (hr : 0 ≤ rr ∧ rr ≤ 1) : rdHi n rr = n / 8 % 8 + 8 * rr := by
 unfold rdHi
 rw [and64_7, Int.fdiv_eq_ediv_of_nonneg _ (by decide), w_i64, w_i8, w_i8, w_i8]
 omega
theorem rdLo_eq {n mm : Int} (hn : 0 ≤ n ∧ n ≤ 255) (hr : 0 ≤ mm ∧ mm ≤ 1) : rdLo n mm = n % 8 + 8 * mm := by
 unfold rdLo
 rw [and64_7, w_i64, w_i8, w_i8, w_i8]
 omega
def rd2X (b : List Int) (k : Nat) (bad : Bool) : Bool := rdX b k bad || decide (rdV b k < 192)
def rdMk (b : List Int) (k : Nat) : Nat := if rdV b k % 8 = 4 then rdA b (rdA b k) else rdA b k
def rdMx (b : List Int) (k : Nat) (bad : Bool) : Bool :=
  let b1 := rdX b k bad || decide (rdV b k < 128) || decide (192 ≤ rdV b k)
  if rdV b k % 8 = 4 then rdX b (rdA b k) b1 || decide (rdV b (rdA b k) ≠ 36) else b1
def prRex (n : Int) : Bool := decide (n / 16 % 16 = 4)
def pr1 (b : List Int) (k : Nat) : Nat := if rdV b k = 102 then rdA b k else k
def prx1 (b : List Int) (k : Nat) (bad : Bool) : Bool := if rdV b k = 102 then rdX b k bad else bad
def prQ (b : List Int) (k : Nat) : Bool := prRex (rdV b (pr1 b k))
def prN (b : List Int) (k : Nat) : Int := if prQ b k then rdV b (rdA b (pr1 b k)) else rdV b (pr1 b k)
def prK (b : List Int) (k : Nat) : Nat := if prQ b k then rdA b (rdA b (pr1 b k)) else rdA b (pr1 b k)
def prX (b : List Int) (k : Nat) (bad : Bool) : Bool :=
  if prQ b k then rdX b (rdA b (pr1 b k)) (rdX b (pr1 b k) (prx1 b k bad) || decide (rdV b (pr1 b k) / 2 % 2 = 1)) else rdX b (pr1 b k) (prx1 b k bad)
def prW (b : List Int) (k : Nat) : Bool := prQ b k && decide (rdV b (pr1 b k) / 8 % 2 = 1)
def prR (b : List Int) (k : Nat) : Int := if prQ b k then rdV b (pr1 b k) / 4 % 2 else 0
def prM (b : List Int) (k : Nat) : Int := if prQ b k then rdV b (pr1 b k) % 2 else 0
theorem bits_fin : ∀ n : Fin 256, (IntKind.i64.wrap ((BitVec.ofInt 64 (n.val : Int) &&& BitVec.ofInt 64 240).toNat : Int) = 64 ↔ (n.val : Int) / 16 % 16 = 4) ∧ ((IntKind.i64.wrap ((BitVec.ofInt 64 (n.val : Int) &&& BitVec.ofInt 64 8).toNat : Int) != 0) = decide ((n.val : Int) / 8 % 2 = 1)) ∧ ((IntKind.i64.wrap ((BitVec.ofInt 64 (n.val : Int) &&& BitVec.ofInt 64 2).toNat : Int) != 0) = decide ((n.val : Int) / 2 % 2 = 1)) ∧ IntKind.i8.wrap (IntKind.i64.wrap ((BitVec.ofInt 64 (Int.fdiv (n.val : Int) 4) &&& BitVec.ofInt 64 1).toNat : Int)) = (n.val : Int) / 4 % 2 ∧ IntKind.i8.wrap (IntKind.i64.wrap ((BitVec.ofInt 64 (n.val : Int) &&& BitVec.ofInt 64 1).toNat : Int)) = (n.val : Int) % 2 := by decide +kernel
theorem bits_byte {n : Int} (h : 0 ≤ n ∧ n ≤ 255) : (IntKind.i64.wrap ((BitVec.ofInt 64 n &&& BitVec.ofInt 64 240).toNat : Int) = 64 ↔ n / 16 % 16 = 4) ∧ ((IntKind.i64.wrap ((BitVec.ofInt 64 n &&& BitVec.ofInt 64 8).toNat : Int) != 0) = decide (n / 8 % 2 = 1)) ∧ ((IntKind.i64.wrap ((BitVec.ofInt 64 n &&& BitVec.ofInt 64 2).toNat : Int) != 0) = decide (n / 2 % 2 = 1)) ∧ IntKind.i8.wrap (IntKind.i64.wrap ((BitVec.ofInt 64 (Int.fdiv n 4) &&& BitVec.ofInt 64 1).toNat : Int)) = n / 4 % 2 ∧ IntKind.i8.wrap (IntKind.i64.wrap ((BitVec.ofInt 64 n &&& BitVec.ofInt 64 1).toNat : Int)) = n % 2 := by
 have := bits_fin ⟨n.toNat, by omega⟩
 have e : ((n.toNat : Nat) : Int) = n := by omega
 simp only [e] at this
 exact this
def rcM (op : Int) : Int := if op = 0 ∨ (2 ≤ op ∧ op ≤ 8) then codeM op else numM op
def grpIn (base op : Int) : Bool := if base = 129 then decide (classM op = 2 ∧ op ≠ 15 ∧ op ≠ 1) else if base = 193 then decide (classM op = 3) else if base = 211 then decide (classM op = 4 ∧ op ≠ 23 ∧ op ≠ 24) else decide (op = 23 ∨ op = 24 ∨ op = 15)
def grpHit (base n op : Int) : Bool := grpIn base op && decide (rcM op = n)
def groupM (base n : Int) : Int := (ops32.find? (grpHit base n)).getD (-1)
end Go.Ev

namespace Go.Proofs.YtcngafhpodeenaaGreat
open Go Go.Ev
set_option maxRecDepth 100000
set_option maxHeartbeats 8000000
theorem rb_in_ok (X0 X2 : List D) (b : List Int) (k : Nat) (bad w : Bool) (rr mm : Int) (l1 : ((bD b).length : Int) ≤ 1000) (h : (k : Int) < ((bD b).length : Int)) (v : Int) (hv : (bD b)[Int.toNat (IntKind.i64.wrap (IntKind.i64.wrap ((k : Int) + 1) - 1))]? = some (.int .u8 v))  : CallRun Tryz.prog 22 ([.ptr false 1 0]) ([.box X0, .box [.lst .no 1 (bD b), .int .i64 ((k : Int)), .bool bad, .bool w, .int .i8 rr, .int .i8 mm], .box X2]) (.int .i64 (IntKind.i64.wrap v)) ([.box X0, .box [.lst .no 1 (bD b), .int .i64 (IntKind.i64.wrap ((k : Int) + 1)), .bool bad, .bool w, .int .i8 rr, .int .i8 mm], .box X2]) := by
 exact (CallRun.of_eval (keep := [0, 1, 2]) (d := .int .i64 (IntKind.wrap IntKind.i64 v)) (s' := [Ob.box X0, Ob.box [.lst .no 1 (bD b), .int .i64 (IntKind.wrap IntKind.i64 ((↑k : Int) + (1 : Int))), .bool bad, .bool w, .int .i8 rr, .int .i8 mm], Ob.box X2]) mixed [tC (by ((try simp only [len_bD, w_i8, w_u8, w_i64, w_u64, decide_eq_true_eq, decide_eq_false_iff_not, beq_iff_eq, bne_iff_ne, beq_eq_false_iff_ne, bne_eq_false_iff_eq, Bool.not_eq_true', Bool.not_eq_false', Bool.and_eq_true, Bool.or_eq_true] at *); (try unfold big at *); omega) : (decide ((↑k : Int) ≥ (↑(List.length (bD b)) : Int))) = false), .tst (decide ((0 : Int) ≤ IntKind.wrap IntKind.i64 (IntKind.wrap IntKind.i64 ((↑k : Int) + (1 : Int)) - (1 : Int)))) true (by ((try simp only [len_bD, w_i8, w_u8, w_i64, w_u64, decide_eq_true_eq, decide_eq_false_iff_not, beq_iff_eq, bne_iff_ne, beq_eq_false_iff_ne, bne_eq_false_iff_eq, Bool.not_eq_true', Bool.not_eq_false', Bool.and_eq_true, Bool.or_eq_true] at *); (try unfold big at *); omega)), .get _ _ _ hv] (by kernel_rfl)).cast (by rfl) (by rfl)
theorem rb_out_ok (X0 X2 : List D) (b : List Int) (k : Nat) (bad w : Bool) (rr mm : Int) (l1 : ((bD b).length : Int) ≤ 1000) (h : ((bD b).length : Int) ≤ (k : Int))  : CallRun Tryz.prog 22 ([.ptr false 1 0]) ([.box X0, .box [.lst .no 1 (bD b), .int .i64 ((k : Int)), .bool bad, .bool w, .int .i8 rr, .int .i8 mm], .box X2]) (.int .i64 0) ([.box X0, .box [.lst .no 1 (bD b), .int .i64 ((k : Int)), .bool true, .bool w, .int .i8 rr, .int .i8 mm], .box X2]) := by
 exact (CallRun.of_eval (keep := [0, 1, 2]) (d := .int .i64 0) (s' := [Ob.box X0, Ob.box [.lst .no 1 (bD b), .int .i64 (↑k : Int), .bool true, .bool w, .int .i8 rr, .int .i8 mm], Ob.box X2]) mixed [tC (by ((try simp only [len_bD, w_i8, w_u8, w_i64, w_u64, decide_eq_true_eq, decide_eq_false_iff_not, beq_iff_eq, bne_iff_ne, beq_eq_false_iff_ne, bne_eq_false_iff_eq, Bool.not_eq_true', Bool.not_eq_false', Bool.and_eq_true, Bool.or_eq_true] at *); (try unfold big at *); omega) : (decide ((↑k : Int) ≥ (↑(List.length (bD b)) : Int))) = true)] (by kernel_rfl)).cast (by rfl) (by rfl)
end Go.Proofs.YtcngafhpodeenaaGreat

namespace Go.Proofs.YtcngafhpodeenaaGreat
open Go Go.Ev
set_option maxRecDepth 100000
abbrev rdS (X0 X2 : List D) (b : List Int) (k : Nat) (bad w : Bool) (rr mm : Int) : List Ob := [.box X0, .box [.lst .no 1 (bD b), .int .i64 (k : Int), .bool bad, .bool w, .int .i8 rr, .int .i8 mm], .box X2]
theorem rdV_rng {b : List Int} (hb : isB b) (k : Nat) : 0 ≤ rdV b k ∧ rdV b k ≤ 255 := by
 unfold rdV
 rw [List.getD_eq_getElem?_getD]
 cases e : b[k]? with
 | none => simp
 | some v => simpa using hb v (List.mem_of_getElem? e)
theorem byte_ok (X0 X2 : List D) (b : List Int) (hb : isB b) (hl : b.length ≤ 1000) (k : Nat) (bad w : Bool) (rr mm : Int) : CallRun Tryz.prog 22 [.ptr false 1 0] (rdS X0 X2 b k bad w rr mm) (.int .i64 (rdV b k)) (rdS X0 X2 b (rdA b k) (rdX b k bad) w rr mm) := by
 have l1 : ((bD b).length : Int) ≤ 1000 := by rw [len_bD]; omega
 by_cases h : k < b.length
 ·have hw : IntKind.i64.wrap ((k : Int) + 1) = ((k + 1 : Nat) : Int) := by rw [w_i64]; omega
  have hw2 : IntKind.i64.wrap (IntKind.i64.wrap ((k : Int) + 1) - 1) = (k : Int) := by rw [hw, w_i64]; omega
  have hv : (bD b)[Int.toNat (IntKind.i64.wrap (IntKind.i64.wrap ((k : Int) + 1) - 1))]? = some (.int .u8 (rdV b k)) := by
   rw [hw2, Int.toNat_natCast]
   unfold rdV bD
   simp [h, List.getD_eq_getElem?_getD]
  have := rb_in_ok X0 X2 b k bad w rr mm l1 (by rw [len_bD]; omega) (rdV b k) hv
  have hr := rdV_rng hb k
  have e : IntKind.i64.wrap (rdV b k) = rdV b k := by rw [w_i64]; omega
  have e1 : rdA b k = k + 1 := by unfold rdA; rw [if_pos h]
  have e2 : rdX b k bad = bad := by unfold rdX; rw [decide_eq_false (by omega), Bool.or_false]
  rw [hw, e] at this
  rw [e1, e2]
  exact this
 ·have := rb_out_ok X0 X2 b k bad w rr mm l1 (by rw [len_bD]; omega)
  have e0 : rdV b k = 0 := by unfold rdV; rw [List.getD_eq_getElem?_getD, List.getElem?_eq_none (by omega)]; rfl
  have e1 : rdA b k = k := by unfold rdA; rw [if_neg h]
  have e2 : rdX b k bad = true := by unfold rdX; rw [decide_eq_true (by omega), Bool.or_true]
  rw [e0, e1, e2]
  exact this
end Go.Proofs.YtcngafhpodeenaaGreat

namespace Go.Proofs.YtcngafhpodeenaaGreat
open Go Go.Ev
set_option maxRecDepth 100000
set_option maxHeartbeats 8000000
theorem rnum1_ok (X0 X2 : List D) (b : List Int) (hb : isB b) (hl : b.length ≤ 1000) (k : Nat) (bad w : Bool) (rr mm : Int) (u : Int) (hs : Ret Tryz.prog 45 [.int .u64 (IntKind.u64.wrap (0 + IntKind.u64.wrap (IntKind.u64.wrap (rdV b (k)) * 1))), .int .i8 8] (.int .u64 u))  : CallRun Tryz.prog 21 ([.ptr false 1 0, .int .i64 1]) ([.box X0, .box [.lst .no 1 (bD b), .int .i64 ((k : Int)), .bool (bad), .bool w, .int .i8 rr, .int .i8 mm], .box X2]) (.int .i64 (IntKind.i64.wrap u)) ([.box X0, .box [.lst .no 1 (bD b), .int .i64 ((rdA b (k) : Nat)), .bool (rdX b (k) (bad)), .bool w, .int .i8 rr, .int .i8 mm], .box X2, .dead]) := by
 exact (CallRun.of_eval (keep := [0, 1, 2]) (d := .int .i64 (IntKind.wrap IntKind.i64 u)) (s' := [Ob.box X0, Ob.box [.lst .no 1 (bD b), .int .i64 (↑(rdA b k) : Int), .bool (rdX b k bad), .bool w, .int .i8 rr, .int .i8 mm], Ob.box X2, Ob.dead]) mixed [.go 64, tT, .callR _ _ _ _ _ (@byte_ok (X0) (X2) (b) hb hl (k) (bad) (w) (rr) (mm)), tT, tF, .ret _ _ _ hs] (by kernel_rfl)).cast (by rfl) (by rfl)
theorem rnum4_ok (X0 X2 : List D) (b : List Int) (hb : isB b) (hl : b.length ≤ 1000) (k : Nat) (bad w : Bool) (rr mm : Int) (u : Int) (hs : Ret Tryz.prog 45 [.int .u64 (IntKind.u64.wrap (IntKind.u64.wrap (IntKind.u64.wrap (IntKind.u64.wrap (0 + IntKind.u64.wrap (IntKind.u64.wrap (rdV b (k)) * 1)) + IntKind.u64.wrap (IntKind.u64.wrap (rdV b (rdA b (k))) * 256)) + IntKind.u64.wrap (IntKind.u64.wrap (rdV b (rdA b (rdA b (k)))) * 65536)) + IntKind.u64.wrap (IntKind.u64.wrap (rdV b (rdA b (rdA b (rdA b (k))))) * 16777216))), .int .i8 32] (.int .u64 u))  : CallRun Tryz.prog 21 ([.ptr false 1 0, .int .i64 4]) ([.box X0, .box [.lst .no 1 (bD b), .int .i64 ((k : Int)), .bool (bad), .bool w, .int .i8 rr, .int .i8 mm], .box X2]) (.int .i64 (IntKind.i64.wrap u)) ([.box X0, .box [.lst .no 1 (bD b), .int .i64 ((rdA b (rdA b (rdA b (rdA b (k)))) : Nat)), .bool (rdX b (rdA b (rdA b (rdA b (k)))) (rdX b (rdA b (rdA b (k))) (rdX b (rdA b (k)) (rdX b (k) (bad))))), .bool w, .int .i8 rr, .int .i8 mm], .box X2, .dead]) := by
 exact (CallRun.of_eval (keep := [0, 1, 2]) (d := .int .i64 (IntKind.wrap IntKind.i64 u)) (s' := [Ob.box X0, Ob.box [.lst .no 1 (bD b), .int .i64 (↑(rdA b (rdA b (rdA b (rdA b k)))) : Int), .bool (rdX b (rdA b (rdA b (rdA b k))) (rdX b (rdA b (rdA b k)) (rdX b (rdA b k) (rdX b k bad)))), .bool w, .int .i8 rr, .int .i8 mm], Ob.box X2, Ob.dead]) mixed [.go 64, tT, .callR _ _ _ _ _ (@byte_ok (X0) (X2) (b) hb hl (k) (bad) (w) (rr) (mm)), tT, tT, .callR _ _ _ _ _ (@byte_ok (X0) (X2) (b) hb hl (rdA b k) (rdX b k bad) (w) (rr) (mm)), tT, tT, .callR _ _ _ _ _ (@byte_ok (X0) (X2) (b) hb hl (rdA b (rdA b k)) (rdX b (rdA b k) (rdX b k bad)) (w) (rr) (mm)), tT, tT, .callR _ _ _ _ _ (@byte_ok (X0) (X2) (b) hb hl (rdA b (rdA b (rdA b k))) (rdX b (rdA b (rdA b k)) (rdX b (rdA b k) (rdX b k bad))) (w) (rr) (mm)), tT, tF, .ret _ _ _ hs] (by kernel_rfl)).cast (by rfl) (by rfl)
end Go.Proofs.YtcngafhpodeenaaGreat

namespace Go.Proofs.YtcngafhpodeenaaGreat
open Go Go.Ev
abbrev EL := List (Ev Tryz.prog)
theorem bft (b : Bool) : b = true ∨ b = false := Bool.eq_false_or_eq_true b
theorem sl0 : (∀ {p : Prop} [Decidable p], (decide p = true) = p) ∧ (∀ {p : Prop} [Decidable p], (decide p = false) ↔ ¬p) ∧ (∀ (b : Bool), (¬(b = true)) = (b = false)) ∧ (∀ {α : Type} [BEq α] [LawfulBEq α] {a b : α}, (a == b) = true ↔ a = b) ∧ (∀ {α : Type} [BEq α] [LawfulBEq α] {a b : α}, (a == b) = false ↔ a ≠ b) ∧ (∀ (a b : Bool), (D.bool a = D.bool b) = (a = b)) := ⟨@decide_eq_true_eq, @decide_eq_false_iff_not, @Bool.not_eq_true, @beq_iff_eq, @beq_eq_false_iff_ne, @D.bool.injEq⟩
theorem sl2 : (∀ n : Int, IntKind.i8.wrap n = (n + 128) % 256 - 128) ∧ (∀ n : Int, IntKind.u8.wrap n = n % 256) ∧ (∀ n : Int, IntKind.i64.wrap n = (n + 9223372036854775808) % 18446744073709551616 - 9223372036854775808) ∧ (∀ n : Int, IntKind.u64.wrap n = n % 18446744073709551616) ∧ (∀ {p : Prop} [Decidable p], (decide p = true) = p) ∧ (∀ {p : Prop} [Decidable p], (decide p = false) ↔ ¬p) ∧ (∀ {α : Type} [BEq α] [LawfulBEq α] {a b : α}, (a == b) = true ↔ a = b) ∧ (∀ {α : Type} [BEq α] [LawfulBEq α] {a b : α}, (a != b) = true ↔ a ≠ b) ∧ (∀ {α : Type} [BEq α] [LawfulBEq α] {a b : α}, (a == b) = false ↔ a ≠ b) ∧ (∀ {α : Type} [BEq α] [LawfulBEq α] {a b : α}, (a != b) = false ↔ a = b) ∧ (∀ (b : Bool), ((!b) = true) = (b = false)) ∧ (∀ (b : Bool), ((!b) = false) = (b = true)) ∧ (∀ (a b : Bool), ((a && b) = true) = (a = true ∧ b = true)) ∧ (∀ (a b : Bool), ((a || b) = true) = (a = true ∨ b = true)) := ⟨@w_i8, @w_u8, @w_i64, @w_u64, @decide_eq_true_eq, @decide_eq_false_iff_not, @beq_iff_eq, @bne_iff_ne, @beq_eq_false_iff_ne, @bne_eq_false_iff_eq, @Bool.not_eq_true', @Bool.not_eq_false', @Bool.and_eq_true, @Bool.or_eq_true⟩
def OE (n : Nat) (f : Func) : Prop := ∀ {x : List D} {d : D} (o : EL), evalRet Tryz.prog f x o = some (d, selfs o True) → Ret Tryz.prog n x d
theorem o0 : OE 0 Tryz.f0 := Ret.of_eval mixed Tryz.func0 (by kernel_rfl)
theorem o1 : OE 1 Tryz.f1 := Ret.of_eval mixed Tryz.func1 (by kernel_rfl)
theorem o2 : OE 2 Tryz.f2 := Ret.of_eval mixed Tryz.func2 (by kernel_rfl)
theorem o3 : OE 3 Tryz.f3 := Ret.of_eval mixed Tryz.func3 (by kernel_rfl)
theorem o10 : OE 10 Tryz.f10 := Ret.of_eval mixed Tryz.func10 (by kernel_rfl)
theorem o13 : OE 13 Tryz.f13 := Ret.of_eval mixed Tryz.func13 (by kernel_rfl)
theorem o19 : OE 19 Tryz.f19 := Ret.of_eval mixed Tryz.func19 (by kernel_rfl)
theorem o25 : OE 25 Tryz.f25 := Ret.of_eval mixed Tryz.func25 (by kernel_rfl)
theorem o26 : OE 26 Tryz.f26 := Ret.of_eval mixed Tryz.func26 (by kernel_rfl)
theorem o28 : OE 28 Tryz.f28 := Ret.of_eval mixed Tryz.func28 (by kernel_rfl)
theorem o33 : OE 33 Tryz.f33 := Ret.of_eval mixed Tryz.func33 (by kernel_rfl)
theorem o34 : OE 34 Tryz.f34 := Ret.of_eval mixed Tryz.func34 (by kernel_rfl)
theorem o36 : OE 36 Tryz.f36 := Ret.of_eval mixed Tryz.func36 (by kernel_rfl)
theorem o37 : OE 37 Tryz.f37 := Ret.of_eval mixed Tryz.func37 (by kernel_rfl)
theorem o38 : OE 38 Tryz.f38 := Ret.of_eval mixed Tryz.func38 (by kernel_rfl)
theorem o41 : OE 41 Tryz.f41 := Ret.of_eval mixed Tryz.func41 (by kernel_rfl)
theorem o44 : OE 44 Tryz.f44 := Ret.of_eval mixed Tryz.func44 (by kernel_rfl)
theorem o46 : OE 46 Tryz.f46 := Ret.of_eval mixed Tryz.func46 (by kernel_rfl)
theorem o47 : OE 47 Tryz.f47 := Ret.of_eval mixed Tryz.func47 (by kernel_rfl)
theorem o48 : OE 48 Tryz.f48 := Ret.of_eval mixed Tryz.func48 (by kernel_rfl)
theorem o49 : OE 49 Tryz.f49 := Ret.of_eval mixed Tryz.func49 (by kernel_rfl)
theorem o50 : OE 50 Tryz.f50 := Ret.of_eval mixed Tryz.func50 (by kernel_rfl)
theorem o51 : OE 51 Tryz.f51 := Ret.of_eval mixed Tryz.func51 (by kernel_rfl)
theorem o52 : OE 52 Tryz.f52 := Ret.of_eval mixed Tryz.func52 (by kernel_rfl)
theorem o53 : OE 53 Tryz.f53 := Ret.of_eval mixed Tryz.func53 (by kernel_rfl)
theorem o54 : OE 54 Tryz.f54 := Ret.of_eval mixed Tryz.func54 (by kernel_rfl)
theorem o55 : OE 55 Tryz.f55 := Ret.of_eval mixed Tryz.func55 (by kernel_rfl)
theorem o56 : OE 56 Tryz.f56 := Ret.of_eval mixed Tryz.func56 (by kernel_rfl)
theorem o58 : OE 58 Tryz.f58 := Ret.of_eval mixed Tryz.func58 (by kernel_rfl)
theorem o59 : OE 59 Tryz.f59 := Ret.of_eval mixed Tryz.func59 (by kernel_rfl)
theorem o60 : OE 60 Tryz.f60 := Ret.of_eval mixed Tryz.func60 (by kernel_rfl)
theorem o61 : OE 61 Tryz.f61 := Ret.of_eval mixed Tryz.func61 (by kernel_rfl)
theorem o62 : OE 62 Tryz.f62 := Ret.of_eval mixed Tryz.func62 (by kernel_rfl)
theorem o64 : OE 64 Tryz.f64 := Ret.of_eval mixed Tryz.func64 (by kernel_rfl)
theorem o65 : OE 65 Tryz.f65 := Ret.of_eval mixed Tryz.func65 (by kernel_rfl)
theorem o66 : OE 66 Tryz.f66 := Ret.of_eval mixed Tryz.func66 (by kernel_rfl)
theorem o68 : OE 68 Tryz.f68 := Ret.of_eval mixed Tryz.func68 (by kernel_rfl)
theorem o69 : OE 69 Tryz.f69 := Ret.of_eval mixed Tryz.func69 (by kernel_rfl)
theorem o70 : OE 70 Tryz.f70 := Ret.of_eval mixed Tryz.func70 (by kernel_rfl)
theorem o71 : OE 71 Tryz.f71 := Ret.of_eval mixed Tryz.func71 (by kernel_rfl)
theorem o72 : OE 72 Tryz.f72 := Ret.of_eval mixed Tryz.func72 (by kernel_rfl)
theorem o73 : OE 73 Tryz.f73 := Ret.of_eval mixed Tryz.func73 (by kernel_rfl)
theorem o76 : OE 76 Tryz.f76 := Ret.of_eval mixed Tryz.func76 (by kernel_rfl)
theorem o77 : OE 77 Tryz.f77 := Ret.of_eval mixed Tryz.func77 (by kernel_rfl)
theorem o78 : OE 78 Tryz.f78 := Ret.of_eval mixed Tryz.func78 (by kernel_rfl)
theorem o81 : OE 81 Tryz.f81 := Ret.of_eval mixed Tryz.func81 (by kernel_rfl)
theorem o82 : OE 82 Tryz.f82 := Ret.of_eval mixed Tryz.func82 (by kernel_rfl)
end Go.Proofs.YtcngafhpodeenaaGreat

namespace Go.Proofs.YtcngafhpodeenaaGreat
open Go Go.Ev
set_option maxRecDepth 100000
set_option maxHeartbeats 8000000
def tab_XOf_0 : List D := [.int .i8 1, .int .u8 137, .int .i8 0, .int .i8 3, .int .u8 199, .int .i8 0, .int .i8 1, .int .u8 1, .int .i8 0, .int .i8 1, .int .u8 9, .int .i8 0, .int .i8 1, .int .u8 33, .int .i8 0, .int .i8 1, .int .u8 41, .int .i8 0, .int .i8 1, .int .u8 49, .int .i8 0, .int .i8 1, .int .u8 57, .int .i8 0, .int .i8 1, .int .u8 133, .int .i8 0, .int .i8 3, .int .u8 129, .int .i8 0, .int .i8 3, .int .u8 129, .int .i8 1, .int .i8 3, .int .u8 129, .int .i8 4, .int .i8 3, .int .u8 129, .int .i8 5, .int .i8 3, .int .u8 129, .int .i8 6, .int .i8 3, .int .u8 129, .int .i8 7, .int .i8 3, .int .u8 247, .int .i8 0, .int .i8 2, .int .u8 175, .int .i8 0, .int .i8 4, .int .u8 193, .int .i8 4, .int .i8 4, .int .u8 193, .int .i8 5, .int .i8 4, .int .u8 193, .int .i8 7, .int .i8 5, .int .u8 211, .int .i8 4, .int .i8 5, .int .u8 211, .int .i8 5, .int .i8 5, .int .u8 211, .int .i8 7, .int .i8 5, .int .u8 247, .int .i8 3, .int .i8 5, .int .u8 247, .int .i8 6, .int .i8 6, .int .u8 64, .int .i8 0, .int .i8 7, .int .u8 139, .int .i8 0, .int .i8 8, .int .u8 137, .int .i8 0, .int .i8 9, .int .u8 233, .int .i8 0, .int .i8 10, .int .u8 128, .int .i8 0, .int .i8 11, .int .u8 195, .int .i8 0, .int .i8 11, .int .u8 5, .int .i8 0]
def SpXOf0 (k0_ : Int) : Prop := Ret Tryz.prog 34 ([.int .i8 k0_]) (.tup [.agg [.int .i8 (shapeM k0_), .int .u8 (codeM k0_), .int .i8 (numM k0_)], .bool true])
theorem of_0_ok : SpXOf0 0 := by
 exact (o34 (d := .tup [.agg [.int .i8 1, .int .u8 137, .int .i8 0], .bool true]) [.inl, tT, tT, tT, tF, tF, tT, .getA tab_XOf_0 0 3 ([.int .i8 1, .int .u8 137, .int .i8 0]) ⟨rfl, by decide⟩] (by kernel_rfl)).to (by simp [wk, wkL]; decide)
theorem of_1_ok : SpXOf0 1 := by
 exact (o34 (d := .tup [.agg [.int .i8 3, .int .u8 199, .int .i8 0], .bool true]) [.inl, tT, tT, tT, tF, tF, tT, .getA tab_XOf_0 3 3 ([.int .i8 3, .int .u8 199, .int .i8 0]) ⟨rfl, by decide⟩] (by kernel_rfl)).to (by simp [wk, wkL]; decide)
theorem of_2_ok : SpXOf0 2 := by
 exact (o34 (d := .tup [.agg [.int .i8 1, .int .u8 1, .int .i8 0], .bool true]) [.inl, tT, tT, tT, tF, tF, tT, .getA tab_XOf_0 6 3 ([.int .i8 1, .int .u8 1, .int .i8 0]) ⟨rfl, by decide⟩] (by kernel_rfl)).to (by simp [wk, wkL]; decide)
theorem of_3_ok : SpXOf0 3 := by
 exact (o34 (d := .tup [.agg [.int .i8 1, .int .u8 9, .int .i8 0], .bool true]) [.inl, tT, tT, tT, tF, tF, tT, .getA tab_XOf_0 9 3 ([.int .i8 1, .int .u8 9, .int .i8 0]) ⟨rfl, by decide⟩] (by kernel_rfl)).to (by simp [wk, wkL]; decide)
theorem of_4_ok : SpXOf0 4 := by
 exact (o34 (d := .tup [.agg [.int .i8 1, .int .u8 33, .int .i8 0], .bool true]) [.inl, tT, tT, tT, tF, tF, tT, .getA tab_XOf_0 12 3 ([.int .i8 1, .int .u8 33, .int .i8 0]) ⟨rfl, by decide⟩] (by kernel_rfl)).to (by simp [wk, wkL]; decide)
theorem of_5_ok : SpXOf0 5 := by
 exact (o34 (d := .tup [.agg [.int .i8 1, .int .u8 41, .int .i8 0], .bool true]) [.inl, tT, tT, tT, tF, tF, tT, .getA tab_XOf_0 15 3 ([.int .i8 1, .int .u8 41, .int .i8 0]) ⟨rfl, by decide⟩] (by kernel_rfl)).to (by simp [wk, wkL]; decide)
theorem of_6_ok : SpXOf0 6 := by
 exact (o34 (d := .tup [.agg [.int .i8 1, .int .u8 49, .int .i8 0], .bool true]) [.inl, tT, tT, tT, tF, tF, tT, .getA tab_XOf_0 18 3 ([.int .i8 1, .int .u8 49, .int .i8 0]) ⟨rfl, by decide⟩] (by kernel_rfl)).to (by simp [wk, wkL]; decide)
theorem of_7_ok : SpXOf0 7 := by
 exact (o34 (d := .tup [.agg [.int .i8 1, .int .u8 57, .int .i8 0], .bool true]) [.inl, tT, tT, tT, tF, tF, tT, .getA tab_XOf_0 21 3 ([.int .i8 1, .int .u8 57, .int .i8 0]) ⟨rfl, by decide⟩] (by kernel_rfl)).to (by simp [wk, wkL]; decide)
theorem of_8_ok : SpXOf0 8 := by
 exact (o34 (d := .tup [.agg [.int .i8 1, .int .u8 133, .int .i8 0], .bool true]) [.inl, tT, tT, tT, tF, tF, tT, .getA tab_XOf_0 24 3 ([.int .i8 1, .int .u8 133, .int .i8 0]) ⟨rfl, by decide⟩] (by kernel_rfl)).to (by simp [wk, wkL]; decide)
theorem of_9_ok : SpXOf0 9 := by
 exact (o34 (d := .tup [.agg [.int .i8 3, .int .u8 129, .int .i8 0], .bool true]) [.inl, tT, tT, tT, tF, tF, tT, .getA tab_XOf_0 27 3 ([.int .i8 3, .int .u8 129, .int .i8 0]) ⟨rfl, by decide⟩] (by kernel_rfl)).to (by simp [wk, wkL]; decide)
theorem of_10_ok : SpXOf0 10 := by
 exact (o34 (d := .tup [.agg [.int .i8 3, .int .u8 129, .int .i8 1], .bool true]) [.inl, tT, tT, tT, tF, tF, tT, .getA tab_XOf_0 30 3 ([.int .i8 3, .int .u8 129, .int .i8 1]) ⟨rfl, by decide⟩] (by kernel_rfl)).to (by simp [wk, wkL]; decide)
theorem of_11_ok : SpXOf0 11 := by
 exact (o34 (d := .tup [.agg [.int .i8 3, .int .u8 129, .int .i8 4], .bool true]) [.inl, tT, tT, tT, tF, tF, tT, .getA tab_XOf_0 33 3 ([.int .i8 3, .int .u8 129, .int .i8 4]) ⟨rfl, by decide⟩] (by kernel_rfl)).to (by simp [wk, wkL]; decide)
theorem of_12_ok : SpXOf0 12 := by
 exact (o34 (d := .tup [.agg [.int .i8 3, .int .u8 129, .int .i8 5], .bool true]) [.inl, tT, tT, tT, tF, tF, tT, .getA tab_XOf_0 36 3 ([.int .i8 3, .int .u8 129, .int .i8 5]) ⟨rfl, by decide⟩] (by kernel_rfl)).to (by simp [wk, wkL]; decide)
theorem of_13_ok : SpXOf0 13 := by
 exact (o34 (d := .tup [.agg [.int .i8 3, .int .u8 129, .int .i8 6], .bool true]) [.inl, tT, tT, tT, tF, tF, tT, .getA tab_XOf_0 39 3 ([.int .i8 3, .int .u8 129, .int .i8 6]) ⟨rfl, by decide⟩] (by kernel_rfl)).to (by simp [wk, wkL]; decide)
theorem of_14_ok : SpXOf0 14 := by
 exact (o34 (d := .tup [.agg [.int .i8 3, .int .u8 129, .int .i8 7], .bool true]) [.inl, tT, tT, tT, tF, tF, tT, .getA tab_XOf_0 42 3 ([.int .i8 3, .int .u8 129, .int .i8 7]) ⟨rfl, by decide⟩] (by kernel_rfl)).to (by simp [wk, wkL]; decide)
theorem of_15_ok : SpXOf0 15 := by
 exact (o34 (d := .tup [.agg [.int .i8 3, .int .u8 247, .int .i8 0], .bool true]) [.inl, tT, tT, tT, tF, tF, tT, .getA tab_XOf_0 45 3 ([.int .i8 3, .int .u8 247, .int .i8 0]) ⟨rfl, by decide⟩] (by kernel_rfl)).to (by simp [wk, wkL]; decide)
theorem of_16_ok : SpXOf0 16 := by
 exact (o34 (d := .tup [.agg [.int .i8 2, .int .u8 175, .int .i8 0], .bool true]) [.inl, tT, tT, tT, tF, tF, tT, .getA tab_XOf_0 48 3 ([.int .i8 2, .int .u8 175, .int .i8 0]) ⟨rfl, by decide⟩] (by kernel_rfl)).to (by simp [wk, wkL]; decide)
theorem of_17_ok : SpXOf0 17 := by
 exact (o34 (d := .tup [.agg [.int .i8 4, .int .u8 193, .int .i8 4], .bool true]) [.inl, tT, tT, tT, tF, tF, tT, .getA tab_XOf_0 51 3 ([.int .i8 4, .int .u8 193, .int .i8 4]) ⟨rfl, by decide⟩] (by kernel_rfl)).to (by simp [wk, wkL]; decide)
theorem of_18_ok : SpXOf0 18 := by
 exact (o34 (d := .tup [.agg [.int .i8 4, .int .u8 193, .int .i8 5], .bool true]) [.inl, tT, tT, tT, tF, tF, tT, .getA tab_XOf_0 54 3 ([.int .i8 4, .int .u8 193, .int .i8 5]) ⟨rfl, by decide⟩] (by kernel_rfl)).to (by simp [wk, wkL]; decide)
theorem of_19_ok : SpXOf0 19 := by
 exact (o34 (d := .tup [.agg [.int .i8 4, .int .u8 193, .int .i8 7], .bool true]) [.inl, tT, tT, tT, tF, tF, tT, .getA tab_XOf_0 57 3 ([.int .i8 4, .int .u8 193, .int .i8 7]) ⟨rfl, by decide⟩] (by kernel_rfl)).to (by simp [wk, wkL]; decide)
theorem of_20_ok : SpXOf0 20 := by
 exact (o34 (d := .tup [.agg [.int .i8 5, .int .u8 211, .int .i8 4], .bool true]) [.inl, tT, tT, tT, tF, tF, tT, .getA tab_XOf_0 60 3 ([.int .i8 5, .int .u8 211, .int .i8 4]) ⟨rfl, by decide⟩] (by kernel_rfl)).to (by simp [wk, wkL]; decide)
theorem of_21_ok : SpXOf0 21 := by
 exact (o34 (d := .tup [.agg [.int .i8 5, .int .u8 211, .int .i8 5], .bool true]) [.inl, tT, tT, tT, tF, tF, tT, .getA tab_XOf_0 63 3 ([.int .i8 5, .int .u8 211, .int .i8 5]) ⟨rfl, by decide⟩] (by kernel_rfl)).to (by simp [wk, wkL]; decide)
theorem of_22_ok : SpXOf0 22 := by
 exact (o34 (d := .tup [.agg [.int .i8 5, .int .u8 211, .int .i8 7], .bool true]) [.inl, tT, tT, tT, tF, tF, tT, .getA tab_XOf_0 66 3 ([.int .i8 5, .int .u8 211, .int .i8 7]) ⟨rfl, by decide⟩] (by kernel_rfl)).to (by simp [wk, wkL]; decide)
theorem of_23_ok : SpXOf0 23 := by
 exact (o34 (d := .tup [.agg [.int .i8 5, .int .u8 247, .int .i8 3], .bool true]) [.inl, tT, tT, tT, tF, tF, tT, .getA tab_XOf_0 69 3 ([.int .i8 5, .int .u8 247, .int .i8 3]) ⟨rfl, by decide⟩] (by kernel_rfl)).to (by simp [wk, wkL]; decide)
theorem of_24_ok : SpXOf0 24 := by
 exact (o34 (d := .tup [.agg [.int .i8 5, .int .u8 247, .int .i8 6], .bool true]) [.inl, tT, tT, tT, tF, tF, tT, .getA tab_XOf_0 72 3 ([.int .i8 5, .int .u8 247, .int .i8 6]) ⟨rfl, by decide⟩] (by kernel_rfl)).to (by simp [wk, wkL]; decide)
theorem of_25_ok : SpXOf0 25 := by
 exact (o34 (d := .tup [.agg [.int .i8 6, .int .u8 64, .int .i8 0], .bool true]) [.inl, tT, tT, tT, tF, tF, tT, .getA tab_XOf_0 75 3 ([.int .i8 6, .int .u8 64, .int .i8 0]) ⟨rfl, by decide⟩] (by kernel_rfl)).to (by simp [wk, wkL]; decide)
theorem of_26_ok : SpXOf0 26 := by
 exact (o34 (d := .tup [.agg [.int .i8 7, .int .u8 139, .int .i8 0], .bool true]) [.inl, tT, tT, tT, tF, tF, tT, .getA tab_XOf_0 78 3 ([.int .i8 7, .int .u8 139, .int .i8 0]) ⟨rfl, by decide⟩] (by kernel_rfl)).to (by simp [wk, wkL]; decide)
theorem of_27_ok : SpXOf0 27 := by
 exact (o34 (d := .tup [.agg [.int .i8 8, .int .u8 137, .int .i8 0], .bool true]) [.inl, tT, tT, tT, tF, tF, tT, .getA tab_XOf_0 81 3 ([.int .i8 8, .int .u8 137, .int .i8 0]) ⟨rfl, by decide⟩] (by kernel_rfl)).to (by simp [wk, wkL]; decide)
theorem of_28_ok : SpXOf0 28 := by
 exact (o34 (d := .tup [.agg [.int .i8 9, .int .u8 233, .int .i8 0], .bool true]) [.inl, tT, tT, tT, tF, tF, tT, .getA tab_XOf_0 84 3 ([.int .i8 9, .int .u8 233, .int .i8 0]) ⟨rfl, by decide⟩] (by kernel_rfl)).to (by simp [wk, wkL]; decide)
theorem of_29_ok : SpXOf0 29 := by
 exact (o34 (d := .tup [.agg [.int .i8 10, .int .u8 128, .int .i8 0], .bool true]) [.inl, tT, tT, tT, tF, tF, tT, .getA tab_XOf_0 87 3 ([.int .i8 10, .int .u8 128, .int .i8 0]) ⟨rfl, by decide⟩] (by kernel_rfl)).to (by simp [wk, wkL]; decide)
theorem of_30_ok : SpXOf0 30 := by
 exact (o34 (d := .tup [.agg [.int .i8 11, .int .u8 195, .int .i8 0], .bool true]) [.inl, tT, tT, tT, tF, tF, tT, .getA tab_XOf_0 90 3 ([.int .i8 11, .int .u8 195, .int .i8 0]) ⟨rfl, by decide⟩] (by kernel_rfl)).to (by simp [wk, wkL]; decide)
theorem of_31_ok : SpXOf0 31 := by
 exact (o34 (d := .tup [.agg [.int .i8 11, .int .u8 5, .int .i8 0], .bool true]) [.inl, tT, tT, tT, tF, tF, tT, .getA tab_XOf_0 93 3 ([.int .i8 11, .int .u8 5, .int .i8 0]) ⟨rfl, by decide⟩] (by kernel_rfl)).to (by simp [wk, wkL]; decide)
theorem of_low_ok (op : Int) (h : op < 0) : Ret Tryz.prog 34 ([.int .i8 op]) (.tup [.agg [.int .i8 0, .int .u8 0, .int .i8 0], .bool false]) := by
 exact (o34 (d := .tup [.agg [.int .i8 0, .int .u8 0, .int .i8 0], .bool false]) ([.inl] ++ List.replicate 3 (tC (eF (decide_eq_true h))) ++ [tC (decide_eq_true h), tT]) (by kernel_rfl)).to (by simp [wk, wkL])
theorem of_high_ok (op : Int) (h : 32 ≤ op) (ho : op ≤ 127) : Ret Tryz.prog 34 ([.int .i8 op]) (.tup [.agg [.int .i8 0, .int .u8 0, .int .i8 0], .bool false]) := by
 exact (o34 (d := .tup [.agg [.int .i8 0, .int .u8 0, .int .i8 0], .bool false]) ([.inl] ++ List.replicate 3 (tC (eF (ltD 0 (decide_eq_false (Int.not_lt.2 h))))) ++ [tC (ltD 0 (decide_eq_false (Int.not_lt.2 h))), tC (leL 32 (by (simp only [sl2] at *; omega) : (decide (IntKind.wrap IntKind.i64 op < 32)) = false))]) (by kernel_rfl)).to (by simp [wk, wkL])
theorem reg_ok (n : Int) : Ret Tryz.prog 59 ([.int .i8 n]) (.bool (regM n)) := by
 rcases bft (decide (n < 0)) with h0 | h0
 ·exact (o59 (d := .bool false) [tC (eT (leL 0 h0)), tC (eT (leL 0 h0)), tC (leL 0 h0)] (by kernel_rfl)).to (by (try simp only [sl0, wk, wkL, wkO, eqCells, eqCell, regM, ccM, widthM, longM] at *); simp [wk, wkL, wkO, eqCells, eqCell, regM, ccM, widthM, longM, *]; omega)
 exact (o59 (d := .bool (decide (n < 16))) [tC (eT (leL 0 h0)), tC (eT (leL 0 h0)), tC (leL 0 h0)] (by kernel_rfl)).to (by (try simp only [sl0, wk, wkL, wkO, eqCells, eqCell, regM, ccM, widthM, longM] at *); rw [Bool.eq_iff_iff]; simp [wk, wkL, wkO, eqCells, eqCell, regM, ccM, widthM, longM, *]; omega)
theorem cond_ok (n : Int) : Ret Tryz.prog 61 ([.int .i8 n]) (.bool (ccM n)) := by
 rcases bft (decide (n < 2)) with h0 | h0
 ·exact (o61 (d := .bool false) [tC (eT (leL 2 h0)), tC (eT (leL 2 h0)), tC (leL 2 h0), tT, tT, tT, tC (eT (leL 12 (ltU 12 h0))), tC (eT (leL 12 (ltU 12 h0))), tT, tC (leL 12 (ltU 12 h0)), tF] (by kernel_rfl)).to (by (try simp only [sl0, wk, wkL, wkO, eqCells, eqCell, regM, ccM, widthM, longM] at *); simp [wk, wkL, wkO, eqCells, eqCell, regM, ccM, widthM, longM, *]; omega)
 let E1 : EL := [tC (eT (leL 2 h0)), tC (eT (leL 2 h0)), tC (leL 2 h0)]
 rcases bft (decide (n < 8)) with h1 | h1
 ·exact (o61 (d := .bool true) (E1 ++ List.replicate 4 (tC (eF (leC 7 h1))) ++ [tC (leC 7 h1)]) (by kernel_rfl)).to (by clear E1; (try simp only [sl0, wk, wkL, wkO, eqCells, eqCell, regM, ccM, widthM, longM] at *); simp [wk, wkL, wkO, eqCells, eqCell, regM, ccM, widthM, longM, *]; omega)
 rcases bft (decide (n < 12)) with h2 | h2
 ·exact (o61 (d := .bool false) (E1 ++ List.replicate 3 (tC (eF (leC 7 h1))) ++ [tC (eT (leL 12 h2)), tC (eT (leL 12 h2)), tC (eF (leC 7 h1)), tC (leL 12 h2), tC (leC 7 h1)]) (by kernel_rfl)).to (by clear E1; (try simp only [sl0, wk, wkL, wkO, eqCells, eqCell, regM, ccM, widthM, longM] at *); simp [wk, wkL, wkO, eqCells, eqCell, regM, ccM, widthM, longM, *]; omega)
 exact (o61 (d := .bool (decide (n ≤ 15))) (E1 ++ List.replicate 3 (tC (eF (leC 7 h1))) ++ [tC (eT (leL 12 h2)), tC (eT (leL 12 h2)), tC (eF (leC 7 h1)), tC (leL 12 h2), tC (leC 7 h1)]) (by kernel_rfl)).to (by clear E1; (try simp only [sl0, wk, wkL, wkO, eqCells, eqCell, regM, ccM, widthM, longM] at *); rw [Bool.eq_iff_iff]; simp [wk, wkL, wkO, eqCells, eqCell, regM, ccM, widthM, longM, *]; omega)
theorem within_ok (n a b : Int) : Ret Tryz.prog 60 ([.int .i64 n, .int .i64 a, .int .i64 b]) (.bool (decide (a ≤ n) && decide (n ≤ b))) := by
 rcases bft (decide (n ≥ a)) with h0 | h0
 ·exact (o60 (d := .bool (decide (n ≤ b))) [tC (eT h0), tC (eT h0), tC (eT h0), tC h0] (by kernel_rfl)).to (by (try simp only [sl0, wk, wkL, wkO, eqCells, eqCell, regM, ccM, widthM, longM] at *); (simp [wk, wkL, wkO, eqCells, eqCell, regM, ccM, widthM, longM, *]; done))
 exact (o60 (d := .bool false) [tC (eT h0), tC (eT h0), tC (eT h0), tC h0] (by kernel_rfl)).to (by (try simp only [sl0, wk, wkL, wkO, eqCells, eqCell, regM, ccM, widthM, longM] at *); (simp [wk, wkL, wkO, eqCells, eqCell, regM, ccM, widthM, longM, *]; done))
theorem width_ok (n : Int) : Ret Tryz.prog 62 ([.int .i8 n]) (.bool (widthM n)) := by
 by_cases h0 : n = 8
 ·subst h0
  exact (o62 (d := .bool true) [tT, tT] (by kernel_rfl)).to (by (try simp only [sl0, wk, wkL, wkO, eqCells, eqCell, regM, ccM, widthM, longM] at *); (simp [wk, wkL, wkO, eqCells, eqCell, regM, ccM, widthM, longM, *]; done))
 by_cases h1 : n = 16
 ·subst h1
  exact (o62 (d := .bool true) [tC (neOf h0), tT, tT] (by kernel_rfl)).to (by (try simp only [sl0, wk, wkL, wkO, eqCells, eqCell, regM, ccM, widthM, longM] at *); (simp [wk, wkL, wkO, eqCells, eqCell, regM, ccM, widthM, longM, *]; done))
 by_cases h2 : n = 32
 ·subst h2
  exact (o62 (d := .bool true) [tC (neOf h0), tC (neOf h1), tT, tT] (by kernel_rfl)).to (by (try simp only [sl0, wk, wkL, wkO, eqCells, eqCell, regM, ccM, widthM, longM] at *); (simp [wk, wkL, wkO, eqCells, eqCell, regM, ccM, widthM, longM, *]; done))
 by_cases h3 : n = 64
 ·subst h3
  exact (o62 (d := .bool true) [tC (neOf h0), tC (neOf h1), tC (neOf h2), tT] (by kernel_rfl)).to (by (try simp only [sl0, wk, wkL, wkO, eqCells, eqCell, regM, ccM, widthM, longM] at *); (simp [wk, wkL, wkO, eqCells, eqCell, regM, ccM, widthM, longM, *]; done))
 exact (o62 (d := .bool false) [tC (neOf h0), tC (neOf h1), tC (neOf h2), tC (neOf h3)] (by kernel_rfl)).to (by (try simp only [sl0, wk, wkL, wkO, eqCells, eqCell, regM, ccM, widthM, longM] at *); (simp [wk, wkL, wkO, eqCells, eqCell, regM, ccM, widthM, longM, *]; done))
theorem rreg_ok (n : Int) : Ret Tryz.prog 47 ([.int .i8 n]) (.bool (regM n)) := by
 rcases bft (decide (n < 0)) with h0 | h0
 ·exact (o47 (d := .bool false) [tC (eT (leL 0 h0)), tC (eT (leL 0 h0)), tC (leL 0 h0)] (by kernel_rfl)).to (by (try simp only [sl0, wk, wkL, wkO, eqCells, eqCell, regM, ccM, widthM, longM] at *); simp [wk, wkL, wkO, eqCells, eqCell, regM, ccM, widthM, longM, *]; omega)
 exact (o47 (d := .bool (decide (n < 16))) [tC (eT (leL 0 h0)), tC (eT (leL 0 h0)), tC (leL 0 h0)] (by kernel_rfl)).to (by (try simp only [sl0, wk, wkL, wkO, eqCells, eqCell, regM, ccM, widthM, longM] at *); rw [Bool.eq_iff_iff]; simp [wk, wkL, wkO, eqCells, eqCell, regM, ccM, widthM, longM, *]; omega)
theorem rcc_ok (n : Int) : Ret Tryz.prog 50 ([.int .i8 n]) (.bool (ccM n)) := by
 rcases bft (decide (n < 2)) with h0 | h0
 ·exact (o50 (d := .bool false) [tC (eT (leL 2 h0)), tC (eT (leL 2 h0)), tC (leL 2 h0), tT, tT, tT, tC (eT (leL 12 (ltU 12 h0))), tC (eT (leL 12 (ltU 12 h0))), tT, tC (leL 12 (ltU 12 h0)), tF] (by kernel_rfl)).to (by (try simp only [sl0, wk, wkL, wkO, eqCells, eqCell, regM, ccM, widthM, longM] at *); simp [wk, wkL, wkO, eqCells, eqCell, regM, ccM, widthM, longM, *]; omega)
 let E1 : EL := [tC (eT (leL 2 h0)), tC (eT (leL 2 h0)), tC (leL 2 h0)]
 rcases bft (decide (n < 8)) with h1 | h1
 ·exact (o50 (d := .bool true) (E1 ++ List.replicate 4 (tC (eF (leC 7 h1))) ++ [tC (leC 7 h1)]) (by kernel_rfl)).to (by clear E1; (try simp only [sl0, wk, wkL, wkO, eqCells, eqCell, regM, ccM, widthM, longM] at *); simp [wk, wkL, wkO, eqCells, eqCell, regM, ccM, widthM, longM, *]; omega)
 rcases bft (decide (n < 12)) with h2 | h2
 ·exact (o50 (d := .bool false) (E1 ++ List.replicate 3 (tC (eF (leC 7 h1))) ++ [tC (eT (leL 12 h2)), tC (eT (leL 12 h2)), tC (eF (leC 7 h1)), tC (leL 12 h2), tC (leC 7 h1)]) (by kernel_rfl)).to (by clear E1; (try simp only [sl0, wk, wkL, wkO, eqCells, eqCell, regM, ccM, widthM, longM] at *); simp [wk, wkL, wkO, eqCells, eqCell, regM, ccM, widthM, longM, *]; omega)
 exact (o50 (d := .bool (decide (n ≤ 15))) (E1 ++ List.replicate 3 (tC (eF (leC 7 h1))) ++ [tC (eT (leL 12 h2)), tC (eT (leL 12 h2)), tC (eF (leC 7 h1)), tC (leL 12 h2), tC (leC 7 h1)]) (by kernel_rfl)).to (by clear E1; (try simp only [sl0, wk, wkL, wkO, eqCells, eqCell, regM, ccM, widthM, longM] at *); rw [Bool.eq_iff_iff]; simp [wk, wkL, wkO, eqCells, eqCell, regM, ccM, widthM, longM, *]; omega)
theorem rlong_ok (n : Int) : Ret Tryz.prog 49 ([.int .i8 n]) (.bool (longM n)) := by
 by_cases h0 : n = 32
 ·subst h0
  exact (o49 (d := .bool true) [tF, tF, tT] (by kernel_rfl)).to (by (try simp only [sl0, wk, wkL, wkO, eqCells, eqCell, regM, ccM, widthM, longM] at *); simp [wk, wkL, wkO, eqCells, eqCell, regM, ccM, widthM, longM, *]; done)
 exact (o49 (d := .bool (n == 64)) [tC (eF (neOf h0)), tC (eF (neOf h0)), tC (neOf h0)] (by kernel_rfl)).to (by (try simp only [sl0, wk, wkL, wkO, eqCells, eqCell, regM, ccM, widthM, longM] at *); rw [Bool.eq_iff_iff]; simp [wk, wkL, wkO, eqCells, eqCell, regM, ccM, widthM, longM, *]; done)
theorem rwidth_ok (n : Int) : Ret Tryz.prog 51 ([.int .i8 n]) (.bool (widthM n)) := by
 by_cases h0 : n = 8
 ·subst h0
  exact (o51 (d := .bool true) [tF, tF, tT, tF, tF, tT, tF, tF, tT] (by kernel_rfl)).to (by (try simp only [sl0, wk, wkL, wkO, eqCells, eqCell, regM, ccM, widthM, longM] at *); simp [wk, wkL, wkO, eqCells, eqCell, regM, ccM, widthM, longM, *]; done)
 let E1 : EL := [tC (eF (neOf h0)), tC (eF (neOf h0)), tC (neOf h0)]
 by_cases h1 : n = 16
 ·subst h1
  exact (o51 (d := .bool true) (E1 ++ [tF, tF, tT, tF, tF, tT]) (by kernel_rfl)).to (by clear E1; (try simp only [sl0, wk, wkL, wkO, eqCells, eqCell, regM, ccM, widthM, longM] at *); simp [wk, wkL, wkO, eqCells, eqCell, regM, ccM, widthM, longM, *]; done)
 by_cases h2 : n = 32
 ·subst h2
  exact (o51 (d := .bool true) (E1 ++ [tC (eF (neOf h1)), tC (eF (neOf h1)), tC (neOf h1), tF, tF, tT]) (by kernel_rfl)).to (by clear E1; (try simp only [sl0, wk, wkL, wkO, eqCells, eqCell, regM, ccM, widthM, longM] at *); simp [wk, wkL, wkO, eqCells, eqCell, regM, ccM, widthM, longM, *]; done)
 exact (o51 (d := .bool (n == 64)) (E1 ++ [tC (eF (neOf h1)), tC (eF (neOf h1)), tC (neOf h1), tC (eF (neOf h2)), tC (eF (neOf h2)), tC (neOf h2)]) (by kernel_rfl)).to (by clear E1; (try simp only [sl0, wk, wkL, wkO, eqCells, eqCell, regM, ccM, widthM, longM] at *); rw [Bool.eq_iff_iff]; simp [wk, wkL, wkO, eqCells, eqCell, regM, ccM, widthM, longM, *]; done)
theorem rfour_ok (n : Int) : Ret Tryz.prog 48 ([.int .i64 n]) (.bool (decide (-2147483648 ≤ n ∧ n ≤ 2147483647))) := by
 rcases bft (decide (n < (-2147483648))) with h0 | h0
 ·exact (o48 (d := .bool false) [tC (eT (leL (-2147483648) h0)), tC (eT (leL (-2147483648) h0)), tC (leL (-2147483648) h0)] (by kernel_rfl)).to (by (try simp only [sl0, wk, wkL, wkO, eqCells, eqCell, regM, ccM, widthM, longM] at *); simp [wk, wkL, wkO, eqCells, eqCell, regM, ccM, widthM, longM, *]; omega)
 exact (o48 (d := .bool (decide (n < 2147483648))) [tC (eT (leL (-2147483648) h0)), tC (eT (leL (-2147483648) h0)), tC (leL (-2147483648) h0)] (by kernel_rfl)).to (by (try simp only [sl0, wk, wkL, wkO, eqCells, eqCell, regM, ccM, widthM, longM] at *); rw [Bool.eq_iff_iff]; simp [wk, wkL, wkO, eqCells, eqCell, regM, ccM, widthM, longM, *]; omega)
theorem rone_ok (n : Int) : Ret Tryz.prog 52 ([.int .i64 n]) (.bool (decide (-128 ≤ n ∧ n ≤ 127))) := by
 rcases bft (decide (n < (-128))) with h0 | h0
 ·exact (o52 (d := .bool false) [tC (eT (leL (-128) h0)), tC (eT (leL (-128) h0)), tC (leL (-128) h0)] (by kernel_rfl)).to (by (try simp only [sl0, wk, wkL, wkO, eqCells, eqCell, regM, ccM, widthM, longM] at *); simp [wk, wkL, wkO, eqCells, eqCell, regM, ccM, widthM, longM, *]; omega)
 exact (o52 (d := .bool (decide (n < 128))) [tC (eT (leL (-128) h0)), tC (eT (leL (-128) h0)), tC (leL (-128) h0)] (by kernel_rfl)).to (by (try simp only [sl0, wk, wkL, wkO, eqCells, eqCell, regM, ccM, widthM, longM] at *); rw [Bool.eq_iff_iff]; simp [wk, wkL, wkO, eqCells, eqCell, regM, ccM, widthM, longM, *]; omega)
theorem class_ok (op : Int) : Ret Tryz.prog 44 ([.int .i8 op]) (.int .i64 (classM op)) := by
 by_cases h0 : op = 0
 ·subst h0
  exact (o44 (d := .int .i64 1) [tT, tT] (by kernel_rfl)).to (by (simp only [wk, D.int.injEq, true_and]; decide))
 let E1 : EL := [tC (neOf h0)]
 by_cases h1 : op = 2
 ·subst h1
  exact (o44 (d := .int .i64 1) (E1 ++ [tT, tT]) (by kernel_rfl)).to (by (simp only [wk, D.int.injEq, true_and]; decide))
 let E2 : EL := E1 ++ [tC (neOf h1)]
 by_cases h2 : op = 3
 ·subst h2
  exact (o44 (d := .int .i64 1) (E2 ++ [tT, tT]) (by kernel_rfl)).to (by (simp only [wk, D.int.injEq, true_and]; decide))
 let E3 : EL := E2 ++ [tC (neOf h2)]
 by_cases h3 : op = 4
 ·subst h3
  exact (o44 (d := .int .i64 1) (E3 ++ [tT, tT]) (by kernel_rfl)).to (by (simp only [wk, D.int.injEq, true_and]; decide))
 let E4 : EL := E3 ++ [tC (neOf h3)]
 by_cases h4 : op = 5
 ·subst h4
  exact (o44 (d := .int .i64 1) (E4 ++ [tT, tT]) (by kernel_rfl)).to (by (simp only [wk, D.int.injEq, true_and]; decide))
 let E5 : EL := E4 ++ [tC (neOf h4)]
 by_cases h5 : op = 6
 ·subst h5
  exact (o44 (d := .int .i64 1) (E5 ++ [tT, tT]) (by kernel_rfl)).to (by (simp only [wk, D.int.injEq, true_and]; decide))
 let E6 : EL := E5 ++ [tC (neOf h5)]
 by_cases h6 : op = 7
 ·subst h6
  exact (o44 (d := .int .i64 1) (E6 ++ [tT, tT]) (by kernel_rfl)).to (by (simp only [wk, D.int.injEq, true_and]; decide))
 let E7 : EL := E6 ++ [tC (neOf h6)]
 by_cases h7 : op = 8
 ·subst h7
  exact (o44 (d := .int .i64 1) (E7 ++ [tT, tT]) (by kernel_rfl)).to (by (simp only [wk, D.int.injEq, true_and]; decide))
 let E8 : EL := E7 ++ [tC (neOf h7)]
 by_cases h8 : op = 16
 ·subst h8
  exact (o44 (d := .int .i64 1) (E8 ++ [tT]) (by kernel_rfl)).to (by (simp only [wk, D.int.injEq, true_and]; decide))
 let E9 : EL := E8 ++ [tC (neOf h8)]
 by_cases h9 : op = 1
 ·subst h9
  exact (o44 (d := .int .i64 2) (E9 ++ [tT, tT]) (by kernel_rfl)).to (by (simp only [wk, D.int.injEq, true_and]; decide))
 let E10 : EL := E9 ++ [tC (neOf h9)]
 by_cases h10 : op = 9
 ·subst h10
  exact (o44 (d := .int .i64 2) (E10 ++ [tT, tT]) (by kernel_rfl)).to (by (simp only [wk, D.int.injEq, true_and]; decide))
 let E11 : EL := E10 ++ [tC (neOf h10)]
 by_cases h11 : op = 10
 ·subst h11
  exact (o44 (d := .int .i64 2) (E11 ++ [tT, tT]) (by kernel_rfl)).to (by (simp only [wk, D.int.injEq, true_and]; decide))
 let E12 : EL := E11 ++ [tC (neOf h11)]
 by_cases h12 : op = 11
 ·subst h12
  exact (o44 (d := .int .i64 2) (E12 ++ [tT, tT]) (by kernel_rfl)).to (by (simp only [wk, D.int.injEq, true_and]; decide))
 let E13 : EL := E12 ++ [tC (neOf h12)]
 by_cases h13 : op = 12
 ·subst h13
  exact (o44 (d := .int .i64 2) (E13 ++ [tT, tT]) (by kernel_rfl)).to (by (simp only [wk, D.int.injEq, true_and]; decide))
 let E14 : EL := E13 ++ [tC (neOf h13)]
 by_cases h14 : op = 13
 ·subst h14
  exact (o44 (d := .int .i64 2) (E14 ++ [tT, tT]) (by kernel_rfl)).to (by (simp only [wk, D.int.injEq, true_and]; decide))
 let E15 : EL := E14 ++ [tC (neOf h14)]
 by_cases h15 : op = 14
 ·subst h15
  exact (o44 (d := .int .i64 2) (E15 ++ [tT, tT]) (by kernel_rfl)).to (by (simp only [wk, D.int.injEq, true_and]; decide))
 let E16 : EL := E15 ++ [tC (neOf h15)]
 by_cases h16 : op = 15
 ·subst h16
  exact (o44 (d := .int .i64 2) (E16 ++ [tT]) (by kernel_rfl)).to (by (simp only [wk, D.int.injEq, true_and]; decide))
 let E17 : EL := E16 ++ [tC (neOf h16)]
 by_cases h17 : op = 17
 ·subst h17
  exact (o44 (d := .int .i64 3) (E17 ++ [tT, tT]) (by kernel_rfl)).to (by (simp only [wk, D.int.injEq, true_and]; decide))
 let E18 : EL := E17 ++ [tC (neOf h17)]
 by_cases h18 : op = 18
 ·subst h18
  exact (o44 (d := .int .i64 3) (E18 ++ [tT, tT]) (by kernel_rfl)).to (by (simp only [wk, D.int.injEq, true_and]; decide))
 let E19 : EL := E18 ++ [tC (neOf h18)]
 by_cases h19 : op = 19
 ·subst h19
  exact (o44 (d := .int .i64 3) (E19 ++ [tT]) (by kernel_rfl)).to (by (simp only [wk, D.int.injEq, true_and]; decide))
 let E20 : EL := E19 ++ [tC (neOf h19)]
 by_cases h20 : op = 20
 ·subst h20
  exact (o44 (d := .int .i64 4) (E20 ++ [tT, tT]) (by kernel_rfl)).to (by (simp only [wk, D.int.injEq, true_and]; decide))
 let E21 : EL := E20 ++ [tC (neOf h20)]
 by_cases h21 : op = 21
 ·subst h21
  exact (o44 (d := .int .i64 4) (E21 ++ [tT, tT]) (by kernel_rfl)).to (by (simp only [wk, D.int.injEq, true_and]; decide))
 let E22 : EL := E21 ++ [tC (neOf h21)]
 by_cases h22 : op = 22
 ·subst h22
  exact (o44 (d := .int .i64 4) (E22 ++ [tT, tT]) (by kernel_rfl)).to (by (simp only [wk, D.int.injEq, true_and]; decide))
 let E23 : EL := E22 ++ [tC (neOf h22)]
 by_cases h23 : op = 23
 ·subst h23
  exact (o44 (d := .int .i64 4) (E23 ++ [tT, tT]) (by kernel_rfl)).to (by (simp only [wk, D.int.injEq, true_and]; decide))
 let E24 : EL := E23 ++ [tC (neOf h23)]
 by_cases h24 : op = 24
 ·subst h24
  exact (o44 (d := .int .i64 4) (E24 ++ [tT]) (by kernel_rfl)).to (by (simp only [wk, D.int.injEq, true_and]; decide))
 let E25 : EL := E24 ++ [tC (neOf h24)]
 by_cases h25 : op = 25
 ·subst h25
  exact (o44 (d := .int .i64 5) (E25 ++ [tT]) (by kernel_rfl)).to (by (simp only [wk, D.int.injEq, true_and]; decide))
 let E26 : EL := E25 ++ [tC (neOf h25)]
 by_cases h26 : op = 26
 ·subst h26
  exact (o44 (d := .int .i64 6) (E26 ++ [tT]) (by kernel_rfl)).to (by (simp only [wk, D.int.injEq, true_and]; decide))
 let E27 : EL := E26 ++ [tC (neOf h26)]
 by_cases h27 : op = 27
 ·subst h27
  exact (o44 (d := .int .i64 7) (E27 ++ [tT]) (by kernel_rfl)).to (by (simp only [wk, D.int.injEq, true_and]; decide))
 by_cases h28 : op = 28
 ·subst h28
  exact (o44 (d := .int .i64 8) (E27 ++ [tC (neOf h27), tT]) (by kernel_rfl)).to (by (simp only [wk, D.int.injEq, true_and]; decide))
 let E28 : EL := E27 ++ [tC (neOf h27), tC (neOf h28)]
 by_cases h29 : op = 29
 ·subst h29
  exact (o44 (d := .int .i64 9) (E28 ++ [tT]) (by kernel_rfl)).to (by (simp only [wk, D.int.injEq, true_and]; decide))
 by_cases h30 : op = 30
 ·subst h30
  exact (o44 (d := .int .i64 10) (E28 ++ [tC (neOf h29), tT, tT]) (by kernel_rfl)).to (by (simp only [wk, D.int.injEq, true_and]; decide))
 by_cases h31 : op = 31
 ·subst h31
  exact (o44 (d := .int .i64 10) (E28 ++ [tC (neOf h29), tC (neOf h30), tT]) (by kernel_rfl)).to (by (simp only [wk, D.int.injEq, true_and]; decide))
 exact (o44 (d := .int .i64 0) (E28 ++ [tC (neOf h29), tC (neOf h30), tC (neOf h31)]) (by kernel_rfl)).to (by (simp only [wk, D.int.injEq, true_and]; unfold classM shapeM; (repeat split) <;> omega))
theorem bareL_1_ok (op w dst src base disp imm cc : Int) : Ret Tryz.prog 58 ([xD op w dst src base disp imm cc, .int .i8 1]) (xD 0 0 0 0 base disp imm cc) := by
 let E1 : EL := [tT, tT, tT, tT, tF, tF, .flat _ _ flat_X]
 by_cases h0 : base = 0
 ·subst h0
  by_cases h1 : disp = 0
  ·subst h1
   by_cases h2 : imm = 0
   ·subst h2
    by_cases h3 : cc = 0
    ·subst h3
     exact (o58 (d := (xD 0 0 0 0 0 0 0 0)) (E1 ++ [tF]) (by kernel_rfl)).to (by (simp [wk, wkL, ]; done))
    exact (o58 (d := (xD 0 0 0 0 0 0 0 cc)) (E1 ++ [tC (nt (andT rfl (andT rfl (andT rfl (andT rfl (andT rfl (andT rfl (andT rfl (andF (y := true) (neOf h3))))))))))]) (by kernel_rfl)).to (by (simp [wk, wkL, h3]; done))
   exact (o58 (d := (xD 0 0 0 0 0 0 imm cc)) (E1 ++ [tC (nt (andT rfl (andT rfl (andT rfl (andT rfl (andT rfl (andT rfl (andF (y := eqCells [.int .i8 cc] [.int .i8 0]) (neOf h2)))))))))]) (by kernel_rfl)).to (by (simp [wk, wkL, h2]; done))
  exact (o58 (d := (xD 0 0 0 0 0 disp imm cc)) (E1 ++ [tC (nt (andT rfl (andT rfl (andT rfl (andT rfl (andT rfl (andF (y := eqCells [.int .i64 imm, .int .i8 cc] [.int .i64 0, .int .i8 0]) (neOf h1))))))))]) (by kernel_rfl)).to (by (simp [wk, wkL, h1]; done))
 exact (o58 (d := (xD 0 0 0 0 base disp imm cc)) (E1 ++ [tC (nt (andT rfl (andT rfl (andT rfl (andT rfl (andF (y := eqCells [.int .i64 disp, .int .i64 imm, .int .i8 cc] [.int .i64 0, .int .i64 0, .int .i8 0]) (neOf h0)))))))]) (by kernel_rfl)).to (by (simp [wk, wkL, h0]; done))
theorem bareL_2_ok (op w dst src base disp imm cc : Int) : Ret Tryz.prog 58 ([xD op w dst src base disp imm cc, .int .i8 2]) (xD 0 0 0 0 base disp imm cc) := by
 let E1 : EL := [tF, tT, tT, tT, tT, tF, tF, .flat _ _ flat_X]
 by_cases h0 : base = 0
 ·subst h0
  by_cases h1 : disp = 0
  ·subst h1
   by_cases h2 : imm = 0
   ·subst h2
    by_cases h3 : cc = 0
    ·subst h3
     exact (o58 (d := (xD 0 0 0 0 0 0 0 0)) (E1 ++ [tF]) (by kernel_rfl)).to (by (simp [wk, wkL, ]; done))
    exact (o58 (d := (xD 0 0 0 0 0 0 0 cc)) (E1 ++ [tC (nt (andT rfl (andT rfl (andT rfl (andT rfl (andT rfl (andT rfl (andT rfl (andF (y := true) (neOf h3))))))))))]) (by kernel_rfl)).to (by (simp [wk, wkL, h3]; done))
   exact (o58 (d := (xD 0 0 0 0 0 0 imm cc)) (E1 ++ [tC (nt (andT rfl (andT rfl (andT rfl (andT rfl (andT rfl (andT rfl (andF (y := eqCells [.int .i8 cc] [.int .i8 0]) (neOf h2)))))))))]) (by kernel_rfl)).to (by (simp [wk, wkL, h2]; done))
  exact (o58 (d := (xD 0 0 0 0 0 disp imm cc)) (E1 ++ [tC (nt (andT rfl (andT rfl (andT rfl (andT rfl (andT rfl (andF (y := eqCells [.int .i64 imm, .int .i8 cc] [.int .i64 0, .int .i8 0]) (neOf h1))))))))]) (by kernel_rfl)).to (by (simp [wk, wkL, h1]; done))
 exact (o58 (d := (xD 0 0 0 0 base disp imm cc)) (E1 ++ [tC (nt (andT rfl (andT rfl (andT rfl (andT rfl (andF (y := eqCells [.int .i64 disp, .int .i64 imm, .int .i8 cc] [.int .i64 0, .int .i64 0, .int .i8 0]) (neOf h0)))))))]) (by kernel_rfl)).to (by (simp [wk, wkL, h0]; done))
theorem bareL_3_ok (op w dst src base disp imm cc : Int) : Ret Tryz.prog 58 ([xD op w dst src base disp imm cc, .int .i8 3]) (xD 0 0 0 src base disp 0 cc) := by
 let E1 : EL := [tF, tF, tF, tT, tT, tT, tT, tF, tF, .flat _ _ flat_X]
 by_cases h0 : src = 0
 ·subst h0
  by_cases h1 : base = 0
  ·subst h1
   by_cases h2 : disp = 0
   ·subst h2
    by_cases h3 : cc = 0
    ·subst h3
     exact (o58 (d := (xD 0 0 0 0 0 0 0 0)) (E1 ++ [tF]) (by kernel_rfl)).to (by (simp [wk, wkL, ]; done))
    exact (o58 (d := (xD 0 0 0 0 0 0 0 cc)) (E1 ++ [tC (nt (andT rfl (andT rfl (andT rfl (andT rfl (andT rfl (andT rfl (andT rfl (andF (y := true) (neOf h3))))))))))]) (by kernel_rfl)).to (by (simp [wk, wkL, h3]; done))
   exact (o58 (d := (xD 0 0 0 0 0 disp 0 cc)) (E1 ++ [tC (nt (andT rfl (andT rfl (andT rfl (andT rfl (andT rfl (andF (y := eqCells [.int .i64 0, .int .i8 cc] [.int .i64 0, .int .i8 0]) (neOf h2))))))))]) (by kernel_rfl)).to (by (simp [wk, wkL, h2]; done))
  exact (o58 (d := (xD 0 0 0 0 base disp 0 cc)) (E1 ++ [tC (nt (andT rfl (andT rfl (andT rfl (andT rfl (andF (y := eqCells [.int .i64 disp, .int .i64 0, .int .i8 cc] [.int .i64 0, .int .i64 0, .int .i8 0]) (neOf h1)))))))]) (by kernel_rfl)).to (by (simp [wk, wkL, h1]; done))
 exact (o58 (d := (xD 0 0 0 src base disp 0 cc)) (E1 ++ [tC (nt (andT rfl (andT rfl (andT rfl (andF (y := eqCells [.int .i8 base, .int .i64 disp, .int .i64 0, .int .i8 cc] [.int .i8 0, .int .i64 0, .int .i64 0, .int .i8 0]) (neOf h0))))))]) (by kernel_rfl)).to (by (simp [wk, wkL, h0]; done))
theorem bareL_4_ok (op w dst src base disp imm cc : Int) : Ret Tryz.prog 58 ([xD op w dst src base disp imm cc, .int .i8 4]) (xD 0 0 0 src base disp 0 cc) := by
 let E1 : EL := [tF, tF, tF, tF, tT, tT, tT, tF, tF, .flat _ _ flat_X]
 by_cases h0 : src = 0
 ·subst h0
  by_cases h1 : base = 0
  ·subst h1
   by_cases h2 : disp = 0
   ·subst h2
    by_cases h3 : cc = 0
    ·subst h3
     exact (o58 (d := (xD 0 0 0 0 0 0 0 0)) (E1 ++ [tF]) (by kernel_rfl)).to (by (simp [wk, wkL, ]; done))
    exact (o58 (d := (xD 0 0 0 0 0 0 0 cc)) (E1 ++ [tC (nt (andT rfl (andT rfl (andT rfl (andT rfl (andT rfl (andT rfl (andT rfl (andF (y := true) (neOf h3))))))))))]) (by kernel_rfl)).to (by (simp [wk, wkL, h3]; done))
   exact (o58 (d := (xD 0 0 0 0 0 disp 0 cc)) (E1 ++ [tC (nt (andT rfl (andT rfl (andT rfl (andT rfl (andT rfl (andF (y := eqCells [.int .i64 0, .int .i8 cc] [.int .i64 0, .int .i8 0]) (neOf h2))))))))]) (by kernel_rfl)).to (by (simp [wk, wkL, h2]; done))
  exact (o58 (d := (xD 0 0 0 0 base disp 0 cc)) (E1 ++ [tC (nt (andT rfl (andT rfl (andT rfl (andT rfl (andF (y := eqCells [.int .i64 disp, .int .i64 0, .int .i8 cc] [.int .i64 0, .int .i64 0, .int .i8 0]) (neOf h1)))))))]) (by kernel_rfl)).to (by (simp [wk, wkL, h1]; done))
 exact (o58 (d := (xD 0 0 0 src base disp 0 cc)) (E1 ++ [tC (nt (andT rfl (andT rfl (andT rfl (andF (y := eqCells [.int .i8 base, .int .i64 disp, .int .i64 0, .int .i8 cc] [.int .i8 0, .int .i64 0, .int .i64 0, .int .i8 0]) (neOf h0))))))]) (by kernel_rfl)).to (by (simp [wk, wkL, h0]; done))
theorem bareL_5_ok (op w dst src base disp imm cc : Int) : Ret Tryz.prog 58 ([xD op w dst src base disp imm cc, .int .i8 5]) (xD 0 0 0 src base disp imm cc) := by
 let E1 : EL := [tF, tF, tF, tF, tF, tT, tT, tT, tF, tF, .flat _ _ flat_X]
 by_cases h0 : src = 0
 ·subst h0
  by_cases h1 : base = 0
  ·subst h1
   by_cases h2 : disp = 0
   ·subst h2
    by_cases h3 : imm = 0
    ·subst h3
     by_cases h4 : cc = 0
     ·subst h4
      exact (o58 (d := (xD 0 0 0 0 0 0 0 0)) (E1 ++ [tF]) (by kernel_rfl)).to (by (simp [wk, wkL, ]; done))
     exact (o58 (d := (xD 0 0 0 0 0 0 0 cc)) (E1 ++ [tC (nt (andT rfl (andT rfl (andT rfl (andT rfl (andT rfl (andT rfl (andT rfl (andF (y := true) (neOf h4))))))))))]) (by kernel_rfl)).to (by (simp [wk, wkL, h4]; done))
    exact (o58 (d := (xD 0 0 0 0 0 0 imm cc)) (E1 ++ [tC (nt (andT rfl (andT rfl (andT rfl (andT rfl (andT rfl (andT rfl (andF (y := eqCells [.int .i8 cc] [.int .i8 0]) (neOf h3)))))))))]) (by kernel_rfl)).to (by (simp [wk, wkL, h3]; done))
   exact (o58 (d := (xD 0 0 0 0 0 disp imm cc)) (E1 ++ [tC (nt (andT rfl (andT rfl (andT rfl (andT rfl (andT rfl (andF (y := eqCells [.int .i64 imm, .int .i8 cc] [.int .i64 0, .int .i8 0]) (neOf h2))))))))]) (by kernel_rfl)).to (by (simp [wk, wkL, h2]; done))
  exact (o58 (d := (xD 0 0 0 0 base disp imm cc)) (E1 ++ [tC (nt (andT rfl (andT rfl (andT rfl (andT rfl (andF (y := eqCells [.int .i64 disp, .int .i64 imm, .int .i8 cc] [.int .i64 0, .int .i64 0, .int .i8 0]) (neOf h1)))))))]) (by kernel_rfl)).to (by (simp [wk, wkL, h1]; done))
 exact (o58 (d := (xD 0 0 0 src base disp imm cc)) (E1 ++ [tC (nt (andT rfl (andT rfl (andT rfl (andF (y := eqCells [.int .i8 base, .int .i64 disp, .int .i64 imm, .int .i8 cc] [.int .i8 0, .int .i64 0, .int .i64 0, .int .i8 0]) (neOf h0))))))]) (by kernel_rfl)).to (by (simp [wk, wkL, h0]; done))
theorem bareL_6_ok (op w dst src base disp imm cc : Int) : Ret Tryz.prog 58 ([xD op w dst src base disp imm cc, .int .i8 6]) (xD 0 0 0 0 base disp imm 0) := by
 let E1 : EL := [tF, tF, tT, tF, tF, tT, tT, .flat _ _ flat_X]
 by_cases h0 : base = 0
 ·subst h0
  by_cases h1 : disp = 0
  ·subst h1
   by_cases h2 : imm = 0
   ·subst h2
    exact (o58 (d := (xD 0 0 0 0 0 0 0 0)) (E1 ++ [tF]) (by kernel_rfl)).to (by (simp [wk, wkL, ]; done))
   exact (o58 (d := (xD 0 0 0 0 0 0 imm 0)) (E1 ++ [tC (nt (andT rfl (andT rfl (andT rfl (andT rfl (andT rfl (andT rfl (andF (y := true) (neOf h2)))))))))]) (by kernel_rfl)).to (by (simp [wk, wkL, h2]; done))
  exact (o58 (d := (xD 0 0 0 0 0 disp imm 0)) (E1 ++ [tC (nt (andT rfl (andT rfl (andT rfl (andT rfl (andT rfl (andF (y := eqCells [.int .i64 imm, .int .i8 0] [.int .i64 0, .int .i8 0]) (neOf h1))))))))]) (by kernel_rfl)).to (by (simp [wk, wkL, h1]; done))
 exact (o58 (d := (xD 0 0 0 0 base disp imm 0)) (E1 ++ [tC (nt (andT rfl (andT rfl (andT rfl (andT rfl (andF (y := eqCells [.int .i64 disp, .int .i64 imm, .int .i8 0] [.int .i64 0, .int .i64 0, .int .i8 0]) (neOf h0)))))))]) (by kernel_rfl)).to (by (simp [wk, wkL, h0]; done))
theorem bareL_7_ok (op w dst src base disp imm cc : Int) : Ret Tryz.prog 58 ([xD op w dst src base disp imm cc, .int .i8 7]) (xD 0 0 0 src 0 0 imm cc) := by
 let E1 : EL := [tF, tF, tF, tF, tF, tF, tT, tT, tT, tF, tF, .flat _ _ flat_X]
 by_cases h0 : src = 0
 ·subst h0
  by_cases h1 : imm = 0
  ·subst h1
   by_cases h2 : cc = 0
   ·subst h2
    exact (o58 (d := (xD 0 0 0 0 0 0 0 0)) (E1 ++ [tF]) (by kernel_rfl)).to (by (simp [wk, wkL, ]; done))
   exact (o58 (d := (xD 0 0 0 0 0 0 0 cc)) (E1 ++ [tC (nt (andT rfl (andT rfl (andT rfl (andT rfl (andT rfl (andT rfl (andT rfl (andF (y := true) (neOf h2))))))))))]) (by kernel_rfl)).to (by (simp [wk, wkL, h2]; done))
  exact (o58 (d := (xD 0 0 0 0 0 0 imm cc)) (E1 ++ [tC (nt (andT rfl (andT rfl (andT rfl (andT rfl (andT rfl (andT rfl (andF (y := eqCells [.int .i8 cc] [.int .i8 0]) (neOf h1)))))))))]) (by kernel_rfl)).to (by (simp [wk, wkL, h1]; done))
 exact (o58 (d := (xD 0 0 0 src 0 0 imm cc)) (E1 ++ [tC (nt (andT rfl (andT rfl (andT rfl (andF (y := eqCells [.int .i8 0, .int .i64 0, .int .i64 imm, .int .i8 cc] [.int .i8 0, .int .i64 0, .int .i64 0, .int .i8 0]) (neOf h0))))))]) (by kernel_rfl)).to (by (simp [wk, wkL, h0]; done))
theorem bareL_8_ok (op w dst src base disp imm cc : Int) : Ret Tryz.prog 58 ([xD op w dst src base disp imm cc, .int .i8 8]) (xD 0 0 dst 0 0 0 imm cc) := by
 let E1 : EL := [tF, tF, tF, tF, tF, tF, tF, tT, tT, tT, tF, tF, .flat _ _ flat_X]
 by_cases h0 : dst = 0
 ·subst h0
  by_cases h1 : imm = 0
  ·subst h1
   by_cases h2 : cc = 0
   ·subst h2
    exact (o58 (d := (xD 0 0 0 0 0 0 0 0)) (E1 ++ [tF]) (by kernel_rfl)).to (by (simp [wk, wkL, ]; done))
   exact (o58 (d := (xD 0 0 0 0 0 0 0 cc)) (E1 ++ [tC (nt (andT rfl (andT rfl (andT rfl (andT rfl (andT rfl (andT rfl (andT rfl (andF (y := true) (neOf h2))))))))))]) (by kernel_rfl)).to (by (simp [wk, wkL, h2]; done))
  exact (o58 (d := (xD 0 0 0 0 0 0 imm cc)) (E1 ++ [tC (nt (andT rfl (andT rfl (andT rfl (andT rfl (andT rfl (andT rfl (andF (y := eqCells [.int .i8 cc] [.int .i8 0]) (neOf h1)))))))))]) (by kernel_rfl)).to (by (simp [wk, wkL, h1]; done))
 exact (o58 (d := (xD 0 0 dst 0 0 0 imm cc)) (E1 ++ [tC (nt (andT rfl (andT rfl (andF (y := eqCells [.int .i8 0, .int .i8 0, .int .i64 0, .int .i64 imm, .int .i8 cc] [.int .i8 0, .int .i8 0, .int .i64 0, .int .i64 0, .int .i8 0]) (neOf h0)))))]) (by kernel_rfl)).to (by (simp [wk, wkL, h0]; done))
theorem bareL_9_ok (op w dst src base disp imm cc : Int) : Ret Tryz.prog 58 ([xD op w dst src base disp imm cc, .int .i8 9]) (xD 0 0 dst src base disp 0 cc) := by
 let E1 : EL := (List.replicate 8 tF ++ [tT, tT, tT, tT, tF, tF, .flat _ _ flat_X])
 by_cases h0 : dst = 0
 ·subst h0
  by_cases h1 : src = 0
  ·subst h1
   by_cases h2 : base = 0
   ·subst h2
    by_cases h3 : disp = 0
    ·subst h3
     by_cases h4 : cc = 0
     ·subst h4
      exact (o58 (d := (xD 0 0 0 0 0 0 0 0)) (E1 ++ [tF]) (by kernel_rfl)).to (by (simp [wk, wkL, ]; done))
     exact (o58 (d := (xD 0 0 0 0 0 0 0 cc)) (E1 ++ [tC (nt (andT rfl (andT rfl (andT rfl (andT rfl (andT rfl (andT rfl (andT rfl (andF (y := true) (neOf h4))))))))))]) (by kernel_rfl)).to (by (simp [wk, wkL, h4]; done))
    exact (o58 (d := (xD 0 0 0 0 0 disp 0 cc)) (E1 ++ [tC (nt (andT rfl (andT rfl (andT rfl (andT rfl (andT rfl (andF (y := eqCells [.int .i64 0, .int .i8 cc] [.int .i64 0, .int .i8 0]) (neOf h3))))))))]) (by kernel_rfl)).to (by (simp [wk, wkL, h3]; done))
   exact (o58 (d := (xD 0 0 0 0 base disp 0 cc)) (E1 ++ [tC (nt (andT rfl (andT rfl (andT rfl (andT rfl (andF (y := eqCells [.int .i64 disp, .int .i64 0, .int .i8 cc] [.int .i64 0, .int .i64 0, .int .i8 0]) (neOf h2)))))))]) (by kernel_rfl)).to (by (simp [wk, wkL, h2]; done))
  exact (o58 (d := (xD 0 0 0 src base disp 0 cc)) (E1 ++ [tC (nt (andT rfl (andT rfl (andT rfl (andF (y := eqCells [.int .i8 base, .int .i64 disp, .int .i64 0, .int .i8 cc] [.int .i8 0, .int .i64 0, .int .i64 0, .int .i8 0]) (neOf h1))))))]) (by kernel_rfl)).to (by (simp [wk, wkL, h1]; done))
 exact (o58 (d := (xD 0 0 dst src base disp 0 cc)) (E1 ++ [tC (nt (andT rfl (andT rfl (andF (y := eqCells [.int .i8 src, .int .i8 base, .int .i64 disp, .int .i64 0, .int .i8 cc] [.int .i8 0, .int .i8 0, .int .i64 0, .int .i64 0, .int .i8 0]) (neOf h0)))))]) (by kernel_rfl)).to (by (simp [wk, wkL, h0]; done))
theorem bareL_10_ok (op w dst src base disp imm cc : Int) : Ret Tryz.prog 58 ([xD op w dst src base disp imm cc, .int .i8 10]) (xD 0 0 dst src base disp 0 0) := by
 let E1 : EL := (List.replicate 9 tF ++ [tT, tT, tT, tF, tT, .flat _ _ flat_X])
 by_cases h0 : dst = 0
 ·subst h0
  by_cases h1 : src = 0
  ·subst h1
   by_cases h2 : base = 0
   ·subst h2
    by_cases h3 : disp = 0
    ·subst h3
     exact (o58 (d := (xD 0 0 0 0 0 0 0 0)) (E1 ++ [tF]) (by kernel_rfl)).to (by (simp [wk, wkL, ]; done))
    exact (o58 (d := (xD 0 0 0 0 0 disp 0 0)) (E1 ++ [tC (nt (andT rfl (andT rfl (andT rfl (andT rfl (andT rfl (andF (y := true) (neOf h3))))))))]) (by kernel_rfl)).to (by (simp [wk, wkL, h3]; done))
   exact (o58 (d := (xD 0 0 0 0 base disp 0 0)) (E1 ++ [tC (nt (andT rfl (andT rfl (andT rfl (andT rfl (andF (y := eqCells [.int .i64 disp, .int .i64 0, .int .i8 0] [.int .i64 0, .int .i64 0, .int .i8 0]) (neOf h2)))))))]) (by kernel_rfl)).to (by (simp [wk, wkL, h2]; done))
  exact (o58 (d := (xD 0 0 0 src base disp 0 0)) (E1 ++ [tC (nt (andT rfl (andT rfl (andT rfl (andF (y := eqCells [.int .i8 base, .int .i64 disp, .int .i64 0, .int .i8 0] [.int .i8 0, .int .i64 0, .int .i64 0, .int .i8 0]) (neOf h1))))))]) (by kernel_rfl)).to (by (simp [wk, wkL, h1]; done))
 exact (o58 (d := (xD 0 0 dst src base disp 0 0)) (E1 ++ [tC (nt (andT rfl (andT rfl (andF (y := eqCells [.int .i8 src, .int .i8 base, .int .i64 disp, .int .i64 0, .int .i8 0] [.int .i8 0, .int .i8 0, .int .i64 0, .int .i64 0, .int .i8 0]) (neOf h0)))))]) (by kernel_rfl)).to (by (simp [wk, wkL, h0]; done))
theorem bareL_11_ok (op w dst src base disp imm cc : Int) : Ret Tryz.prog 58 ([xD op w dst src base disp imm cc, .int .i8 11]) (xD 0 w dst src base disp imm cc) := by
 let E1 : EL := (List.replicate 10 tF ++ [tT, tT, tF, tF, .flat _ _ flat_X])
 by_cases h0 : w = 0
 ·subst h0
  by_cases h1 : dst = 0
  ·subst h1
   by_cases h2 : src = 0
   ·subst h2
    by_cases h3 : base = 0
    ·subst h3
     by_cases h4 : disp = 0
     ·subst h4
      by_cases h5 : imm = 0
      ·subst h5
       by_cases h6 : cc = 0
       ·subst h6
        exact (o58 (d := (xD 0 0 0 0 0 0 0 0)) (E1 ++ [tF]) (by kernel_rfl)).to (by (simp [wk, wkL, ]; done))
       exact (o58 (d := (xD 0 0 0 0 0 0 0 cc)) (E1 ++ [tC (nt (andT rfl (andT rfl (andT rfl (andT rfl (andT rfl (andT rfl (andT rfl (andF (y := true) (neOf h6))))))))))]) (by kernel_rfl)).to (by (simp [wk, wkL, h6]; done))
      exact (o58 (d := (xD 0 0 0 0 0 0 imm cc)) (E1 ++ [tC (nt (andT rfl (andT rfl (andT rfl (andT rfl (andT rfl (andT rfl (andF (y := eqCells [.int .i8 cc] [.int .i8 0]) (neOf h5)))))))))]) (by kernel_rfl)).to (by (simp [wk, wkL, h5]; done))
     exact (o58 (d := (xD 0 0 0 0 0 disp imm cc)) (E1 ++ [tC (nt (andT rfl (andT rfl (andT rfl (andT rfl (andT rfl (andF (y := eqCells [.int .i64 imm, .int .i8 cc] [.int .i64 0, .int .i8 0]) (neOf h4))))))))]) (by kernel_rfl)).to (by (simp [wk, wkL, h4]; done))
    exact (o58 (d := (xD 0 0 0 0 base disp imm cc)) (E1 ++ [tC (nt (andT rfl (andT rfl (andT rfl (andT rfl (andF (y := eqCells [.int .i64 disp, .int .i64 imm, .int .i8 cc] [.int .i64 0, .int .i64 0, .int .i8 0]) (neOf h3)))))))]) (by kernel_rfl)).to (by (simp [wk, wkL, h3]; done))
   exact (o58 (d := (xD 0 0 0 src base disp imm cc)) (E1 ++ [tC (nt (andT rfl (andT rfl (andT rfl (andF (y := eqCells [.int .i8 base, .int .i64 disp, .int .i64 imm, .int .i8 cc] [.int .i8 0, .int .i64 0, .int .i64 0, .int .i8 0]) (neOf h2))))))]) (by kernel_rfl)).to (by (simp [wk, wkL, h2]; done))
  exact (o58 (d := (xD 0 0 dst src base disp imm cc)) (E1 ++ [tC (nt (andT rfl (andT rfl (andF (y := eqCells [.int .i8 src, .int .i8 base, .int .i64 disp, .int .i64 imm, .int .i8 cc] [.int .i8 0, .int .i8 0, .int .i64 0, .int .i64 0, .int .i8 0]) (neOf h1)))))]) (by kernel_rfl)).to (by (simp [wk, wkL, h1]; done))
 exact (o58 (d := (xD 0 w dst src base disp imm cc)) (E1 ++ [tC (nt (andT rfl (andF (y := eqCells [.int .i8 dst, .int .i8 src, .int .i8 base, .int .i64 disp, .int .i64 imm, .int .i8 cc] [.int .i8 0, .int .i8 0, .int .i8 0, .int .i64 0, .int .i64 0, .int .i8 0]) (neOf h0))))]) (by kernel_rfl)).to (by (simp [wk, wkL, h0]; done))
end Go.Proofs.YtcngafhpodeenaaGreat

namespace Go.Proofs.YtcngafhpodeenaaGreat
open Go Go.Ev
set_option maxRecDepth 100000
set_option maxHeartbeats 8000000
theorem rcut_8_ok (v : Int) : Ret Tryz.prog 73 ([.int .u64 v, .int .i8 8]) (.int .u64 (cutM v 8)) := by
 have c0 := @rwidth_ok 8
 exact (o73 (d := .int .u64 (IntKind.wrap IntKind.u64 (↑(BitVec.toNat (BitVec.ofInt (64 : Nat) v &&& BitVec.ofInt (64 : Nat) 255)) : Int))) [.ret _ _ _ c0, tT, tT, tF, tF, tT] (by kernel_rfl)).to (by first | rfl | (simp only [wk, D.int.injEq, true_and, and8u, show cutM v 8 = v % 256 from rfl]; rw [w_u64]; omega))
theorem rcut_32_ok (v : Int) : Ret Tryz.prog 73 ([.int .u64 v, .int .i8 32]) (.int .u64 (cutM v 32)) := by
 have c0 := @rwidth_ok 32
 exact (o73 (d := .int .u64 (IntKind.wrap IntKind.u64 (↑(BitVec.toNat (BitVec.ofInt (64 : Nat) v &&& BitVec.ofInt (64 : Nat) 4294967295)) : Int))) [.ret _ _ _ c0, tT, tT, tF, tF, tT] (by kernel_rfl)).to (by first | rfl | (simp only [wk, D.int.injEq, true_and, and32, show cutM v 32 = v % 4294967296 from rfl]; rw [w_u64]; omega))
end Go.Proofs.YtcngafhpodeenaaGreat

namespace Go.Proofs.YtcngafhpodeenaaGreat
open Go Go.Ev
set_option maxRecDepth 100000
set_option maxHeartbeats 8000000
theorem rsign_8_ok (v : Int) : Ret Tryz.prog 45 ([.int .u64 v, .int .i8 8]) (.int .u64 (signM v 8)) := by
 have c0 := @rwidth_ok ((8 : Int))
 have c1 := @rcut_8_ok (v)
 by_cases h2 : IntKind.wrap IntKind.u64 (↑(BitVec.toNat (BitVec.ofInt (64 : Nat) (Int.fdiv (cutM v (8 : Int)) (128 : Int)) &&& BitVec.ofInt (64 : Nat) (1 : Int))) : Int) = 1
 ·skip
  exact (Ret.of_eval (d := .int .u64 (IntKind.wrap IntKind.u64 (cutM v (8 : Int) - (256 : Int)))) mixed Tryz.func45 (by kernel_rfl) [.ret _ _ _ c0, tF, .ret _ _ _ c1, tT, tC (eT (eqI 1 true h2)), tC (eT (eqI 1 true h2)), tC (eqI 1 true h2), tT, tT] (by kernel_rfl)).to (by simp only [wk, D.int.injEq, true_and]; first | exact sign8_t' h2 | exact sign8_f' h2)
 ·skip
  exact (Ret.of_eval (d := .int .u64 (cutM v (8 : Int))) mixed Tryz.func45 (by kernel_rfl) [.ret _ _ _ c0, tF, .ret _ _ _ c1, tT, tC (eT (neOf h2)), tC (eT (neOf h2)), tC (neOf h2), tF] (by kernel_rfl)).to (by simp only [wk, D.int.injEq, true_and]; first | exact sign8_t' h2 | exact sign8_f' h2)
theorem rsign_32_ok (v : Int) : Ret Tryz.prog 45 ([.int .u64 v, .int .i8 32]) (.int .u64 (signM v 32)) := by
 have c0 := @rwidth_ok ((32 : Int))
 have c1 := @rcut_32_ok (v)
 by_cases h2 : IntKind.wrap IntKind.u64 (↑(BitVec.toNat (BitVec.ofInt (64 : Nat) (Int.fdiv (cutM v (32 : Int)) (2147483648 : Int)) &&& BitVec.ofInt (64 : Nat) (1 : Int))) : Int) = 1
 ·skip
  exact (Ret.of_eval (d := .int .u64 (IntKind.wrap IntKind.u64 (cutM v (32 : Int) - (4294967296 : Int)))) mixed Tryz.func45 (by kernel_rfl) [.ret _ _ _ c0, tF, .ret _ _ _ c1, tT, tC (eT (eqI 1 true h2)), tC (eT (eqI 1 true h2)), tC (eqI 1 true h2), tT, tT] (by kernel_rfl)).to (by simp only [wk, D.int.injEq, true_and]; first | exact sign32_t' h2 | exact sign32_f' h2)
 ·skip
  exact (Ret.of_eval (d := .int .u64 (cutM v (32 : Int))) mixed Tryz.func45 (by kernel_rfl) [.ret _ _ _ c0, tF, .ret _ _ _ c1, tT, tC (eT (neOf h2)), tC (eT (neOf h2)), tC (neOf h2), tF] (by kernel_rfl)).to (by simp only [wk, D.int.injEq, true_and]; first | exact sign32_t' h2 | exact sign32_f' h2)
end Go.Proofs.YtcngafhpodeenaaGreat

namespace Go.Proofs.YtcngafhpodeenaaGreat
open Go Go.Ev
set_option maxRecDepth 100000
theorem sum4 {a b c d : Int} (ha : 0 ≤ a ∧ a ≤ 255) (hb : 0 ≤ b ∧ b ≤ 255) (hc : 0 ≤ c ∧ c ≤ 255) (hd : 0 ≤ d ∧ d ≤ 255) :
  IntKind.u64.wrap (IntKind.u64.wrap (IntKind.u64.wrap (IntKind.u64.wrap (0 + IntKind.u64.wrap (IntKind.u64.wrap a * 1)) + IntKind.u64.wrap (IntKind.u64.wrap b * 256)) + IntKind.u64.wrap (IntKind.u64.wrap c * 65536)) + IntKind.u64.wrap (IntKind.u64.wrap d * 16777216)) = a + 256 * b + 65536 * c + 16777216 * d := by
 simp only [w_u64]
 omega
theorem sgn32 {v : Int} (h : 0 ≤ v ∧ v ≤ 4294967295) : IntKind.i64.wrap (signM v 32) = IntKind.i32.wrap v := by
 rw [show signM v 32 = IntKind.u64.wrap (IntKind.i32.wrap v) from rfl, w_i64, w_u64, w_i32]
 omega
theorem sgn8 {v : Int} (h : 0 ≤ v ∧ v ≤ 255) : IntKind.i64.wrap (signM v 8) = IntKind.i8.wrap v := by
 rw [show signM v 8 = IntKind.u64.wrap (IntKind.i8.wrap v) from rfl, w_i64, w_u64, w_i8]
 omega
theorem number4_ok (X0 X2 : List D) (b : List Int) (hb : isB b) (hl : b.length ≤ 1000) (k : Nat) (bad w : Bool) (rr mm : Int) : CallRun Tryz.prog 21 [.ptr false 1 0, .int .i64 4] (rdS X0 X2 b k bad w rr mm) (.int .i64 (rdN4 b k)) (rdS X0 X2 b (rdA4 b k) (rdX4 b k bad) w rr mm ++ [.dead]) := by
 have h0 := rdV_rng hb k
 have h1 := rdV_rng hb (rdA b k)
 have h2 := rdV_rng hb (rdA b (rdA b k))
 have h3 := rdV_rng hb (rdA b (rdA b (rdA b k)))
 have e := sum4 h0 h1 h2 h3
 have := rnum4_ok X0 X2 b hb hl k bad w rr mm (signM (rdV b k + 256 * rdV b (rdA b k) + 65536 * rdV b (rdA b (rdA b k)) + 16777216 * rdV b (rdA b (rdA b (rdA b k)))) 32) (by rw [e]; exact rsign_32_ok _)
 rw [sgn32 (by omega)] at this
 exact this
theorem number1_ok (X0 X2 : List D) (b : List Int) (hb : isB b) (hl : b.length ≤ 1000) (k : Nat) (bad w : Bool) (rr mm : Int) : CallRun Tryz.prog 21 [.ptr false 1 0, .int .i64 1] (rdS X0 X2 b k bad w rr mm) (.int .i64 (rdN1 b k)) (rdS X0 X2 b (rdA b k) (rdX b k bad) w rr mm ++ [.dead]) := by
 have h0 := rdV_rng hb k
 have e : IntKind.u64.wrap (0 + IntKind.u64.wrap (IntKind.u64.wrap (rdV b k) * 1)) = rdV b k := by simp only [w_u64]; omega
 have := rnum1_ok X0 X2 b hb hl k bad w rr mm (signM (rdV b k) 8) (by rw [e]; exact rsign_8_ok _)
 rw [sgn8 h0] at this
 exact this
end Go.Proofs.YtcngafhpodeenaaGreat

namespace Go.Proofs.YtcngafhpodeenaaGreat
open Go Go.Ev
abbrev zX : List D := [.int .i8 0, .int .i8 0, .int .i8 0, .int .i8 0, .int .i8 0, .int .i64 0, .int .i64 0, .int .i8 0]
abbrev xC (op w dst src base disp imm cc : Int) : List D := [.int .i8 op, .int .i8 w, .int .i8 dst, .int .i8 src, .int .i8 base, .int .i64 disp, .int .i64 imm, .int .i8 cc]
abbrev bR (b : List Int) (a : Int) (x w : Bool) (rr mm : Int) : Ob := .box [.lst .no 1 (bD b), .int .i64 a, .bool x, .bool w, .int .i8 rr, .int .i8 mm]
abbrev fQ : HS := ⟨[0, 2, 5, 6], [0, 1, 2], []⟩
abbrev tQ (b : List Int) (n : Int) (half : Bool) : List D := ((.lst .no 1 (bD b)) :: (.undef) :: (.ptr false 0 0) :: (.undef) :: (.undef) :: (.ptr false 1 0) :: (.ptr false 2 0) :: (.int .i64 n) :: (.bool half) :: (un 19 ++ (.int .i64 n) :: (un 200)))
abbrev tU (b : List Int) : List D := ((.lst .no 1 (bD b)) :: (.undef) :: (.ptr false 0 0) :: (.undef) :: (.undef) :: (.ptr false 1 0) :: (.ptr false 2 0) :: (un 222))
theorem sR : (∀ l : List Int, (bD l).length = l.length) ∧ (∀ n : Int, IntKind.i8.wrap n = (n + 128) % 256 - 128) ∧ (∀ n : Int, IntKind.u8.wrap n = n % 256) ∧ (∀ n : Int, IntKind.i64.wrap n = (n + 9223372036854775808) % 18446744073709551616 - 9223372036854775808) ∧ (∀ n : Int, IntKind.u64.wrap n = n % 18446744073709551616) ∧ (∀ {p : Prop} [Decidable p], (decide p = true) = p) ∧ (∀ {p : Prop} [Decidable p], (decide p = false) ↔ ¬p) ∧ (∀ {α : Type} [BEq α] [LawfulBEq α] {a b : α}, (a == b) = true ↔ a = b) ∧ (∀ {α : Type} [BEq α] [LawfulBEq α] {a b : α}, (a != b) = true ↔ a ≠ b) ∧ (∀ {α : Type} [BEq α] [LawfulBEq α] {a b : α}, (a == b) = false ↔ a ≠ b) ∧ (∀ {α : Type} [BEq α] [LawfulBEq α] {a b : α}, (a != b) = false ↔ a = b) ∧ (∀ (b : Bool), ((!b) = true) = (b = false)) ∧ (∀ (b : Bool), ((!b) = false) = (b = true)) ∧ (∀ (a b : Bool), ((a && b) = true) = (a = true ∧ b = true)) ∧ (∀ (a b : Bool), ((a || b) = true) = (a = true ∨ b = true)) :=
 ⟨len_bD, w_i8, w_u8, w_i64, w_u64, @decide_eq_true_eq, @decide_eq_false_iff_not, @beq_iff_eq, @bne_iff_ne, @beq_eq_false_iff_ne, @bne_eq_false_iff_eq, by intro b; cases b <;> simp, by intro b; cases b <;> simp, by intro a b; simp, by intro a b; simp⟩
end Go.Proofs.YtcngafhpodeenaaGreat
