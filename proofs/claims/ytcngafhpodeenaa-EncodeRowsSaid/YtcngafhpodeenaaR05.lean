/- Contracts and plain laws that a statement's proof leans on (texts merged: MdZ, MdM, Az, XOf, XOfA, XMay0). -/
import Derived.Laws.Strings
import Derived.Test.YtcngafhpodeenaaR04
set_option linter.unusedVariables false
set_option linter.unusedSimpArgs false
namespace Go.Ev
open Go
def shapeM (op : Int) : Int :=
  if op = 0 ∨ (2 ≤ op ∧ op ≤ 8) then 1
  else if op = 16 then 2
  else if op = 1 ∨ (9 ≤ op ∧ op ≤ 15) then 3
  else if 17 ≤ op ∧ op ≤ 19 then 4
  else if 20 ≤ op ∧ op ≤ 24 then 5
  else if op = 25 then 6
  else if op = 26 then 7
  else if op = 27 then 8
  else if op = 28 then 9
  else if op = 29 then 10
  else if op = 30 ∨ op = 31 then 11
  else 0
def codeM (op : Int) : Int :=
  if op = 0 then 0x89 else if op = 1 then 0xC7 else if op = 2 then 0x01 else if op = 3 then 0x09 else if op = 4 then 0x21 else if op = 5 then 0x29 else if op = 6 then 0x31 else if op = 7 then 0x39 else if op = 8 then 0x85
  else if 9 ≤ op ∧ op ≤ 14 then 0x81 else if op = 15 then 0xF7 else if op = 16 then 0xAF else if 17 ≤ op ∧ op ≤ 19 then 0xC1 else if 20 ≤ op ∧ op ≤ 22 then 0xD3 else if op = 23 ∨ op = 24 then 0xF7
  else if op = 25 then 0x40 else if op = 26 then 0x8B else if op = 27 then 0x89 else if op = 28 then 0xE9 else if op = 29 then 0x80 else if op = 30 then 0xC3 else if op = 31 then 0x05 else 0
def numM (op : Int) : Int :=
  if op = 10 then 1 else if op = 11 ∨ op = 17 ∨ op = 20 then 4 else if op = 12 ∨ op = 18 ∨ op = 21 then 5 else if op = 13 ∨ op = 24 then 6 else if op = 14 ∨ op = 19 ∨ op = 22 then 7 else if op = 23 then 3 else 0
def classM (op : Int) : Int :=
  if shapeM op = 1 ∨ shapeM op = 2 then 1 else if shapeM op = 0 then 0 else shapeM op - 1
def regM (n : Int) : Bool := decide (0 ≤ n ∧ n ≤ 15)
def ccM (n : Int) : Bool := decide ((2 ≤ n ∧ n ≤ 7) ∨ (12 ≤ n ∧ n ≤ 15))
def longM (w : Int) : Bool := decide (w = 32 ∨ w = 64)
def widthM (w : Int) : Bool := decide (w = 8 ∨ w = 16 ∨ w = 32 ∨ w = 64)
def jumpM (w imm : Int) : Bool := decide (w = 32 ∨ (w = 8 ∧ -128 ≤ imm ∧ imm ≤ 127))
def mayS (sh w dst src base disp imm cc : Int) : Bool :=
  if sh = 1 ∨ sh = 2 then longM w && decide (base = 0 ∧ disp = 0 ∧ imm = 0 ∧ cc = 0)
  else if sh = 3 then longM w && decide (src = 0 ∧ base = 0 ∧ disp = 0 ∧ cc = 0)
  else if sh = 4 then longM w && decide (src = 0 ∧ base = 0 ∧ disp = 0 ∧ cc = 0 ∧ 0 ≤ imm ∧ imm < w)
  else if sh = 5 then longM w && decide (src = 0 ∧ base = 0 ∧ disp = 0 ∧ imm = 0 ∧ cc = 0)
  else if sh = 6 then longM w && decide (base = 0 ∧ disp = 0 ∧ imm = 0) && ccM cc
  else if sh = 7 then widthM w && decide (src = 0 ∧ imm = 0 ∧ cc = 0)
  else if sh = 8 then widthM w && decide (dst = 0 ∧ imm = 0 ∧ cc = 0)
  else if sh = 9 then jumpM w imm && decide (dst = 0 ∧ src = 0 ∧ base = 0 ∧ disp = 0 ∧ cc = 0)
  else if sh = 10 then jumpM w imm && decide (dst = 0 ∧ src = 0 ∧ base = 0 ∧ disp = 0) && ccM cc
  else if sh = 11 then decide (w = 0 ∧ dst = 0 ∧ src = 0 ∧ base = 0 ∧ disp = 0 ∧ imm = 0 ∧ cc = 0)
  else false
def mayX (op w dst src base disp imm cc : Int) : Bool :=
  regM dst && regM src && regM base && decide (-2147483648 ≤ disp ∧ disp ≤ 2147483647) && decide (-2147483648 ≤ imm ∧ imm ≤ 2147483647) && mayS (shapeM op) w dst src base disp imm cc
def fourM (n : Int) : List Int := [n % 256, n / 256 % 256, n / 65536 % 256, n / 16777216 % 256]
def rexB (wide : Bool) (r m : Int) : Int := 64 + (if wide then 8 else 0) + 4 * (r / 8) + m / 8
def needM (wide : Bool) (r m : Int) (always : Bool) : Bool := wide || always || decide (8 ≤ r ∨ 8 ≤ m)
def rexM (wide : Bool) (r m : Int) (always : Bool) : List Int := if needM wide r m always then [rexB wide r m] else []
def regsM (r m : Int) : Int := 192 + 8 * (r % 8) + m % 8
def memM (r b disp : Int) : List Int := if b % 8 = 4 then (128 + 8 * (r % 8) + b % 8) :: 36 :: fourM disp else (128 + 8 * (r % 8) + b % 8) :: fourM disp
def bytesM (op w dst src base disp imm cc : Int) : List Int :=
  let sh := shapeM op
  let wide := decide (w = 64)
  if sh = 1 then rexM wide src dst false ++ [codeM op, regsM src dst]
  else if sh = 2 then rexM wide dst src false ++ [15, codeM op, regsM dst src]
  else if sh = 6 then rexM wide dst src false ++ [15, 64 + cc, regsM dst src]
  else if sh = 3 then (if op = 1 ∧ w = 32 then rexM false 0 dst false ++ ((184 + dst % 8) :: fourM imm) else rexM wide 0 dst false ++ (codeM op :: regsM (numM op) dst :: fourM imm))
  else if sh = 4 then rexM wide 0 dst false ++ [codeM op, regsM (numM op) dst, imm % 256]
  else if sh = 5 then rexM wide 0 dst false ++ [codeM op, regsM (numM op) dst]
  else if sh = 7 then rexM wide dst base false ++ ((if w = 8 then [15, 182] else if w = 16 then [15, 183] else [139]) ++ memM dst base disp)
  else if sh = 8 then (if w = 16 then [102] else []) ++ (rexM wide src base (decide (w = 8)) ++ ((if w = 8 then [136] else [137]) ++ memM src base disp))
  else if sh = 9 then (if w = 8 then [235, imm % 256] else 233 :: fourM imm)
  else if sh = 10 then (if w = 8 then [112 + cc, imm % 256] else 15 :: (128 + cc) :: fourM imm)
  else if op = 31 then [15, 5]
  else [195]
def bD (l : List Int) : List D := l.map fun n => .int .u8 n
def bytesL (op w dst src base disp imm cc : Int) : List D := if mayX op w dst src base disp imm cc then bD (bytesM op w dst src base disp imm cc) else []
def bytesE (op w dst src base disp imm cc : Int) : Int := if mayX op w dst src base disp imm cc then 0 else 2
end Go.Ev
namespace Go.Ev
open Go
def signed4 (a b c d : Int) : Int := (a + 256 * b + 65536 * c + 16777216 * d + 2147483648) % 4294967296 - 2147483648
def signed1 (a : Int) : Int := (a + 128) % 256 - 128
theorem four_back {n : Int} (h0 : -2147483648 ≤ n) (h1 : n ≤ 2147483647) : signed4 (n % 256) (n / 256 % 256) (n / 65536 % 256) (n / 16777216 % 256) = n := by
 simp only [signed4]
 omega
theorem one_back {n : Int} (h0 : -128 ≤ n) (h1 : n ≤ 127) : signed1 (n % 256) = n := by
 simp only [signed1]
 omega
theorem mayX_parts {op w dst src base disp imm cc : Int} (h : mayX op w dst src base disp imm cc = true) :
  (0 ≤ dst ∧ dst ≤ 15 ∧ 0 ≤ src ∧ src ≤ 15 ∧ 0 ≤ base ∧ base ≤ 15 ∧ -2147483648 ≤ disp ∧ disp ≤ 2147483647 ∧ -2147483648 ≤ imm ∧ imm ≤ 2147483647) ∧ mayS (shapeM op) w dst src base disp imm cc = true := by
 simp only [mayX, regM, Bool.and_eq_true, decide_eq_true_eq] at h
 exact ⟨by omega, h.2⟩
theorem shape_ops {op : Int} (h : shapeM op ≠ 0) : op = 0 ∨ op = 1 ∨ op = 2 ∨ op = 3 ∨ op = 4 ∨ op = 5 ∨ op = 6 ∨ op = 7 ∨ op = 8 ∨ op = 9 ∨ op = 10 ∨ op = 11 ∨ op = 12 ∨ op = 13 ∨ op = 14 ∨ op = 15 ∨ op = 16 ∨ op = 17 ∨ op = 18 ∨ op = 19 ∨ op = 20 ∨ op = 21 ∨ op = 22 ∨ op = 23 ∨ op = 24 ∨ op = 25 ∨ op = 26 ∨ op = 27 ∨ op = 28 ∨ op = 29 ∨ op = 30 ∨ op = 31 := by
 by_cases h2 : 0 ≤ op ∧ op ≤ 31
 ·omega
 ·refine absurd ?_ h
  unfold shapeM
  repeat (rw [if_neg (by omega)])
def rd4 : List Int → Int
  | a :: b :: c :: d :: _ => signed4 a b c d
  | _ => 0
def hd (l : List Int) : Int := l.headD 0
def ops32 : List Int := [0, 1, 2, 3, 4, 5, 6, 7, 8, 9, 10, 11, 12, 13, 14, 15, 16, 17, 18, 19, 20, 21, 22, 23, 24, 25, 26, 27, 28, 29, 30, 31]
def findOp (p : Int → Bool) : Int := (ops32.find? p).getD (-1)
def opPairs (c : Int) : Int := findOp fun o => decide (shapeM o = 1 ∧ codeM o = c)
def opGroup (c k : Int) : Int := findOp fun o => decide ((shapeM o = 3 ∨ shapeM o = 4 ∨ shapeM o = 5) ∧ codeM o = c ∧ numM o = k)
def preM : List Int → Bool × Int × Int × List Int
  | h :: t => if 64 ≤ h ∧ h ≤ 79 then (decide (72 ≤ h), (h - 64) / 4 % 2, (h - 64) % 2, t) else (false, 0, 0, h :: t)
  | [] => (false, 0, 0, [])
def behM (t : List Int) : List Int := if hd t % 8 = 4 then t.drop 2 else t.drop 1
def dec2 (wide : Bool) (r m c : Int) (t : List Int) : XS :=
  let w := if wide then 64 else 32
  let reg := hd t / 8 % 8 + 8 * r
  let rm := hd t % 8 + 8 * m
  if c = 175 then ⟨16, w, reg, rm, 0, 0, 0, 0⟩
  else if 64 ≤ c ∧ c ≤ 79 then ⟨25, w, reg, rm, 0, 0, 0, c - 64⟩
  else if 128 ≤ c ∧ c ≤ 143 then ⟨29, 32, 0, 0, 0, 0, rd4 t, c - 128⟩
  else if c = 182 then ⟨26, 8, reg, 0, rm, rd4 (behM t), 0, 0⟩
  else if c = 183 then ⟨26, 16, reg, 0, rm, rd4 (behM t), 0, 0⟩
  else ⟨31, 0, 0, 0, 0, 0, 0, 0⟩
def dec1 (half wide : Bool) (r m c : Int) (t : List Int) : XS :=
  let w := if wide then 64 else 32
  let reg := hd t / 8 % 8 + 8 * r
  let rm := hd t % 8 + 8 * m
  if c = 15 then dec2 wide r m (hd t) (t.drop 1)
  else if 184 ≤ c ∧ c ≤ 191 then ⟨1, 32, c - 184 + 8 * m, 0, 0, 0, rd4 t, 0⟩
  else if 112 ≤ c ∧ c ≤ 127 then ⟨29, 8, 0, 0, 0, 0, signed1 (hd t), c - 112⟩
  else if c = 235 then ⟨28, 8, 0, 0, 0, 0, signed1 (hd t), 0⟩
  else if c = 233 then ⟨28, 32, 0, 0, 0, 0, rd4 t, 0⟩
  else if c = 195 then ⟨30, 0, 0, 0, 0, 0, 0, 0⟩
  else if c = 139 then ⟨26, w, reg, 0, rm, rd4 (behM t), 0, 0⟩
  else if c = 136 then ⟨27, 8, 0, reg, rm, rd4 (behM t), 0, 0⟩
  else if c = 137 ∧ hd t < 192 then ⟨27, if half then 16 else w, 0, reg, rm, rd4 (behM t), 0, 0⟩
  else if opPairs c ≠ -1 then ⟨opPairs c, w, rm, reg, 0, 0, 0, 0⟩
  else
    let o := opGroup c (hd t / 8 % 8)
    if shapeM o = 3 then ⟨o, w, rm, 0, 0, 0, rd4 (t.drop 1), 0⟩
    else if shapeM o = 4 then ⟨o, w, rm, 0, 0, 0, hd (t.drop 1), 0⟩
    else ⟨o, w, rm, 0, 0, 0, 0, 0⟩
def decR (half : Bool) (p : Bool × Int × Int × List Int) : XS := dec1 half p.1 p.2.1 p.2.2.1 (hd p.2.2.2) (p.2.2.2.drop 1)
def decM (l : List Int) : XS := if hd l = 102 then decR true (preM (l.drop 1)) else decR false (preM l)
theorem pre_rex {wide al : Bool} {r m c : Int} {t : List Int} (r0 : 0 ≤ r) (r1 : r ≤ 15) (m0 : 0 ≤ m) (m1 : m ≤ 15) (hc : ¬ (64 ≤ c ∧ c ≤ 79)) : preM (rexM wide r m al ++ c :: t) = (wide, r / 8, m / 8, c :: t) := by
 unfold rexM
 split
 ·simp only [List.cons_append, List.nil_append, preM, rexB]
  cases wide
  ·simp only [Bool.false_eq_true, if_false]
   rw [if_pos (by omega)]
   refine Prod.ext ?_ (Prod.ext ?_ (Prod.ext ?_ rfl)) <;> simp <;> omega
  ·simp only [if_true]
   rw [if_pos (by omega)]
   refine Prod.ext ?_ (Prod.ext ?_ (Prod.ext ?_ rfl)) <;> simp <;> omega
 ·rename_i h
  simp only [needM, Bool.or_eq_true, decide_eq_true_eq, not_or, Bool.not_eq_true] at h
  simp only [List.nil_append, preM, if_neg hc]
  rw [h.1.1]
  refine Prod.ext rfl (Prod.ext ?_ (Prod.ext ?_ rfl)) <;> simp <;> omega
theorem hd_rex {wide al : Bool} {r m c : Int} {t : List Int} (r0 : 0 ≤ r) (r1 : r ≤ 15) (m0 : 0 ≤ m) (m1 : m ≤ 15) (hc : c ≠ 102) : hd (rexM wide r m al ++ c :: t) ≠ 102 := by
 unfold rexM
 split
 ·simp only [List.cons_append, hd, List.headD_cons, rexB]
  cases wide <;> simp <;> omega
 ·simpa [hd] using hc
theorem dec_rex {wide al : Bool} {r m c : Int} {t : List Int} (r0 : 0 ≤ r) (r1 : r ≤ 15) (m0 : 0 ≤ m) (m1 : m ≤ 15) (hc : ¬ (64 ≤ c ∧ c ≤ 79)) (h2 : c ≠ 102) : decM (rexM wide r m al ++ c :: t) = dec1 false wide (r / 8) (m / 8) c t := by
 unfold decM
 rw [if_neg (hd_rex r0 r1 m0 m1 h2), pre_rex r0 r1 m0 m1 hc]
 rfl
theorem dec_half {wide al : Bool} {r m c : Int} {t : List Int} (r0 : 0 ≤ r) (r1 : r ≤ 15) (m0 : 0 ≤ m) (m1 : m ≤ 15) (hc : ¬ (64 ≤ c ∧ c ≤ 79)) : decM (102 :: (rexM wide r m al ++ c :: t)) = dec1 true wide (r / 8) (m / 8) c t := by
 unfold decM
 rw [if_pos (show hd (102 :: (rexM wide r m al ++ c :: t)) = 102 from rfl), List.drop_one, List.tail_cons, pre_rex r0 r1 m0 m1 hc]
 rfl
theorem dec_bare {c : Int} {t : List Int} (hc : ¬ (64 ≤ c ∧ c ≤ 79)) (h2 : c ≠ 102) : decM (c :: t) = dec1 false false 0 0 c t := by
 unfold decM
 rw [if_neg (by simpa [hd] using h2), preM, if_neg hc]
 rfl
theorem regs_reg {r m : Int} (r0 : 0 ≤ r) (r1 : r ≤ 15) (m0 : 0 ≤ m) (m1 : m ≤ 15) : regsM r m / 8 % 8 + 8 * (r / 8) = r := by unfold regsM; omega
theorem regs_rm {r m : Int} (r0 : 0 ≤ r) (r1 : r ≤ 15) (m0 : 0 ≤ m) (m1 : m ≤ 15) : regsM r m % 8 + 8 * (m / 8) = m := by unfold regsM; omega
theorem regs_num {r m : Int} (r0 : 0 ≤ r) (r1 : r ≤ 7) (m0 : 0 ≤ m) (m1 : m ≤ 15) : regsM r m / 8 % 8 = r := by unfold regsM; omega
theorem regs_ge {r m : Int} (r0 : 0 ≤ r) (m0 : 0 ≤ m) : ¬ regsM r m < 192 := by unfold regsM; omega
theorem mem_hd {r b disp : Int} {t : List Int} : hd (memM r b disp ++ t) = 128 + 8 * (r % 8) + b % 8 := by unfold memM; split <;> simp [hd]
theorem mem_beh {r b disp : Int} {t : List Int} : behM (memM r b disp ++ t) = fourM disp ++ t := by
 unfold behM
 rw [mem_hd]
 unfold memM
 split <;> rename_i h <;> split <;> rename_i h2 <;> first | (exfalso; omega) | simp
theorem rd4_four {n : Int} {t : List Int} (h0 : -2147483648 ≤ n) (h1 : n ≤ 2147483647) : rd4 (fourM n ++ t) = n := by
 simp only [fourM, List.cons_append, rd4]
 exact four_back h0 h1
theorem mem_reg {r b : Int} (r0 : 0 ≤ r) (r1 : r ≤ 15) : (128 + 8 * (r % 8) + b % 8) / 8 % 8 + 8 * (r / 8) = r := by omega
theorem mem_rm {r b : Int} (b0 : 0 ≤ b) (b1 : b ≤ 15) : (128 + 8 * (r % 8) + b % 8) % 8 + 8 * (b / 8) = b := by omega
theorem mem_lt {r b : Int} : 128 + 8 * (r % 8) + b % 8 < 192 := by omega
theorem opPairs_back : ∀ n : Fin 32, shapeM (n.val : Int) = 1 → opPairs (codeM (n.val : Int)) = n.val := by decide +kernel
theorem opGroup_back : ∀ n : Fin 32, shapeM (n.val : Int) = 3 ∨ shapeM (n.val : Int) = 4 ∨ shapeM (n.val : Int) = 5 → opGroup (codeM (n.val : Int)) (numM (n.val : Int)) = n.val := by decide +kernel
theorem code_pairs : ∀ n : Fin 32, shapeM (n.val : Int) = 1 → (let c := codeM (n.val : Int); c ≠ 15 ∧ ¬ (64 ≤ c ∧ c ≤ 79) ∧ c ≠ 102 ∧ ¬ (184 ≤ c ∧ c ≤ 191) ∧ ¬ (112 ≤ c ∧ c ≤ 127) ∧ c ≠ 235 ∧ c ≠ 233 ∧ c ≠ 195 ∧ c ≠ 139 ∧ c ≠ 136 ∧ opPairs c ≠ -1) := by decide +kernel
theorem code_group : ∀ n : Fin 32, shapeM (n.val : Int) = 3 ∨ shapeM (n.val : Int) = 4 ∨ shapeM (n.val : Int) = 5 → (let c := codeM (n.val : Int); c ≠ 15 ∧ ¬ (64 ≤ c ∧ c ≤ 79) ∧ c ≠ 102 ∧ ¬ (184 ≤ c ∧ c ≤ 191) ∧ ¬ (112 ≤ c ∧ c ≤ 127) ∧ c ≠ 235 ∧ c ≠ 233 ∧ c ≠ 195 ∧ c ≠ 139 ∧ c ≠ 136 ∧ c ≠ 137 ∧ opPairs c = -1 ∧ 0 ≤ numM (n.val : Int) ∧ numM (n.val : Int) ≤ 7) := by decide +kernel
theorem op_fin {op : Int} (h : shapeM op ≠ 0) : ∃ n : Fin 32, op = n.val := by
 have := shape_ops h
 exact ⟨⟨op.toNat, by omega⟩, by simp; omega⟩
theorem long_cases {w : Int} (h : longM w = true) : w = 32 ∨ w = 64 := by simpa [longM] using h
theorem w_back {w : Int} (h : longM w = true) : (if decide (w = 64) = true then 64 else 32) = w := by rcases long_cases h with rfl | rfl <;> rfl
theorem shape_6 : ∀ n : Fin 32, shapeM (n.val : Int) = 6 → (n.val : Int) = 25 := by decide +kernel
theorem shape_7 : ∀ n : Fin 32, shapeM (n.val : Int) = 7 → (n.val : Int) = 26 := by decide +kernel
theorem shape_8 : ∀ n : Fin 32, shapeM (n.val : Int) = 8 → (n.val : Int) = 27 := by decide +kernel
theorem shape_9 : ∀ n : Fin 32, shapeM (n.val : Int) = 9 → (n.val : Int) = 28 := by decide +kernel
theorem shape_10 : ∀ n : Fin 32, shapeM (n.val : Int) = 10 → (n.val : Int) = 29 := by decide +kernel
theorem shape_11 : ∀ n : Fin 32, shapeM (n.val : Int) = 11 → (n.val : Int) = 30 ∨ (n.val : Int) = 31 := by decide +kernel
theorem width_cases {w : Int} (h : widthM w = true) : w = 8 ∨ w = 16 ∨ w = 32 ∨ w = 64 := by simpa [widthM] using h
theorem dec_back {op w dst src base disp imm cc : Int} (h : mayX op w dst src base disp imm cc = true) (t : List Int) : decM (bytesM op w dst src base disp imm cc ++ t) = ⟨op, w, dst, src, base, disp, imm, cc⟩ := by
 obtain ⟨⟨d0, d1, s0, s1, b0, b1, p0, p1, i0, i1⟩, hs⟩ := mayX_parts h
 have hsh : shapeM op ≠ 0 := by
  intro e
  rw [e] at hs
  simp [mayS] at hs
 obtain ⟨k, rfl⟩ := op_fin hsh
 unfold mayS at hs
 split at hs
 ·rename_i h12
  simp only [Bool.and_eq_true, decide_eq_true_eq] at hs
  obtain ⟨hw, rfl, rfl, rfl, rfl⟩ := hs
  have ew := w_back hw
  rcases h12 with h1 | h1
  ·
   obtain ⟨c1, c2, c3, c4, c5, c6, c7, c8, c9, c10, c11⟩ := code_pairs k h1
   have e : bytesM (k.val : Int) w dst src 0 0 0 0 = rexM (decide (w = 64)) src dst false ++ [codeM (k.val : Int), regsM src dst] := by simp only [bytesM, h1, if_true]
   rw [e, List.append_assoc, List.cons_append, List.cons_append, List.nil_append, dec_rex s0 s1 d0 d1 c2 c3]
   simp only [dec1, if_neg c1, if_neg c4, if_neg c5, if_neg c6, if_neg c7, if_neg c8, if_neg c9, if_neg c10]
   have g : hd (regsM src dst :: t) = regsM src dst := rfl
   rw [g, if_neg (by have := regs_ge (m := dst) s0 d0; omega), if_pos c11, opPairs_back k h1, regs_reg s0 s1 d0 d1, regs_rm s0 s1 d0 d1, ew]
  ·
   have hk : (k.val : Int) = 16 := by
    have := shape_ops (op := (k.val : Int)) (by omega)
    revert h1
    rcases this with e | e | e | e | e | e | e | e | e | e | e | e | e | e | e | e | e | e | e | e | e | e | e | e | e | e | e | e | e | e | e | e <;> rw [e] <;> decide
   rw [hk]
   have e : bytesM 16 w dst src 0 0 0 0 = rexM (decide (w = 64)) dst src false ++ [15, 175, regsM dst src] := by
    simp only [bytesM, show shapeM 16 = 2 from rfl, show codeM 16 = 175 from rfl, if_true, show ¬ (2 : Int) = 1 by decide, if_false]
   rw [e, List.append_assoc, List.cons_append, List.cons_append, List.cons_append, List.nil_append, dec_rex d0 d1 s0 s1 (by decide) (by decide)]
   simp only [dec1, if_true, dec2, hd, List.headD_cons, List.drop_succ_cons, List.drop_zero]
   rw [regs_reg d0 d1 s0 s1, regs_rm d0 d1 s0 s1, ew]
 ·rename_i n12
  have n1 : ¬ shapeM (k.val : Int) = 1 := fun e => n12 (.inl e)
  have n2 : ¬ shapeM (k.val : Int) = 2 := fun e => n12 (.inr e)
  split at hs
  ·
   rename_i h3
   simp only [Bool.and_eq_true, decide_eq_true_eq] at hs
   obtain ⟨hw, rfl, rfl, rfl, rfl⟩ := hs
   have ew := w_back hw
   by_cases hm : (k.val : Int) = 1 ∧ w = 32
   ·obtain ⟨hm, rfl⟩ := hm
    have e : bytesM (k.val : Int) 32 dst 0 0 0 imm 0 = rexM false 0 dst false ++ ((184 + dst % 8) :: fourM imm) := by
     rw [hm]
     simp [bytesM, show shapeM 1 = 3 from rfl]
    rw [e, List.append_assoc, List.cons_append, dec_rex (by omega) (by omega) d0 d1 (by omega) (by omega)]
    have c1 : ¬ 184 + dst % 8 = 15 := by omega
    simp only [dec1, if_neg c1]
    rw [if_pos (by omega), rd4_four i0 i1, hm]
    congr 1
    omega
   ·obtain ⟨c1, c2, c3, c4, c5, c6, c7, c8, c9, c10, c11, c12, u0, u1⟩ := code_group k (.inl h3)
    have e : bytesM (k.val : Int) w dst 0 0 0 imm 0 = rexM (decide (w = 64)) 0 dst false ++ (codeM (k.val : Int) :: regsM (numM (k.val : Int)) dst :: fourM imm) := by
     simp only [bytesM, h3, if_neg hm, show ¬ (3 : Int) = 1 by decide, show ¬ (3 : Int) = 2 by decide, show ¬ (3 : Int) = 6 by decide, if_false, if_true]
    rw [e, List.append_assoc, List.cons_append, List.cons_append, dec_rex (by omega) (by omega) d0 d1 c2 c3]
    simp only [dec1, if_neg c1, if_neg c4, if_neg c5, if_neg c6, if_neg c7, if_neg c8, if_neg c9, if_neg c10]
    have g : hd (regsM (numM (k.val : Int)) dst :: (fourM imm ++ t)) = regsM (numM (k.val : Int)) dst := rfl
    rw [g, if_neg (by omega), if_neg (by simp [c12]), regs_num u0 u1 d0 d1, opGroup_back k (.inl h3), if_pos h3, List.drop_one, List.tail_cons, rd4_four i0 i1, regs_rm u0 (by omega) d0 d1, ew]
  ·rename_i n3
   split at hs
   ·
    rename_i h4
    simp only [Bool.and_eq_true, decide_eq_true_eq] at hs
    obtain ⟨hw, rfl, rfl, rfl, rfl, j0, j1⟩ := hs
    have ew := w_back hw
    have hw' := long_cases hw
    obtain ⟨c1, c2, c3, c4, c5, c6, c7, c8, c9, c10, c11, c12, u0, u1⟩ := code_group k (.inr (.inl h4))
    have e : bytesM (k.val : Int) w dst 0 0 0 imm 0 = rexM (decide (w = 64)) 0 dst false ++ [codeM (k.val : Int), regsM (numM (k.val : Int)) dst, imm % 256] := by
     simp only [bytesM, h4, show ¬ (4 : Int) = 1 by decide, show ¬ (4 : Int) = 2 by decide, show ¬ (4 : Int) = 6 by decide, show ¬ (4 : Int) = 3 by decide, if_false, if_true]
    rw [e, List.append_assoc, List.cons_append, List.cons_append, List.cons_append, List.nil_append, dec_rex (by omega) (by omega) d0 d1 c2 c3]
    simp only [dec1, if_neg c1, if_neg c4, if_neg c5, if_neg c6, if_neg c7, if_neg c8, if_neg c9, if_neg c10]
    have g : hd (regsM (numM (k.val : Int)) dst :: imm % 256 :: t) = regsM (numM (k.val : Int)) dst := rfl
    rw [g, if_neg (by omega), if_neg (by simp [c12]), regs_num u0 u1 d0 d1, opGroup_back k (.inr (.inl h4)), if_neg (by omega), if_pos h4, List.drop_one, List.tail_cons, regs_rm u0 (by omega) d0 d1, ew]
    have : hd (imm % 256 :: t) = imm := by simp only [hd, List.headD_cons]; omega
    rw [this]
   ·rename_i n4
    split at hs
    ·
     rename_i h5
     simp only [Bool.and_eq_true, decide_eq_true_eq] at hs
     obtain ⟨hw, rfl, rfl, rfl, rfl, rfl⟩ := hs
     have ew := w_back hw
     obtain ⟨c1, c2, c3, c4, c5, c6, c7, c8, c9, c10, c11, c12, u0, u1⟩ := code_group k (.inr (.inr h5))
     have e : bytesM (k.val : Int) w dst 0 0 0 0 0 = rexM (decide (w = 64)) 0 dst false ++ [codeM (k.val : Int), regsM (numM (k.val : Int)) dst] := by
      simp only [bytesM, h5, show ¬ (5 : Int) = 1 by decide, show ¬ (5 : Int) = 2 by decide, show ¬ (5 : Int) = 6 by decide, show ¬ (5 : Int) = 3 by decide, show ¬ (5 : Int) = 4 by decide, if_false, if_true]
     rw [e, List.append_assoc, List.cons_append, List.cons_append, List.nil_append, dec_rex (by omega) (by omega) d0 d1 c2 c3]
     simp only [dec1, if_neg c1, if_neg c4, if_neg c5, if_neg c6, if_neg c7, if_neg c8, if_neg c9, if_neg c10]
     have g : hd (regsM (numM (k.val : Int)) dst :: t) = regsM (numM (k.val : Int)) dst := rfl
     rw [g, if_neg (by omega), if_neg (by simp [c12]), regs_num u0 u1 d0 d1, opGroup_back k (.inr (.inr h5)), if_neg (by omega), if_neg (by omega), regs_rm u0 (by omega) d0 d1, ew]
    ·rename_i n5
     split at hs
     ·
      rename_i h6
      have hk := shape_6 k h6
      rw [hk] at h6 ⊢
      simp only [Bool.and_eq_true, decide_eq_true_eq] at hs
      obtain ⟨⟨hw, rfl, rfl, rfl⟩, hc⟩ := hs
      have ew := w_back hw
      simp only [ccM, decide_eq_true_eq] at hc
      have e : bytesM 25 w dst src 0 0 0 cc = rexM (decide (w = 64)) dst src false ++ [15, 64 + cc, regsM dst src] := by
       simp [bytesM, show shapeM 25 = 6 from rfl]
      rw [e, List.append_assoc, List.cons_append, List.cons_append, List.cons_append, List.nil_append, dec_rex d0 d1 s0 s1 (by decide) (by decide)]
      have c1 : ¬ 64 + cc = 175 := by omega
      have c2 : 64 ≤ 64 + cc ∧ 64 + cc ≤ 79 := by omega
      simp only [dec1, if_true, dec2, hd, List.headD_cons, List.drop_succ_cons, List.drop_zero, if_neg c1, if_pos c2]
      rw [regs_reg d0 d1 s0 s1, regs_rm d0 d1 s0 s1, ew]
      congr 1
      omega
     ·rename_i n6
      split at hs
      ·
       rename_i h7
       have hk := shape_7 k h7
       rw [hk] at h7 ⊢
       simp only [Bool.and_eq_true, decide_eq_true_eq] at hs
       obtain ⟨hw, rfl, rfl, rfl⟩ := hs
       have e : bytesM 26 w dst 0 base disp 0 0 = rexM (decide (w = 64)) dst base false ++ ((if w = 8 then [15, 182] else if w = 16 then [15, 183] else [139]) ++ memM dst base disp) := by
        simp [bytesM, show shapeM 26 = 7 from rfl]
       rw [e]
       rcases width_cases hw with rfl | rfl | rfl | rfl
       ·rw [if_pos rfl, List.append_assoc, List.append_assoc, List.cons_append, dec_rex d0 d1 b0 b1 (by decide) (by decide)]
        simp only [dec1, if_true, dec2, List.cons_append, List.nil_append]
        have g : hd (182 :: (memM dst base disp ++ t)) = 182 := rfl
        simp only [g, List.drop_one, List.tail_cons, mem_hd, mem_beh, rd4_four p0 p1, mem_reg d0 d1, mem_rm b0 b1]
        rfl
       ·rw [if_neg (by decide), if_pos rfl, List.append_assoc, List.append_assoc, List.cons_append, dec_rex d0 d1 b0 b1 (by decide) (by decide)]
        simp only [dec1, if_true, dec2, List.cons_append, List.nil_append]
        have g : hd (183 :: (memM dst base disp ++ t)) = 183 := rfl
        simp only [g, List.drop_one, List.tail_cons, mem_hd, mem_beh, rd4_four p0 p1, mem_reg d0 d1, mem_rm b0 b1]
        rfl
       ·rw [if_neg (by decide), if_neg (by decide), List.append_assoc, List.append_assoc, List.cons_append, List.nil_append, dec_rex d0 d1 b0 b1 (by decide) (by decide)]
        simp only [dec1, mem_hd, mem_beh, rd4_four p0 p1, mem_reg d0 d1, mem_rm b0 b1]
        rfl
       ·rw [if_neg (by decide), if_neg (by decide), List.append_assoc, List.append_assoc, List.cons_append, List.nil_append, dec_rex d0 d1 b0 b1 (by decide) (by decide)]
        simp only [dec1, mem_hd, mem_beh, rd4_four p0 p1, mem_reg d0 d1, mem_rm b0 b1]
        rfl
      ·rename_i n7
       split at hs
       ·
        rename_i h8
        have hk := shape_8 k h8
        rw [hk] at h8 ⊢
        simp only [Bool.and_eq_true, decide_eq_true_eq] at hs
        obtain ⟨hw, rfl, rfl, rfl⟩ := hs
        have e : bytesM 27 w 0 src base disp 0 0 = (if w = 16 then [102] else []) ++ (rexM (decide (w = 64)) src base (decide (w = 8)) ++ ((if w = 8 then [136] else [137]) ++ memM src base disp)) := by
         simp [bytesM, show shapeM 27 = 8 from rfl]
        rw [e]
        have ml := @mem_lt src base
        rcases width_cases hw with rfl | rfl | rfl | rfl
        ·rw [if_neg (by decide), if_pos rfl, List.nil_append, List.append_assoc, List.append_assoc, List.cons_append, List.nil_append, dec_rex s0 s1 b0 b1 (by decide) (by decide)]
         simp only [dec1, mem_hd, mem_beh, rd4_four p0 p1, mem_reg s0 s1, mem_rm b0 b1]
         rfl
        ·rw [if_pos rfl, if_neg (by decide), List.append_assoc, List.append_assoc, List.append_assoc, List.cons_append, List.cons_append, List.nil_append, List.nil_append, dec_half s0 s1 b0 b1 (by decide)]
         simp only [dec1, mem_hd, mem_beh, rd4_four p0 p1, mem_reg s0 s1, mem_rm b0 b1, ml, and_true]
         rfl
        ·rw [if_neg (by decide), if_neg (by decide), List.nil_append, List.append_assoc, List.append_assoc, List.cons_append, List.nil_append, dec_rex s0 s1 b0 b1 (by decide) (by decide)]
         simp only [dec1, mem_hd, mem_beh, rd4_four p0 p1, mem_reg s0 s1, mem_rm b0 b1, ml, and_true]
         rfl
        ·rw [if_neg (by decide), if_neg (by decide), List.nil_append, List.append_assoc, List.append_assoc, List.cons_append, List.nil_append, dec_rex s0 s1 b0 b1 (by decide) (by decide)]
         simp only [dec1, mem_hd, mem_beh, rd4_four p0 p1, mem_reg s0 s1, mem_rm b0 b1, ml, and_true]
         rfl
       ·rename_i n8
        split at hs
        ·
         rename_i h9
         have hk := shape_9 k h9
         rw [hk] at h9 ⊢
         simp only [Bool.and_eq_true, decide_eq_true_eq, jumpM] at hs
         obtain ⟨hw, rfl, rfl, rfl, rfl, rfl⟩ := hs
         have e : bytesM 28 w 0 0 0 0 imm 0 = if w = 8 then [235, imm % 256] else 233 :: fourM imm := by
          simp [bytesM, show shapeM 28 = 9 from rfl]
         rw [e]
         rcases hw with rfl | ⟨rfl, j0, j1⟩
         ·rw [if_neg (by decide), List.cons_append, dec_bare (by decide) (by decide)]
          simp only [dec1, rd4_four i0 i1]
          rfl
         ·rw [if_pos rfl, List.cons_append, dec_bare (by decide) (by decide)]
          have g : hd ([imm % 256] ++ t) = imm % 256 := rfl
          simp only [dec1, g, one_back j0 j1]
          rfl
        ·rename_i n9
         split at hs
         ·
          rename_i h10
          have hk := shape_10 k h10
          rw [hk] at h10 ⊢
          simp only [Bool.and_eq_true, decide_eq_true_eq, jumpM] at hs
          obtain ⟨⟨hw, rfl, rfl, rfl, rfl⟩, hc⟩ := hs
          simp only [ccM, decide_eq_true_eq] at hc
          have e : bytesM 29 w 0 0 0 0 imm cc = if w = 8 then [112 + cc, imm % 256] else 15 :: (128 + cc) :: fourM imm := by
           simp [bytesM, show shapeM 29 = 10 from rfl]
          rw [e]
          rcases hw with rfl | ⟨rfl, j0, j1⟩
          ·rw [if_neg (by decide), List.cons_append, List.cons_append, dec_bare (by decide) (by decide)]
           have g : hd ((128 + cc) :: (fourM imm ++ t)) = 128 + cc := rfl
           simp only [dec1, if_true, dec2, g, List.drop_one, List.tail_cons, rd4_four i0 i1]
           rw [if_neg (by omega), if_neg (by omega), if_pos (by omega)]
           congr 1
           omega
          ·rw [if_pos rfl, List.cons_append, dec_bare (by omega) (by omega)]
           have g : hd ([imm % 256] ++ t) = imm % 256 := rfl
           simp only [dec1, g, one_back j0 j1]
           rw [if_neg (by omega), if_neg (by omega), if_pos (by omega)]
           congr 1
           omega
         ·rename_i n10
          split at hs
          ·rename_i h11
           simp only [decide_eq_true_eq] at hs
           obtain ⟨rfl, rfl, rfl, rfl, rfl, rfl, rfl⟩ := hs
           rcases shape_11 k h11 with hk | hk <;> rw [hk]
           ·have e : bytesM 30 0 0 0 0 0 0 0 = [195] := rfl
            rw [e, List.cons_append, dec_bare (by decide) (by decide)]
            rfl
           ·have e : bytesM 31 0 0 0 0 0 0 0 = [15, 5] := rfl
            rw [e, List.cons_append, dec_bare (by decide) (by decide)]
            rfl
          ·cases hs
end Go.Ev
namespace Go.Ev
open Go
theorem fin16 {d : Int} (h0 : 0 ≤ d) (h1 : d ≤ 15) : ∃ n : Fin 16, d = (n.val : Int) := ⟨⟨d.toNat, by omega⟩, by simp; omega⟩
theorem need_or {r m : Int} (r0 : 0 ≤ r) (r1 : r ≤ 15) (m0 : 0 ≤ m) (m1 : m ≤ 15) : (IntKind.i8.wrap ((BitVec.ofInt 8 (IntKind.i8.wrap ((BitVec.ofInt 8 r ||| BitVec.ofInt 8 m).toNat : Int)) &&& BitVec.ofInt 8 8).toNat : Int) != 0) = decide (8 ≤ r ∨ 8 ≤ m) := by
 obtain ⟨n, rfl⟩ := fin16 r0 r1
 obtain ⟨k, rfl⟩ := fin16 m0 m1
 clear r0 r1 m0 m1
 revert n k
 decide +kernel
theorem reg_yes {r : Int} (r0 : 0 ≤ r) (r1 : r ≤ 15) : regM r = true := by simp [regM, r0, r1]
theorem rex_raw0 {r m : Int} (r0 : 0 ≤ r) (r1 : r ≤ 15) (m0 : 0 ≤ m) (m1 : m ≤ 15) : IntKind.u8.wrap ((BitVec.ofInt 8 (IntKind.u8.wrap ((BitVec.ofInt 8 64 ||| BitVec.ofInt 8 (4 * (r / 8))).toNat : Int)) ||| BitVec.ofInt 8 (m / 8)).toNat : Int) = rexB false r m := by
 obtain ⟨n, rfl⟩ := fin16 r0 r1
 obtain ⟨k, rfl⟩ := fin16 m0 m1
 clear r0 r1 m0 m1
 revert n k
 decide +kernel
theorem rex_raw1 {r m : Int} (r0 : 0 ≤ r) (r1 : r ≤ 15) (m0 : 0 ≤ m) (m1 : m ≤ 15) : IntKind.u8.wrap ((BitVec.ofInt 8 (IntKind.u8.wrap ((BitVec.ofInt 8 (IntKind.u8.wrap ((BitVec.ofInt 8 64 ||| BitVec.ofInt 8 (4 * (r / 8))).toNat : Int)) ||| BitVec.ofInt 8 (m / 8)).toNat : Int)) ||| BitVec.ofInt 8 8).toNat : Int) = rexB true r m := by
 obtain ⟨n, rfl⟩ := fin16 r0 r1
 obtain ⟨k, rfl⟩ := fin16 m0 m1
 clear r0 r1 m0 m1
 revert n k
 decide +kernel
theorem and7 (a : Int) : ((BitVec.ofInt 8 a &&& BitVec.ofInt 8 7).toNat : Int) = a % 8 := by have := and_ones 8 3 (by omega) a; exact this
theorem sib_t {b : Int} (h : decide (b % 8 = 4) = true) : (IntKind.i8.wrap ((BitVec.ofInt 8 b &&& BitVec.ofInt 8 7).toNat : Int) == 4) = true := by
 rw [and7, w_i8]; simp at h ⊢; omega
theorem sib_f {b : Int} (h : decide (b % 8 = 4) = false) : (IntKind.i8.wrap ((BitVec.ofInt 8 b &&& BitVec.ofInt 8 7).toNat : Int) == 4) = false := by
 rw [and7, w_i8]; simp at h ⊢; omega
theorem fd1 (a : Int) : a.fdiv 1 = a := by rw [Int.fdiv_eq_ediv_of_nonneg _ (by decide)]; omega
theorem fd256 (a : Int) : a.fdiv 256 = a / 256 := Int.fdiv_eq_ediv_of_nonneg _ (by decide)
theorem fd65536 (a : Int) : a.fdiv 65536 = a / 65536 := Int.fdiv_eq_ediv_of_nonneg _ (by decide)
theorem fd16777216 (a : Int) : a.fdiv 16777216 = a / 16777216 := Int.fdiv_eq_ediv_of_nonneg _ (by decide)
theorem or184 {r : Int} (r0 : 0 ≤ r) (r1 : r ≤ 15) : IntKind.u8.wrap ((BitVec.ofInt 8 184 ||| BitVec.ofInt 8 (IntKind.u8.wrap (IntKind.i8.wrap ((BitVec.ofInt 8 r &&& BitVec.ofInt 8 7).toNat : Int)))).toNat : Int) = 184 + r % 8 := by
 obtain ⟨n, rfl⟩ := fin16 r0 r1
 clear r0 r1
 revert n
 decide +kernel
theorem beq_dec (a b : Int) : (a == b) = decide (a = b) := by
 rw [Bool.eq_iff_iff]; simp
end Go.Ev
namespace Go.Ev
open Go
def lenX (op w dst src base disp imm cc : Int) : Int := ((bytesL op w dst src base disp imm cc).length : Nat)
theorem code_range_fin : ∀ n : Fin 32, (0 ≤ codeM (n.val : Int) ∧ codeM (n.val : Int) ≤ 255) ∧ 0 ≤ numM (n.val : Int) ∧ numM (n.val : Int) ≤ 7 := by decide +kernel
theorem code_range {op : Int} (h : shapeM op ≠ 0) : (0 ≤ codeM op ∧ codeM op ≤ 255) ∧ 0 ≤ numM op ∧ numM op ≤ 7 := by
 obtain ⟨n, rfl⟩ := op_fin h
 exact code_range_fin n
theorem mayS_cc {sh w dst src base disp imm cc : Int} (hs : mayS sh w dst src base disp imm cc = true) : 0 ≤ cc ∧ cc ≤ 15 := by
 unfold mayS at hs
 repeat' split at hs
 all_goals first | (cases hs; done) | (simp only [ccM, Bool.and_eq_true, decide_eq_true_eq] at hs; omega)
def A255 (l : List Int) : Prop := ∀ b ∈ l, 0 ≤ b ∧ b ≤ 255
theorem A255.nil : A255 [] := by intro b hb; cases hb
theorem A255.cons {x : Int} {l : List Int} (h0 : 0 ≤ x) (h1 : x ≤ 255) (h : A255 l) : A255 (x :: l) := by
 intro b hb
 rcases List.mem_cons.1 hb with e | hb
 ·subst e; exact ⟨h0, h1⟩
 ·exact h b hb
theorem A255.app {a b : List Int} (h : A255 a) (k : A255 b) : A255 (a ++ b) := fun x hx => (List.mem_append.1 hx).elim (h x) (k x)
theorem A255.ite {c : Prop} [Decidable c] {a b : List Int} (h : c → A255 a) (k : ¬ c → A255 b) : A255 (if c then a else b) := by
 split
 ·exact h ‹_›
 ·exact k ‹_›
theorem A255.four (n : Int) : A255 (fourM n) := by
 unfold fourM
 exact .cons (by omega) (by omega) (.cons (by omega) (by omega) (.cons (by omega) (by omega) (.cons (by omega) (by omega) .nil)))
theorem A255.rex {wd al : Bool} {r m : Int} (h1 : 0 ≤ r) (h2 : r ≤ 15) (h3 : 0 ≤ m) (h4 : m ≤ 15) : A255 (rexM wd r m al) := by
 unfold rexM
 refine .ite (fun _ => ?_) (fun _ => .nil)
 unfold rexB
 cases wd
 ·exact .cons (by simp; omega) (by simp; omega) .nil
 ·exact .cons (by simp; omega) (by simp; omega) .nil
theorem regs_range (r m : Int) : 0 ≤ regsM r m ∧ regsM r m ≤ 255 := by unfold regsM; omega
theorem A255.mem (r b n : Int) : A255 (memM r b n) := by
 unfold memM
 exact .ite (fun _ => .cons (by omega) (by omega) (.cons (by omega) (by omega) (.four n))) (fun _ => .cons (by omega) (by omega) (.four n))
theorem bytesM_range {op w dst src base disp imm cc : Int} (h : mayX op w dst src base disp imm cc = true) : A255 (bytesM op w dst src base disp imm cc) := by
 obtain ⟨⟨d0, d1, s0, s1, b0, b1, p0, p1, i0, i1⟩, hs⟩ := mayX_parts h
 have hsh : shapeM op ≠ 0 := by
  intro e
  rw [e] at hs
  simp [mayS] at hs
 obtain ⟨⟨c0, c1⟩, n0, n1⟩ := code_range hsh
 obtain ⟨k0, k1⟩ := mayS_cc hs
 have rg := fun r m => (regs_range r m).1
 have rg' := fun r m => (regs_range r m).2
 unfold bytesM
 refine .ite (fun _ => .app (.rex s0 s1 d0 d1) (.cons c0 c1 (.cons (rg _ _) (rg' _ _) .nil))) fun _ => ?_
 refine .ite (fun _ => .app (.rex d0 d1 s0 s1) (.cons (by omega) (by omega) (.cons c0 c1 (.cons (rg _ _) (rg' _ _) .nil)))) fun _ => ?_
 refine .ite (fun _ => .app (.rex d0 d1 s0 s1) (.cons (by omega) (by omega) (.cons (by omega) (by omega) (.cons (rg _ _) (rg' _ _) .nil)))) fun _ => ?_
 refine .ite (fun _ => .ite (fun _ => .app (.rex (by omega) (by omega) d0 d1) (.cons (by omega) (by omega) (.four _))) (fun _ => .app (.rex (by omega) (by omega) d0 d1) (.cons c0 c1 (.cons (rg _ _) (rg' _ _) (.four _))))) fun _ => ?_
 refine .ite (fun _ => .app (.rex (by omega) (by omega) d0 d1) (.cons c0 c1 (.cons (rg _ _) (rg' _ _) (.cons (by omega) (by omega) .nil)))) fun _ => ?_
 refine .ite (fun _ => .app (.rex (by omega) (by omega) d0 d1) (.cons c0 c1 (.cons (rg _ _) (rg' _ _) .nil))) fun _ => ?_
 refine .ite (fun _ => .app (.rex d0 d1 b0 b1) (.app (.ite (fun _ => .cons (by omega) (by omega) (.cons (by omega) (by omega) .nil)) fun _ => .ite (fun _ => .cons (by omega) (by omega) (.cons (by omega) (by omega) .nil)) fun _ => .cons (by omega) (by omega) .nil) (.mem _ _ _))) fun _ => ?_
 refine .ite (fun _ => .app (.ite (fun _ => .cons (by omega) (by omega) .nil) fun _ => .nil) (.app (.rex s0 s1 b0 b1) (.app (.ite (fun _ => .cons (by omega) (by omega) .nil) fun _ => .cons (by omega) (by omega) .nil) (.mem _ _ _)))) fun _ => ?_
 refine .ite (fun _ => .ite (fun _ => .cons (by omega) (by omega) (.cons (by omega) (by omega) .nil)) fun _ => .cons (by omega) (by omega) (.four _)) fun _ => ?_
 refine .ite (fun _ => .ite (fun _ => .cons (by omega) (by omega) (.cons (by omega) (by omega) .nil)) fun _ => .cons (by omega) (by omega) (.cons (by omega) (by omega) (.four _))) fun _ => ?_
 exact .ite (fun _ => .cons (by omega) (by omega) (.cons (by omega) (by omega) .nil)) fun _ => .cons (by omega) (by omega) .nil
theorem bD_inj : ∀ {a b : List Int}, (∀ x ∈ a, 0 ≤ x ∧ x ≤ 255) → (∀ x ∈ b, 0 ≤ x ∧ x ≤ 255) → (strD (bD a)).toList = (strD (bD b)).toList → a = b := by
 intro a b ha hb h
 have e : ∀ l : List Int, (strD (bD l)).toList = l.map fun n => UInt8.ofNat n.toNat := by
  intro l
  unfold strD
  rw [ByteArray.toList_eq]
  simp [bD, byteOf, Function.comp_def]
 rw [e, e] at h
 clear e
 induction a generalizing b with
 | nil => cases b with
  | nil => rfl
  | cons y b => simp at h
 | cons x a ih => cases b with
  | nil => simp at h
  | cons y b =>
   simp only [List.map_cons, List.cons.injEq] at h
   have h1 := ha x (by simp)
   have h2 := hb y (by simp)
   have : x = y := by
    have := congrArg UInt8.toNat h.1
    simp at this
    omega
   rw [this, ih (fun z hz => ha z (by simp [hz])) (fun z hz => hb z (by simp [hz])) h.2]
end Go.Ev
namespace Go.Ev
open Go
end Go.Ev

namespace Go.Ev
open Go
def u64 (n : Int) : Int := IntKind.u64.wrap n
def cutM (v w : Int) : Int := if w = 8 then v % 256 else if w = 16 then v % 65536 else if w = 32 then v % 4294967296 else v
def signM (v w : Int) : Int :=
  if w = 8 then u64 (IntKind.i8.wrap v) else if w = 16 then u64 (IntKind.i16.wrap v) else if w = 32 then u64 (IntKind.i32.wrap v) else v
def negM (v w : Int) : Bool := decide (IntKind.i64.wrap (signM v w) < 0)
def xor64 (a b : Int) : Int := u64 ((BitVec.ofInt 64 a ^^^ BitVec.ofInt 64 b).toNat : Int)
def and64u (a b : Int) : Int := u64 ((BitVec.ofInt 64 a &&& BitVec.ofInt 64 b).toNat : Int)
def or64u (a b : Int) : Int := u64 ((BitVec.ofInt 64 a ||| BitVec.ofInt 64 b).toNat : Int)
def fD (k c z s o : Bool) : D := .agg [.bool k, .bool c, .bool z, .bool s, .bool o]
def byM (b w : Int) : Int := and64u b (u64 (IntKind.i8.wrap (w - 1)))
def opM (op a b by' w : Int) : Int :=
  if op = 0 then u64 (a + b)
  else if op = 1 then u64 (a - b)
  else if op = 2 then u64 (a * b)
  else if op = 3 then (if b = 0 then 0 else u64 (a.tdiv b))
  else if op = 4 then or64u a b
  else if op = 5 then and64u a b
  else if op = 6 then u64 (a * 2 ^ (min by'.toNat 64))
  else if op = 7 then a.fdiv (2 ^ (min by'.toNat 64))
  else if op = 8 then u64 (0 - a)
  else if op = 9 then (if b = 0 then a else a.tmod b)
  else if op = 10 then xor64 a b
  else if op = 11 then b
  else u64 ((IntKind.i64.wrap (signM a w)).fdiv (2 ^ (min by'.toNat 64)))
def doM (op w a b : Int) : Int := cutM (opM op (cutM a w) (cutM b w) (byM (cutM b w) w) w) w
def rg (l : List Int) (i : Int) : Int := l.getD i.toNat 0
def st (j i v r : Int) : Int := if i = j then v else r
def putD (i v r0 r1 r2 r3 r4 r5 r6 r7 r8 r9 r10 r11 r12 r13 r14 r15 : Int) (tl : List D) : List D := .int .u64 (st 0 i v r0) :: .int .u64 (st 1 i v r1) :: .int .u64 (st 2 i v r2) :: .int .u64 (st 3 i v r3) :: .int .u64 (st 4 i v r4) :: .int .u64 (st 5 i v r5) :: .int .u64 (st 6 i v r6) :: .int .u64 (st 7 i v r7) :: .int .u64 (st 8 i v r8) :: .int .u64 (st 9 i v r9) :: .int .u64 (st 10 i v r10) :: .int .u64 (st 11 i v r11) :: .int .u64 (st 12 i v r12) :: .int .u64 (st 13 i v r13) :: .int .u64 (st 14 i v r14) :: .int .u64 (st 15 i v r15) :: tl
abbrev uu : D := .undef
abbrev PutsA (l : List D) (i : Nat) (xs l' : List D) : Prop := l.take i ++ (xs ++ l.drop (i + xs.length)) = l' ∧ i + xs.length ≤ l.length
abbrev GetsA (l : List D) (i n : Nat) (l' : List D) : Prop := (l.drop i).take n = l' ∧ i + n ≤ l.length
section
variable {r0 r1 r2 r3 r4 r5 r6 r7 r8 r9 r10 r11 r12 r13 r14 r15 i v : Int} {tl : List D}
end
end Go.Ev

namespace Go.Proofs.Ytcngafhpodeenaa
open Go Go.Ev
abbrev EL := List (Ev Try.prog)
theorem bft (b : Bool) : b = true ∨ b = false := Bool.eq_false_or_eq_true b
theorem sl0 : (∀ {p : Prop} [Decidable p], (decide p = true) = p) ∧ (∀ {p : Prop} [Decidable p], (decide p = false) ↔ ¬p) ∧ (∀ (b : Bool), (¬(b = true)) = (b = false)) ∧ (∀ {α : Type} [BEq α] [LawfulBEq α] {a b : α}, (a == b) = true ↔ a = b) ∧ (∀ {α : Type} [BEq α] [LawfulBEq α] {a b : α}, (a == b) = false ↔ a ≠ b) ∧ (∀ (a b : Bool), (D.bool a = D.bool b) = (a = b)) := ⟨@decide_eq_true_eq, @decide_eq_false_iff_not, @Bool.not_eq_true, @beq_iff_eq, @beq_eq_false_iff_ne, @D.bool.injEq⟩
theorem sl2 : (∀ n : Int, IntKind.i8.wrap n = (n + 128) % 256 - 128) ∧ (∀ n : Int, IntKind.u8.wrap n = n % 256) ∧ (∀ n : Int, IntKind.i64.wrap n = (n + 9223372036854775808) % 18446744073709551616 - 9223372036854775808) ∧ (∀ n : Int, IntKind.u64.wrap n = n % 18446744073709551616) ∧ (∀ {p : Prop} [Decidable p], (decide p = true) = p) ∧ (∀ {p : Prop} [Decidable p], (decide p = false) ↔ ¬p) ∧ (∀ {α : Type} [BEq α] [LawfulBEq α] {a b : α}, (a == b) = true ↔ a = b) ∧ (∀ {α : Type} [BEq α] [LawfulBEq α] {a b : α}, (a != b) = true ↔ a ≠ b) ∧ (∀ {α : Type} [BEq α] [LawfulBEq α] {a b : α}, (a == b) = false ↔ a ≠ b) ∧ (∀ {α : Type} [BEq α] [LawfulBEq α] {a b : α}, (a != b) = false ↔ a = b) ∧ (∀ (b : Bool), ((!b) = true) = (b = false)) ∧ (∀ (b : Bool), ((!b) = false) = (b = true)) ∧ (∀ (a b : Bool), ((a && b) = true) = (a = true ∧ b = true)) ∧ (∀ (a b : Bool), ((a || b) = true) = (a = true ∨ b = true)) := ⟨@w_i8, @w_u8, @w_i64, @w_u64, @decide_eq_true_eq, @decide_eq_false_iff_not, @beq_iff_eq, @bne_iff_ne, @beq_eq_false_iff_ne, @bne_eq_false_iff_eq, @Bool.not_eq_true', @Bool.not_eq_false', @Bool.and_eq_true, @Bool.or_eq_true⟩
def OE (n : Nat) (f : Func) : Prop := ∀ {x : List D} {d : D} (o : EL), evalRet Try.prog f x o = some (d, selfs o True) → Ret Try.prog n x d
theorem o0 : OE 0 Try.f0 := Ret.of_eval mixed Try.func0 (by kernel_rfl)
theorem o1 : OE 1 Try.f1 := Ret.of_eval mixed Try.func1 (by kernel_rfl)
theorem o2 : OE 2 Try.f2 := Ret.of_eval mixed Try.func2 (by kernel_rfl)
theorem o3 : OE 3 Try.f3 := Ret.of_eval mixed Try.func3 (by kernel_rfl)
theorem o21 : OE 21 Try.f21 := Ret.of_eval mixed Try.func21 (by kernel_rfl)
theorem o56 : OE 56 Try.f56 := Ret.of_eval mixed Try.func56 (by kernel_rfl)
theorem o57 : OE 57 Try.f57 := Ret.of_eval mixed Try.func57 (by kernel_rfl)
theorem o59 : OE 59 Try.f59 := Ret.of_eval mixed Try.func59 (by kernel_rfl)
theorem o60 : OE 60 Try.f60 := Ret.of_eval mixed Try.func60 (by kernel_rfl)
theorem o61 : OE 61 Try.f61 := Ret.of_eval mixed Try.func61 (by kernel_rfl)
theorem o113 : OE 113 Try.f113 := Ret.of_eval mixed Try.func113 (by kernel_rfl)
theorem o114 : OE 114 Try.f114 := Ret.of_eval mixed Try.func114 (by kernel_rfl)
theorem o115 : OE 115 Try.f115 := Ret.of_eval mixed Try.func115 (by kernel_rfl)
theorem o116 : OE 116 Try.f116 := Ret.of_eval mixed Try.func116 (by kernel_rfl)
theorem o117 : OE 117 Try.f117 := Ret.of_eval mixed Try.func117 (by kernel_rfl)
theorem o118 : OE 118 Try.f118 := Ret.of_eval mixed Try.func118 (by kernel_rfl)
theorem o119 : OE 119 Try.f119 := Ret.of_eval mixed Try.func119 (by kernel_rfl)
theorem o120 : OE 120 Try.f120 := Ret.of_eval mixed Try.func120 (by kernel_rfl)
theorem o122 : OE 122 Try.f122 := Ret.of_eval mixed Try.func122 (by kernel_rfl)
theorem o154 : OE 154 Try.f154 := Ret.of_eval mixed Try.func154 (by kernel_rfl)
theorem o155 : OE 155 Try.f155 := Ret.of_eval mixed Try.func155 (by kernel_rfl)
theorem o156 : OE 156 Try.f156 := Ret.of_eval mixed Try.func156 (by kernel_rfl)
end Go.Proofs.Ytcngafhpodeenaa

namespace Go.Proofs.Ytcngafhpodeenaa
open Go Go.Ev
set_option maxRecDepth 100000
set_option maxHeartbeats 8000000
def tab_XOf_0 : List D := [.int .i8 1, .int .u8 137, .int .i8 0, .int .i8 3, .int .u8 199, .int .i8 0, .int .i8 1, .int .u8 1, .int .i8 0, .int .i8 1, .int .u8 9, .int .i8 0, .int .i8 1, .int .u8 33, .int .i8 0, .int .i8 1, .int .u8 41, .int .i8 0, .int .i8 1, .int .u8 49, .int .i8 0, .int .i8 1, .int .u8 57, .int .i8 0, .int .i8 1, .int .u8 133, .int .i8 0, .int .i8 3, .int .u8 129, .int .i8 0, .int .i8 3, .int .u8 129, .int .i8 1, .int .i8 3, .int .u8 129, .int .i8 4, .int .i8 3, .int .u8 129, .int .i8 5, .int .i8 3, .int .u8 129, .int .i8 6, .int .i8 3, .int .u8 129, .int .i8 7, .int .i8 3, .int .u8 247, .int .i8 0, .int .i8 2, .int .u8 175, .int .i8 0, .int .i8 4, .int .u8 193, .int .i8 4, .int .i8 4, .int .u8 193, .int .i8 5, .int .i8 4, .int .u8 193, .int .i8 7, .int .i8 5, .int .u8 211, .int .i8 4, .int .i8 5, .int .u8 211, .int .i8 5, .int .i8 5, .int .u8 211, .int .i8 7, .int .i8 5, .int .u8 247, .int .i8 3, .int .i8 5, .int .u8 247, .int .i8 6, .int .i8 6, .int .u8 64, .int .i8 0, .int .i8 7, .int .u8 139, .int .i8 0, .int .i8 8, .int .u8 137, .int .i8 0, .int .i8 9, .int .u8 233, .int .i8 0, .int .i8 10, .int .u8 128, .int .i8 0, .int .i8 11, .int .u8 195, .int .i8 0, .int .i8 11, .int .u8 5, .int .i8 0]
def SpXOf0 (k0_ : Int) : Prop := Ret Try.prog 57 ([.int .i8 k0_]) (.tup [.agg [.int .i8 (shapeM k0_), .int .u8 (codeM k0_), .int .i8 (numM k0_)], .bool true])
theorem of_0_ok : SpXOf0 0 := by
 exact (o57 (d := .tup [.agg [.int .i8 1, .int .u8 137, .int .i8 0], .bool true]) [.inl, tT, tT, tT, tF, tF, tT, .getA tab_XOf_0 0 3 ([.int .i8 1, .int .u8 137, .int .i8 0]) ⟨rfl, by decide⟩] (by kernel_rfl)).to (by simp [wk, wkL]; decide)
theorem of_1_ok : SpXOf0 1 := by
 exact (o57 (d := .tup [.agg [.int .i8 3, .int .u8 199, .int .i8 0], .bool true]) [.inl, tT, tT, tT, tF, tF, tT, .getA tab_XOf_0 3 3 ([.int .i8 3, .int .u8 199, .int .i8 0]) ⟨rfl, by decide⟩] (by kernel_rfl)).to (by simp [wk, wkL]; decide)
theorem of_2_ok : SpXOf0 2 := by
 exact (o57 (d := .tup [.agg [.int .i8 1, .int .u8 1, .int .i8 0], .bool true]) [.inl, tT, tT, tT, tF, tF, tT, .getA tab_XOf_0 6 3 ([.int .i8 1, .int .u8 1, .int .i8 0]) ⟨rfl, by decide⟩] (by kernel_rfl)).to (by simp [wk, wkL]; decide)
theorem of_3_ok : SpXOf0 3 := by
 exact (o57 (d := .tup [.agg [.int .i8 1, .int .u8 9, .int .i8 0], .bool true]) [.inl, tT, tT, tT, tF, tF, tT, .getA tab_XOf_0 9 3 ([.int .i8 1, .int .u8 9, .int .i8 0]) ⟨rfl, by decide⟩] (by kernel_rfl)).to (by simp [wk, wkL]; decide)
theorem of_4_ok : SpXOf0 4 := by
 exact (o57 (d := .tup [.agg [.int .i8 1, .int .u8 33, .int .i8 0], .bool true]) [.inl, tT, tT, tT, tF, tF, tT, .getA tab_XOf_0 12 3 ([.int .i8 1, .int .u8 33, .int .i8 0]) ⟨rfl, by decide⟩] (by kernel_rfl)).to (by simp [wk, wkL]; decide)
theorem of_5_ok : SpXOf0 5 := by
 exact (o57 (d := .tup [.agg [.int .i8 1, .int .u8 41, .int .i8 0], .bool true]) [.inl, tT, tT, tT, tF, tF, tT, .getA tab_XOf_0 15 3 ([.int .i8 1, .int .u8 41, .int .i8 0]) ⟨rfl, by decide⟩] (by kernel_rfl)).to (by simp [wk, wkL]; decide)
theorem of_6_ok : SpXOf0 6 := by
 exact (o57 (d := .tup [.agg [.int .i8 1, .int .u8 49, .int .i8 0], .bool true]) [.inl, tT, tT, tT, tF, tF, tT, .getA tab_XOf_0 18 3 ([.int .i8 1, .int .u8 49, .int .i8 0]) ⟨rfl, by decide⟩] (by kernel_rfl)).to (by simp [wk, wkL]; decide)
theorem of_7_ok : SpXOf0 7 := by
 exact (o57 (d := .tup [.agg [.int .i8 1, .int .u8 57, .int .i8 0], .bool true]) [.inl, tT, tT, tT, tF, tF, tT, .getA tab_XOf_0 21 3 ([.int .i8 1, .int .u8 57, .int .i8 0]) ⟨rfl, by decide⟩] (by kernel_rfl)).to (by simp [wk, wkL]; decide)
theorem of_8_ok : SpXOf0 8 := by
 exact (o57 (d := .tup [.agg [.int .i8 1, .int .u8 133, .int .i8 0], .bool true]) [.inl, tT, tT, tT, tF, tF, tT, .getA tab_XOf_0 24 3 ([.int .i8 1, .int .u8 133, .int .i8 0]) ⟨rfl, by decide⟩] (by kernel_rfl)).to (by simp [wk, wkL]; decide)
theorem of_9_ok : SpXOf0 9 := by
 exact (o57 (d := .tup [.agg [.int .i8 3, .int .u8 129, .int .i8 0], .bool true]) [.inl, tT, tT, tT, tF, tF, tT, .getA tab_XOf_0 27 3 ([.int .i8 3, .int .u8 129, .int .i8 0]) ⟨rfl, by decide⟩] (by kernel_rfl)).to (by simp [wk, wkL]; decide)
theorem of_10_ok : SpXOf0 10 := by
 exact (o57 (d := .tup [.agg [.int .i8 3, .int .u8 129, .int .i8 1], .bool true]) [.inl, tT, tT, tT, tF, tF, tT, .getA tab_XOf_0 30 3 ([.int .i8 3, .int .u8 129, .int .i8 1]) ⟨rfl, by decide⟩] (by kernel_rfl)).to (by simp [wk, wkL]; decide)
theorem of_11_ok : SpXOf0 11 := by
 exact (o57 (d := .tup [.agg [.int .i8 3, .int .u8 129, .int .i8 4], .bool true]) [.inl, tT, tT, tT, tF, tF, tT, .getA tab_XOf_0 33 3 ([.int .i8 3, .int .u8 129, .int .i8 4]) ⟨rfl, by decide⟩] (by kernel_rfl)).to (by simp [wk, wkL]; decide)
theorem of_12_ok : SpXOf0 12 := by
 exact (o57 (d := .tup [.agg [.int .i8 3, .int .u8 129, .int .i8 5], .bool true]) [.inl, tT, tT, tT, tF, tF, tT, .getA tab_XOf_0 36 3 ([.int .i8 3, .int .u8 129, .int .i8 5]) ⟨rfl, by decide⟩] (by kernel_rfl)).to (by simp [wk, wkL]; decide)
theorem of_13_ok : SpXOf0 13 := by
 exact (o57 (d := .tup [.agg [.int .i8 3, .int .u8 129, .int .i8 6], .bool true]) [.inl, tT, tT, tT, tF, tF, tT, .getA tab_XOf_0 39 3 ([.int .i8 3, .int .u8 129, .int .i8 6]) ⟨rfl, by decide⟩] (by kernel_rfl)).to (by simp [wk, wkL]; decide)
theorem of_14_ok : SpXOf0 14 := by
 exact (o57 (d := .tup [.agg [.int .i8 3, .int .u8 129, .int .i8 7], .bool true]) [.inl, tT, tT, tT, tF, tF, tT, .getA tab_XOf_0 42 3 ([.int .i8 3, .int .u8 129, .int .i8 7]) ⟨rfl, by decide⟩] (by kernel_rfl)).to (by simp [wk, wkL]; decide)
theorem of_15_ok : SpXOf0 15 := by
 exact (o57 (d := .tup [.agg [.int .i8 3, .int .u8 247, .int .i8 0], .bool true]) [.inl, tT, tT, tT, tF, tF, tT, .getA tab_XOf_0 45 3 ([.int .i8 3, .int .u8 247, .int .i8 0]) ⟨rfl, by decide⟩] (by kernel_rfl)).to (by simp [wk, wkL]; decide)
theorem of_16_ok : SpXOf0 16 := by
 exact (o57 (d := .tup [.agg [.int .i8 2, .int .u8 175, .int .i8 0], .bool true]) [.inl, tT, tT, tT, tF, tF, tT, .getA tab_XOf_0 48 3 ([.int .i8 2, .int .u8 175, .int .i8 0]) ⟨rfl, by decide⟩] (by kernel_rfl)).to (by simp [wk, wkL]; decide)
theorem of_17_ok : SpXOf0 17 := by
 exact (o57 (d := .tup [.agg [.int .i8 4, .int .u8 193, .int .i8 4], .bool true]) [.inl, tT, tT, tT, tF, tF, tT, .getA tab_XOf_0 51 3 ([.int .i8 4, .int .u8 193, .int .i8 4]) ⟨rfl, by decide⟩] (by kernel_rfl)).to (by simp [wk, wkL]; decide)
theorem of_18_ok : SpXOf0 18 := by
 exact (o57 (d := .tup [.agg [.int .i8 4, .int .u8 193, .int .i8 5], .bool true]) [.inl, tT, tT, tT, tF, tF, tT, .getA tab_XOf_0 54 3 ([.int .i8 4, .int .u8 193, .int .i8 5]) ⟨rfl, by decide⟩] (by kernel_rfl)).to (by simp [wk, wkL]; decide)
theorem of_19_ok : SpXOf0 19 := by
 exact (o57 (d := .tup [.agg [.int .i8 4, .int .u8 193, .int .i8 7], .bool true]) [.inl, tT, tT, tT, tF, tF, tT, .getA tab_XOf_0 57 3 ([.int .i8 4, .int .u8 193, .int .i8 7]) ⟨rfl, by decide⟩] (by kernel_rfl)).to (by simp [wk, wkL]; decide)
theorem of_20_ok : SpXOf0 20 := by
 exact (o57 (d := .tup [.agg [.int .i8 5, .int .u8 211, .int .i8 4], .bool true]) [.inl, tT, tT, tT, tF, tF, tT, .getA tab_XOf_0 60 3 ([.int .i8 5, .int .u8 211, .int .i8 4]) ⟨rfl, by decide⟩] (by kernel_rfl)).to (by simp [wk, wkL]; decide)
theorem of_21_ok : SpXOf0 21 := by
 exact (o57 (d := .tup [.agg [.int .i8 5, .int .u8 211, .int .i8 5], .bool true]) [.inl, tT, tT, tT, tF, tF, tT, .getA tab_XOf_0 63 3 ([.int .i8 5, .int .u8 211, .int .i8 5]) ⟨rfl, by decide⟩] (by kernel_rfl)).to (by simp [wk, wkL]; decide)
theorem of_22_ok : SpXOf0 22 := by
 exact (o57 (d := .tup [.agg [.int .i8 5, .int .u8 211, .int .i8 7], .bool true]) [.inl, tT, tT, tT, tF, tF, tT, .getA tab_XOf_0 66 3 ([.int .i8 5, .int .u8 211, .int .i8 7]) ⟨rfl, by decide⟩] (by kernel_rfl)).to (by simp [wk, wkL]; decide)
theorem of_23_ok : SpXOf0 23 := by
 exact (o57 (d := .tup [.agg [.int .i8 5, .int .u8 247, .int .i8 3], .bool true]) [.inl, tT, tT, tT, tF, tF, tT, .getA tab_XOf_0 69 3 ([.int .i8 5, .int .u8 247, .int .i8 3]) ⟨rfl, by decide⟩] (by kernel_rfl)).to (by simp [wk, wkL]; decide)
theorem of_24_ok : SpXOf0 24 := by
 exact (o57 (d := .tup [.agg [.int .i8 5, .int .u8 247, .int .i8 6], .bool true]) [.inl, tT, tT, tT, tF, tF, tT, .getA tab_XOf_0 72 3 ([.int .i8 5, .int .u8 247, .int .i8 6]) ⟨rfl, by decide⟩] (by kernel_rfl)).to (by simp [wk, wkL]; decide)
theorem of_25_ok : SpXOf0 25 := by
 exact (o57 (d := .tup [.agg [.int .i8 6, .int .u8 64, .int .i8 0], .bool true]) [.inl, tT, tT, tT, tF, tF, tT, .getA tab_XOf_0 75 3 ([.int .i8 6, .int .u8 64, .int .i8 0]) ⟨rfl, by decide⟩] (by kernel_rfl)).to (by simp [wk, wkL]; decide)
theorem of_26_ok : SpXOf0 26 := by
 exact (o57 (d := .tup [.agg [.int .i8 7, .int .u8 139, .int .i8 0], .bool true]) [.inl, tT, tT, tT, tF, tF, tT, .getA tab_XOf_0 78 3 ([.int .i8 7, .int .u8 139, .int .i8 0]) ⟨rfl, by decide⟩] (by kernel_rfl)).to (by simp [wk, wkL]; decide)
theorem of_27_ok : SpXOf0 27 := by
 exact (o57 (d := .tup [.agg [.int .i8 8, .int .u8 137, .int .i8 0], .bool true]) [.inl, tT, tT, tT, tF, tF, tT, .getA tab_XOf_0 81 3 ([.int .i8 8, .int .u8 137, .int .i8 0]) ⟨rfl, by decide⟩] (by kernel_rfl)).to (by simp [wk, wkL]; decide)
theorem of_28_ok : SpXOf0 28 := by
 exact (o57 (d := .tup [.agg [.int .i8 9, .int .u8 233, .int .i8 0], .bool true]) [.inl, tT, tT, tT, tF, tF, tT, .getA tab_XOf_0 84 3 ([.int .i8 9, .int .u8 233, .int .i8 0]) ⟨rfl, by decide⟩] (by kernel_rfl)).to (by simp [wk, wkL]; decide)
theorem of_29_ok : SpXOf0 29 := by
 exact (o57 (d := .tup [.agg [.int .i8 10, .int .u8 128, .int .i8 0], .bool true]) [.inl, tT, tT, tT, tF, tF, tT, .getA tab_XOf_0 87 3 ([.int .i8 10, .int .u8 128, .int .i8 0]) ⟨rfl, by decide⟩] (by kernel_rfl)).to (by simp [wk, wkL]; decide)
theorem of_30_ok : SpXOf0 30 := by
 exact (o57 (d := .tup [.agg [.int .i8 11, .int .u8 195, .int .i8 0], .bool true]) [.inl, tT, tT, tT, tF, tF, tT, .getA tab_XOf_0 90 3 ([.int .i8 11, .int .u8 195, .int .i8 0]) ⟨rfl, by decide⟩] (by kernel_rfl)).to (by simp [wk, wkL]; decide)
theorem of_31_ok : SpXOf0 31 := by
 exact (o57 (d := .tup [.agg [.int .i8 11, .int .u8 5, .int .i8 0], .bool true]) [.inl, tT, tT, tT, tF, tF, tT, .getA tab_XOf_0 93 3 ([.int .i8 11, .int .u8 5, .int .i8 0]) ⟨rfl, by decide⟩] (by kernel_rfl)).to (by simp [wk, wkL]; decide)
theorem of_low_ok (op : Int) (h : op < 0) : Ret Try.prog 57 ([.int .i8 op]) (.tup [.agg [.int .i8 0, .int .u8 0, .int .i8 0], .bool false]) := by
 exact (o57 (d := .tup [.agg [.int .i8 0, .int .u8 0, .int .i8 0], .bool false]) ([.inl] ++ List.replicate 3 (tC (eF (decide_eq_true h))) ++ [tC (decide_eq_true h), tT]) (by kernel_rfl)).to (by simp [wk, wkL])
theorem of_high_ok (op : Int) (h : 32 ≤ op) (ho : op ≤ 127) : Ret Try.prog 57 ([.int .i8 op]) (.tup [.agg [.int .i8 0, .int .u8 0, .int .i8 0], .bool false]) := by
 exact (o57 (d := .tup [.agg [.int .i8 0, .int .u8 0, .int .i8 0], .bool false]) ([.inl] ++ List.replicate 3 (tC (eF (ltD 0 (decide_eq_false (Int.not_lt.2 h))))) ++ [tC (ltD 0 (decide_eq_false (Int.not_lt.2 h))), tC (leL 32 (by (simp only [sl2] at *; omega) : (decide (IntKind.wrap IntKind.i64 op < 32)) = false))]) (by kernel_rfl)).to (by simp [wk, wkL])
theorem reg_ok (n : Int) : Ret Try.prog 114 ([.int .i8 n]) (.bool (regM n)) := by
 rcases bft (decide (n < 0)) with h0 | h0
 ·exact (o114 (d := .bool false) [tC (eT (leL 0 h0)), tC (eT (leL 0 h0)), tC (leL 0 h0)] (by kernel_rfl)).to (by (try simp only [sl0, wk, wkL, wkO, eqCells, eqCell, regM, ccM, widthM, longM] at *); first | (simp [wk, wkL, wkO, eqCells, eqCell, regM, ccM, widthM, longM, *]; done) | (simp [wk, wkL, wkO, eqCells, eqCell, regM, ccM, widthM, longM, *]; omega) | (rw [Bool.eq_iff_iff]; simp [wk, wkL, wkO, eqCells, eqCell, regM, ccM, widthM, longM, *]; done) | (rw [Bool.eq_iff_iff]; simp [wk, wkL, wkO, eqCells, eqCell, regM, ccM, widthM, longM, *]; omega) | (rw [Bool.eq_iff_iff]; simp [wk, wkL, wkO, eqCells, eqCell, regM, ccM, widthM, longM, *]; grind) | (subst_vars; rw [Bool.eq_iff_iff]; simp; grind))
 exact (o114 (d := .bool (decide (n < 16))) [tC (eT (leL 0 h0)), tC (eT (leL 0 h0)), tC (leL 0 h0)] (by kernel_rfl)).to (by (try simp only [sl0, wk, wkL, wkO, eqCells, eqCell, regM, ccM, widthM, longM] at *); first | (simp [wk, wkL, wkO, eqCells, eqCell, regM, ccM, widthM, longM, *]; done) | (simp [wk, wkL, wkO, eqCells, eqCell, regM, ccM, widthM, longM, *]; omega) | (rw [Bool.eq_iff_iff]; simp [wk, wkL, wkO, eqCells, eqCell, regM, ccM, widthM, longM, *]; done) | (rw [Bool.eq_iff_iff]; simp [wk, wkL, wkO, eqCells, eqCell, regM, ccM, widthM, longM, *]; omega) | (rw [Bool.eq_iff_iff]; simp [wk, wkL, wkO, eqCells, eqCell, regM, ccM, widthM, longM, *]; grind) | (subst_vars; rw [Bool.eq_iff_iff]; simp; grind))
theorem cond_ok (n : Int) : Ret Try.prog 116 ([.int .i8 n]) (.bool (ccM n)) := by
 rcases bft (decide (n < 2)) with h0 | h0
 ·exact (o116 (d := .bool false) [tC (eT (leL 2 h0)), tC (eT (leL 2 h0)), tC (leL 2 h0), tT, tT, tT, tC (eT (leL 12 (ltU 12 h0))), tC (eT (leL 12 (ltU 12 h0))), tT, tC (leL 12 (ltU 12 h0)), tF] (by kernel_rfl)).to (by (try simp only [sl0, wk, wkL, wkO, eqCells, eqCell, regM, ccM, widthM, longM] at *); first | (simp [wk, wkL, wkO, eqCells, eqCell, regM, ccM, widthM, longM, *]; done) | (simp [wk, wkL, wkO, eqCells, eqCell, regM, ccM, widthM, longM, *]; omega) | (rw [Bool.eq_iff_iff]; simp [wk, wkL, wkO, eqCells, eqCell, regM, ccM, widthM, longM, *]; done) | (rw [Bool.eq_iff_iff]; simp [wk, wkL, wkO, eqCells, eqCell, regM, ccM, widthM, longM, *]; omega) | (rw [Bool.eq_iff_iff]; simp [wk, wkL, wkO, eqCells, eqCell, regM, ccM, widthM, longM, *]; grind) | (subst_vars; rw [Bool.eq_iff_iff]; simp; grind))
 let E1 : EL := [tC (eT (leL 2 h0)), tC (eT (leL 2 h0)), tC (leL 2 h0)]
 rcases bft (decide (n < 8)) with h1 | h1
 ·exact (o116 (d := .bool true) (E1 ++ List.replicate 4 (tC (eF (leC 7 h1))) ++ [tC (leC 7 h1)]) (by kernel_rfl)).to (by clear E1; (try simp only [sl0, wk, wkL, wkO, eqCells, eqCell, regM, ccM, widthM, longM] at *); first | (simp [wk, wkL, wkO, eqCells, eqCell, regM, ccM, widthM, longM, *]; done) | (simp [wk, wkL, wkO, eqCells, eqCell, regM, ccM, widthM, longM, *]; omega) | (rw [Bool.eq_iff_iff]; simp [wk, wkL, wkO, eqCells, eqCell, regM, ccM, widthM, longM, *]; done) | (rw [Bool.eq_iff_iff]; simp [wk, wkL, wkO, eqCells, eqCell, regM, ccM, widthM, longM, *]; omega) | (rw [Bool.eq_iff_iff]; simp [wk, wkL, wkO, eqCells, eqCell, regM, ccM, widthM, longM, *]; grind) | (subst_vars; rw [Bool.eq_iff_iff]; simp; grind))
 rcases bft (decide (n < 12)) with h2 | h2
 ·exact (o116 (d := .bool false) (E1 ++ List.replicate 3 (tC (eF (leC 7 h1))) ++ [tC (eT (leL 12 h2)), tC (eT (leL 12 h2)), tC (eF (leC 7 h1)), tC (leL 12 h2), tC (leC 7 h1)]) (by kernel_rfl)).to (by clear E1; (try simp only [sl0, wk, wkL, wkO, eqCells, eqCell, regM, ccM, widthM, longM] at *); first | (simp [wk, wkL, wkO, eqCells, eqCell, regM, ccM, widthM, longM, *]; done) | (simp [wk, wkL, wkO, eqCells, eqCell, regM, ccM, widthM, longM, *]; omega) | (rw [Bool.eq_iff_iff]; simp [wk, wkL, wkO, eqCells, eqCell, regM, ccM, widthM, longM, *]; done) | (rw [Bool.eq_iff_iff]; simp [wk, wkL, wkO, eqCells, eqCell, regM, ccM, widthM, longM, *]; omega) | (rw [Bool.eq_iff_iff]; simp [wk, wkL, wkO, eqCells, eqCell, regM, ccM, widthM, longM, *]; grind) | (subst_vars; rw [Bool.eq_iff_iff]; simp; grind))
 exact (o116 (d := .bool (decide (n ≤ 15))) (E1 ++ List.replicate 3 (tC (eF (leC 7 h1))) ++ [tC (eT (leL 12 h2)), tC (eT (leL 12 h2)), tC (eF (leC 7 h1)), tC (leL 12 h2), tC (leC 7 h1)]) (by kernel_rfl)).to (by clear E1; (try simp only [sl0, wk, wkL, wkO, eqCells, eqCell, regM, ccM, widthM, longM] at *); first | (simp [wk, wkL, wkO, eqCells, eqCell, regM, ccM, widthM, longM, *]; done) | (simp [wk, wkL, wkO, eqCells, eqCell, regM, ccM, widthM, longM, *]; omega) | (rw [Bool.eq_iff_iff]; simp [wk, wkL, wkO, eqCells, eqCell, regM, ccM, widthM, longM, *]; done) | (rw [Bool.eq_iff_iff]; simp [wk, wkL, wkO, eqCells, eqCell, regM, ccM, widthM, longM, *]; omega) | (rw [Bool.eq_iff_iff]; simp [wk, wkL, wkO, eqCells, eqCell, regM, ccM, widthM, longM, *]; grind) | (subst_vars; rw [Bool.eq_iff_iff]; simp; grind))
theorem within_ok (n a b : Int) : Ret Try.prog 115 ([.int .i64 n, .int .i64 a, .int .i64 b]) (.bool (decide (a ≤ n) && decide (n ≤ b))) := by
 rcases bft (decide (n ≥ a)) with h0 | h0
 ·exact (o115 (d := .bool (decide (n ≤ b))) [tC (eT h0), tC (eT h0), tC (eT h0), tC h0] (by kernel_rfl)).to (by (try simp only [sl0, wk, wkL, wkO, eqCells, eqCell, regM, ccM, widthM, longM] at *); (simp [wk, wkL, wkO, eqCells, eqCell, regM, ccM, widthM, longM, *]; done))
 exact (o115 (d := .bool false) [tC (eT h0), tC (eT h0), tC (eT h0), tC h0] (by kernel_rfl)).to (by (try simp only [sl0, wk, wkL, wkO, eqCells, eqCell, regM, ccM, widthM, longM] at *); (simp [wk, wkL, wkO, eqCells, eqCell, regM, ccM, widthM, longM, *]; done))
theorem width_ok (n : Int) : Ret Try.prog 117 ([.int .i8 n]) (.bool (widthM n)) := by
 by_cases h0 : n = 8
 ·subst h0
  exact (o117 (d := .bool true) [tT, tT] (by kernel_rfl)).to (by (try simp only [sl0, wk, wkL, wkO, eqCells, eqCell, regM, ccM, widthM, longM] at *); (simp [wk, wkL, wkO, eqCells, eqCell, regM, ccM, widthM, longM, *]; done))
 by_cases h1 : n = 16
 ·subst h1
  exact (o117 (d := .bool true) [tC (neOf h0), tT, tT] (by kernel_rfl)).to (by (try simp only [sl0, wk, wkL, wkO, eqCells, eqCell, regM, ccM, widthM, longM] at *); (simp [wk, wkL, wkO, eqCells, eqCell, regM, ccM, widthM, longM, *]; done))
 by_cases h2 : n = 32
 ·subst h2
  exact (o117 (d := .bool true) [tC (neOf h0), tC (neOf h1), tT, tT] (by kernel_rfl)).to (by (try simp only [sl0, wk, wkL, wkO, eqCells, eqCell, regM, ccM, widthM, longM] at *); (simp [wk, wkL, wkO, eqCells, eqCell, regM, ccM, widthM, longM, *]; done))
 by_cases h3 : n = 64
 ·subst h3
  exact (o117 (d := .bool true) [tC (neOf h0), tC (neOf h1), tC (neOf h2), tT] (by kernel_rfl)).to (by (try simp only [sl0, wk, wkL, wkO, eqCells, eqCell, regM, ccM, widthM, longM] at *); (simp [wk, wkL, wkO, eqCells, eqCell, regM, ccM, widthM, longM, *]; done))
 exact (o117 (d := .bool false) [tC (neOf h0), tC (neOf h1), tC (neOf h2), tC (neOf h3)] (by kernel_rfl)).to (by (try simp only [sl0, wk, wkL, wkO, eqCells, eqCell, regM, ccM, widthM, longM] at *); (simp [wk, wkL, wkO, eqCells, eqCell, regM, ccM, widthM, longM, *]; done))
theorem bareL_1_ok (op w dst src base disp imm cc : Int) : Ret Try.prog 113 ([xD op w dst src base disp imm cc, .int .i8 1]) (xD 0 0 0 0 base disp imm cc) := by
 let E1 : EL := [tT, tT, tT, tT, tF, tF, .flat _ _ flat_X]
 by_cases h0 : base = 0
 ·subst h0
  by_cases h1 : disp = 0
  ·subst h1
   by_cases h2 : imm = 0
   ·subst h2
    by_cases h3 : cc = 0
    ·subst h3
     exact (o113 (d := (xD 0 0 0 0 0 0 0 0)) (E1 ++ [tF]) (by kernel_rfl)).to (by (simp [wk, wkL, ]; done))
    exact (o113 (d := (xD 0 0 0 0 0 0 0 cc)) (E1 ++ [tC (nt (andT rfl (andT rfl (andT rfl (andT rfl (andT rfl (andT rfl (andT rfl (andF (y := true) (neOf h3))))))))))]) (by kernel_rfl)).to (by (simp [wk, wkL, h3]; done))
   exact (o113 (d := (xD 0 0 0 0 0 0 imm cc)) (E1 ++ [tC (nt (andT rfl (andT rfl (andT rfl (andT rfl (andT rfl (andT rfl (andF (y := eqCells [.int .i8 cc] [.int .i8 0]) (neOf h2)))))))))]) (by kernel_rfl)).to (by (simp [wk, wkL, h2]; done))
  exact (o113 (d := (xD 0 0 0 0 0 disp imm cc)) (E1 ++ [tC (nt (andT rfl (andT rfl (andT rfl (andT rfl (andT rfl (andF (y := eqCells [.int .i64 imm, .int .i8 cc] [.int .i64 0, .int .i8 0]) (neOf h1))))))))]) (by kernel_rfl)).to (by (simp [wk, wkL, h1]; done))
 exact (o113 (d := (xD 0 0 0 0 base disp imm cc)) (E1 ++ [tC (nt (andT rfl (andT rfl (andT rfl (andT rfl (andF (y := eqCells [.int .i64 disp, .int .i64 imm, .int .i8 cc] [.int .i64 0, .int .i64 0, .int .i8 0]) (neOf h0)))))))]) (by kernel_rfl)).to (by (simp [wk, wkL, h0]; done))
theorem bareL_2_ok (op w dst src base disp imm cc : Int) : Ret Try.prog 113 ([xD op w dst src base disp imm cc, .int .i8 2]) (xD 0 0 0 0 base disp imm cc) := by
 let E1 : EL := [tF, tT, tT, tT, tT, tF, tF, .flat _ _ flat_X]
 by_cases h0 : base = 0
 ·subst h0
  by_cases h1 : disp = 0
  ·subst h1
   by_cases h2 : imm = 0
   ·subst h2
    by_cases h3 : cc = 0
    ·subst h3
     exact (o113 (d := (xD 0 0 0 0 0 0 0 0)) (E1 ++ [tF]) (by kernel_rfl)).to (by (simp [wk, wkL, ]; done))
    exact (o113 (d := (xD 0 0 0 0 0 0 0 cc)) (E1 ++ [tC (nt (andT rfl (andT rfl (andT rfl (andT rfl (andT rfl (andT rfl (andT rfl (andF (y := true) (neOf h3))))))))))]) (by kernel_rfl)).to (by (simp [wk, wkL, h3]; done))
   exact (o113 (d := (xD 0 0 0 0 0 0 imm cc)) (E1 ++ [tC (nt (andT rfl (andT rfl (andT rfl (andT rfl (andT rfl (andT rfl (andF (y := eqCells [.int .i8 cc] [.int .i8 0]) (neOf h2)))))))))]) (by kernel_rfl)).to (by (simp [wk, wkL, h2]; done))
  exact (o113 (d := (xD 0 0 0 0 0 disp imm cc)) (E1 ++ [tC (nt (andT rfl (andT rfl (andT rfl (andT rfl (andT rfl (andF (y := eqCells [.int .i64 imm, .int .i8 cc] [.int .i64 0, .int .i8 0]) (neOf h1))))))))]) (by kernel_rfl)).to (by (simp [wk, wkL, h1]; done))
 exact (o113 (d := (xD 0 0 0 0 base disp imm cc)) (E1 ++ [tC (nt (andT rfl (andT rfl (andT rfl (andT rfl (andF (y := eqCells [.int .i64 disp, .int .i64 imm, .int .i8 cc] [.int .i64 0, .int .i64 0, .int .i8 0]) (neOf h0)))))))]) (by kernel_rfl)).to (by (simp [wk, wkL, h0]; done))
theorem bareL_3_ok (op w dst src base disp imm cc : Int) : Ret Try.prog 113 ([xD op w dst src base disp imm cc, .int .i8 3]) (xD 0 0 0 src base disp 0 cc) := by
 let E1 : EL := [tF, tF, tF, tT, tT, tT, tT, tF, tF, .flat _ _ flat_X]
 by_cases h0 : src = 0
 ·subst h0
  by_cases h1 : base = 0
  ·subst h1
   by_cases h2 : disp = 0
   ·subst h2
    by_cases h3 : cc = 0
    ·subst h3
     exact (o113 (d := (xD 0 0 0 0 0 0 0 0)) (E1 ++ [tF]) (by kernel_rfl)).to (by (simp [wk, wkL, ]; done))
    exact (o113 (d := (xD 0 0 0 0 0 0 0 cc)) (E1 ++ [tC (nt (andT rfl (andT rfl (andT rfl (andT rfl (andT rfl (andT rfl (andT rfl (andF (y := true) (neOf h3))))))))))]) (by kernel_rfl)).to (by (simp [wk, wkL, h3]; done))
   exact (o113 (d := (xD 0 0 0 0 0 disp 0 cc)) (E1 ++ [tC (nt (andT rfl (andT rfl (andT rfl (andT rfl (andT rfl (andF (y := eqCells [.int .i64 0, .int .i8 cc] [.int .i64 0, .int .i8 0]) (neOf h2))))))))]) (by kernel_rfl)).to (by (simp [wk, wkL, h2]; done))
  exact (o113 (d := (xD 0 0 0 0 base disp 0 cc)) (E1 ++ [tC (nt (andT rfl (andT rfl (andT rfl (andT rfl (andF (y := eqCells [.int .i64 disp, .int .i64 0, .int .i8 cc] [.int .i64 0, .int .i64 0, .int .i8 0]) (neOf h1)))))))]) (by kernel_rfl)).to (by (simp [wk, wkL, h1]; done))
 exact (o113 (d := (xD 0 0 0 src base disp 0 cc)) (E1 ++ [tC (nt (andT rfl (andT rfl (andT rfl (andF (y := eqCells [.int .i8 base, .int .i64 disp, .int .i64 0, .int .i8 cc] [.int .i8 0, .int .i64 0, .int .i64 0, .int .i8 0]) (neOf h0))))))]) (by kernel_rfl)).to (by (simp [wk, wkL, h0]; done))
theorem bareL_4_ok (op w dst src base disp imm cc : Int) : Ret Try.prog 113 ([xD op w dst src base disp imm cc, .int .i8 4]) (xD 0 0 0 src base disp 0 cc) := by
 let E1 : EL := [tF, tF, tF, tF, tT, tT, tT, tF, tF, .flat _ _ flat_X]
 by_cases h0 : src = 0
 ·subst h0
  by_cases h1 : base = 0
  ·subst h1
   by_cases h2 : disp = 0
   ·subst h2
    by_cases h3 : cc = 0
    ·subst h3
     exact (o113 (d := (xD 0 0 0 0 0 0 0 0)) (E1 ++ [tF]) (by kernel_rfl)).to (by (simp [wk, wkL, ]; done))
    exact (o113 (d := (xD 0 0 0 0 0 0 0 cc)) (E1 ++ [tC (nt (andT rfl (andT rfl (andT rfl (andT rfl (andT rfl (andT rfl (andT rfl (andF (y := true) (neOf h3))))))))))]) (by kernel_rfl)).to (by (simp [wk, wkL, h3]; done))
   exact (o113 (d := (xD 0 0 0 0 0 disp 0 cc)) (E1 ++ [tC (nt (andT rfl (andT rfl (andT rfl (andT rfl (andT rfl (andF (y := eqCells [.int .i64 0, .int .i8 cc] [.int .i64 0, .int .i8 0]) (neOf h2))))))))]) (by kernel_rfl)).to (by (simp [wk, wkL, h2]; done))
  exact (o113 (d := (xD 0 0 0 0 base disp 0 cc)) (E1 ++ [tC (nt (andT rfl (andT rfl (andT rfl (andT rfl (andF (y := eqCells [.int .i64 disp, .int .i64 0, .int .i8 cc] [.int .i64 0, .int .i64 0, .int .i8 0]) (neOf h1)))))))]) (by kernel_rfl)).to (by (simp [wk, wkL, h1]; done))
 exact (o113 (d := (xD 0 0 0 src base disp 0 cc)) (E1 ++ [tC (nt (andT rfl (andT rfl (andT rfl (andF (y := eqCells [.int .i8 base, .int .i64 disp, .int .i64 0, .int .i8 cc] [.int .i8 0, .int .i64 0, .int .i64 0, .int .i8 0]) (neOf h0))))))]) (by kernel_rfl)).to (by (simp [wk, wkL, h0]; done))
theorem bareL_5_ok (op w dst src base disp imm cc : Int) : Ret Try.prog 113 ([xD op w dst src base disp imm cc, .int .i8 5]) (xD 0 0 0 src base disp imm cc) := by
 let E1 : EL := [tF, tF, tF, tF, tF, tT, tT, tT, tF, tF, .flat _ _ flat_X]
 by_cases h0 : src = 0
 ·subst h0
  by_cases h1 : base = 0
  ·subst h1
   by_cases h2 : disp = 0
   ·subst h2
    by_cases h3 : imm = 0
    ·subst h3
     by_cases h4 : cc = 0
     ·subst h4
      exact (o113 (d := (xD 0 0 0 0 0 0 0 0)) (E1 ++ [tF]) (by kernel_rfl)).to (by (simp [wk, wkL, ]; done))
     exact (o113 (d := (xD 0 0 0 0 0 0 0 cc)) (E1 ++ [tC (nt (andT rfl (andT rfl (andT rfl (andT rfl (andT rfl (andT rfl (andT rfl (andF (y := true) (neOf h4))))))))))]) (by kernel_rfl)).to (by (simp [wk, wkL, h4]; done))
    exact (o113 (d := (xD 0 0 0 0 0 0 imm cc)) (E1 ++ [tC (nt (andT rfl (andT rfl (andT rfl (andT rfl (andT rfl (andT rfl (andF (y := eqCells [.int .i8 cc] [.int .i8 0]) (neOf h3)))))))))]) (by kernel_rfl)).to (by (simp [wk, wkL, h3]; done))
   exact (o113 (d := (xD 0 0 0 0 0 disp imm cc)) (E1 ++ [tC (nt (andT rfl (andT rfl (andT rfl (andT rfl (andT rfl (andF (y := eqCells [.int .i64 imm, .int .i8 cc] [.int .i64 0, .int .i8 0]) (neOf h2))))))))]) (by kernel_rfl)).to (by (simp [wk, wkL, h2]; done))
  exact (o113 (d := (xD 0 0 0 0 base disp imm cc)) (E1 ++ [tC (nt (andT rfl (andT rfl (andT rfl (andT rfl (andF (y := eqCells [.int .i64 disp, .int .i64 imm, .int .i8 cc] [.int .i64 0, .int .i64 0, .int .i8 0]) (neOf h1)))))))]) (by kernel_rfl)).to (by (simp [wk, wkL, h1]; done))
 exact (o113 (d := (xD 0 0 0 src base disp imm cc)) (E1 ++ [tC (nt (andT rfl (andT rfl (andT rfl (andF (y := eqCells [.int .i8 base, .int .i64 disp, .int .i64 imm, .int .i8 cc] [.int .i8 0, .int .i64 0, .int .i64 0, .int .i8 0]) (neOf h0))))))]) (by kernel_rfl)).to (by (simp [wk, wkL, h0]; done))
theorem bareL_6_ok (op w dst src base disp imm cc : Int) : Ret Try.prog 113 ([xD op w dst src base disp imm cc, .int .i8 6]) (xD 0 0 0 0 base disp imm 0) := by
 let E1 : EL := [tF, tF, tT, tF, tF, tT, tT, .flat _ _ flat_X]
 by_cases h0 : base = 0
 ·subst h0
  by_cases h1 : disp = 0
  ·subst h1
   by_cases h2 : imm = 0
   ·subst h2
    exact (o113 (d := (xD 0 0 0 0 0 0 0 0)) (E1 ++ [tF]) (by kernel_rfl)).to (by (simp [wk, wkL, ]; done))
   exact (o113 (d := (xD 0 0 0 0 0 0 imm 0)) (E1 ++ [tC (nt (andT rfl (andT rfl (andT rfl (andT rfl (andT rfl (andT rfl (andF (y := true) (neOf h2)))))))))]) (by kernel_rfl)).to (by (simp [wk, wkL, h2]; done))
  exact (o113 (d := (xD 0 0 0 0 0 disp imm 0)) (E1 ++ [tC (nt (andT rfl (andT rfl (andT rfl (andT rfl (andT rfl (andF (y := eqCells [.int .i64 imm, .int .i8 0] [.int .i64 0, .int .i8 0]) (neOf h1))))))))]) (by kernel_rfl)).to (by (simp [wk, wkL, h1]; done))
 exact (o113 (d := (xD 0 0 0 0 base disp imm 0)) (E1 ++ [tC (nt (andT rfl (andT rfl (andT rfl (andT rfl (andF (y := eqCells [.int .i64 disp, .int .i64 imm, .int .i8 0] [.int .i64 0, .int .i64 0, .int .i8 0]) (neOf h0)))))))]) (by kernel_rfl)).to (by (simp [wk, wkL, h0]; done))
theorem bareL_7_ok (op w dst src base disp imm cc : Int) : Ret Try.prog 113 ([xD op w dst src base disp imm cc, .int .i8 7]) (xD 0 0 0 src 0 0 imm cc) := by
 let E1 : EL := [tF, tF, tF, tF, tF, tF, tT, tT, tT, tF, tF, .flat _ _ flat_X]
 by_cases h0 : src = 0
 ·subst h0
  by_cases h1 : imm = 0
  ·subst h1
   by_cases h2 : cc = 0
   ·subst h2
    exact (o113 (d := (xD 0 0 0 0 0 0 0 0)) (E1 ++ [tF]) (by kernel_rfl)).to (by (simp [wk, wkL, ]; done))
   exact (o113 (d := (xD 0 0 0 0 0 0 0 cc)) (E1 ++ [tC (nt (andT rfl (andT rfl (andT rfl (andT rfl (andT rfl (andT rfl (andT rfl (andF (y := true) (neOf h2))))))))))]) (by kernel_rfl)).to (by (simp [wk, wkL, h2]; done))
  exact (o113 (d := (xD 0 0 0 0 0 0 imm cc)) (E1 ++ [tC (nt (andT rfl (andT rfl (andT rfl (andT rfl (andT rfl (andT rfl (andF (y := eqCells [.int .i8 cc] [.int .i8 0]) (neOf h1)))))))))]) (by kernel_rfl)).to (by (simp [wk, wkL, h1]; done))
 exact (o113 (d := (xD 0 0 0 src 0 0 imm cc)) (E1 ++ [tC (nt (andT rfl (andT rfl (andT rfl (andF (y := eqCells [.int .i8 0, .int .i64 0, .int .i64 imm, .int .i8 cc] [.int .i8 0, .int .i64 0, .int .i64 0, .int .i8 0]) (neOf h0))))))]) (by kernel_rfl)).to (by (simp [wk, wkL, h0]; done))
theorem bareL_8_ok (op w dst src base disp imm cc : Int) : Ret Try.prog 113 ([xD op w dst src base disp imm cc, .int .i8 8]) (xD 0 0 dst 0 0 0 imm cc) := by
 let E1 : EL := [tF, tF, tF, tF, tF, tF, tF, tT, tT, tT, tF, tF, .flat _ _ flat_X]
 by_cases h0 : dst = 0
 ·subst h0
  by_cases h1 : imm = 0
  ·subst h1
   by_cases h2 : cc = 0
   ·subst h2
    exact (o113 (d := (xD 0 0 0 0 0 0 0 0)) (E1 ++ [tF]) (by kernel_rfl)).to (by (simp [wk, wkL, ]; done))
   exact (o113 (d := (xD 0 0 0 0 0 0 0 cc)) (E1 ++ [tC (nt (andT rfl (andT rfl (andT rfl (andT rfl (andT rfl (andT rfl (andT rfl (andF (y := true) (neOf h2))))))))))]) (by kernel_rfl)).to (by (simp [wk, wkL, h2]; done))
  exact (o113 (d := (xD 0 0 0 0 0 0 imm cc)) (E1 ++ [tC (nt (andT rfl (andT rfl (andT rfl (andT rfl (andT rfl (andT rfl (andF (y := eqCells [.int .i8 cc] [.int .i8 0]) (neOf h1)))))))))]) (by kernel_rfl)).to (by (simp [wk, wkL, h1]; done))
 exact (o113 (d := (xD 0 0 dst 0 0 0 imm cc)) (E1 ++ [tC (nt (andT rfl (andT rfl (andF (y := eqCells [.int .i8 0, .int .i8 0, .int .i64 0, .int .i64 imm, .int .i8 cc] [.int .i8 0, .int .i8 0, .int .i64 0, .int .i64 0, .int .i8 0]) (neOf h0)))))]) (by kernel_rfl)).to (by (simp [wk, wkL, h0]; done))
theorem bareL_9_ok (op w dst src base disp imm cc : Int) : Ret Try.prog 113 ([xD op w dst src base disp imm cc, .int .i8 9]) (xD 0 0 dst src base disp 0 cc) := by
 let E1 : EL := (List.replicate 8 tF ++ [tT, tT, tT, tT, tF, tF, .flat _ _ flat_X])
 by_cases h0 : dst = 0
 ·subst h0
  by_cases h1 : src = 0
  ·subst h1
   by_cases h2 : base = 0
   ·subst h2
    by_cases h3 : disp = 0
    ·subst h3
     by_cases h4 : cc = 0
     ·subst h4
      exact (o113 (d := (xD 0 0 0 0 0 0 0 0)) (E1 ++ [tF]) (by kernel_rfl)).to (by (simp [wk, wkL, ]; done))
     exact (o113 (d := (xD 0 0 0 0 0 0 0 cc)) (E1 ++ [tC (nt (andT rfl (andT rfl (andT rfl (andT rfl (andT rfl (andT rfl (andT rfl (andF (y := true) (neOf h4))))))))))]) (by kernel_rfl)).to (by (simp [wk, wkL, h4]; done))
    exact (o113 (d := (xD 0 0 0 0 0 disp 0 cc)) (E1 ++ [tC (nt (andT rfl (andT rfl (andT rfl (andT rfl (andT rfl (andF (y := eqCells [.int .i64 0, .int .i8 cc] [.int .i64 0, .int .i8 0]) (neOf h3))))))))]) (by kernel_rfl)).to (by (simp [wk, wkL, h3]; done))
   exact (o113 (d := (xD 0 0 0 0 base disp 0 cc)) (E1 ++ [tC (nt (andT rfl (andT rfl (andT rfl (andT rfl (andF (y := eqCells [.int .i64 disp, .int .i64 0, .int .i8 cc] [.int .i64 0, .int .i64 0, .int .i8 0]) (neOf h2)))))))]) (by kernel_rfl)).to (by (simp [wk, wkL, h2]; done))
  exact (o113 (d := (xD 0 0 0 src base disp 0 cc)) (E1 ++ [tC (nt (andT rfl (andT rfl (andT rfl (andF (y := eqCells [.int .i8 base, .int .i64 disp, .int .i64 0, .int .i8 cc] [.int .i8 0, .int .i64 0, .int .i64 0, .int .i8 0]) (neOf h1))))))]) (by kernel_rfl)).to (by (simp [wk, wkL, h1]; done))
 exact (o113 (d := (xD 0 0 dst src base disp 0 cc)) (E1 ++ [tC (nt (andT rfl (andT rfl (andF (y := eqCells [.int .i8 src, .int .i8 base, .int .i64 disp, .int .i64 0, .int .i8 cc] [.int .i8 0, .int .i8 0, .int .i64 0, .int .i64 0, .int .i8 0]) (neOf h0)))))]) (by kernel_rfl)).to (by (simp [wk, wkL, h0]; done))
theorem bareL_10_ok (op w dst src base disp imm cc : Int) : Ret Try.prog 113 ([xD op w dst src base disp imm cc, .int .i8 10]) (xD 0 0 dst src base disp 0 0) := by
 let E1 : EL := (List.replicate 9 tF ++ [tT, tT, tT, tF, tT, .flat _ _ flat_X])
 by_cases h0 : dst = 0
 ·subst h0
  by_cases h1 : src = 0
  ·subst h1
   by_cases h2 : base = 0
   ·subst h2
    by_cases h3 : disp = 0
    ·subst h3
     exact (o113 (d := (xD 0 0 0 0 0 0 0 0)) (E1 ++ [tF]) (by kernel_rfl)).to (by (simp [wk, wkL, ]; done))
    exact (o113 (d := (xD 0 0 0 0 0 disp 0 0)) (E1 ++ [tC (nt (andT rfl (andT rfl (andT rfl (andT rfl (andT rfl (andF (y := true) (neOf h3))))))))]) (by kernel_rfl)).to (by (simp [wk, wkL, h3]; done))
   exact (o113 (d := (xD 0 0 0 0 base disp 0 0)) (E1 ++ [tC (nt (andT rfl (andT rfl (andT rfl (andT rfl (andF (y := eqCells [.int .i64 disp, .int .i64 0, .int .i8 0] [.int .i64 0, .int .i64 0, .int .i8 0]) (neOf h2)))))))]) (by kernel_rfl)).to (by (simp [wk, wkL, h2]; done))
  exact (o113 (d := (xD 0 0 0 src base disp 0 0)) (E1 ++ [tC (nt (andT rfl (andT rfl (andT rfl (andF (y := eqCells [.int .i8 base, .int .i64 disp, .int .i64 0, .int .i8 0] [.int .i8 0, .int .i64 0, .int .i64 0, .int .i8 0]) (neOf h1))))))]) (by kernel_rfl)).to (by (simp [wk, wkL, h1]; done))
 exact (o113 (d := (xD 0 0 dst src base disp 0 0)) (E1 ++ [tC (nt (andT rfl (andT rfl (andF (y := eqCells [.int .i8 src, .int .i8 base, .int .i64 disp, .int .i64 0, .int .i8 0] [.int .i8 0, .int .i8 0, .int .i64 0, .int .i64 0, .int .i8 0]) (neOf h0)))))]) (by kernel_rfl)).to (by (simp [wk, wkL, h0]; done))
theorem bareL_11_ok (op w dst src base disp imm cc : Int) : Ret Try.prog 113 ([xD op w dst src base disp imm cc, .int .i8 11]) (xD 0 w dst src base disp imm cc) := by
 let E1 : EL := (List.replicate 10 tF ++ [tT, tT, tF, tF, .flat _ _ flat_X])
 by_cases h0 : w = 0
 ·subst h0
  by_cases h1 : dst = 0
  ·subst h1
   by_cases h2 : src = 0
   ·subst h2
    by_cases h3 : base = 0
    ·subst h3
     by_cases h4 : disp = 0
     ·subst h4
      by_cases h5 : imm = 0
      ·subst h5
       by_cases h6 : cc = 0
       ·subst h6
        exact (o113 (d := (xD 0 0 0 0 0 0 0 0)) (E1 ++ [tF]) (by kernel_rfl)).to (by (simp [wk, wkL, ]; done))
       exact (o113 (d := (xD 0 0 0 0 0 0 0 cc)) (E1 ++ [tC (nt (andT rfl (andT rfl (andT rfl (andT rfl (andT rfl (andT rfl (andT rfl (andF (y := true) (neOf h6))))))))))]) (by kernel_rfl)).to (by (simp [wk, wkL, h6]; done))
      exact (o113 (d := (xD 0 0 0 0 0 0 imm cc)) (E1 ++ [tC (nt (andT rfl (andT rfl (andT rfl (andT rfl (andT rfl (andT rfl (andF (y := eqCells [.int .i8 cc] [.int .i8 0]) (neOf h5)))))))))]) (by kernel_rfl)).to (by (simp [wk, wkL, h5]; done))
     exact (o113 (d := (xD 0 0 0 0 0 disp imm cc)) (E1 ++ [tC (nt (andT rfl (andT rfl (andT rfl (andT rfl (andT rfl (andF (y := eqCells [.int .i64 imm, .int .i8 cc] [.int .i64 0, .int .i8 0]) (neOf h4))))))))]) (by kernel_rfl)).to (by (simp [wk, wkL, h4]; done))
    exact (o113 (d := (xD 0 0 0 0 base disp imm cc)) (E1 ++ [tC (nt (andT rfl (andT rfl (andT rfl (andT rfl (andF (y := eqCells [.int .i64 disp, .int .i64 imm, .int .i8 cc] [.int .i64 0, .int .i64 0, .int .i8 0]) (neOf h3)))))))]) (by kernel_rfl)).to (by (simp [wk, wkL, h3]; done))
   exact (o113 (d := (xD 0 0 0 src base disp imm cc)) (E1 ++ [tC (nt (andT rfl (andT rfl (andT rfl (andF (y := eqCells [.int .i8 base, .int .i64 disp, .int .i64 imm, .int .i8 cc] [.int .i8 0, .int .i64 0, .int .i64 0, .int .i8 0]) (neOf h2))))))]) (by kernel_rfl)).to (by (simp [wk, wkL, h2]; done))
  exact (o113 (d := (xD 0 0 dst src base disp imm cc)) (E1 ++ [tC (nt (andT rfl (andT rfl (andF (y := eqCells [.int .i8 src, .int .i8 base, .int .i64 disp, .int .i64 imm, .int .i8 cc] [.int .i8 0, .int .i8 0, .int .i64 0, .int .i64 0, .int .i8 0]) (neOf h1)))))]) (by kernel_rfl)).to (by (simp [wk, wkL, h1]; done))
 exact (o113 (d := (xD 0 w dst src base disp imm cc)) (E1 ++ [tC (nt (andT rfl (andF (y := eqCells [.int .i8 dst, .int .i8 src, .int .i8 base, .int .i64 disp, .int .i64 imm, .int .i8 cc] [.int .i8 0, .int .i8 0, .int .i8 0, .int .i64 0, .int .i64 0, .int .i8 0]) (neOf h0))))]) (by kernel_rfl)).to (by (simp [wk, wkL, h0]; done))
end Go.Proofs.Ytcngafhpodeenaa

namespace Go.Proofs.Ytcngafhpodeenaa
open Go Go.Ev
theorem shape_none {op : Int} (h : op < 0 ∨ 32 ≤ op) : shapeM op = 0 ∧ codeM op = 0 ∧ numM op = 0 := by
 refine ⟨?_, ?_, ?_⟩
 ·unfold shapeM; repeat (rw [if_neg (by omega)])
 ·unfold codeM; repeat (rw [if_neg (by omega)])
 ·unfold numM; repeat (rw [if_neg (by omega)])
theorem of_any_ok (op : Int) (ho : op ≤ 127) : Ret Try.prog 57 [.int .i8 op] (.tup [.agg [.int .i8 (shapeM op), .int .u8 (codeM op), .int .i8 (numM op)], .bool (decide (0 ≤ op ∧ op ≤ 31))]) := by
 by_cases h1 : op < 0
 ·obtain ⟨e1, e2, e3⟩ := shape_none (.inl h1)
  rw [e1, e2, e3, decide_eq_false (by omega)]
  exact of_low_ok op h1
 ·by_cases h2 : 32 ≤ op
  ·obtain ⟨e1, e2, e3⟩ := shape_none (.inr h2)
   rw [e1, e2, e3, decide_eq_false (by omega)]
   exact of_high_ok op h2 ho
  ·rcases (by omega : op = 0 ∨ op = 1 ∨ op = 2 ∨ op = 3 ∨ op = 4 ∨ op = 5 ∨ op = 6 ∨ op = 7 ∨ op = 8 ∨ op = 9 ∨ op = 10 ∨ op = 11 ∨ op = 12 ∨ op = 13 ∨ op = 14 ∨ op = 15 ∨ op = 16 ∨ op = 17 ∨ op = 18 ∨ op = 19 ∨ op = 20 ∨ op = 21 ∨ op = 22 ∨ op = 23 ∨ op = 24 ∨ op = 25 ∨ op = 26 ∨ op = 27 ∨ op = 28 ∨ op = 29 ∨ op = 30 ∨ op = 31) with rfl | rfl | rfl | rfl | rfl | rfl | rfl | rfl | rfl | rfl | rfl | rfl | rfl | rfl | rfl | rfl | rfl | rfl | rfl | rfl | rfl | rfl | rfl | rfl | rfl | rfl | rfl | rfl | rfl | rfl | rfl | rfl
   ·exact of_0_ok
   ·exact of_1_ok
   ·exact of_2_ok
   ·exact of_3_ok
   ·exact of_4_ok
   ·exact of_5_ok
   ·exact of_6_ok
   ·exact of_7_ok
   ·exact of_8_ok
   ·exact of_9_ok
   ·exact of_10_ok
   ·exact of_11_ok
   ·exact of_12_ok
   ·exact of_13_ok
   ·exact of_14_ok
   ·exact of_15_ok
   ·exact of_16_ok
   ·exact of_17_ok
   ·exact of_18_ok
   ·exact of_19_ok
   ·exact of_20_ok
   ·exact of_21_ok
   ·exact of_22_ok
   ·exact of_23_ok
   ·exact of_24_ok
   ·exact of_25_ok
   ·exact of_26_ok
   ·exact of_27_ok
   ·exact of_28_ok
   ·exact of_29_ok
   ·exact of_30_ok
   ·exact of_31_ok
theorem bare_1_ok (op w dst src base disp imm cc sh : Int) (h : (sh == 1) = true) : Ret Try.prog 113 [xD op w dst src base disp imm cc, .int .i8 sh] (xD 0 0 0 0 base disp imm cc) := by
 obtain rfl := eq_of_beq h
 exact bareL_1_ok op w dst src base disp imm cc
theorem bare_2_ok (op w dst src base disp imm cc sh : Int) (h : (sh == 2) = true) : Ret Try.prog 113 [xD op w dst src base disp imm cc, .int .i8 sh] (xD 0 0 0 0 base disp imm cc) := by
 obtain rfl := eq_of_beq h
 exact bareL_2_ok op w dst src base disp imm cc
theorem bare_3_ok (op w dst src base disp imm cc sh : Int) (h : (sh == 3) = true) : Ret Try.prog 113 [xD op w dst src base disp imm cc, .int .i8 sh] (xD 0 0 0 src base disp 0 cc) := by
 obtain rfl := eq_of_beq h
 exact bareL_3_ok op w dst src base disp imm cc
theorem bare_4_ok (op w dst src base disp imm cc sh : Int) (h : (sh == 4) = true) : Ret Try.prog 113 [xD op w dst src base disp imm cc, .int .i8 sh] (xD 0 0 0 src base disp 0 cc) := by
 obtain rfl := eq_of_beq h
 exact bareL_4_ok op w dst src base disp imm cc
theorem bare_5_ok (op w dst src base disp imm cc sh : Int) (h : (sh == 5) = true) : Ret Try.prog 113 [xD op w dst src base disp imm cc, .int .i8 sh] (xD 0 0 0 src base disp imm cc) := by
 obtain rfl := eq_of_beq h
 exact bareL_5_ok op w dst src base disp imm cc
theorem bare_6_ok (op w dst src base disp imm cc sh : Int) (h : (sh == 6) = true) : Ret Try.prog 113 [xD op w dst src base disp imm cc, .int .i8 sh] (xD 0 0 0 0 base disp imm 0) := by
 obtain rfl := eq_of_beq h
 exact bareL_6_ok op w dst src base disp imm cc
theorem bare_7_ok (op w dst src base disp imm cc sh : Int) (h : (sh == 7) = true) : Ret Try.prog 113 [xD op w dst src base disp imm cc, .int .i8 sh] (xD 0 0 0 src 0 0 imm cc) := by
 obtain rfl := eq_of_beq h
 exact bareL_7_ok op w dst src base disp imm cc
theorem bare_8_ok (op w dst src base disp imm cc sh : Int) (h : (sh == 8) = true) : Ret Try.prog 113 [xD op w dst src base disp imm cc, .int .i8 sh] (xD 0 0 dst 0 0 0 imm cc) := by
 obtain rfl := eq_of_beq h
 exact bareL_8_ok op w dst src base disp imm cc
theorem bare_9_ok (op w dst src base disp imm cc sh : Int) (h : (sh == 9) = true) : Ret Try.prog 113 [xD op w dst src base disp imm cc, .int .i8 sh] (xD 0 0 dst src base disp 0 cc) := by
 obtain rfl := eq_of_beq h
 exact bareL_9_ok op w dst src base disp imm cc
theorem bare_10_ok (op w dst src base disp imm cc sh : Int) (h : (sh == 10) = true) : Ret Try.prog 113 [xD op w dst src base disp imm cc, .int .i8 sh] (xD 0 0 dst src base disp 0 0) := by
 obtain rfl := eq_of_beq h
 exact bareL_10_ok op w dst src base disp imm cc
theorem bare_11_ok (op w dst src base disp imm cc sh : Int) (h : (sh == 11) = true) : Ret Try.prog 113 [xD op w dst src base disp imm cc, .int .i8 sh] (xD 0 w dst src base disp imm cc) := by
 obtain rfl := eq_of_beq h
 exact bareL_11_ok op w dst src base disp imm cc
end Go.Proofs.Ytcngafhpodeenaa

namespace Go.Proofs.Ytcngafhpodeenaa
open Go Go.Ev
set_option maxRecDepth 100000
set_option maxHeartbeats 8000000
theorem mayX_0_ok (op w dst src base disp imm cc : Int) (ho : op ≤ 127) (h : (shapeM op == 0) = true) (hin : decide (0 ≤ op ∧ op ≤ 31) = false) : Ret Try.prog 56 ([xD op w dst src base disp imm cc]) (.bool (mayX op w dst src base disp imm cc)) := by
 have c0 := @of_any_ok op ho
 rw [show (shapeM op) = 0 from (eq_of_beq h)] at c0
 generalize g2 : codeM op = r1 at c0
 generalize g4 : numM op = r3 at c0
 exact (o56 (d := .bool false) ([.ret _ _ _ c0] ++ List.replicate 6 (tC (eF (nt hin))) ++ [tC (nt hin), tF, tF, tF, tF, tT, tF, tF, tF, tF, tT, tF, tF, tF, tF, tT, tF, tF, tF, tF, tT, tF, tF, tF, tF, tT, tT]) (by kernel_rfl)).to (by (try simp only [sl0, wk, wkL, wkO, eqCells, eqCell, mayX, regM, mayS, longM, widthM, jumpM, ccM] at *); (simp [wk, wkL, wkO, eqCells, eqCell, mayX, regM, mayS, longM, widthM, jumpM, ccM, *]; done))
theorem mayX_1_ok (op w dst src base disp imm cc : Int) (ho : op ≤ 127) (h : (shapeM op == 1) = true) (hin : decide (0 ≤ op ∧ op ≤ 31) = true) : Ret Try.prog 56 ([xD op w dst src base disp imm cc]) (.bool (mayX op w dst src base disp imm cc)) := by
 have c0 := @of_any_ok op ho
 rw [show (shapeM op) = 1 from (eq_of_beq h)] at c0
 generalize g2 : codeM op = r1 at c0
 generalize g4 : numM op = r3 at c0
 have c5 := @bare_1_ok op w dst src base disp imm cc 1 (rfl : true = true)
 let E1 : EL := ([.ret _ _ _ c0] ++ List.replicate 4 (tC (eF (nt hin))) ++ [.ret _ _ _ c5, tC (eF (nt hin)), tC (eF (nt hin)), .flat _ _ flat_X, tC (nt hin)])
 rcases bft (eqCells [.int .i8 0, .int .i8 0, .int .i8 0, .int .i8 0, .int .i8 base, .int .i64 disp, .int .i64 imm, .int .i8 cc] [.int .i8 0, .int .i8 0, .int .i8 0, .int .i8 0, .int .i8 0, .int .i64 0, .int .i64 0, .int .i8 0]) with h6 | h6
 ·have c7 := @reg_ok dst
  generalize g9 : regM dst = r8 at c7
  let E2 : EL := E1 ++ List.replicate 3 (tC (eF (nt h6))) ++ [.ret _ _ _ c7, tC (eF (nt h6)), tC (nt h6)]
  cases r8
  ·exact (o56 (d := .bool false) (E2 ++ [tF, tF, tF, tF, tT, tF, tF, tF, tF, tT, tF, tF, tF, tF, tT, tF, tF, tF, tF, tT, tT]) (by kernel_rfl)).to (by clear E1 E2; (try simp only [sl0, wk, wkL, wkO, eqCells, eqCell, mayX, regM, mayS, longM, widthM, jumpM, ccM] at *); (simp [wk, wkL, wkO, eqCells, eqCell, mayX, regM, mayS, longM, widthM, jumpM, ccM, *]; done))
  have c10 := @reg_ok src
  generalize g12 : regM src = r11 at c10
  let E3 : EL := E2 ++ [tT, tT, tT, .ret _ _ _ c10, tT, tF]
  cases r11
  ·exact (o56 (d := .bool false) (E3 ++ [tF, tF, tF, tF, tT, tF, tF, tF, tF, tT, tF, tF, tF, tF, tT, tT]) (by kernel_rfl)).to (by clear E1 E2 E3; (try simp only [sl0, wk, wkL, wkO, eqCells, eqCell, mayX, regM, mayS, longM, widthM, jumpM, ccM] at *); (simp [wk, wkL, wkO, eqCells, eqCell, mayX, regM, mayS, longM, widthM, jumpM, ccM, *]; done))
  have c13 := @reg_ok base
  generalize g15 : regM base = r14 at c13
  let E4 : EL := E3 ++ [tT, tT, tT, .ret _ _ _ c13, tT, tF]
  cases r14
  ·exact (o56 (d := .bool false) (E4 ++ [tF, tF, tF, tF, tT, tF, tF, tF, tF, tT, tT]) (by kernel_rfl)).to (by clear E1 E2 E3 E4; (try simp only [sl0, wk, wkL, wkO, eqCells, eqCell, mayX, regM, mayS, longM, widthM, jumpM, ccM] at *); (simp [wk, wkL, wkO, eqCells, eqCell, mayX, regM, mayS, longM, widthM, jumpM, ccM, *]; done))
  have c16 := @within_ok disp (-2147483648) 2147483647
  let E5 : EL := E4 ++ [tT, tT, tT, .ret _ _ _ c16, tT, tF]
  rcases bft (decide (disp < (-2147483648))) with h17 | h17
  ·exact (o56 (d := .bool false) (E5 ++ List.replicate 4 (tC (eF (nt (andF (y := decide (disp ≤ 2147483647)) (leL (-2147483648) h17))))) ++ [tC (nt (andF (y := decide (disp ≤ 2147483647)) (leL (-2147483648) h17))), tT]) (by kernel_rfl)).to (by clear E1 E2 E3 E4 E5; (try simp only [sl0, wk, wkL, wkO, eqCells, eqCell, mayX, regM, mayS, longM, widthM, jumpM, ccM] at *); (simp [wk, wkL, wkO, eqCells, eqCell, mayX, regM, mayS, longM, widthM, jumpM, ccM, *]; omega))
  rcases bft (decide (disp < 2147483648)) with h18 | h18
  ·have c19 := @within_ok imm (-2147483648) 2147483647
   let E6 : EL := E5 ++ List.replicate 3 (tC (eF (nt (andT (leL (-2147483648) h17) (leC 2147483647 h18))))) ++ [.ret _ _ _ c19, tC (eF (nt (andT (leL (-2147483648) h17) (leC 2147483647 h18)))), tC (nt (andT (leL (-2147483648) h17) (leC 2147483647 h18)))]
   rcases bft (decide (imm < (-2147483648))) with h20 | h20
   ·exact (o56 (d := .bool false) (E6 ++ [tC (nt (andF (y := decide (imm ≤ 2147483647)) (leL (-2147483648) h20)))]) (by kernel_rfl)).to (by clear E1 E2 E3 E4 E5 E6; (try simp only [sl0, wk, wkL, wkO, eqCells, eqCell, mayX, regM, mayS, longM, widthM, jumpM, ccM] at *); (simp [wk, wkL, wkO, eqCells, eqCell, mayX, regM, mayS, longM, widthM, jumpM, ccM, *]; omega))
   rcases bft (decide (imm < 2147483648)) with h21 | h21
   ·let E7 : EL := E6 ++ [tC (nt (andT (leL (-2147483648) h20) (leC 2147483647 h21)))]
    by_cases h22 : w = 32
    ·subst h22
     exact (o56 (d := .bool true) (E7 ++ [tF, tF, tF, tT, tF, tF, tF, tF, tF, tT, tT, tT]) (by kernel_rfl)).to (by clear E1 E2 E3 E4 E5 E6 E7; (try simp only [sl0, wk, wkL, wkO, eqCells, eqCell, mayX, regM, mayS, longM, widthM, jumpM, ccM] at *); (rw [Bool.eq_iff_iff]; simp [wk, wkL, wkO, eqCells, eqCell, mayX, regM, mayS, longM, widthM, jumpM, ccM, *]; grind))
    let E8 : EL := E7 ++ List.replicate 3 (tC (eF (neOf h22))) ++ [tC (neOf h22)] ++ List.replicate 4 (tC (eF (neOf h22)))
    by_cases h23 : w = 8
    ·subst h23
     have c24 := @within_ok imm (-128) 127
     exact (o56 (d := .bool false) (E8 ++ [tT, tT, tT, .ret _ _ _ c24, tT, tT, tF, tT, tT]) (by kernel_rfl)).to (by clear E1 E2 E3 E4 E5 E6 E7 E8; (try simp only [sl0, wk, wkL, wkO, eqCells, eqCell, mayX, regM, mayS, longM, widthM, jumpM, ccM] at *); (simp [wk, wkL, wkO, eqCells, eqCell, mayX, regM, mayS, longM, widthM, jumpM, ccM, *]; done))
    exact (o56 (d := .bool (w == 64)) (E8 ++ List.replicate 3 (tC (eT (neOf h23))) ++ [tC (eF (neOf h22)), tC (neOf h23), tC (neOf h22), tT, tT]) (by kernel_rfl)).to (by clear E1 E2 E3 E4 E5 E6 E7 E8; (try simp only [sl0, wk, wkL, wkO, eqCells, eqCell, mayX, regM, mayS, longM, widthM, jumpM, ccM] at *); (rw [Bool.eq_iff_iff]; simp [wk, wkL, wkO, eqCells, eqCell, mayX, regM, mayS, longM, widthM, jumpM, ccM, *]; grind))
   exact (o56 (d := .bool false) (E6 ++ [tC (nt (andT (leL (-2147483648) h20) (leC 2147483647 h21)))]) (by kernel_rfl)).to (by clear E1 E2 E3 E4 E5 E6; (try simp only [sl0, wk, wkL, wkO, eqCells, eqCell, mayX, regM, mayS, longM, widthM, jumpM, ccM] at *); (simp [wk, wkL, wkO, eqCells, eqCell, mayX, regM, mayS, longM, widthM, jumpM, ccM, *]; omega))
  exact (o56 (d := .bool false) (E5 ++ List.replicate 4 (tC (eF (nt (andT (leL (-2147483648) h17) (leC 2147483647 h18))))) ++ [tC (nt (andT (leL (-2147483648) h17) (leC 2147483647 h18))), tT]) (by kernel_rfl)).to (by clear E1 E2 E3 E4 E5; (try simp only [sl0, wk, wkL, wkO, eqCells, eqCell, mayX, regM, mayS, longM, widthM, jumpM, ccM] at *); (simp [wk, wkL, wkO, eqCells, eqCell, mayX, regM, mayS, longM, widthM, jumpM, ccM, *]; omega))
 exact (o56 (d := .bool false) (E1 ++ List.replicate 4 (tC (eF (nt h6))) ++ [tC (nt h6), tF, tF, tF, tF, tT, tF, tF, tF, tF, tT, tF, tF, tF, tF, tT, tF, tF, tF, tF, tT, tT]) (by kernel_rfl)).to (by clear E1; (try simp only [sl0, wk, wkL, wkO, eqCells, eqCell, mayX, regM, mayS, longM, widthM, jumpM, ccM] at *); (rw [Bool.eq_iff_iff]; simp [wk, wkL, wkO, eqCells, eqCell, mayX, regM, mayS, longM, widthM, jumpM, ccM, *]; grind))
theorem mayX_2_ok (op w dst src base disp imm cc : Int) (ho : op ≤ 127) (h : (shapeM op == 2) = true) (hin : decide (0 ≤ op ∧ op ≤ 31) = true) : Ret Try.prog 56 ([xD op w dst src base disp imm cc]) (.bool (mayX op w dst src base disp imm cc)) := by
 have c0 := @of_any_ok op ho
 rw [show (shapeM op) = 2 from (eq_of_beq h)] at c0
 generalize g2 : codeM op = r1 at c0
 generalize g4 : numM op = r3 at c0
 have c5 := @bare_2_ok op w dst src base disp imm cc 2 (rfl : true = true)
 let E1 : EL := ([.ret _ _ _ c0] ++ List.replicate 4 (tC (eF (nt hin))) ++ [.ret _ _ _ c5, tC (eF (nt hin)), tC (eF (nt hin)), .flat _ _ flat_X, tC (nt hin)])
 rcases bft (eqCells [.int .i8 0, .int .i8 0, .int .i8 0, .int .i8 0, .int .i8 base, .int .i64 disp, .int .i64 imm, .int .i8 cc] [.int .i8 0, .int .i8 0, .int .i8 0, .int .i8 0, .int .i8 0, .int .i64 0, .int .i64 0, .int .i8 0]) with h6 | h6
 ·have c7 := @reg_ok dst
  generalize g9 : regM dst = r8 at c7
  let E2 : EL := E1 ++ List.replicate 3 (tC (eF (nt h6))) ++ [.ret _ _ _ c7, tC (eF (nt h6)), tC (nt h6)]
  cases r8
  ·exact (o56 (d := .bool false) (E2 ++ [tF, tF, tF, tF, tT, tF, tF, tF, tF, tT, tF, tF, tF, tF, tT, tF, tF, tF, tF, tT, tT]) (by kernel_rfl)).to (by clear E1 E2; (try simp only [sl0, wk, wkL, wkO, eqCells, eqCell, mayX, regM, mayS, longM, widthM, jumpM, ccM] at *); (simp [wk, wkL, wkO, eqCells, eqCell, mayX, regM, mayS, longM, widthM, jumpM, ccM, *]; done))
  have c10 := @reg_ok src
  generalize g12 : regM src = r11 at c10
  let E3 : EL := E2 ++ [tT, tT, tT, .ret _ _ _ c10, tT, tF]
  cases r11
  ·exact (o56 (d := .bool false) (E3 ++ [tF, tF, tF, tF, tT, tF, tF, tF, tF, tT, tF, tF, tF, tF, tT, tT]) (by kernel_rfl)).to (by clear E1 E2 E3; (try simp only [sl0, wk, wkL, wkO, eqCells, eqCell, mayX, regM, mayS, longM, widthM, jumpM, ccM] at *); (simp [wk, wkL, wkO, eqCells, eqCell, mayX, regM, mayS, longM, widthM, jumpM, ccM, *]; done))
  have c13 := @reg_ok base
  generalize g15 : regM base = r14 at c13
  let E4 : EL := E3 ++ [tT, tT, tT, .ret _ _ _ c13, tT, tF]
  cases r14
  ·exact (o56 (d := .bool false) (E4 ++ [tF, tF, tF, tF, tT, tF, tF, tF, tF, tT, tT]) (by kernel_rfl)).to (by clear E1 E2 E3 E4; (try simp only [sl0, wk, wkL, wkO, eqCells, eqCell, mayX, regM, mayS, longM, widthM, jumpM, ccM] at *); (simp [wk, wkL, wkO, eqCells, eqCell, mayX, regM, mayS, longM, widthM, jumpM, ccM, *]; done))
  have c16 := @within_ok disp (-2147483648) 2147483647
  let E5 : EL := E4 ++ [tT, tT, tT, .ret _ _ _ c16, tT, tF]
  rcases bft (decide (disp < (-2147483648))) with h17 | h17
  ·exact (o56 (d := .bool false) (E5 ++ List.replicate 4 (tC (eF (nt (andF (y := decide (disp ≤ 2147483647)) (leL (-2147483648) h17))))) ++ [tC (nt (andF (y := decide (disp ≤ 2147483647)) (leL (-2147483648) h17))), tT]) (by kernel_rfl)).to (by clear E1 E2 E3 E4 E5; (try simp only [sl0, wk, wkL, wkO, eqCells, eqCell, mayX, regM, mayS, longM, widthM, jumpM, ccM] at *); (simp [wk, wkL, wkO, eqCells, eqCell, mayX, regM, mayS, longM, widthM, jumpM, ccM, *]; omega))
  rcases bft (decide (disp < 2147483648)) with h18 | h18
  ·have c19 := @within_ok imm (-2147483648) 2147483647
   let E6 : EL := E5 ++ List.replicate 3 (tC (eF (nt (andT (leL (-2147483648) h17) (leC 2147483647 h18))))) ++ [.ret _ _ _ c19, tC (eF (nt (andT (leL (-2147483648) h17) (leC 2147483647 h18)))), tC (nt (andT (leL (-2147483648) h17) (leC 2147483647 h18)))]
   rcases bft (decide (imm < (-2147483648))) with h20 | h20
   ·exact (o56 (d := .bool false) (E6 ++ [tC (nt (andF (y := decide (imm ≤ 2147483647)) (leL (-2147483648) h20)))]) (by kernel_rfl)).to (by clear E1 E2 E3 E4 E5 E6; (try simp only [sl0, wk, wkL, wkO, eqCells, eqCell, mayX, regM, mayS, longM, widthM, jumpM, ccM] at *); (simp [wk, wkL, wkO, eqCells, eqCell, mayX, regM, mayS, longM, widthM, jumpM, ccM, *]; omega))
   rcases bft (decide (imm < 2147483648)) with h21 | h21
   ·let E7 : EL := E6 ++ [tC (nt (andT (leL (-2147483648) h20) (leC 2147483647 h21)))]
    by_cases h22 : w = 32
    ·subst h22
     exact (o56 (d := .bool true) (E7 ++ [tF, tF, tF, tT, tF, tF, tF, tF, tF, tT, tF, tT, tT]) (by kernel_rfl)).to (by clear E1 E2 E3 E4 E5 E6 E7; (try simp only [sl0, wk, wkL, wkO, eqCells, eqCell, mayX, regM, mayS, longM, widthM, jumpM, ccM] at *); (rw [Bool.eq_iff_iff]; simp [wk, wkL, wkO, eqCells, eqCell, mayX, regM, mayS, longM, widthM, jumpM, ccM, *]; grind))
    let E8 : EL := E7 ++ List.replicate 3 (tC (eF (neOf h22))) ++ [tC (neOf h22)] ++ List.replicate 4 (tC (eF (neOf h22)))
    by_cases h23 : w = 8
    ·subst h23
     have c24 := @within_ok imm (-128) 127
     exact (o56 (d := .bool false) (E8 ++ [tT, tT, tT, .ret _ _ _ c24, tT, tT, tF, tF, tT, tT]) (by kernel_rfl)).to (by clear E1 E2 E3 E4 E5 E6 E7 E8; (try simp only [sl0, wk, wkL, wkO, eqCells, eqCell, mayX, regM, mayS, longM, widthM, jumpM, ccM] at *); (simp [wk, wkL, wkO, eqCells, eqCell, mayX, regM, mayS, longM, widthM, jumpM, ccM, *]; done))
    exact (o56 (d := .bool (w == 64)) (E8 ++ List.replicate 3 (tC (eT (neOf h23))) ++ [tC (eF (neOf h22)), tC (neOf h23), tC (neOf h22), tF, tT, tT]) (by kernel_rfl)).to (by clear E1 E2 E3 E4 E5 E6 E7 E8; (try simp only [sl0, wk, wkL, wkO, eqCells, eqCell, mayX, regM, mayS, longM, widthM, jumpM, ccM] at *); (rw [Bool.eq_iff_iff]; simp [wk, wkL, wkO, eqCells, eqCell, mayX, regM, mayS, longM, widthM, jumpM, ccM, *]; grind))
   exact (o56 (d := .bool false) (E6 ++ [tC (nt (andT (leL (-2147483648) h20) (leC 2147483647 h21)))]) (by kernel_rfl)).to (by clear E1 E2 E3 E4 E5 E6; (try simp only [sl0, wk, wkL, wkO, eqCells, eqCell, mayX, regM, mayS, longM, widthM, jumpM, ccM] at *); (simp [wk, wkL, wkO, eqCells, eqCell, mayX, regM, mayS, longM, widthM, jumpM, ccM, *]; omega))
  exact (o56 (d := .bool false) (E5 ++ List.replicate 4 (tC (eF (nt (andT (leL (-2147483648) h17) (leC 2147483647 h18))))) ++ [tC (nt (andT (leL (-2147483648) h17) (leC 2147483647 h18))), tT]) (by kernel_rfl)).to (by clear E1 E2 E3 E4 E5; (try simp only [sl0, wk, wkL, wkO, eqCells, eqCell, mayX, regM, mayS, longM, widthM, jumpM, ccM] at *); (simp [wk, wkL, wkO, eqCells, eqCell, mayX, regM, mayS, longM, widthM, jumpM, ccM, *]; omega))
 exact (o56 (d := .bool false) (E1 ++ List.replicate 4 (tC (eF (nt h6))) ++ [tC (nt h6), tF, tF, tF, tF, tT, tF, tF, tF, tF, tT, tF, tF, tF, tF, tT, tF, tF, tF, tF, tT, tT]) (by kernel_rfl)).to (by clear E1; (try simp only [sl0, wk, wkL, wkO, eqCells, eqCell, mayX, regM, mayS, longM, widthM, jumpM, ccM] at *); (rw [Bool.eq_iff_iff]; simp [wk, wkL, wkO, eqCells, eqCell, mayX, regM, mayS, longM, widthM, jumpM, ccM, *]; grind))
end Go.Proofs.Ytcngafhpodeenaa
