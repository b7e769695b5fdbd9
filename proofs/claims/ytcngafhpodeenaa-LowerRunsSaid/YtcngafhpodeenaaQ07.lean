/- Contracts and plain laws that a statement's proof leans on (texts merged: MdK1, MdK2, MdK3, MdK4, MdK5, MdK6, MdK7, MdK8, MdK9, KS1, May, MayR). -/
import Derived.Test.YtcngafhpodeenaaQ04
import Derived.Test.YtcngafhpodeenaaQ05
import Derived.Test.YtcngafhpodeenaaQ06
set_option linter.unusedVariables false
set_option linter.unusedSimpArgs false
namespace Go.Ev
open Go
def InstS.may (x : InstS) : Bool := mayM x.kind x.op x.width x.size x.byReg x.dst x.src x.off x.imm
def isd (l : List InstS) : List D := l.map InstS.d
theorem isd_len (l : List InstS) : (isd l).length = l.length := by simp [isd]
theorem isd_get (l : List InstS) (j : Nat) (h : j < l.length) : (isd l)[j]? = some l[j].d := by simp [isd, h]
def tgt2 (i kind off : Int) : Bool := (kind == 3 || kind == 4) && (decide (-1099511627776 ≤ i ∧ i ≤ 1099511627776) && decide (-1099511627776 ≤ off ∧ off ≤ 1099511627776))
def tgt1 (i kind off : Int) : Int := if tgt2 i kind off = true then i + 1 + off else 0
def ckFrom (n : Int) : Int → List InstS → Option (Int × Int)
  | _, [] => none
  | i, x :: r => if x.may = false then some (i, 31) else if tgt2 i x.kind x.off = true ∧ ¬ (0 ≤ tgt1 i x.kind x.off ∧ tgt1 i x.kind x.off < n) then some (i, 32) else ckFrom n (i + 1) r
def kindAt (l : List InstS) (i : Nat) : Int := match l[i]? with | some x => x.kind | none => 0
def checkM (ctx : Int) (l : List InstS) : Int × Int :=
  if ctx < 0 ∨ 256 < ctx then (0, 2) else if l.length < 1 ∨ 64 < l.length then (0, 3)
  else match ckFrom l.length 0 l with
    | some r => r
    | none => if kindAt l (l.length - 1) = 4 ∨ kindAt l (l.length - 1) = 6 then (0, 0) else (l.length - 1, 33)
end Go.Ev

namespace Go.Ev
open Go
theorem look_upd (es : List (Int × D)) (n : Int) (v : D) (m : Int) : lookD (updD es n v) m = if m = n then some v else lookD es m := by
 induction es with
 | nil =>
  by_cases h : m = n
  ·subst h; simp [updD, lookD]
  ·have : (m == n) = false := by simpa using h
   simp [updD, lookD, this, h]
 | cons p r ih =>
  obtain ⟨a, d⟩ := p
  rw [updD]
  by_cases hn : n = a
  ·subst hn
   simp only [beq_self_eq_true]
   by_cases h : m = n
   ·subst h; simp [lookD]
   ·have : (m == n) = false := by simpa using h
    simp [lookD, this, h]
  ·have e : (n == a) = false := by simpa using hn
   simp only [e]
   by_cases h : m = a
   ·subst h
    have : ¬ m = n := fun q => hn q.symm
    simp [lookD, this]
   ·have e2 : (m == a) = false := by simpa using h
    simp only [lookD, e2]
    exact ih
def stopK (k : Int) : Bool := k == 3 || k == 4 || k == 6
def stepB (es : List (Int × D)) (k : Int) (x : InstS) : List (Int × D) :=
  if tgt2 k x.kind x.off = true then updD (if stopK x.kind = true then updD es (k + 1) (.bool true) else es) (tgt1 k x.kind x.off) (.bool true)
  else if stopK x.kind = true then updD es (k + 1) (.bool true) else es
def begE (l : List InstS) : Nat → List (Int × D)
  | 0 => [(0, .bool true)]
  | k + 1 => match l[k]? with
    | some x => stepB (begE l k) k x
    | none => begE l k
def begS (l : List InstS) (k : Nat) (i : Int) : Bool := match l[k]? with
  | some x => (stopK x.kind && i == (k : Int) + 1) || (tgt2 k x.kind x.off && i == tgt1 k x.kind x.off)
  | none => false
def begU (l : List InstS) (i : Int) : Nat → Bool
  | 0 => i == 0
  | k + 1 => begU l i k || begS l k i
theorem beg_look (l : List InstS) (i : Int) : ∀ n, lookD (begE l n) i = if begU l i n = true then some (.bool true) else none
 | 0 => by
  simp only [begE, begU, lookD]
  by_cases h : i = 0
  ·subst h; simp
  ·have : (i == 0) = false := by simpa using h
   simp [this]
 | n + 1 => by
  have ih := beg_look l i n
  rw [begE, begU]
  unfold begS
  cases hx : l[n]? with
  | none => simp only [Bool.or_false]; exact ih
  | some x =>
   simp only []
   unfold stepB
   rcases Bool.eq_false_or_eq_true (stopK x.kind) with h1 | h1 <;> rcases Bool.eq_false_or_eq_true (tgt2 n x.kind x.off) with h2 | h2 <;> simp only [h1, h2, if_true, if_false, Bool.false_eq_true, Bool.true_and, Bool.false_and, Bool.or_false, Bool.false_or, look_upd, ih]
   ·by_cases e : i = tgt1 n x.kind x.off
    ·simp [e]
    ·by_cases e' : i = (n : Int) + 1
     ·simp [e']
     ·have q1 : (i == tgt1 n x.kind x.off) = false := by simpa using e
      have q2 : (i == (n : Int) + 1) = false := by simpa using e'
      simp [e, e', q1, q2]
   ·by_cases e : i = (n : Int) + 1
    ·simp [e]
    ·have : (i == (n : Int) + 1) = false := by simpa using e
     simp [e, this]
   ·by_cases e : i = tgt1 n x.kind x.off
    ·simp [e]
    ·have : (i == tgt1 n x.kind x.off) = false := by simpa using e
     simp [e, this]
theorem begU_iff (l : List InstS) (i : Int) : ∀ n, begU l i n = true ↔ i = 0 ∨ ∃ j, j < n ∧ begS l j i = true
 | 0 => by simp [begU]
 | n + 1 => by
  rw [begU, Bool.or_eq_true, begU_iff l i n]
  constructor
  ·rintro ((h | ⟨j, h1, h2⟩) | h)
   ·exact .inl h
   ·exact .inr ⟨j, by omega, h2⟩
   ·exact .inr ⟨n, by omega, h⟩
  ·rintro (h | ⟨j, h1, h2⟩)
   ·exact .inl (.inl h)
   ·rcases Nat.lt_or_ge j n with q | q
    ·exact .inl (.inr ⟨j, q, h2⟩)
    ·obtain rfl : j = n := by omega
     exact .inr h2
def begM (l : List InstS) (i : Int) : Bool := begU l i l.length
theorem begM_zero (l : List InstS) : begM l 0 = true := (begU_iff l 0 _).2 (.inl rfl)
end Go.Ev

namespace Go.Ev
open Go
structure OkP (l : List InstS) : Prop where
  pos : 1 ≤ l.length
  le : l.length ≤ 64
  may : ∀ j (h : j < l.length), l[j].may = true
  tgt : ∀ j (h : j < l.length), tgt2 j l[j].kind l[j].off = true → 0 ≤ tgt1 j l[j].kind l[j].off ∧ tgt1 j l[j].kind l[j].off < l.length
  last : kindAt l (l.length - 1) = 4 ∨ kindAt l (l.length - 1) = 6
theorem ck_none {n : Int} : ∀ {l : List InstS} {i : Int}, ckFrom n i l = none → ∀ j (h : j < l.length), l[j].may = true ∧ (tgt2 (i + j) l[j].kind l[j].off = true → 0 ≤ tgt1 (i + j) l[j].kind l[j].off ∧ tgt1 (i + j) l[j].kind l[j].off < n)
 | [], i, _, j, h => by simp at h
 | x :: r, i, hc, j, h => by
  rw [ckFrom] at hc
  split at hc
  ·cases hc
  ·rename_i hm
   split at hc
   ·cases hc
   ·rename_i ht
    cases j with
    | zero =>
     refine ⟨by simpa using hm, fun h2 => ?_⟩
     simp only [List.getElem_cons_zero, Int.ofNat_zero, Int.add_zero] at h2 ⊢
     exact Classical.byContradiction fun q => ht ⟨by simpa using h2, by simpa using q⟩
    | succ j =>
     have := ck_none hc j (by simpa using h)
     simp only [List.getElem_cons_succ]
     rw [show i + ((j + 1 : Nat) : Int) = i + 1 + (j : Int) by push_cast; omega]
     exact this
theorem check_OkP {ctx : Int} {l : List InstS} (h : (checkM ctx l).2 = 0) : OkP l := by
 unfold checkM at h
 split at h
 ·cases h
 ·split at h
  ·cases h
  ·rename_i h1 h2
   split at h
   ·rename_i r hr
    exfalso
    have : ∀ {l : List InstS} {n i : Int} {r : Int × Int}, ckFrom n i l = some r → r.2 ≠ 0 := by
     intro l
     induction l with
     | nil => intro n i r h; cases h
     | cons x t ih =>
      intro n i r h
      rw [ckFrom] at h
      split at h
      ·cases h; simp
      ·split at h
       ·cases h; simp
       ·exact ih h
    exact this hr h
   ·rename_i hr
    have hj := ck_none hr
    split at h
    ·rename_i hl
     refine ⟨by omega, by omega, fun j hlt => (hj j hlt).1, fun j hlt ht => ?_, hl⟩
     have := (hj j hlt).2
     rw [Int.zero_add] at this
     exact this ht
    ·cases h
theorem may_off {x : InstS} (h : x.may = true) : -32768 ≤ x.off ∧ x.off ≤ 32767 := by
 unfold InstS.may mayM mayRange at h
 simp only [Bool.and_eq_true, decide_eq_true_eq] at h
 omega
theorem tgt2_may {x : InstS} (h : x.may = true) {k : Nat} (hk : k ≤ 100) : tgt2 k x.kind x.off = (x.kind == 3 || x.kind == 4) := by
 obtain ⟨h1, h2⟩ := may_off h
 unfold tgt2
 rw [decide_eq_true (p := -1099511627776 ≤ (k : Int) ∧ (k : Int) ≤ 1099511627776) (by omega), decide_eq_true (p := -1099511627776 ≤ x.off ∧ x.off ≤ 1099511627776) (by omega)]
 simp
end Go.Ev

namespace Go.Ev
open Go
theorem put_set {l : List D} {i : Nat} {x : D} (h : (i : Int) < (l.length : Int)) : PutsA l i [x] (l.set i x) := by
 refine ⟨?_, by simp; omega⟩
 rw [List.set_eq_take_append_cons_drop, if_pos (by omega)]
 rfl
theorem get_set {l : List D} {i : Nat} {x : D} (h : (i : Int) < (l.length : Int)) : (l.set i x)[i]? = some x := by
 rw [List.getElem?_set_self (by omega)]
theorem beq_len {l : List D} {r : Nat} (h : l.length = r * 3) : Nat.beq l.length (r * 3) = true := by
 rw [Nat.beq_eq]; exact h
theorem cl_set {l : List D} {i : Nat} {x : D} (h : ∀ c ∈ l, c.clean = true) (hx : x.clean = true) : ∀ c ∈ l.set i x, c.clean = true := by
 intro c hc
 rcases List.mem_or_eq_of_mem_set hc with q | rfl
 ·exact h c q
 ·exact hx
theorem cl_app {l m : List D} (h : ∀ c ∈ l, c.clean = true) (hm : m.all D.clean = true) : ∀ c ∈ l ++ m, c.clean = true := by
 intro c hc
 rcases List.mem_append.1 hc with q | q
 ·exact h c q
 ·exact List.all_eq_true.1 hm c q
end Go.Ev

namespace Go.Ev
open Go
def i64s (l : List Int) : List D := l.map (.int .i64)
theorem i64s_len (l : List Int) : (i64s l).length = l.length := by simp [i64s]
theorem i64s_clean (l : List Int) : ∀ c ∈ i64s l, c.clean = true := by
 intro c hc
 obtain ⟨n, _, rfl⟩ := List.mem_map.1 hc
 rfl
theorem i64s_demote (l : List Int) : (i64s l).map D.demote = i64s l := by
 simp only [i64s, List.map_map]
 rfl
theorem i64s_set (l : List Int) (i : Nat) (v : Int) : (i64s l).set i (.int .i64 v) = i64s (l.set i v) := by simp [i64s, List.map_set]
theorem i64s_get {l : List Int} {i : Nat} {v : Int} (h : l[i]? = some v) : (i64s l)[i]? = some (.int .i64 v) := by simp [i64s, h]
structure RowS where
  fr : Int
  to : Int
  nx : List Int
deriving DecidableEq
def nxD : List Int → D
  | [] => .lst .tight 0 []
  | a :: r => .lst .no 1 (i64s (a :: r))
def rowC (r : RowS) : List D := [.int .i64 r.fr, .int .i64 r.to, nxD r.nx]
def rowsC : List RowS → List D
  | [] => []
  | r :: t => .int .i64 r.fr :: .int .i64 r.to :: nxD r.nx :: rowsC t
def RowS.d (r : RowS) : D := .agg (rowC r)
theorem nxD_clean (l : List Int) : (nxD l).clean = true := by cases l <;> rfl
theorem nxD_demote (l : List Int) : (nxD l).demote = nxD l := by cases l <;> rfl
theorem rowsC_len : ∀ rs : List RowS, (rowsC rs).length = rs.length * 3
 | [] => rfl
 | r :: t => by simp only [rowsC, List.length_cons, rowsC_len t]; omega
theorem rowsC_clean : ∀ rs : List RowS, ∀ c ∈ rowsC rs, c.clean = true
 | [], c, h => by simp [rowsC] at h
 | r :: t, c, h => by
  simp only [rowsC, List.mem_cons] at h
  rcases h with rfl | rfl | rfl | h
  ·rfl
  ·rfl
  ·exact nxD_clean _
  ·exact rowsC_clean t c h
theorem rowsC_demote : ∀ rs : List RowS, (rowsC rs).map D.demote = rowsC rs
 | [] => rfl
 | r :: t => by simp only [rowsC, List.map_cons, rowsC_demote t, nxD_demote]; rfl
theorem rowsC_app : ∀ (a b : List RowS), rowsC (a ++ b) = rowsC a ++ rowsC b
 | [], b => rfl
 | r :: t, b => by simp only [List.cons_append, rowsC, rowsC_app t b]
theorem rowsC_to : ∀ (rs : List RowS) (j : Nat) (v : Int), (rowsC rs).set (j * 3 + 1) (.int .i64 v) = rowsC (rs.modify j fun r => { r with to := v })
 | [], j, v => by simp [rowsC]
 | r :: t, 0, v => by simp [rowsC]
 | r :: t, j + 1, v => by
  have h := rowsC_to t j v
  rw [show (j + 1) * 3 + 1 = (j * 3 + 1) + 1 + 1 + 1 by omega]
  simp only [rowsC, List.set_cons_succ, List.modify_succ_cons, h]
theorem rowsC_nx : ∀ (rs : List RowS) (j : Nat) (o : Own) (a : Int) (l : List Int), o.demote = .no → ((rowsC rs).set (j * 3 + 2) (.lst o 1 (i64s (a :: l)))).map D.demote = rowsC (rs.modify j fun r => { r with nx := a :: l })
 | [], j, o, a, l, h => by simp [rowsC]
 | r :: t, 0, o, a, l, h => by
  simp only [Nat.zero_mul, Nat.zero_add, rowsC, List.set_cons_succ, List.set_cons_zero, List.map_cons, rowsC_demote, List.modify_zero_cons, D.demote, h]
  rfl
 | r :: t, j + 1, o, a, l, h => by
  have q := rowsC_nx t j o a l h
  rw [show (j + 1) * 3 + 2 = (j * 3 + 2) + 1 + 1 + 1 by omega]
  simp only [rowsC, List.set_cons_succ, List.map_cons, List.modify_succ_cons, q, nxD_demote]
  rfl
theorem rowsC_get1 : ∀ {rs : List RowS} {j : Nat} {r : RowS}, rs[j]? = some r → (rowsC rs)[j * 3 + 1]? = some (.int .i64 r.to)
 | x :: t, 0, r, h => by simp at h; subst h; simp [rowsC]
 | x :: t, j + 1, r, h => by
  rw [show (j + 1) * 3 + 1 = (j * 3 + 1) + 1 + 1 + 1 by omega]
  simp only [rowsC, List.getElem?_cons_succ]
  exact rowsC_get1 (by simpa using h)
theorem rowsC_get2 : ∀ {rs : List RowS} {j : Nat} {r : RowS}, rs[j]? = some r → (rowsC rs)[j * 3 + 2]? = some (nxD r.nx)
 | x :: t, 0, r, h => by simp at h; subst h; simp [rowsC]
 | x :: t, j + 1, r, h => by
  rw [show (j + 1) * 3 + 2 = (j * 3 + 2) + 1 + 1 + 1 by omega]
  simp only [rowsC, List.getElem?_cons_succ]
  exact rowsC_get2 (by simpa using h)
theorem rows_rowsC : ∀ rs : List RowS, rows 3 rs.length (rowsC rs) = rs.map RowS.d
 | [] => rfl
 | r :: t => by
  have h := rows_rowsC t
  simp only [List.length_cons, rows, rowsC, List.map_cons]
  rw [show (D.int .i64 r.fr :: D.int .i64 r.to :: nxD r.nx :: rowsC t).drop 3 = rowsC t from rfl, h]
  rfl
end Go.Ev

namespace Go.Ev
open Go
def cutP (l : List InstS) : Nat → List RowS
  | 0 => []
  | k + 1 => if begM l k = true then cutP l k ++ [⟨k, (k : Int) + 1, []⟩] else (cutP l k).modify ((cutP l k).length - 1) fun r => { r with to := (k : Int) + 1 }
def ofU (l : List InstS) (n : Nat) : Nat → List Int
  | 0 => List.replicate n 0
  | k + 1 => (ofU l n k).set k (((cutP l (k + 1)).length : Int) - 1)
theorem ofU_len (l : List InstS) (n : Nat) : ∀ k, (ofU l n k).length = n
 | 0 => by simp [ofU]
 | k + 1 => by simp [ofU, ofU_len l n k]
theorem cutP_len (l : List InstS) : ∀ k, (cutP l k).length ≤ k ∧ (1 ≤ k → 1 ≤ (cutP l k).length)
 | 0 => ⟨Nat.le_refl _, fun h => h⟩
 | k + 1 => by
  obtain ⟨h1, h2⟩ := cutP_len l k
  rw [cutP]
  split
  ·simp only [List.length_append, List.length_cons, List.length_nil]; omega
  ·rename_i hb
   have : 1 ≤ k := by
    rcases Nat.eq_zero_or_pos k with e | e
    ·subst e; exact absurd (begM_zero l) hb
    ·exact e
   simp only [List.length_modify]
   exact ⟨by omega, fun _ => h2 this⟩
theorem ofU_get (l : List InstS) (n : Nat) : ∀ k, k ≤ n → ∀ i, i < k → (ofU l n k)[i]? = some (((cutP l (i + 1)).length : Int) - 1)
 | 0, _, i, h => absurd h (by omega)
 | k + 1, hk, i, h => by
  rw [ofU]
  by_cases e : i = k
  ·subst e
   rw [List.getElem?_set_self (by rw [ofU_len]; omega)]
  ·rw [List.getElem?_set_ne (fun q => e q.symm)]
   exact ofU_get l n k (by omega) i (by omega)
theorem modify_snoc {α : Type} (f : α → α) : ∀ (a : List α) (x : α), (a ++ [x]).modify a.length f = a ++ [f x]
 | [], x => rfl
 | y :: a, x => by simp only [List.cons_append, List.length_cons, List.modify_succ_cons, modify_snoc f a x]
end Go.Ev

namespace Go.Ev
open Go
def blkOf (l : List InstS) (t : Int) : Int := ((cutP l (t.toNat + 1)).length : Int) - 1
def nxK (l : List InstS) (b : Int) (i : Nat) (x : InstS) : List Int := (if tgt2 i x.kind x.off = true then [blkOf l (tgt1 i x.kind x.off)] else []) ++ (if x.kind = 4 ∨ x.kind = 6 then [] else [b + 1])
def nxR (l : List InstS) (b : Int) (r : RowS) : List Int := match l[(r.to - 1).toNat]? with
  | some x => nxK l b (r.to - 1).toNat x
  | none => []
def nextP (l : List InstS) (rs : List RowS) : Nat → List RowS
  | 0 => rs
  | b + 1 => (nextP l rs b).modify b fun r => { r with nx := nxR l b r }
theorem nextP_len (l : List InstS) (rs : List RowS) : ∀ b, (nextP l rs b).length = rs.length
 | 0 => rfl
 | b + 1 => by rw [nextP, List.length_modify, nextP_len l rs b]
theorem nextP_get (l : List InstS) (rs : List RowS) : ∀ b j, b ≤ j → (nextP l rs b)[j]? = rs[j]?
 | 0, j, _ => rfl
 | b + 1, j, h => by
  rw [nextP, List.getElem?_modify, nextP_get l rs b j (by omega)]
  have : ¬ b = j := by omega
  simp only [this, if_false]
  cases rs[j]? <;> rfl
theorem cutP_rows (l : List InstS) : ∀ k, ∀ r ∈ cutP l k, 1 ≤ r.to ∧ r.to ≤ k ∧ r.nx = []
 | 0, r, h => by simp [cutP] at h
 | k + 1, r, h => by
  have ih := cutP_rows l k
  rw [cutP] at h
  split at h
  ·rcases List.mem_append.1 h with q | q
   ·have := ih r q; exact ⟨this.1, by omega, this.2.2⟩
   ·simp at q; subst q; exact ⟨by simp; omega, by simp, rfl⟩
  ·obtain ⟨j, hj⟩ := List.mem_iff_getElem?.1 h
   rw [List.getElem?_modify] at hj
   cases e : (cutP l k)[j]? with
   | none => rw [e] at hj; simp at hj
   | some r0 =>
    have := ih r0 (List.mem_of_getElem? e)
    rw [e] at hj
    by_cases q : (cutP l k).length - 1 = j
    ·simp [q] at hj; subst hj; exact ⟨by simp; omega, by simp, this.2.2⟩
    ·simp [q] at hj; subst hj; exact ⟨this.1, by omega, this.2.2⟩
end Go.Ev

namespace Go.Ev
open Go
theorem blkOf_nat (l : List InstS) (t : Nat) : blkOf l t = ((cutP l (t + 1)).length : Int) - 1 := by
 unfold blkOf
 rw [Int.toNat_natCast]
theorem cutP_mono (l : List InstS) : ∀ (d k : Nat), (cutP l k).length ≤ (cutP l (k + d)).length
 | 0, k => Nat.le_refl _
 | d + 1, k => by
  refine Nat.le_trans (cutP_mono l d k) ?_
  rw [← Nat.add_assoc, cutP]
  split
  ·simp
  ·simp
theorem cutP_in (l : List InstS) : ∀ k, ∀ (j : Nat) (r : RowS), (cutP l k)[j]? = some r → (∀ t : Nat, t < k → ((r.fr ≤ t ∧ (t : Int) < r.to) ↔ (j : Int) = blkOf l t)) ∧ r.fr < r.to ∧ r.to ≤ k ∧ 0 ≤ r.fr ∧ (j + 1 = (cutP l k).length → r.to = k)
 | 0, j, r, h => by simp [cutP] at h
 | k + 1, j, r, h => by
  have ih := cutP_in l k
  have c := cutP_len l k
  rcases Bool.eq_false_or_eq_true (begM l k) with hb | hb
  ·have e : cutP l (k + 1) = cutP l k ++ [⟨k, (k : Int) + 1, []⟩] := by rw [cutP, if_pos hb]
   have ek : blkOf l k = ((cutP l k).length : Int) := by rw [blkOf_nat, e]; simp
   rw [e] at h ⊢
   rcases Nat.lt_or_ge j (cutP l k).length with q | q
   ·rw [List.getElem?_append_left q] at h
    obtain ⟨i1, i2, i3, i4, i5⟩ := ih j r h
    refine ⟨fun t ht => ?_, i2, by omega, i4, fun hj => by simp at hj; omega⟩
    rcases Nat.lt_or_ge t k with q2 | q2
    ·exact i1 t q2
    ·obtain rfl : t = k := by omega
     rw [ek]
     constructor
     ·intro hh; omega
     ·intro hh; omega
   ·rw [List.getElem?_append_right q] at h
    have hj : j = (cutP l k).length := by
     rcases Nat.eq_zero_or_pos (j - (cutP l k).length) with z | z
     ·omega
     ·rw [List.getElem?_eq_none (by simp; omega)] at h; cases h
    subst hj
    simp at h
    subst h
    refine ⟨fun t ht => ?_, by simp; omega, by simp, by simp, fun _ => by simp⟩
    simp only []
    rcases Nat.lt_or_ge t k with q2 | q2
    ·have m := cutP_mono l (k - (t + 1)) (t + 1)
     rw [show t + 1 + (k - (t + 1)) = k by omega] at m
     rw [blkOf_nat]
     constructor
     ·intro hh; omega
     ·intro hh; omega
    ·obtain rfl : t = k := by omega
     rw [ek]
     constructor
     ·intro _; rfl
     ·intro _; omega
  ·have e : cutP l (k + 1) = (cutP l k).modify ((cutP l k).length - 1) fun r => { r with to := (k : Int) + 1 } := by rw [cutP, if_neg (by rw [hb]; simp)]
   have k1 : 1 ≤ k := by
    rcases Nat.eq_zero_or_pos k with z | z
    ·subst z; rw [show begM l ((0 : Nat) : Int) = true from begM_zero l] at hb; cases hb
    ·exact z
   have c2 := c.2 k1
   have ek : blkOf l k = ((cutP l k).length : Int) - 1 := by rw [blkOf_nat, e]; simp
   rw [e] at h ⊢
   rw [List.getElem?_modify] at h
   cases hr : (cutP l k)[j]? with
   | none => rw [hr] at h; simp at h
   | some r0 =>
    rw [hr] at h
    obtain ⟨i1, i2, i3, i4, i5⟩ := ih j r0 hr
    have hjl : j < (cutP l k).length := by
     rcases Nat.lt_or_ge j (cutP l k).length with q | q
     ·exact q
     ·rw [List.getElem?_eq_none q] at hr; cases hr
    by_cases q : (cutP l k).length - 1 = j
    ·simp [q] at h
     subst h
     have i5 := i5 (by omega)
     refine ⟨fun t ht => ?_, by simp; omega, by simp, i4, fun _ => by simp⟩
     simp only []
     rcases Nat.lt_or_ge t k with q2 | q2
     ·rw [← i1 t q2]
      constructor
      ·intro hh; omega
      ·intro hh; omega
     ·obtain rfl : t = k := by omega
      rw [ek]
      constructor
      ·intro _; omega
      ·intro _; omega
    ·simp [q] at h
     subst h
     refine ⟨fun t ht => ?_, i2, by omega, i4, fun hj => by simp at hj; omega⟩
     rcases Nat.lt_or_ge t k with q2 | q2
     ·exact i1 t q2
     ·obtain rfl : t = k := by omega
      rw [ek]
      constructor
      ·intro hh; omega
      ·intro hh; omega
theorem rowsC_get0 : ∀ {rs : List RowS} {j : Nat} {r : RowS}, rs[j]? = some r → (rowsC rs)[j * 3]? = some (.int .i64 r.fr)
 | x :: t, 0, r, h => by simp at h; subst h; simp [rowsC]
 | x :: t, j + 1, r, h => by
  rw [show (j + 1) * 3 = (j * 3) + 1 + 1 + 1 by omega]
  simp only [rowsC, List.getElem?_cons_succ]
  exact rowsC_get0 (by simpa using h)
theorem nextP_fr (l : List InstS) (rs : List RowS) : ∀ (b j : Nat) (r : RowS), (nextP l rs b)[j]? = some r → ∃ r0, rs[j]? = some r0 ∧ r.fr = r0.fr ∧ r.to = r0.to ∧ (j < b → r.nx = nxR l j r0) ∧ (b ≤ j → r.nx = r0.nx)
 | 0, j, r, h => ⟨r, h, rfl, rfl, fun q => absurd q (by omega), fun _ => rfl⟩
 | b + 1, j, r, h => by
  rw [nextP, List.getElem?_modify] at h
  cases e : (nextP l rs b)[j]? with
  | none => rw [e] at h; simp at h
  | some r1 =>
   rw [e] at h
   obtain ⟨r0, h0, h1, h2, h3, h4⟩ := nextP_fr l rs b j r1 e
   by_cases q : b = j
   ·subst q
    simp at h
    subst h
    refine ⟨r0, h0, h1, h2, fun _ => ?_, fun q => absurd q (by omega)⟩
    show nxR l b r1 = nxR l b r0
    unfold nxR
    rw [h2]
   ·simp [q] at h
    subst h
    exact ⟨r0, h0, h1, h2, fun z => h3 (by omega), fun z => h4 (by omega)⟩
end Go.Ev

namespace Go.Ev
open Go
abbrev gotoD (n : Int) : D := irD 5 0 0 0 0 0 0 0 0 0 0 0 n
def cmpM (op : Int) (byReg : Bool) (dst src imm : Int) : List D := takeD 0 dst :: (if byReg = true then [takeD 1 src, two (if op = 10 then 8 else 7) 64 0 1] else [num (if op = 10 then 15 else 14) 64 0 imm])
def jmpM (op : Int) (byReg : Bool) (dst src imm a b : Int) : List D := cmpM op byReg dst src imm ++ [irD 4 29 0 0 0 0 0 0 (toccM op).1 0 0 0 a, gotoD b]
def InstS.steps (x : InstS) : List D := stepsM x.kind x.op x.width x.size x.byReg x.dst x.src x.off x.imm
def insM (x : InstS) (ns : List Int) : List D := if x.kind = 3 then jmpM x.op x.byReg x.dst x.src x.imm (ns.getD 0 0) (ns.getD 1 0) else if x.kind = 4 then [gotoD (ns.getD 0 0)] else x.steps
def accM (l : List InstS) (f : Nat) (ns : List Int) : Nat → List D
  | 0 => []
  | k + 1 => match l[f + k]? with
    | some x => accM l f ns k ++ insM x ns
    | none => accM l f ns k
def tailM (l : List InstS) (r : RowS) : List D := if stopK (kindAt l (r.to.toNat - 1)) = true then [] else [gotoD (r.nx.getD 0 0)]
def rowM (l : List InstS) (r : RowS) : List D := accM l r.fr.toNat r.nx (r.to.toNat - r.fr.toNat) ++ tailM l r
abbrev blkR (l : List InstS) : List RowS := nextP l (cutP l l.length) (cutP l l.length).length
def lowM (l : List InstS) : List D := (blkR l).map fun r => .lst .no 13 (rowM l r)
theorem insM_len (x : InstS) (ns : List Int) : (insM x ns).length ≤ 12 := by
 unfold insM jmpM cmpM
 split
 ·split <;> simp
 ·split
  ·simp
  ·exact steps_len _ _ _ _ _ _ _ _ _
theorem accM_len (l : List InstS) (f : Nat) (ns : List Int) : ∀ k, (accM l f ns k).length ≤ 12 * k
 | 0 => by simp [accM]
 | k + 1 => by
  have ih := accM_len l f ns k
  rw [accM]
  split
  ·rename_i x _
   have := insM_len x ns
   simp only [List.length_append]; omega
  ·omega
theorem insM_ir (x : InstS) (ns : List Int) : AllIr (insM x ns) := by
 unfold insM jmpM cmpM
 split
 ·split <;> (repeat' first | exact allIr_nil | apply allIr_app | apply allIr_cons)
 ·split
  ·exact allIr_cons allIr_nil
  ·exact steps_ir _ _ _ _ _ _ _ _ _
theorem accM_ir (l : List InstS) (f : Nat) (ns : List Int) : ∀ k, AllIr (accM l f ns k)
 | 0 => allIr_nil
 | k + 1 => by
  rw [accM]
  split
  ·exact allIr_app (accM_ir l f ns k) (insM_ir _ _)
  ·exact accM_ir l f ns k
theorem rowM_ir (l : List InstS) (r : RowS) : AllIr (rowM l r) := by
 unfold rowM tailM
 refine allIr_app (accM_ir ..) ?_
 split
 ·exact allIr_nil
 ·exact allIr_cons allIr_nil
theorem rowM_len (l : List InstS) (r : RowS) : (rowM l r).length ≤ 12 * (r.to.toNat - r.fr.toNat) + 1 := by
 have := accM_len l r.fr.toNat r.nx (r.to.toNat - r.fr.toNat)
 unfold rowM tailM
 split <;> simp only [List.length_append, List.length_cons, List.length_nil] <;> omega
structure RowOk (l : List InstS) (b : Nat) (r : RowS) : Prop where
  f0 : 0 ≤ r.fr
  ft : r.fr < r.to
  tl : r.to ≤ l.length
  nx : r.nx = nxR l b r
  mid : ∀ t : Nat, r.fr ≤ t → (t : Int) + 1 < r.to → stopK (kindAt l t) = false
theorem rows_ok {l : List InstS} {b : Nat} {r : RowS} (h : (blkR l)[b]? = some r) : RowOk l b r := by
 obtain ⟨r0, h0, h1, h2, h3, h4⟩ := nextP_fr l _ _ b r h
 have hb : b < (cutP l l.length).length := by
  rcases Nat.lt_or_ge b (cutP l l.length).length with q | q
  ·exact q
  ·rw [List.getElem?_eq_none q] at h0; cases h0
 obtain ⟨i1, i2, i3, i4, i5⟩ := cutP_in l l.length b r0 h0
 refine ⟨by omega, by omega, by omega, ?_, fun t t1 t2 => ?_⟩
 ·rw [h3 hb]
  unfold nxR
  rw [h2]
 ·rw [Bool.eq_false_iff]
  intro hs
  have a1 := (i1 t (by omega)).1 ⟨by omega, by omega⟩
  have a2 := (i1 (t + 1) (by omega)).1 ⟨by push_cast; omega, by push_cast; omega⟩
  have hbg : begM l ((t + 1 : Nat) : Int) = true := by
   unfold begM
   rw [begU_iff]
   refine .inr ⟨t, by omega, ?_⟩
   unfold kindAt at hs
   unfold begS
   have hlt : t < l.length := by omega
   rw [List.getElem?_eq_getElem hlt] at hs ⊢
   simp only at hs ⊢
   rw [hs]
   simp
  have e : cutP l (t + 1 + 1) = cutP l (t + 1) ++ [⟨(t + 1 : Nat), ((t + 1 : Nat) : Int) + 1, []⟩] := by rw [cutP, if_pos hbg]
  rw [blkOf_nat] at a1 a2
  rw [e] at a2
  simp only [List.length_append, List.length_cons, List.length_nil] at a2
  omega
theorem row_last {l : List InstS} {b : Nat} {r : RowS} (h : RowOk l b r) {t : Nat} (h1 : r.fr ≤ t) (h2 : (t : Int) < r.to) (hs : stopK (kindAt l t) = true) : (t : Int) + 1 = r.to := by
 rcases Int.lt_trichotomy ((t : Int) + 1) r.to with q | q | q
 ·rw [h.mid t h1 q] at hs; cases hs
 ·exact q
 ·omega
theorem row_nx {l : List InstS} {b : Nat} {r : RowS} (h : RowOk l b r) {t : Nat} (ht : (t : Int) + 1 = r.to) (hlt : t < l.length) : r.nx = nxK l b t l[t] := by
 rw [h.nx]
 unfold nxR
 rw [show (r.to - 1).toNat = t by omega, List.getElem?_eq_getElem hlt]
theorem row_jump {l : List InstS} (hp : OkP l) {b : Nat} {r : RowS} (h : RowOk l b r) {t : Nat} (h1 : r.fr ≤ t) (h2 : (t : Int) < r.to) (hlt : t < l.length) (hk : l[t].kind = 3) : r.nx = [blkOf l (tgt1 t l[t].kind l[t].off), (b : Int) + 1] := by
 have h64 := hp.le
 have hK : kindAt l t = 3 := by unfold kindAt; rw [List.getElem?_eq_getElem hlt]; exact hk
 rw [row_nx h (row_last h h1 h2 (by rw [hK]; rfl)) hlt]
 unfold nxK
 have t2 := tgt2_may (hp.may t hlt) (k := t) (by omega)
 rw [hk] at t2 ⊢
 rw [if_pos (by rw [t2]; rfl), if_neg (by omega)]
 rfl
theorem row_goto {l : List InstS} (hp : OkP l) {b : Nat} {r : RowS} (h : RowOk l b r) {t : Nat} (h1 : r.fr ≤ t) (h2 : (t : Int) < r.to) (hlt : t < l.length) (hk : l[t].kind = 4) : r.nx = [blkOf l (tgt1 t l[t].kind l[t].off)] := by
 have h64 := hp.le
 have hK : kindAt l t = 4 := by unfold kindAt; rw [List.getElem?_eq_getElem hlt]; exact hk
 rw [row_nx h (row_last h h1 h2 (by rw [hK]; rfl)) hlt]
 unfold nxK
 have t2 := tgt2_may (hp.may t hlt) (k := t) (by omega)
 rw [hk] at t2 ⊢
 rw [if_pos (by rw [t2]; rfl), if_pos (by omega)]
 rfl
theorem row_else {l : List InstS} (hp : OkP l) {b : Nat} {r : RowS} (h : RowOk l b r) {t : Nat} (ht : (t : Int) + 1 = r.to) (hlt : t < l.length) (h3 : ¬ l[t].kind = 3) (h4 : ¬ l[t].kind = 4) (h6 : ¬ l[t].kind = 6) : r.nx = [(b : Int) + 1] := by
 have h64 := hp.le
 rw [row_nx h ht hlt]
 unfold nxK
 have t2 := tgt2_may (hp.may t hlt) (k := t) (by omega)
 rw [if_neg (by rw [t2]; simp [h3, h4]), if_neg (by omega)]
 rfl
theorem row_exit {l : List InstS} (hp : OkP l) {b : Nat} {r : RowS} (h : RowOk l b r) {t : Nat} (ht : (t : Int) + 1 = r.to) (hlt : t < l.length) (h6 : l[t].kind = 6) : r.nx = [] := by
 have h64 := hp.le
 rw [row_nx h ht hlt]
 unfold nxK
 have t2 := tgt2_may (hp.may t hlt) (k := t) (by omega)
 rw [h6] at t2 ⊢
 rw [if_neg (by rw [t2]; simp), if_pos (by omega)]
 rfl
theorem accM_succ (l : List InstS) (f : Nat) (ns : List Int) (k : Nat) (h : f + k < l.length) : accM l f ns (k + 1) = accM l f ns k ++ insM l[f + k] ns := by
 rw [accM, List.getElem?_eq_getElem h]
def onesM (x : InstS) : Int := if x.kind = 3 then (if x.byReg = true then 5 else 4) else if x.kind = 4 then 1 else (x.steps.length : Int)
def mostU (l : List InstS) : Nat → Int
  | 0 => 0
  | k + 1 => match l[k]? with
    | some x => if mostU l k < onesM x then onesM x else mostU l k
    | none => mostU l k
theorem onesM_le (x : InstS) : 0 ≤ onesM x ∧ onesM x ≤ 12 := by
 have := steps_len x.kind x.op x.width x.size x.byReg x.dst x.src x.off x.imm
 unfold onesM InstS.steps
 split
 ·split <;> omega
 ·split <;> omega
theorem mostU_le (l : List InstS) : ∀ k, 0 ≤ mostU l k ∧ mostU l k ≤ 12
 | 0 => by simp [mostU]
 | k + 1 => by
  have ih := mostU_le l k
  rw [mostU]
  split
  ·rename_i x _
   have := onesM_le x
   split <;> omega
  ·exact ih
end Go.Ev

namespace Go.Proofs.Ytcngafhpodeenaa
open Go Go.Ev
set_option maxRecDepth 100000
set_option maxHeartbeats 8000000
theorem jump_rc_ok (kind op width size : Int) (dst src off imm : Int) (o0 : 0 ≤ op) (o1 : op ≤ 10) (hs : (op == 10) = false) (a b : Int)  : Ret Try.prog 35 ([instD kind op width size true dst src off imm, .lst .no 1 [.int .i64 a, .int .i64 b]]) (.lst .no 13 (jmpM op true dst src imm a b)) := by
 have c0 := @l_take_ok ((0 : Int)) (dst)
 have c1 := @l_num_ok ((14 : Int)) ((64 : Int)) ((0 : Int)) (imm)
 have c2 := @l_steps_ok ([(irD 1 0 0 0 0 0 0 0 0 dst 0 0 0), (irD 0 14 64 0 0 0 0 imm 0 0 0 0 0)])
 have c3 := @l_take_ok ((1 : Int)) (src)
 have c4 := @l_two_ok ((7 : Int)) ((64 : Int)) ((0 : Int)) ((1 : Int))
 have c5 := @l_steps_ok ([(irD 1 0 0 0 0 0 0 0 0 dst 0 0 0), (irD 1 0 0 0 0 0 0 0 0 src 1 0 0), (irD 0 7 64 0 1 0 0 0 0 0 0 0 0)])
 have c6 := @tocc_in_ok (op) o0 o1
 have c7 := @l_goes_ok (b)
 exact (Ret.of_eval (d := .lst (.fresh 13) 13 [(irD 1 0 0 0 0 0 0 0 0 dst 0 0 0), (irD 1 0 0 0 0 0 0 0 0 src 1 0 0), (irD 0 7 64 0 1 0 0 0 0 0 0 0 0), (irD 4 29 0 0 0 0 0 0 (Prod.fst (toccM op)) 0 0 0 a), (irD 5 0 0 0 0 0 0 0 0 0 0 0 b)]) mixed Try.func35 (by kernel_rfl) [tC hs, .ret _ _ _ c0, .ret _ _ _ c1, .ret _ _ _ c2, tT, .get ([(irD 1 0 0 0 0 0 0 0 0 dst 0 0 0), (irD 0 14 64 0 0 0 0 imm 0 0 0 0 0)]) 0 ((irD 1 0 0 0 0 0 0 0 0 dst 0 0 0)) rfl, .ret _ _ _ c3, .ret _ _ _ c4, .ret _ _ _ c5, .ret _ _ _ c6, .get ([.int .i64 a, .int .i64 b]) 0 (.int .i64 a) rfl, .get ([.int .i64 a, .int .i64 b]) 1 (.int .i64 b) rfl, .ret _ _ _ c7, .len ((5 : Nat)) ((2147483648 : Nat)) (by first | decide | omega | (simp; omega))] (by kernel_rfl)).to (by simp only [beq_iff_eq, beq_eq_false_iff_ne] at hs; simp [wk, wkL, wkO, jmpM, cmpM, hs])
theorem rcmp_rc_ok (kind op width size : Int) (dst src off imm : Int) (o0 : 0 ≤ op) (o1 : op ≤ 10) (hs : (op == 10) = false)  : Ret Try.prog 39 ([instD kind op width size true dst src off imm]) (.lst .no 13 (cmpM op true dst src imm)) := by
 have c0 := @r_take_ok ((0 : Int)) (dst)
 have c1 := @r_take_ok ((1 : Int)) (src)
 have c2 := @r_two_ok ((7 : Int)) ((64 : Int)) ((0 : Int)) ((1 : Int))
 exact (Ret.of_eval (d := .lst (.fresh 13) 13 [(irD 1 0 0 0 0 0 0 0 0 dst 0 0 0), (irD 1 0 0 0 0 0 0 0 0 src 1 0 0), (irD 0 7 64 0 1 0 0 0 0 0 0 0 0)]) mixed Try.func39 (by kernel_rfl) [.ret _ _ _ c0, tT, tT, tT, tT, tC hs, tT, .ret _ _ _ c1, .ret _ _ _ c2, .len ((3 : Nat)) ((2147483648 : Nat)) (by first | decide | omega | (simp; omega))] (by kernel_rfl)).to (by simp only [beq_iff_eq, beq_eq_false_iff_ne] at hs; simp [wk, wkL, wkO, cmpM, hs])
theorem jump_rs_ok (kind op width size : Int) (dst src off imm : Int) (o0 : 0 ≤ op) (o1 : op ≤ 10) (hs : (op == 10) = true) (a b : Int)  : Ret Try.prog 35 ([instD kind op width size true dst src off imm, .lst .no 1 [.int .i64 a, .int .i64 b]]) (.lst .no 13 (jmpM op true dst src imm a b)) := by
 have c0 := @l_take_ok ((0 : Int)) (dst)
 have c1 := @l_num_ok ((15 : Int)) ((64 : Int)) ((0 : Int)) (imm)
 have c2 := @l_steps_ok ([(irD 1 0 0 0 0 0 0 0 0 dst 0 0 0), (irD 0 15 64 0 0 0 0 imm 0 0 0 0 0)])
 have c3 := @l_take_ok ((1 : Int)) (src)
 have c4 := @l_two_ok ((8 : Int)) ((64 : Int)) ((0 : Int)) ((1 : Int))
 have c5 := @l_steps_ok ([(irD 1 0 0 0 0 0 0 0 0 dst 0 0 0), (irD 1 0 0 0 0 0 0 0 0 src 1 0 0), (irD 0 8 64 0 1 0 0 0 0 0 0 0 0)])
 have c6 := @tocc_in_ok (op) o0 o1
 have c7 := @l_goes_ok (b)
 exact (Ret.of_eval (d := .lst (.fresh 13) 13 [(irD 1 0 0 0 0 0 0 0 0 dst 0 0 0), (irD 1 0 0 0 0 0 0 0 0 src 1 0 0), (irD 0 8 64 0 1 0 0 0 0 0 0 0 0), (irD 4 29 0 0 0 0 0 0 (Prod.fst (toccM op)) 0 0 0 a), (irD 5 0 0 0 0 0 0 0 0 0 0 0 b)]) mixed Try.func35 (by kernel_rfl) [tC (eqI 10 true (eq_of_beq hs)), .ret _ _ _ c0, .ret _ _ _ c1, .ret _ _ _ c2, tT, .get ([(irD 1 0 0 0 0 0 0 0 0 dst 0 0 0), (irD 0 15 64 0 0 0 0 imm 0 0 0 0 0)]) 0 ((irD 1 0 0 0 0 0 0 0 0 dst 0 0 0)) rfl, .ret _ _ _ c3, .ret _ _ _ c4, .ret _ _ _ c5, .ret _ _ _ c6, .get ([.int .i64 a, .int .i64 b]) 0 (.int .i64 a) rfl, .get ([.int .i64 a, .int .i64 b]) 1 (.int .i64 b) rfl, .ret _ _ _ c7, .len ((5 : Nat)) ((2147483648 : Nat)) (by first | decide | omega | (simp; omega))] (by kernel_rfl)).to (by simp only [beq_iff_eq, beq_eq_false_iff_ne] at hs; simp [wk, wkL, wkO, jmpM, cmpM, hs])
theorem rcmp_rs_ok (kind op width size : Int) (dst src off imm : Int) (o0 : 0 ≤ op) (o1 : op ≤ 10) (hs : (op == 10) = true)  : Ret Try.prog 39 ([instD kind op width size true dst src off imm]) (.lst .no 13 (cmpM op true dst src imm)) := by
 have c0 := @r_take_ok ((0 : Int)) (dst)
 have c1 := @r_take_ok ((1 : Int)) (src)
 have c2 := @r_two_ok ((8 : Int)) ((64 : Int)) ((0 : Int)) ((1 : Int))
 exact (Ret.of_eval (d := .lst (.fresh 13) 13 [(irD 1 0 0 0 0 0 0 0 0 dst 0 0 0), (irD 1 0 0 0 0 0 0 0 0 src 1 0 0), (irD 0 8 64 0 1 0 0 0 0 0 0 0 0)]) mixed Try.func39 (by kernel_rfl) [.ret _ _ _ c0, tT, tT, tT, tT, tC (eqI 10 true (eq_of_beq hs)), .ret _ _ _ c1, .ret _ _ _ c2, .len ((3 : Nat)) ((2147483648 : Nat)) (by first | decide | omega | (simp; omega))] (by kernel_rfl)).to (by simp only [beq_iff_eq, beq_eq_false_iff_ne] at hs; simp [wk, wkL, wkO, cmpM, hs])
theorem jump_ic_ok (kind op width size : Int) (dst src off imm : Int) (o0 : 0 ≤ op) (o1 : op ≤ 10) (hs : (op == 10) = false) (a b : Int)  : Ret Try.prog 35 ([instD kind op width size false dst src off imm, .lst .no 1 [.int .i64 a, .int .i64 b]]) (.lst .no 13 (jmpM op false dst src imm a b)) := by
 have c0 := @l_take_ok ((0 : Int)) (dst)
 have c1 := @l_num_ok ((14 : Int)) ((64 : Int)) ((0 : Int)) (imm)
 have c2 := @l_steps_ok ([(irD 1 0 0 0 0 0 0 0 0 dst 0 0 0), (irD 0 14 64 0 0 0 0 imm 0 0 0 0 0)])
 have c3 := @tocc_in_ok (op) o0 o1
 have c4 := @l_goes_ok (b)
 exact (Ret.of_eval (d := .lst (.fresh 13) 13 [(irD 1 0 0 0 0 0 0 0 0 dst 0 0 0), (irD 0 14 64 0 0 0 0 imm 0 0 0 0 0), (irD 4 29 0 0 0 0 0 0 (Prod.fst (toccM op)) 0 0 0 a), (irD 5 0 0 0 0 0 0 0 0 0 0 0 b)]) mixed Try.func35 (by kernel_rfl) [tC hs, .ret _ _ _ c0, .ret _ _ _ c1, .ret _ _ _ c2, tF, .ret _ _ _ c3, .get ([.int .i64 a, .int .i64 b]) 0 (.int .i64 a) rfl, .get ([.int .i64 a, .int .i64 b]) 1 (.int .i64 b) rfl, .ret _ _ _ c4, .len ((4 : Nat)) ((2147483648 : Nat)) (by first | decide | omega | (simp; omega))] (by kernel_rfl)).to (by simp only [beq_iff_eq, beq_eq_false_iff_ne] at hs; simp [wk, wkL, wkO, jmpM, cmpM, hs])
theorem rcmp_ic_ok (kind op width size : Int) (dst src off imm : Int) (o0 : 0 ≤ op) (o1 : op ≤ 10) (hs : (op == 10) = false)  : Ret Try.prog 39 ([instD kind op width size false dst src off imm]) (.lst .no 13 (cmpM op false dst src imm)) := by
 have c0 := @r_take_ok ((0 : Int)) (dst)
 have c1 := @r_imm_ok ((14 : Int)) ((64 : Int)) ((0 : Int)) (imm)
 exact (Ret.of_eval (d := .lst (.fresh 13) 13 [(irD 1 0 0 0 0 0 0 0 0 dst 0 0 0), (irD 0 14 64 0 0 0 0 imm 0 0 0 0 0)]) mixed Try.func39 (by kernel_rfl) [.ret _ _ _ c0, tF, tF, tF, tF, tF, tF, tC hs, .ret _ _ _ c1, .len ((2 : Nat)) ((2147483648 : Nat)) (by first | decide | omega | (simp; omega))] (by kernel_rfl)).to (by simp only [beq_iff_eq, beq_eq_false_iff_ne] at hs; simp [wk, wkL, wkO, cmpM, hs])
theorem jump_is_ok (kind op width size : Int) (dst src off imm : Int) (o0 : 0 ≤ op) (o1 : op ≤ 10) (hs : (op == 10) = true) (a b : Int)  : Ret Try.prog 35 ([instD kind op width size false dst src off imm, .lst .no 1 [.int .i64 a, .int .i64 b]]) (.lst .no 13 (jmpM op false dst src imm a b)) := by
 have c0 := @l_take_ok ((0 : Int)) (dst)
 have c1 := @l_num_ok ((15 : Int)) ((64 : Int)) ((0 : Int)) (imm)
 have c2 := @l_steps_ok ([(irD 1 0 0 0 0 0 0 0 0 dst 0 0 0), (irD 0 15 64 0 0 0 0 imm 0 0 0 0 0)])
 have c3 := @tocc_in_ok (op) o0 o1
 have c4 := @l_goes_ok (b)
 exact (Ret.of_eval (d := .lst (.fresh 13) 13 [(irD 1 0 0 0 0 0 0 0 0 dst 0 0 0), (irD 0 15 64 0 0 0 0 imm 0 0 0 0 0), (irD 4 29 0 0 0 0 0 0 (Prod.fst (toccM op)) 0 0 0 a), (irD 5 0 0 0 0 0 0 0 0 0 0 0 b)]) mixed Try.func35 (by kernel_rfl) [tC (eqI 10 true (eq_of_beq hs)), .ret _ _ _ c0, .ret _ _ _ c1, .ret _ _ _ c2, tF, .ret _ _ _ c3, .get ([.int .i64 a, .int .i64 b]) 0 (.int .i64 a) rfl, .get ([.int .i64 a, .int .i64 b]) 1 (.int .i64 b) rfl, .ret _ _ _ c4, .len ((4 : Nat)) ((2147483648 : Nat)) (by first | decide | omega | (simp; omega))] (by kernel_rfl)).to (by simp only [beq_iff_eq, beq_eq_false_iff_ne] at hs; simp [wk, wkL, wkO, jmpM, cmpM, hs])
theorem rcmp_is_ok (kind op width size : Int) (dst src off imm : Int) (o0 : 0 ≤ op) (o1 : op ≤ 10) (hs : (op == 10) = true)  : Ret Try.prog 39 ([instD kind op width size false dst src off imm]) (.lst .no 13 (cmpM op false dst src imm)) := by
 have c0 := @r_take_ok ((0 : Int)) (dst)
 have c1 := @r_imm_ok ((15 : Int)) ((64 : Int)) ((0 : Int)) (imm)
 exact (Ret.of_eval (d := .lst (.fresh 13) 13 [(irD 1 0 0 0 0 0 0 0 0 dst 0 0 0), (irD 0 15 64 0 0 0 0 imm 0 0 0 0 0)]) mixed Try.func39 (by kernel_rfl) [.ret _ _ _ c0, tF, tF, tF, tF, tF, tF, tC (eqI 10 true (eq_of_beq hs)), .ret _ _ _ c1, .len ((2 : Nat)) ((2147483648 : Nat)) (by first | decide | omega | (simp; omega))] (by kernel_rfl)).to (by simp only [beq_iff_eq, beq_eq_false_iff_ne] at hs; simp [wk, wkL, wkO, cmpM, hs])
end Go.Proofs.Ytcngafhpodeenaa

namespace Go.Proofs.Ytcngafhpodeenaa
open Go Go.Ev
set_option maxRecDepth 100000
set_option maxHeartbeats 8000000
theorem within64_ok (n a b : Int) : Ret Try.prog 93 ([.int .i64 n, .int .i64 a, .int .i64 b]) (.bool (decide (a ≤ n) && decide (n ≤ b))) := by
 rcases bft (decide (n ≥ a)) with h0 | h0
 ·exact (o93 (d := .bool (decide (n ≤ b))) [tC (eT h0), tC (eT h0), tC (eT h0), tC h0] (by kernel_rfl)).to (by (try simp only [sl0, wk, wkL, wkO, eqCells, eqCell] at *); simp [wk, wkL, wkO, eqCells, eqCell, *]; done)
 exact (o93 (d := .bool false) [tC (eT h0), tC (eT h0), tC (eT h0), tC h0] (by kernel_rfl)).to (by (try simp only [sl0, wk, wkL, wkO, eqCells, eqCell] at *); simp [wk, wkL, wkO, eqCells, eqCell, *]; done)
theorem instrMay_ok (kind op width size : Int) (byReg : Bool) (dst src off imm : Int) : Ret Try.prog 75 ([instD kind op width size byReg dst src off imm]) (.bool (mayM kind op width size byReg dst src off imm)) := by
 let E1 : EL := [.inl]
 rcases bft (decide (dst < 0)) with h0 | h0
 ·exact (o75 (d := .bool false) (E1 ++ List.replicate 3 (tC (eT (leL 0 h0))) ++ [tC (leL 0 h0), tF, tF, tF, tF, tT, tF, tF, tF, tF, tT, tF, tF, tF, tF, tT, tT]) (by kernel_rfl)).to (by clear E1; (try simp only [sl0, wk, wkL, wkO, eqCells, eqCell, mayM, mayRange, mayKind, sizedM] at *); simp [wk, wkL, wkO, eqCells, eqCell, mayM, mayRange, mayKind, sizedM, *]; omega)
 let E2 : EL := E1 ++ List.replicate 3 (tC (eT (leL 0 h0))) ++ [tC (leL 0 h0)]
 rcases bft (decide (dst < 11)) with h1 | h1
 ·let E3 : EL := E2 ++ List.replicate 3 (tC (eF (nt (leC 10 h1)))) ++ [.inl]
  rcases bft (decide (src < 0)) with h2 | h2
  ·exact (o75 (d := .bool false) (E3 ++ List.replicate 3 (tC (eT (leL 0 h2))) ++ [tC (leL 0 h2), tC (eF (nt (leC 10 h1))), tC (nt (leC 10 h1)), tF, tF, tF, tF, tT, tF, tF, tF, tF, tT, tT]) (by kernel_rfl)).to (by clear E1 E2 E3; (try simp only [sl0, wk, wkL, wkO, eqCells, eqCell, mayM, mayRange, mayKind, sizedM] at *); simp [wk, wkL, wkO, eqCells, eqCell, mayM, mayRange, mayKind, sizedM, *]; omega)
  let E4 : EL := E3 ++ List.replicate 3 (tC (eT (leL 0 h2))) ++ [tC (leL 0 h2), tC (eF (nt (leC 10 h1))), tC (nt (leC 10 h1))]
  rcases bft (decide (src < 11)) with h3 | h3
  ·let E5 : EL := E4 ++ List.replicate 3 (tC (eF (nt (leC 10 h3)))) ++ [.inl]
   rcases bft (decide (off < (-32768))) with h4 | h4
   ·exact (o75 (d := .bool false) (E5 ++ List.replicate 3 (tC (eT (leL (-32768) h4))) ++ [tC (leL (-32768) h4), tC (eF (nt (leC 10 h3))), tC (nt (leC 10 h3)), tF, tF, tF, tF, tT, tT]) (by kernel_rfl)).to (by clear E1 E2 E3 E4 E5; (try simp only [sl0, wk, wkL, wkO, eqCells, eqCell, mayM, mayRange, mayKind, sizedM] at *); simp [wk, wkL, wkO, eqCells, eqCell, mayM, mayRange, mayKind, sizedM, *]; omega)
   let E6 : EL := E5 ++ List.replicate 3 (tC (eT (leL (-32768) h4))) ++ [tC (leL (-32768) h4), tC (eF (nt (leC 10 h3))), tC (nt (leC 10 h3))]
   rcases bft (decide (off < 32768)) with h5 | h5
   ·let E7 : EL := E6 ++ List.replicate 3 (tC (eF (nt (leC 32767 h5)))) ++ [.inl]
    rcases bft (decide (imm < (-2147483648))) with h6 | h6
    ·exact (o75 (d := .bool false) (E7 ++ List.replicate 3 (tC (eT (leL (-2147483648) h6))) ++ [tC (leL (-2147483648) h6), tC (eF (nt (leC 32767 h5))), tC (nt (leC 32767 h5)), tT]) (by kernel_rfl)).to (by clear E1 E2 E3 E4 E5 E6 E7; (try simp only [sl0, wk, wkL, wkO, eqCells, eqCell, mayM, mayRange, mayKind, sizedM] at *); simp [wk, wkL, wkO, eqCells, eqCell, mayM, mayRange, mayKind, sizedM, *]; omega)
    let E8 : EL := E7 ++ List.replicate 3 (tC (eT (leL (-2147483648) h6))) ++ [tC (leL (-2147483648) h6), tC (eF (nt (leC 32767 h5))), tC (nt (leC 32767 h5))]
    rcases bft (decide (imm < 2147483648)) with h7 | h7
    ·let E9 : EL := E8 ++ [tC (nt (leC 2147483647 h7)), .inl]
     by_cases h8 : kind = 0
     ·subst h8
      let E10 : EL := E9 ++ [tT, .inl]
      rcases bft (decide (op < 0)) with h9 | h9
      ·let E11 : EL := E10 ++ List.replicate 3 (tC (eT (leL 0 h9))) ++ [tC (leL 0 h9)] ++ List.replicate 16 tF ++ [.inl]
       cases byReg
       ·exact (o75 (d := .bool false) (E11 ++ [tF, tF, tF, tF, tF, tF, tF]) (by kernel_rfl)).to (by clear E1 E2 E3 E4 E5 E6 E7 E8 E9 E10 E11; (try simp only [sl0, wk, wkL, wkO, eqCells, eqCell, mayM, mayRange, mayKind, sizedM] at *); simp [wk, wkL, wkO, eqCells, eqCell, mayM, mayRange, mayKind, sizedM, *]; omega)
       exact (o75 (d := .bool false) (E11 ++ [tT, tF, tF, tF, tF, tF, tF]) (by kernel_rfl)).to (by clear E1 E2 E3 E4 E5 E6 E7 E8 E9 E10 E11; (try simp only [sl0, wk, wkL, wkO, eqCells, eqCell, mayM, mayRange, mayKind, sizedM] at *); simp [wk, wkL, wkO, eqCells, eqCell, mayM, mayRange, mayKind, sizedM, *]; omega)
      let E12 : EL := E10 ++ List.replicate 3 (tC (eT (leL 0 h9))) ++ [tC (leL 0 h9)]
      rcases bft (decide (op < 13)) with h10 | h10
      ·let E13 : EL := E12 ++ List.replicate 4 (tC (eT (leC 12 h10)))
       by_cases h11 : width = 32
       ·subst h11
        let E14 : EL := E13 ++ [tF, tF, tF, tC (eT (leC 12 h10)), tT, tC (leC 12 h10), tT, tT, tT, tT]
        rcases bft (decide (dst < 10)) with h12 | h12
        ·let E15 : EL := E14 ++ List.replicate 4 (tC (eT h12))
         by_cases h13 : op = 8
         ·subst h13
          cases byReg
          ·by_cases h14 : imm = 0
           ·subst h14
            exact (o75 (d := .bool (eqCells [.int .i8 0, .int .i8 0, .int .i8 0, .int .i8 size, .bool false, .int .i8 0, .int .i8 src, .int .i64 off, .int .i64 0] [.int .i8 0, .int .i8 0, .int .i8 0, .int .i8 0, .bool false, .int .i8 0, .int .i8 0, .int .i64 0, .int .i64 0])) (E15 ++ List.replicate 9 tT ++ [tC (eT h12), tF, tC h12, .inl, tF, tT, tT, tT, tT, tT, .flat _ _ flat_Instr, tT]) (by kernel_rfl)).to (by clear E1 E2 E3 E4 E5 E6 E7 E8 E9 E10 E12 E13 E14 E15; (try simp only [sl0, wk, wkL, wkO, eqCells, eqCell, mayM, mayRange, mayKind, sizedM] at *); rw [Bool.eq_iff_iff]; simp [wk, wkL, wkO, eqCells, eqCell, mayM, mayRange, mayKind, sizedM, *]; omega)
           exact (o75 (d := .bool false) (E15 ++ List.replicate 9 tT ++ [tC (eT h12), tF, tC h12, .inl, tF] ++ List.replicate 5 (tC (eT (neOf h14))) ++ [tC (neOf h14)]) (by kernel_rfl)).to (by clear E1 E2 E3 E4 E5 E6 E7 E8 E9 E10 E12 E13 E14 E15; (try simp only [sl0, wk, wkL, wkO, eqCells, eqCell, mayM, mayRange, mayKind, sizedM] at *); simp [wk, wkL, wkO, eqCells, eqCell, mayM, mayRange, mayKind, sizedM, *]; done)
          exact (o75 (d := .bool false) (E15 ++ [tT, tT, tT, tT, tF, tF, tF, tT, tF, tC (eT h12), tF, tC h12, .inl, tT, tF, tF, tF, tF, tF, tF]) (by kernel_rfl)).to (by clear E1 E2 E3 E4 E5 E6 E7 E8 E9 E10 E12 E13 E14 E15; (try simp only [sl0, wk, wkL, wkO, eqCells, eqCell, mayM, mayRange, mayKind, sizedM] at *); simp [wk, wkL, wkO, eqCells, eqCell, mayM, mayRange, mayKind, sizedM, *]; done)
         let E16 : EL := E15 ++ List.replicate 5 (tC (eF (nt (neOf h13)))) ++ [tC (eT h12), tC (nt (neOf h13)), tC h12, .inl]
         cases byReg
         ·exact (o75 (d := .bool (eqCells [.int .i8 0, .int .i8 0, .int .i8 0, .int .i8 size, .bool false, .int .i8 0, .int .i8 src, .int .i64 off, .int .i64 0] [.int .i8 0, .int .i8 0, .int .i8 0, .int .i8 0, .bool false, .int .i8 0, .int .i8 0, .int .i64 0, .int .i64 0])) (E16 ++ [tF, tT, tT, tT, tT, tT, .flat _ _ flat_Instr, tT]) (by kernel_rfl)).to (by clear E1 E2 E3 E4 E5 E6 E7 E8 E9 E10 E12 E13 E14 E15 E16; (try simp only [sl0, wk, wkL, wkO, eqCells, eqCell, mayM, mayRange, mayKind, sizedM] at *); rw [Bool.eq_iff_iff]; simp [wk, wkL, wkO, eqCells, eqCell, mayM, mayRange, mayKind, sizedM, *]; omega)
         exact (o75 (d := .bool (eqCells [.int .i8 0, .int .i8 0, .int .i8 0, .int .i8 size, .bool false, .int .i8 0, .int .i8 0, .int .i64 off, .int .i64 imm] [.int .i8 0, .int .i8 0, .int .i8 0, .int .i8 0, .bool false, .int .i8 0, .int .i8 0, .int .i64 0, .int .i64 0])) (E16 ++ [tT, tT, tT, tT, tT, tT, .flat _ _ flat_Instr, tT]) (by kernel_rfl)).to (by clear E1 E2 E3 E4 E5 E6 E7 E8 E9 E10 E12 E13 E14 E15 E16; (try simp only [sl0, wk, wkL, wkO, eqCells, eqCell, mayM, mayRange, mayKind, sizedM] at *); rw [Bool.eq_iff_iff]; simp [wk, wkL, wkO, eqCells, eqCell, mayM, mayRange, mayKind, sizedM, *]; omega)
        cases byReg
        ·exact (o75 (d := .bool false) (E14 ++ List.replicate 5 (tC (eT h12)) ++ [tC h12, .inl, tF, tF, tF, tF, tF, tF, tF]) (by kernel_rfl)).to (by clear E1 E2 E3 E4 E5 E6 E7 E8 E9 E10 E12 E13 E14; (try simp only [sl0, wk, wkL, wkO, eqCells, eqCell, mayM, mayRange, mayKind, sizedM] at *); simp [wk, wkL, wkO, eqCells, eqCell, mayM, mayRange, mayKind, sizedM, *]; done)
        exact (o75 (d := .bool false) (E14 ++ List.replicate 5 (tC (eT h12)) ++ [tC h12, .inl, tT, tF, tF, tF, tF, tF, tF]) (by kernel_rfl)).to (by clear E1 E2 E3 E4 E5 E6 E7 E8 E9 E10 E12 E13 E14; (try simp only [sl0, wk, wkL, wkO, eqCells, eqCell, mayM, mayRange, mayKind, sizedM] at *); simp [wk, wkL, wkO, eqCells, eqCell, mayM, mayRange, mayKind, sizedM, *]; done)
       let E17 : EL := E13 ++ List.replicate 3 (tC (eF (neOf h11))) ++ [tC (eT (leC 12 h10)), tC (neOf h11), tC (leC 12 h10)]
       by_cases h15 : width = 64
       ·subst h15
        let E18 : EL := E17 ++ [tT, tT, tT, tT]
        rcases bft (decide (dst < 10)) with h16 | h16
        ·let E19 : EL := E18 ++ List.replicate 4 (tC (eT h16))
         by_cases h17 : op = 8
         ·subst h17
          cases byReg
          ·by_cases h18 : imm = 0
           ·subst h18
            exact (o75 (d := .bool (eqCells [.int .i8 0, .int .i8 0, .int .i8 0, .int .i8 size, .bool false, .int .i8 0, .int .i8 src, .int .i64 off, .int .i64 0] [.int .i8 0, .int .i8 0, .int .i8 0, .int .i8 0, .bool false, .int .i8 0, .int .i8 0, .int .i64 0, .int .i64 0])) (E19 ++ List.replicate 9 tT ++ [tC (eT h16), tF, tC h16, .inl, tF, tT, tT, tT, tT, tT, .flat _ _ flat_Instr, tT]) (by kernel_rfl)).to (by clear E1 E2 E3 E4 E5 E6 E7 E8 E9 E10 E12 E13 E17 E18 E19; (try simp only [sl0, wk, wkL, wkO, eqCells, eqCell, mayM, mayRange, mayKind, sizedM] at *); rw [Bool.eq_iff_iff]; simp [wk, wkL, wkO, eqCells, eqCell, mayM, mayRange, mayKind, sizedM, *]; omega)
           exact (o75 (d := .bool false) (E19 ++ List.replicate 9 tT ++ [tC (eT h16), tF, tC h16, .inl, tF] ++ List.replicate 5 (tC (eT (neOf h18))) ++ [tC (neOf h18)]) (by kernel_rfl)).to (by clear E1 E2 E3 E4 E5 E6 E7 E8 E9 E10 E12 E13 E17 E18 E19; (try simp only [sl0, wk, wkL, wkO, eqCells, eqCell, mayM, mayRange, mayKind, sizedM] at *); simp [wk, wkL, wkO, eqCells, eqCell, mayM, mayRange, mayKind, sizedM, *]; done)
          exact (o75 (d := .bool false) (E19 ++ [tT, tT, tT, tT, tF, tF, tF, tT, tF, tC (eT h16), tF, tC h16, .inl, tT, tF, tF, tF, tF, tF, tF]) (by kernel_rfl)).to (by clear E1 E2 E3 E4 E5 E6 E7 E8 E9 E10 E12 E13 E17 E18 E19; (try simp only [sl0, wk, wkL, wkO, eqCells, eqCell, mayM, mayRange, mayKind, sizedM] at *); simp [wk, wkL, wkO, eqCells, eqCell, mayM, mayRange, mayKind, sizedM, *]; done)
         let E20 : EL := E19 ++ List.replicate 5 (tC (eF (nt (neOf h17)))) ++ [tC (eT h16), tC (nt (neOf h17)), tC h16, .inl]
         cases byReg
         ·exact (o75 (d := .bool (eqCells [.int .i8 0, .int .i8 0, .int .i8 0, .int .i8 size, .bool false, .int .i8 0, .int .i8 src, .int .i64 off, .int .i64 0] [.int .i8 0, .int .i8 0, .int .i8 0, .int .i8 0, .bool false, .int .i8 0, .int .i8 0, .int .i64 0, .int .i64 0])) (E20 ++ [tF, tT, tT, tT, tT, tT, .flat _ _ flat_Instr, tT]) (by kernel_rfl)).to (by clear E1 E2 E3 E4 E5 E6 E7 E8 E9 E10 E12 E13 E17 E18 E19 E20; (try simp only [sl0, wk, wkL, wkO, eqCells, eqCell, mayM, mayRange, mayKind, sizedM] at *); rw [Bool.eq_iff_iff]; simp [wk, wkL, wkO, eqCells, eqCell, mayM, mayRange, mayKind, sizedM, *]; omega)
         exact (o75 (d := .bool (eqCells [.int .i8 0, .int .i8 0, .int .i8 0, .int .i8 size, .bool false, .int .i8 0, .int .i8 0, .int .i64 off, .int .i64 imm] [.int .i8 0, .int .i8 0, .int .i8 0, .int .i8 0, .bool false, .int .i8 0, .int .i8 0, .int .i64 0, .int .i64 0])) (E20 ++ [tT, tT, tT, tT, tT, tT, .flat _ _ flat_Instr, tT]) (by kernel_rfl)).to (by clear E1 E2 E3 E4 E5 E6 E7 E8 E9 E10 E12 E13 E17 E18 E19 E20; (try simp only [sl0, wk, wkL, wkO, eqCells, eqCell, mayM, mayRange, mayKind, sizedM] at *); rw [Bool.eq_iff_iff]; simp [wk, wkL, wkO, eqCells, eqCell, mayM, mayRange, mayKind, sizedM, *]; omega)
        cases byReg
        ·exact (o75 (d := .bool false) (E18 ++ List.replicate 5 (tC (eT h16)) ++ [tC h16, .inl, tF, tF, tF, tF, tF, tF, tF]) (by kernel_rfl)).to (by clear E1 E2 E3 E4 E5 E6 E7 E8 E9 E10 E12 E13 E17 E18; (try simp only [sl0, wk, wkL, wkO, eqCells, eqCell, mayM, mayRange, mayKind, sizedM] at *); simp [wk, wkL, wkO, eqCells, eqCell, mayM, mayRange, mayKind, sizedM, *]; done)
        exact (o75 (d := .bool false) (E18 ++ List.replicate 5 (tC (eT h16)) ++ [tC h16, .inl, tT, tF, tF, tF, tF, tF, tF]) (by kernel_rfl)).to (by clear E1 E2 E3 E4 E5 E6 E7 E8 E9 E10 E12 E13 E17 E18; (try simp only [sl0, wk, wkL, wkO, eqCells, eqCell, mayM, mayRange, mayKind, sizedM] at *); simp [wk, wkL, wkO, eqCells, eqCell, mayM, mayRange, mayKind, sizedM, *]; done)
       let E21 : EL := E17 ++ List.replicate 3 (tC (eT (neOf h15))) ++ [tC (neOf h15), tF, tF, tF, tF, tF, tF, .inl]
       cases byReg
       ·exact (o75 (d := .bool false) (E21 ++ [tF, tF, tF, tF, tF, tF, tF]) (by kernel_rfl)).to (by clear E1 E2 E3 E4 E5 E6 E7 E8 E9 E10 E12 E13 E17 E21; (try simp only [sl0, wk, wkL, wkO, eqCells, eqCell, mayM, mayRange, mayKind, sizedM] at *); simp [wk, wkL, wkO, eqCells, eqCell, mayM, mayRange, mayKind, sizedM, *]; done)
       exact (o75 (d := .bool false) (E21 ++ [tT, tF, tF, tF, tF, tF, tF]) (by kernel_rfl)).to (by clear E1 E2 E3 E4 E5 E6 E7 E8 E9 E10 E12 E13 E17 E21; (try simp only [sl0, wk, wkL, wkO, eqCells, eqCell, mayM, mayRange, mayKind, sizedM] at *); simp [wk, wkL, wkO, eqCells, eqCell, mayM, mayRange, mayKind, sizedM, *]; done)
      let E22 : EL := E12 ++ List.replicate 5 (tC (eT (leC 12 h10))) ++ [tC (leC 12 h10)] ++ List.replicate 10 tF ++ [.inl]
      cases byReg
      ·exact (o75 (d := .bool false) (E22 ++ [tF, tF, tF, tF, tF, tF, tF]) (by kernel_rfl)).to (by clear E1 E2 E3 E4 E5 E6 E7 E8 E9 E10 E12 E22; (try simp only [sl0, wk, wkL, wkO, eqCells, eqCell, mayM, mayRange, mayKind, sizedM] at *); simp [wk, wkL, wkO, eqCells, eqCell, mayM, mayRange, mayKind, sizedM, *]; omega)
      exact (o75 (d := .bool false) (E22 ++ [tT, tF, tF, tF, tF, tF, tF]) (by kernel_rfl)).to (by clear E1 E2 E3 E4 E5 E6 E7 E8 E9 E10 E12 E22; (try simp only [sl0, wk, wkL, wkO, eqCells, eqCell, mayM, mayRange, mayKind, sizedM] at *); simp [wk, wkL, wkO, eqCells, eqCell, mayM, mayRange, mayKind, sizedM, *]; omega)
     let E23 : EL := E9 ++ [tC (neOf h8)]
     by_cases h19 : kind = 1
     ·subst h19
      let E24 : EL := E23 ++ [tT, .inl]
      by_cases h20 : size = 1
      ·subst h20
       rcases bft (decide (dst < 10)) with h21 | h21
       ·exact (o75 (d := .bool (eqCells [.int .i8 1, .int .i8 op, .int .i8 width, .int .i8 0, .bool byReg, .int .i8 0, .int .i8 0, .int .i64 0, .int .i64 imm] [.int .i8 1, .int .i8 0, .int .i8 0, .int .i8 0, .bool false, .int .i8 0, .int .i8 0, .int .i64 0, .int .i64 0])) (E24 ++ [tF, tF, tT, tF, tF, tT, tF, tF, tT, tT, tT, tT, tT] ++ List.replicate 5 (tC (eT h21)) ++ [.flat _ _ flat_Instr, tC h21]) (by kernel_rfl)).to (by clear E1 E2 E3 E4 E5 E6 E7 E8 E9 E23 E24; (try simp only [sl0, wk, wkL, wkO, eqCells, eqCell, mayM, mayRange, mayKind, sizedM] at *); rw [Bool.eq_iff_iff]; simp [wk, wkL, wkO, eqCells, eqCell, mayM, mayRange, mayKind, sizedM, *]; grind)
       exact (o75 (d := .bool false) (E24 ++ [tF, tF, tT, tF, tF, tT, tF, tF, tT, tT, tT, tT, tT] ++ List.replicate 5 (tC (eT h21)) ++ [tC h21]) (by kernel_rfl)).to (by clear E1 E2 E3 E4 E5 E6 E7 E8 E9 E23 E24; (try simp only [sl0, wk, wkL, wkO, eqCells, eqCell, mayM, mayRange, mayKind, sizedM] at *); simp [wk, wkL, wkO, eqCells, eqCell, mayM, mayRange, mayKind, sizedM, *]; done)
      let E25 : EL := E24 ++ [tC (eF (neOf h20)), tC (eF (neOf h20)), tC (neOf h20)]
      by_cases h22 : size = 2
      ·subst h22
       rcases bft (decide (dst < 10)) with h23 | h23
       ·exact (o75 (d := .bool (eqCells [.int .i8 1, .int .i8 op, .int .i8 width, .int .i8 0, .bool byReg, .int .i8 0, .int .i8 0, .int .i64 0, .int .i64 imm] [.int .i8 1, .int .i8 0, .int .i8 0, .int .i8 0, .bool false, .int .i8 0, .int .i8 0, .int .i64 0, .int .i64 0])) (E25 ++ [tF, tF, tT, tF, tF, tT, tT, tT, tT, tT] ++ List.replicate 5 (tC (eT h23)) ++ [.flat _ _ flat_Instr, tC h23]) (by kernel_rfl)).to (by clear E1 E2 E3 E4 E5 E6 E7 E8 E9 E23 E24 E25; (try simp only [sl0, wk, wkL, wkO, eqCells, eqCell, mayM, mayRange, mayKind, sizedM] at *); rw [Bool.eq_iff_iff]; simp [wk, wkL, wkO, eqCells, eqCell, mayM, mayRange, mayKind, sizedM, *]; grind)
       exact (o75 (d := .bool false) (E25 ++ [tF, tF, tT, tF, tF, tT, tT, tT, tT, tT] ++ List.replicate 5 (tC (eT h23)) ++ [tC h23]) (by kernel_rfl)).to (by clear E1 E2 E3 E4 E5 E6 E7 E8 E9 E23 E24 E25; (try simp only [sl0, wk, wkL, wkO, eqCells, eqCell, mayM, mayRange, mayKind, sizedM] at *); simp [wk, wkL, wkO, eqCells, eqCell, mayM, mayRange, mayKind, sizedM, *]; done)
      let E26 : EL := E25 ++ [tC (eF (neOf h22)), tC (eF (neOf h22)), tC (neOf h22)]
      by_cases h24 : size = 4
      ·subst h24
       rcases bft (decide (dst < 10)) with h25 | h25
       ·exact (o75 (d := .bool (eqCells [.int .i8 1, .int .i8 op, .int .i8 width, .int .i8 0, .bool byReg, .int .i8 0, .int .i8 0, .int .i64 0, .int .i64 imm] [.int .i8 1, .int .i8 0, .int .i8 0, .int .i8 0, .bool false, .int .i8 0, .int .i8 0, .int .i64 0, .int .i64 0])) (E26 ++ [tF, tF, tT, tT, tT, tT, tT] ++ List.replicate 5 (tC (eT h25)) ++ [.flat _ _ flat_Instr, tC h25]) (by kernel_rfl)).to (by clear E1 E2 E3 E4 E5 E6 E7 E8 E9 E23 E24 E25 E26; (try simp only [sl0, wk, wkL, wkO, eqCells, eqCell, mayM, mayRange, mayKind, sizedM] at *); rw [Bool.eq_iff_iff]; simp [wk, wkL, wkO, eqCells, eqCell, mayM, mayRange, mayKind, sizedM, *]; grind)
       exact (o75 (d := .bool false) (E26 ++ [tF, tF, tT, tT, tT, tT, tT] ++ List.replicate 5 (tC (eT h25)) ++ [tC h25]) (by kernel_rfl)).to (by clear E1 E2 E3 E4 E5 E6 E7 E8 E9 E23 E24 E25 E26; (try simp only [sl0, wk, wkL, wkO, eqCells, eqCell, mayM, mayRange, mayKind, sizedM] at *); simp [wk, wkL, wkO, eqCells, eqCell, mayM, mayRange, mayKind, sizedM, *]; done)
      let E27 : EL := E26 ++ [tC (eF (neOf h24)), tC (eF (neOf h24)), tC (neOf h24)]
      by_cases h26 : size = 8
      ·subst h26
       rcases bft (decide (dst < 10)) with h27 | h27
       ·exact (o75 (d := .bool (eqCells [.int .i8 1, .int .i8 op, .int .i8 width, .int .i8 0, .bool byReg, .int .i8 0, .int .i8 0, .int .i64 0, .int .i64 imm] [.int .i8 1, .int .i8 0, .int .i8 0, .int .i8 0, .bool false, .int .i8 0, .int .i8 0, .int .i64 0, .int .i64 0])) (E27 ++ [tT, tT, tT, tT] ++ List.replicate 5 (tC (eT h27)) ++ [.flat _ _ flat_Instr, tC h27]) (by kernel_rfl)).to (by clear E1 E2 E3 E4 E5 E6 E7 E8 E9 E23 E24 E25 E26 E27; (try simp only [sl0, wk, wkL, wkO, eqCells, eqCell, mayM, mayRange, mayKind, sizedM] at *); rw [Bool.eq_iff_iff]; simp [wk, wkL, wkO, eqCells, eqCell, mayM, mayRange, mayKind, sizedM, *]; grind)
       exact (o75 (d := .bool false) (E27 ++ [tT, tT, tT, tT] ++ List.replicate 5 (tC (eT h27)) ++ [tC h27]) (by kernel_rfl)).to (by clear E1 E2 E3 E4 E5 E6 E7 E8 E9 E23 E24 E25 E26 E27; (try simp only [sl0, wk, wkL, wkO, eqCells, eqCell, mayM, mayRange, mayKind, sizedM] at *); simp [wk, wkL, wkO, eqCells, eqCell, mayM, mayRange, mayKind, sizedM, *]; done)
      exact (o75 (d := .bool false) (E27 ++ List.replicate 3 (tC (eT (neOf h26))) ++ [tC (neOf h26), tF, tF, tF, tF, tF, tF]) (by kernel_rfl)).to (by clear E1 E2 E3 E4 E5 E6 E7 E8 E9 E23 E24 E25 E26 E27; (try simp only [sl0, wk, wkL, wkO, eqCells, eqCell, mayM, mayRange, mayKind, sizedM] at *); simp [wk, wkL, wkO, eqCells, eqCell, mayM, mayRange, mayKind, sizedM, *]; done)
     let E28 : EL := E23 ++ [tC (neOf h19)]
     by_cases h28 : kind = 2
     ·subst h28
      by_cases h29 : size = 1
      ·subst h29
       exact (o75 (d := .bool (eqCells [.int .i8 2, .int .i8 op, .int .i8 width, .int .i8 0, .bool byReg, .int .i8 0, .int .i8 0, .int .i64 0, .int .i64 imm] [.int .i8 2, .int .i8 0, .int .i8 0, .int .i8 0, .bool false, .int .i8 0, .int .i8 0, .int .i64 0, .int .i64 0])) (E28 ++ [tT, .inl, tF, tF, tT, tF, tF, tT, tF, tF, tT, tT, tT, tT, tT, tT, .flat _ _ flat_Instr, tT]) (by kernel_rfl)).to (by clear E1 E2 E3 E4 E5 E6 E7 E8 E9 E23 E28; (try simp only [sl0, wk, wkL, wkO, eqCells, eqCell, mayM, mayRange, mayKind, sizedM] at *); rw [Bool.eq_iff_iff]; simp [wk, wkL, wkO, eqCells, eqCell, mayM, mayRange, mayKind, sizedM, *]; grind)
      let E29 : EL := E28 ++ [tT, .inl, tC (eF (neOf h29)), tC (eF (neOf h29)), tC (neOf h29)]
      by_cases h30 : size = 2
      ·subst h30
       exact (o75 (d := .bool (eqCells [.int .i8 2, .int .i8 op, .int .i8 width, .int .i8 0, .bool byReg, .int .i8 0, .int .i8 0, .int .i64 0, .int .i64 imm] [.int .i8 2, .int .i8 0, .int .i8 0, .int .i8 0, .bool false, .int .i8 0, .int .i8 0, .int .i64 0, .int .i64 0])) (E29 ++ [tF, tF, tT, tF, tF, tT, tT, tT, tT, tT, tT, .flat _ _ flat_Instr, tT]) (by kernel_rfl)).to (by clear E1 E2 E3 E4 E5 E6 E7 E8 E9 E23 E28 E29; (try simp only [sl0, wk, wkL, wkO, eqCells, eqCell, mayM, mayRange, mayKind, sizedM] at *); rw [Bool.eq_iff_iff]; simp [wk, wkL, wkO, eqCells, eqCell, mayM, mayRange, mayKind, sizedM, *]; grind)
      let E30 : EL := E29 ++ [tC (eF (neOf h30)), tC (eF (neOf h30)), tC (neOf h30)]
      by_cases h31 : size = 4
      ·subst h31
       exact (o75 (d := .bool (eqCells [.int .i8 2, .int .i8 op, .int .i8 width, .int .i8 0, .bool byReg, .int .i8 0, .int .i8 0, .int .i64 0, .int .i64 imm] [.int .i8 2, .int .i8 0, .int .i8 0, .int .i8 0, .bool false, .int .i8 0, .int .i8 0, .int .i64 0, .int .i64 0])) (E30 ++ [tF, tF, tT, tT, tT, tT, tT, tT, .flat _ _ flat_Instr, tT]) (by kernel_rfl)).to (by clear E1 E2 E3 E4 E5 E6 E7 E8 E9 E23 E28 E29 E30; (try simp only [sl0, wk, wkL, wkO, eqCells, eqCell, mayM, mayRange, mayKind, sizedM] at *); rw [Bool.eq_iff_iff]; simp [wk, wkL, wkO, eqCells, eqCell, mayM, mayRange, mayKind, sizedM, *]; grind)
      by_cases h32 : size = 8
      ·subst h32
       exact (o75 (d := .bool (eqCells [.int .i8 2, .int .i8 op, .int .i8 width, .int .i8 0, .bool byReg, .int .i8 0, .int .i8 0, .int .i64 0, .int .i64 imm] [.int .i8 2, .int .i8 0, .int .i8 0, .int .i8 0, .bool false, .int .i8 0, .int .i8 0, .int .i64 0, .int .i64 0])) (E30 ++ [tC (eF (neOf h31)), tC (eF (neOf h31)), tC (neOf h31), tT, tT, tT, tT, tT, .flat _ _ flat_Instr, tT]) (by kernel_rfl)).to (by clear E1 E2 E3 E4 E5 E6 E7 E8 E9 E23 E28 E29 E30; (try simp only [sl0, wk, wkL, wkO, eqCells, eqCell, mayM, mayRange, mayKind, sizedM] at *); rw [Bool.eq_iff_iff]; simp [wk, wkL, wkO, eqCells, eqCell, mayM, mayRange, mayKind, sizedM, *]; grind)
      exact (o75 (d := .bool false) (E30 ++ [tC (eF (neOf h31)), tC (eF (neOf h31)), tC (neOf h31)] ++ List.replicate 5 (tC (eT (neOf h32))) ++ [tC (neOf h32)]) (by kernel_rfl)).to (by clear E1 E2 E3 E4 E5 E6 E7 E8 E9 E23 E28 E29 E30; (try simp only [sl0, wk, wkL, wkO, eqCells, eqCell, mayM, mayRange, mayKind, sizedM] at *); simp [wk, wkL, wkO, eqCells, eqCell, mayM, mayRange, mayKind, sizedM, *]; done)
     let E31 : EL := E28 ++ [tC (neOf h28)]
     by_cases h33 : kind = 3
     ·subst h33
      rcases bft (decide (op < 0)) with h34 | h34
      ·let E32 : EL := E31 ++ [tT, .inl] ++ List.replicate 3 (tC (eT (leL 0 h34))) ++ [tC (leL 0 h34), .inl]
       cases byReg
       ·exact (o75 (d := .bool false) (E32 ++ [tF, tF, tF, tF, tF, tF, tF]) (by kernel_rfl)).to (by clear E1 E2 E3 E4 E5 E6 E7 E8 E9 E23 E28 E31 E32; (try simp only [sl0, wk, wkL, wkO, eqCells, eqCell, mayM, mayRange, mayKind, sizedM] at *); simp [wk, wkL, wkO, eqCells, eqCell, mayM, mayRange, mayKind, sizedM, *]; omega)
       exact (o75 (d := .bool false) (E32 ++ [tT, tF, tF, tF, tF, tF, tF]) (by kernel_rfl)).to (by clear E1 E2 E3 E4 E5 E6 E7 E8 E9 E23 E28 E31 E32; (try simp only [sl0, wk, wkL, wkO, eqCells, eqCell, mayM, mayRange, mayKind, sizedM] at *); simp [wk, wkL, wkO, eqCells, eqCell, mayM, mayRange, mayKind, sizedM, *]; omega)
      let E33 : EL := E31 ++ [tT, .inl] ++ List.replicate 3 (tC (eT (leL 0 h34))) ++ [tC (leL 0 h34), .inl]
      cases byReg
      ·rcases bft (decide (op < 11)) with h35 | h35
       ·exact (o75 (d := .bool (eqCells [.int .i8 3, .int .i8 0, .int .i8 width, .int .i8 size, .bool false, .int .i8 0, .int .i8 src, .int .i64 0, .int .i64 0] [.int .i8 3, .int .i8 0, .int .i8 0, .int .i8 0, .bool false, .int .i8 0, .int .i8 0, .int .i64 0, .int .i64 0])) (E33 ++ [tF] ++ List.replicate 5 (tC (eT (leC 10 h35))) ++ [.flat _ _ flat_Instr, tC (leC 10 h35)]) (by kernel_rfl)).to (by clear E1 E2 E3 E4 E5 E6 E7 E8 E9 E23 E28 E31 E33; (try simp only [sl0, wk, wkL, wkO, eqCells, eqCell, mayM, mayRange, mayKind, sizedM] at *); rw [Bool.eq_iff_iff]; simp [wk, wkL, wkO, eqCells, eqCell, mayM, mayRange, mayKind, sizedM, *]; omega)
       exact (o75 (d := .bool false) (E33 ++ [tF] ++ List.replicate 5 (tC (eT (leC 10 h35))) ++ [tC (leC 10 h35)]) (by kernel_rfl)).to (by clear E1 E2 E3 E4 E5 E6 E7 E8 E9 E23 E28 E31 E33; (try simp only [sl0, wk, wkL, wkO, eqCells, eqCell, mayM, mayRange, mayKind, sizedM] at *); simp [wk, wkL, wkO, eqCells, eqCell, mayM, mayRange, mayKind, sizedM, *]; omega)
      rcases bft (decide (op < 11)) with h36 | h36
      ·exact (o75 (d := .bool (eqCells [.int .i8 3, .int .i8 0, .int .i8 width, .int .i8 size, .bool false, .int .i8 0, .int .i8 0, .int .i64 0, .int .i64 imm] [.int .i8 3, .int .i8 0, .int .i8 0, .int .i8 0, .bool false, .int .i8 0, .int .i8 0, .int .i64 0, .int .i64 0])) (E33 ++ [tT] ++ List.replicate 5 (tC (eT (leC 10 h36))) ++ [.flat _ _ flat_Instr, tC (leC 10 h36)]) (by kernel_rfl)).to (by clear E1 E2 E3 E4 E5 E6 E7 E8 E9 E23 E28 E31 E33; (try simp only [sl0, wk, wkL, wkO, eqCells, eqCell, mayM, mayRange, mayKind, sizedM] at *); rw [Bool.eq_iff_iff]; simp [wk, wkL, wkO, eqCells, eqCell, mayM, mayRange, mayKind, sizedM, *]; omega)
      exact (o75 (d := .bool false) (E33 ++ [tT] ++ List.replicate 5 (tC (eT (leC 10 h36))) ++ [tC (leC 10 h36)]) (by kernel_rfl)).to (by clear E1 E2 E3 E4 E5 E6 E7 E8 E9 E23 E28 E31 E33; (try simp only [sl0, wk, wkL, wkO, eqCells, eqCell, mayM, mayRange, mayKind, sizedM] at *); simp [wk, wkL, wkO, eqCells, eqCell, mayM, mayRange, mayKind, sizedM, *]; omega)
     by_cases h37 : kind = 4
     ·subst h37
      exact (o75 (d := .bool (eqCells [.int .i8 4, .int .i8 op, .int .i8 width, .int .i8 size, .bool byReg, .int .i8 dst, .int .i8 src, .int .i64 0, .int .i64 imm] [.int .i8 4, .int .i8 0, .int .i8 0, .int .i8 0, .bool false, .int .i8 0, .int .i8 0, .int .i64 0, .int .i64 0])) (E31 ++ [tC (neOf h33), tT, tT, tT, tT, tT, tT, .flat _ _ flat_Instr, tT]) (by kernel_rfl)).to (by clear E1 E2 E3 E4 E5 E6 E7 E8 E9 E23 E28 E31; (try simp only [sl0, wk, wkL, wkO, eqCells, eqCell, mayM, mayRange, mayKind, sizedM] at *); rw [Bool.eq_iff_iff]; simp [wk, wkL, wkO, eqCells, eqCell, mayM, mayRange, mayKind, sizedM, *]; grind)
     let E34 : EL := E31 ++ [tC (neOf h33), tC (neOf h37)]
     by_cases h38 : kind = 5
     ·subst h38
      rcases bft (decide (imm < 0)) with h39 | h39
      ·exact (o75 (d := .bool false) (E34 ++ [tT, .inl] ++ List.replicate 3 (tC (eT (leL 0 h39))) ++ [tC (leL 0 h39), tF, tF, tF, tF, tF, tF]) (by kernel_rfl)).to (by clear E1 E2 E3 E4 E5 E6 E7 E8 E9 E23 E28 E31 E34; (try simp only [sl0, wk, wkL, wkO, eqCells, eqCell, mayM, mayRange, mayKind, sizedM] at *); simp [wk, wkL, wkO, eqCells, eqCell, mayM, mayRange, mayKind, sizedM, *]; omega)
      rcases bft (decide (imm < 16)) with h40 | h40
      ·exact (o75 (d := .bool (eqCells [.int .i8 5, .int .i8 op, .int .i8 width, .int .i8 size, .bool byReg, .int .i8 dst, .int .i8 src, .int .i64 off, .int .i64 0] [.int .i8 5, .int .i8 0, .int .i8 0, .int .i8 0, .bool false, .int .i8 0, .int .i8 0, .int .i64 0, .int .i64 0])) (E34 ++ [tT, .inl] ++ List.replicate 3 (tC (eT (leL 0 h39))) ++ [tC (leL 0 h39)] ++ List.replicate 5 (tC (eT (leC 15 h40))) ++ [.flat _ _ flat_Instr, tC (leC 15 h40)]) (by kernel_rfl)).to (by clear E1 E2 E3 E4 E5 E6 E7 E8 E9 E23 E28 E31 E34; (try simp only [sl0, wk, wkL, wkO, eqCells, eqCell, mayM, mayRange, mayKind, sizedM] at *); rw [Bool.eq_iff_iff]; simp [wk, wkL, wkO, eqCells, eqCell, mayM, mayRange, mayKind, sizedM, *]; grind)
      exact (o75 (d := .bool false) (E34 ++ [tT, .inl] ++ List.replicate 3 (tC (eT (leL 0 h39))) ++ [tC (leL 0 h39)] ++ List.replicate 5 (tC (eT (leC 15 h40))) ++ [tC (leC 15 h40)]) (by kernel_rfl)).to (by clear E1 E2 E3 E4 E5 E6 E7 E8 E9 E23 E28 E31 E34; (try simp only [sl0, wk, wkL, wkO, eqCells, eqCell, mayM, mayRange, mayKind, sizedM] at *); simp [wk, wkL, wkO, eqCells, eqCell, mayM, mayRange, mayKind, sizedM, *]; omega)
     by_cases h41 : kind = 6
     ·subst h41
      exact (o75 (d := .bool (eqCells [.int .i8 6, .int .i8 op, .int .i8 width, .int .i8 size, .bool byReg, .int .i8 dst, .int .i8 src, .int .i64 off, .int .i64 imm] [.int .i8 6, .int .i8 0, .int .i8 0, .int .i8 0, .bool false, .int .i8 0, .int .i8 0, .int .i64 0, .int .i64 0])) (E34 ++ [tC (neOf h38), tT, tT, tT, tT, tT, tT, .flat _ _ flat_Instr, tT]) (by kernel_rfl)).to (by clear E1 E2 E3 E4 E5 E6 E7 E8 E9 E23 E28 E31 E34; (try simp only [sl0, wk, wkL, wkO, eqCells, eqCell, mayM, mayRange, mayKind, sizedM] at *); rw [Bool.eq_iff_iff]; simp [wk, wkL, wkO, eqCells, eqCell, mayM, mayRange, mayKind, sizedM, *]; grind)
     exact (o75 (d := .bool false) (E34 ++ [tC (neOf h38), tC (neOf h41), tF, tF, tF, tF, tF, tF]) (by kernel_rfl)).to (by clear E1 E2 E3 E4 E5 E6 E7 E8 E9 E23 E28 E31 E34; (try simp only [sl0, wk, wkL, wkO, eqCells, eqCell, mayM, mayRange, mayKind, sizedM] at *); simp [wk, wkL, wkO, eqCells, eqCell, mayM, mayRange, mayKind, sizedM, *]; done)
    exact (o75 (d := .bool false) (E8 ++ [tC (nt (leC 2147483647 h7))]) (by kernel_rfl)).to (by clear E1 E2 E3 E4 E5 E6 E7 E8; (try simp only [sl0, wk, wkL, wkO, eqCells, eqCell, mayM, mayRange, mayKind, sizedM] at *); simp [wk, wkL, wkO, eqCells, eqCell, mayM, mayRange, mayKind, sizedM, *]; omega)
   exact (o75 (d := .bool false) (E6 ++ List.replicate 4 (tC (eF (nt (leC 32767 h5)))) ++ [tC (nt (leC 32767 h5)), tT]) (by kernel_rfl)).to (by clear E1 E2 E3 E4 E5 E6; (try simp only [sl0, wk, wkL, wkO, eqCells, eqCell, mayM, mayRange, mayKind, sizedM] at *); simp [wk, wkL, wkO, eqCells, eqCell, mayM, mayRange, mayKind, sizedM, *]; omega)
  exact (o75 (d := .bool false) (E4 ++ List.replicate 4 (tC (eF (nt (leC 10 h3)))) ++ [tC (nt (leC 10 h3)), tF, tF, tF, tF, tT, tT]) (by kernel_rfl)).to (by clear E1 E2 E3 E4; (try simp only [sl0, wk, wkL, wkO, eqCells, eqCell, mayM, mayRange, mayKind, sizedM] at *); simp [wk, wkL, wkO, eqCells, eqCell, mayM, mayRange, mayKind, sizedM, *]; omega)
 exact (o75 (d := .bool false) (E2 ++ List.replicate 4 (tC (eF (nt (leC 10 h1)))) ++ [tC (nt (leC 10 h1)), tF, tF, tF, tF, tT, tF, tF, tF, tF, tT, tT]) (by kernel_rfl)).to (by clear E1 E2; (try simp only [sl0, wk, wkL, wkO, eqCells, eqCell, mayM, mayRange, mayKind, sizedM] at *); simp [wk, wkL, wkO, eqCells, eqCell, mayM, mayRange, mayKind, sizedM, *]; omega)
end Go.Proofs.Ytcngafhpodeenaa

namespace Go.Proofs.Ytcngafhpodeenaa
open Go Go.Ev
set_option maxRecDepth 100000
set_option maxHeartbeats 8000000
theorem fields3_ok (kind op width size : Int) (byReg : Bool) (dst src off imm : Int) : Ret Try.prog 147 ([instD kind op width size byReg dst src off imm]) (instD kind (fOp kind op) (fWidth kind width) (fSize kind size) (fByReg kind op byReg) (fDst kind dst) (fSrc kind op byReg src) (fOff kind off) (fImm kind op byReg imm)) := by
 by_cases h0 : kind = 0
 ·subst h0
  cases byReg
  ·by_cases h1 : op = 8
   ·subst h1
    exact (o147 (d := (instD 0 8 width 0 false dst 0 0 0)) [tT, tF, tF, tF, tF, tF, tF] (by kernel_rfl)).to (by simp [wk, wkL, fOp, fWidth, fSize, fByReg, fDst, fSrc, fOff, fImm, *])
   exact (o147 (d := (instD 0 op width 0 false dst 0 0 imm)) [tT, tF, tF, tF, tF, tF, tC (nt (neOf h1))] (by kernel_rfl)).to (by simp [wk, wkL, fOp, fWidth, fSize, fByReg, fDst, fSrc, fOff, fImm, *])
  by_cases h2 : op = 8
  ·subst h2
   exact (o147 (d := (instD 0 8 width 0 false dst 0 0 0)) [tT, tT, tT, tT, tT, tF, tF] (by kernel_rfl)).to (by simp [wk, wkL, fOp, fWidth, fSize, fByReg, fDst, fSrc, fOff, fImm, *])
  exact (o147 (d := (instD 0 op width 0 (op != 8) dst src 0 0)) [tT, tT, tT, tT, tT, tC (nt (neOf h2))] (by kernel_rfl)).to (by simp [wk, wkL, fOp, fWidth, fSize, fByReg, fDst, fSrc, fOff, fImm, *])
 let E1 : EL := [tC (neOf h0)]
 by_cases h3 : kind = 1
 ·subst h3
  exact (o147 (d := (instD 1 0 0 size false dst src off 0)) (E1 ++ [tT]) (by kernel_rfl)).to (by clear E1; simp [wk, wkL, fOp, fWidth, fSize, fByReg, fDst, fSrc, fOff, fImm, *])
 by_cases h4 : kind = 2
 ·subst h4
  exact (o147 (d := (instD 2 0 0 size false dst src off 0)) (E1 ++ [tC (neOf h3), tT]) (by kernel_rfl)).to (by clear E1; simp [wk, wkL, fOp, fWidth, fSize, fByReg, fDst, fSrc, fOff, fImm, *])
 let E2 : EL := E1 ++ [tC (neOf h3), tC (neOf h4)]
 by_cases h5 : kind = 3
 ·subst h5
  cases byReg
  ·exact (o147 (d := (instD 3 op 0 0 false dst 0 off imm)) (E2 ++ [tT, tF]) (by kernel_rfl)).to (by clear E1 E2; simp [wk, wkL, fOp, fWidth, fSize, fByReg, fDst, fSrc, fOff, fImm, *])
  exact (o147 (d := (instD 3 op 0 0 true dst src off 0)) (E2 ++ [tT, tT]) (by kernel_rfl)).to (by clear E1 E2; simp [wk, wkL, fOp, fWidth, fSize, fByReg, fDst, fSrc, fOff, fImm, *])
 by_cases h6 : kind = 4
 ·subst h6
  exact (o147 (d := (instD 4 0 0 0 false 0 0 off 0)) (E2 ++ [tC (neOf h5), tT]) (by kernel_rfl)).to (by clear E1 E2; simp [wk, wkL, fOp, fWidth, fSize, fByReg, fDst, fSrc, fOff, fImm, *])
 by_cases h7 : kind = 5
 ·subst h7
  exact (o147 (d := (instD 5 0 0 0 false 0 0 0 imm)) (E2 ++ [tC (neOf h5), tC (neOf h6), tT]) (by kernel_rfl)).to (by clear E1 E2; simp [wk, wkL, fOp, fWidth, fSize, fByReg, fDst, fSrc, fOff, fImm, *])
 exact (o147 (d := (instD kind 0 0 0 false 0 0 0 0)) (E2 ++ [tC (neOf h5), tC (neOf h6), tC (neOf h7)]) (by kernel_rfl)).to (by clear E1 E2; simp [wk, wkL, fOp, fWidth, fSize, fByReg, fDst, fSrc, fOff, fImm, *])
theorem sized3_ok (n : Int) : Ret Try.prog 148 ([.int .i8 n]) (.bool (sizedM n)) := by
 by_cases h0 : n = 1
 ·subst h0
  exact (o148 (d := .bool true) [tF, tF, tT, tF, tF, tT, tF, tF, tT] (by kernel_rfl)).to (by (try simp only [sl0, wk, wkL, wkO, eqCells, eqCell, sizedM] at *); simp [wk, wkL, wkO, eqCells, eqCell, sizedM, *]; done)
 let E1 : EL := [tC (eF (neOf h0)), tC (eF (neOf h0)), tC (neOf h0)]
 by_cases h1 : n = 2
 ·subst h1
  exact (o148 (d := .bool true) (E1 ++ [tF, tF, tT, tF, tF, tT]) (by kernel_rfl)).to (by clear E1; (try simp only [sl0, wk, wkL, wkO, eqCells, eqCell, sizedM] at *); simp [wk, wkL, wkO, eqCells, eqCell, sizedM, *]; done)
 by_cases h2 : n = 4
 ·subst h2
  exact (o148 (d := .bool true) (E1 ++ [tC (eF (neOf h1)), tC (eF (neOf h1)), tC (neOf h1), tF, tF, tT]) (by kernel_rfl)).to (by clear E1; (try simp only [sl0, wk, wkL, wkO, eqCells, eqCell, sizedM] at *); simp [wk, wkL, wkO, eqCells, eqCell, sizedM, *]; done)
 exact (o148 (d := .bool (n == 8)) (E1 ++ [tC (eF (neOf h1)), tC (eF (neOf h1)), tC (neOf h1), tC (eF (neOf h2)), tC (eF (neOf h2)), tC (neOf h2)]) (by kernel_rfl)).to (by clear E1; (try simp only [sl0, wk, wkL, wkO, eqCells, eqCell, sizedM] at *); rw [Bool.eq_iff_iff]; simp [wk, wkL, wkO, eqCells, eqCell, sizedM, *]; done)
theorem refMay_ok (kind op width size : Int) (byReg : Bool) (dst src off imm : Int) : Ret Try.prog 94 ([instD kind op width size byReg dst src off imm]) (.bool (mayM kind op width size byReg dst src off imm)) := by
 rcases bft (decide (kind < 0)) with h0 | h0
 ·exact (o94 (d := .bool false) [tC (eF h0), tC (eF h0), tC (eF h0), tC h0, tF, tF, tF, tF, tT, tF, tF, tF, tT, tF, tF, tF, tT, tF, tF, tF, tT, tF, tF, tF, tT, tF, tF, tF, tT, tF, tF, tF, tT, tF, tF, tF, tT, tF, tF, tF, tT, tT] (by kernel_rfl)).to (by (try simp only [sl0, wk, wkL, wkO, eqCells, eqCell, mayM, mayRange, mayKind, sizedM, fOp, fWidth, fSize, fByReg, fDst, fSrc, fOff, fImm] at *); rw [Bool.eq_iff_iff]; simp [wk, wkL, wkO, eqCells, eqCell, mayM, mayRange, mayKind, sizedM, fOp, fWidth, fSize, fByReg, fDst, fSrc, fOff, fImm, *]; grind)
 let E1 : EL := [tC (eF h0), tC (eF h0), tC (eF h0), tC h0]
 rcases bft (decide (kind < 7)) with h1 | h1
 ·have c2 := @fields3_ok kind op width size byReg dst src off imm
  generalize g4 : fOp kind op = r3 at c2
  generalize g6 : fWidth kind width = r5 at c2
  generalize g8 : fSize kind size = r7 at c2
  generalize g10 : fByReg kind op byReg = r9 at c2
  generalize g12 : fDst kind dst = r11 at c2
  generalize g14 : fSrc kind op byReg src = r13 at c2
  generalize g16 : fOff kind off = r15 at c2
  generalize g18 : fImm kind op byReg imm = r17 at c2
  let E2 : EL := E1 ++ List.replicate 3 (tC (eF (ltL 6 h1))) ++ [.ret _ _ _ c2, tC (eF (ltL 6 h1)), .flat _ _ flat_Instr, tC (ltL 6 h1)]
  rcases bft (op == r3) with h19 | h19
  ·rcases bft (width == r5) with h20 | h20
   ·rcases bft (size == r7) with h21 | h21
    ·rcases bft (byReg == r9) with h22 | h22
     ·rcases bft (dst == r11) with h23 | h23
      ·rcases bft (src == r13) with h24 | h24
       ·rcases bft (off == r15) with h25 | h25
        ·rcases bft (imm == r17) with h26 | h26
         ·rcases bft (decide (dst < 0)) with h27 | h27
          ·exact (o94 (d := .bool false) (E2 ++ List.replicate 3 (tC (eF (nt (andT (beq_self_eq_true kind) (andT h19 (andT h20 (andT h21 (andT h22 (andT h23 (andT h24 (andT h25 (andT h26 (rfl : true = true))))))))))))) ++ [tC (nt (andT (beq_self_eq_true kind) (andT h19 (andT h20 (andT h21 (andT h22 (andT h23 (andT h24 (andT h25 (andT h26 (rfl : true = true))))))))))), tC (eF h27), tC (eF h27), tC (eF h27), tC h27, tF, tF, tF, tT, tF, tF, tF, tT, tF, tF, tF, tT, tF, tF, tF, tT, tF, tF, tF, tT, tF, tF, tF, tT, tT]) (by kernel_rfl)).to (by clear E1 E2; (try simp only [sl0, wk, wkL, wkO, eqCells, eqCell, mayM, mayRange, mayKind, sizedM, fOp, fWidth, fSize, fByReg, fDst, fSrc, fOff, fImm] at *); simp [wk, wkL, wkO, eqCells, eqCell, mayM, mayRange, mayKind, sizedM, fOp, fWidth, fSize, fByReg, fDst, fSrc, fOff, fImm, *]; omega)
          rcases bft (decide (dst < 11)) with h28 | h28
          ·rcases bft (decide (src < 0)) with h29 | h29
           ·exact (o94 (d := .bool false) (E2 ++ List.replicate 3 (tC (eF (nt (andT (beq_self_eq_true kind) (andT h19 (andT h20 (andT h21 (andT h22 (andT h23 (andT h24 (andT h25 (andT h26 (rfl : true = true))))))))))))) ++ [tC (nt (andT (beq_self_eq_true kind) (andT h19 (andT h20 (andT h21 (andT h22 (andT h23 (andT h24 (andT h25 (andT h26 (rfl : true = true))))))))))), tC (eF h27), tC (eF h27), tC (eF h27), tC h27] ++ List.replicate 3 (tC (eF (ltL 10 h28))) ++ [tC (ltL 10 h28), tC (eF h29), tC (eF h29), tC (eF h29), tC h29, tF, tF, tF, tT, tF, tF, tF, tT, tF, tF, tF, tT, tF, tF, tF, tT, tT]) (by kernel_rfl)).to (by clear E1 E2; (try simp only [sl0, wk, wkL, wkO, eqCells, eqCell, mayM, mayRange, mayKind, sizedM, fOp, fWidth, fSize, fByReg, fDst, fSrc, fOff, fImm] at *); simp [wk, wkL, wkO, eqCells, eqCell, mayM, mayRange, mayKind, sizedM, fOp, fWidth, fSize, fByReg, fDst, fSrc, fOff, fImm, *]; omega)
           rcases bft (decide (src < 11)) with h30 | h30
           ·rcases bft (decide (off < (-32768))) with h31 | h31
            ·exact (o94 (d := .bool false) (E2 ++ List.replicate 3 (tC (eF (nt (andT (beq_self_eq_true kind) (andT h19 (andT h20 (andT h21 (andT h22 (andT h23 (andT h24 (andT h25 (andT h26 (rfl : true = true))))))))))))) ++ [tC (nt (andT (beq_self_eq_true kind) (andT h19 (andT h20 (andT h21 (andT h22 (andT h23 (andT h24 (andT h25 (andT h26 (rfl : true = true))))))))))), tC (eF h27), tC (eF h27), tC (eF h27), tC h27] ++ List.replicate 3 (tC (eF (ltL 10 h28))) ++ [tC (ltL 10 h28), tC (eF h29), tC (eF h29), tC (eF h29), tC h29] ++ List.replicate 3 (tC (eF (ltL 10 h30))) ++ [tC (ltL 10 h30), tC (eF h31), tC (eF h31), tC (eF h31), tC h31, tF, tF, tF, tT, tF, tF, tF, tT, tT]) (by kernel_rfl)).to (by clear E1 E2; (try simp only [sl0, wk, wkL, wkO, eqCells, eqCell, mayM, mayRange, mayKind, sizedM, fOp, fWidth, fSize, fByReg, fDst, fSrc, fOff, fImm] at *); simp [wk, wkL, wkO, eqCells, eqCell, mayM, mayRange, mayKind, sizedM, fOp, fWidth, fSize, fByReg, fDst, fSrc, fOff, fImm, *]; omega)
            rcases bft (decide (off < 32768)) with h32 | h32
            ·rcases bft (decide (imm < (-2147483648))) with h33 | h33
             ·exact (o94 (d := .bool false) (E2 ++ List.replicate 3 (tC (eF (nt (andT (beq_self_eq_true kind) (andT h19 (andT h20 (andT h21 (andT h22 (andT h23 (andT h24 (andT h25 (andT h26 (rfl : true = true))))))))))))) ++ [tC (nt (andT (beq_self_eq_true kind) (andT h19 (andT h20 (andT h21 (andT h22 (andT h23 (andT h24 (andT h25 (andT h26 (rfl : true = true))))))))))), tC (eF h27), tC (eF h27), tC (eF h27), tC h27] ++ List.replicate 3 (tC (eF (ltL 10 h28))) ++ [tC (ltL 10 h28), tC (eF h29), tC (eF h29), tC (eF h29), tC h29] ++ List.replicate 3 (tC (eF (ltL 10 h30))) ++ [tC (ltL 10 h30), tC (eF h31), tC (eF h31), tC (eF h31), tC h31] ++ List.replicate 3 (tC (eF (leL 32768 h32))) ++ [tC (leL 32768 h32), tC (eF h33), tC (eF h33), tC (eF h33), tC h33, tT]) (by kernel_rfl)).to (by clear E1 E2; (try simp only [sl0, wk, wkL, wkO, eqCells, eqCell, mayM, mayRange, mayKind, sizedM, fOp, fWidth, fSize, fByReg, fDst, fSrc, fOff, fImm] at *); simp [wk, wkL, wkO, eqCells, eqCell, mayM, mayRange, mayKind, sizedM, fOp, fWidth, fSize, fByReg, fDst, fSrc, fOff, fImm, *]; omega)
             rcases bft (decide (imm < 2147483648)) with h34 | h34
             ·by_cases h35 : kind = 0
              ·subst h35
               let E3 : EL := E2 ++ List.replicate 3 (tC (eF (nt (andT (beq_self_eq_true 0) (andT h19 (andT h20 (andT h21 (andT h22 (andT h23 (andT h24 (andT h25 (andT h26 (rfl : true = true))))))))))))) ++ [tC (nt (andT (beq_self_eq_true 0) (andT h19 (andT h20 (andT h21 (andT h22 (andT h23 (andT h24 (andT h25 (andT h26 (rfl : true = true))))))))))), tC (eF h27), tC (eF h27), tC (eF h27), tC h27] ++ List.replicate 3 (tC (eF (ltL 10 h28))) ++ [tC (ltL 10 h28), tC (eF h29), tC (eF h29), tC (eF h29), tC h29] ++ List.replicate 3 (tC (eF (ltL 10 h30))) ++ [tC (ltL 10 h30), tC (eF h31), tC (eF h31), tC (eF h31), tC h31] ++ List.replicate 3 (tC (eF (leL 32768 h32))) ++ [tC (leL 32768 h32), tC (eF h33), tC (eF h33), tC (eF h33), tC h33, tC (leL 2147483648 h34), tT]
               rcases bft (decide (op < 0)) with h36 | h36
               ·exact (o94 (d := .bool false) (E3 ++ List.replicate 3 (tC (eT (leL 0 h36))) ++ [tC (leL 0 h36)] ++ List.replicate 10 tF) (by kernel_rfl)).to (by clear E1 E2 E3; (try simp only [sl0, wk, wkL, wkO, eqCells, eqCell, mayM, mayRange, mayKind, sizedM, fOp, fWidth, fSize, fByReg, fDst, fSrc, fOff, fImm] at *); simp [wk, wkL, wkO, eqCells, eqCell, mayM, mayRange, mayKind, sizedM, fOp, fWidth, fSize, fByReg, fDst, fSrc, fOff, fImm, *]; omega)
               let E4 : EL := E3 ++ List.replicate 3 (tC (eT (leL 0 h36))) ++ [tC (leL 0 h36)]
               rcases bft (decide (op < 13)) with h37 | h37
               ·by_cases h38 : width = 32
                ·subst h38
                 exact (o94 (d := .bool (decide (dst < 10))) (E4 ++ List.replicate 4 (tC (eT (leC 12 h37))) ++ [tF, tF, tF, tC (eT (leC 12 h37)), tT, tC (leC 12 h37), tT, tT, tT, tT]) (by kernel_rfl)).to (by clear E1 E2 E3 E4; (try simp only [sl0, wk, wkL, wkO, eqCells, eqCell, mayM, mayRange, mayKind, sizedM, fOp, fWidth, fSize, fByReg, fDst, fSrc, fOff, fImm] at *); rw [Bool.eq_iff_iff]; simp [wk, wkL, wkO, eqCells, eqCell, mayM, mayRange, mayKind, sizedM, fOp, fWidth, fSize, fByReg, fDst, fSrc, fOff, fImm, *]; grind)
                let E5 : EL := E4 ++ List.replicate 4 (tC (eT (leC 12 h37))) ++ List.replicate 3 (tC (eF (neOf h38))) ++ [tC (eT (leC 12 h37)), tC (neOf h38), tC (leC 12 h37)]
                by_cases h39 : width = 64
                ·subst h39
                 exact (o94 (d := .bool (decide (dst < 10))) (E5 ++ [tT, tT, tT, tT]) (by kernel_rfl)).to (by clear E1 E2 E3 E4 E5; (try simp only [sl0, wk, wkL, wkO, eqCells, eqCell, mayM, mayRange, mayKind, sizedM, fOp, fWidth, fSize, fByReg, fDst, fSrc, fOff, fImm] at *); rw [Bool.eq_iff_iff]; simp [wk, wkL, wkO, eqCells, eqCell, mayM, mayRange, mayKind, sizedM, fOp, fWidth, fSize, fByReg, fDst, fSrc, fOff, fImm, *]; grind)
                exact (o94 (d := .bool false) (E5 ++ List.replicate 3 (tC (eT (neOf h39))) ++ [tC (neOf h39)]) (by kernel_rfl)).to (by clear E1 E2 E3 E4 E5; (try simp only [sl0, wk, wkL, wkO, eqCells, eqCell, mayM, mayRange, mayKind, sizedM, fOp, fWidth, fSize, fByReg, fDst, fSrc, fOff, fImm] at *); simp [wk, wkL, wkO, eqCells, eqCell, mayM, mayRange, mayKind, sizedM, fOp, fWidth, fSize, fByReg, fDst, fSrc, fOff, fImm, *]; omega)
               exact (o94 (d := .bool false) (E4 ++ List.replicate 5 (tC (eT (leC 12 h37))) ++ [tC (leC 12 h37), tF, tF, tF, tF]) (by kernel_rfl)).to (by clear E1 E2 E3 E4; (try simp only [sl0, wk, wkL, wkO, eqCells, eqCell, mayM, mayRange, mayKind, sizedM, fOp, fWidth, fSize, fByReg, fDst, fSrc, fOff, fImm] at *); simp [wk, wkL, wkO, eqCells, eqCell, mayM, mayRange, mayKind, sizedM, fOp, fWidth, fSize, fByReg, fDst, fSrc, fOff, fImm, *]; omega)
              by_cases h40 : kind = 1
              ·subst h40
               have c41 := @sized3_ok size
               generalize g43 : sizedM size = r42 at c41
               let E6 : EL := E2 ++ List.replicate 3 (tC (eF (nt (andT (beq_self_eq_true 1) (andT h19 (andT h20 (andT h21 (andT h22 (andT h23 (andT h24 (andT h25 (andT h26 (rfl : true = true))))))))))))) ++ [tC (nt (andT (beq_self_eq_true 1) (andT h19 (andT h20 (andT h21 (andT h22 (andT h23 (andT h24 (andT h25 (andT h26 (rfl : true = true))))))))))), tC (eF h27), tC (eF h27), tC (eF h27), tC h27] ++ List.replicate 3 (tC (eF (ltL 10 h28))) ++ [tC (ltL 10 h28), tC (eF h29), tC (eF h29), tC (eF h29), tC h29] ++ List.replicate 3 (tC (eF (ltL 10 h30))) ++ [tC (ltL 10 h30), tC (eF h31), tC (eF h31), tC (eF h31), tC h31] ++ List.replicate 3 (tC (eF (leL 32768 h32))) ++ [tC (leL 32768 h32), tC (eF h33), tC (eF h33), tC (eF h33), tC h33, tC (leL 2147483648 h34), tC (neOf h35), tT, .ret _ _ _ c41]
               cases r42
               ·exact (o94 (d := .bool false) (E6 ++ [tF, tF, tF, tF]) (by kernel_rfl)).to (by clear E1 E2 E6; (try simp only [sl0, wk, wkL, wkO, eqCells, eqCell, mayM, mayRange, mayKind, sizedM, fOp, fWidth, fSize, fByReg, fDst, fSrc, fOff, fImm] at *); simp [wk, wkL, wkO, eqCells, eqCell, mayM, mayRange, mayKind, sizedM, fOp, fWidth, fSize, fByReg, fDst, fSrc, fOff, fImm, *]; omega)
               exact (o94 (d := .bool (decide (dst < 10))) (E6 ++ [tT, tT, tT, tT]) (by kernel_rfl)).to (by clear E1 E2 E6; (try simp only [sl0, wk, wkL, wkO, eqCells, eqCell, mayM, mayRange, mayKind, sizedM, fOp, fWidth, fSize, fByReg, fDst, fSrc, fOff, fImm] at *); rw [Bool.eq_iff_iff]; simp [wk, wkL, wkO, eqCells, eqCell, mayM, mayRange, mayKind, sizedM, fOp, fWidth, fSize, fByReg, fDst, fSrc, fOff, fImm, *]; grind)
              by_cases h44 : kind = 2
              ·subst h44
               have c45 := @sized3_ok size
               generalize g47 : sizedM size = r46 at c45
               exact (o94 (d := .bool r46) (E2 ++ List.replicate 3 (tC (eF (nt (andT (beq_self_eq_true 2) (andT h19 (andT h20 (andT h21 (andT h22 (andT h23 (andT h24 (andT h25 (andT h26 (rfl : true = true))))))))))))) ++ [tC (nt (andT (beq_self_eq_true 2) (andT h19 (andT h20 (andT h21 (andT h22 (andT h23 (andT h24 (andT h25 (andT h26 (rfl : true = true))))))))))), tC (eF h27), tC (eF h27), tC (eF h27), tC h27] ++ List.replicate 3 (tC (eF (ltL 10 h28))) ++ [tC (ltL 10 h28), tC (eF h29), tC (eF h29), tC (eF h29), tC h29] ++ List.replicate 3 (tC (eF (ltL 10 h30))) ++ [tC (ltL 10 h30), tC (eF h31), tC (eF h31), tC (eF h31), tC h31] ++ List.replicate 3 (tC (eF (leL 32768 h32))) ++ [tC (leL 32768 h32), tC (eF h33), tC (eF h33), tC (eF h33), tC h33, tC (leL 2147483648 h34), tC (neOf h35), tC (neOf h40), tT, .ret _ _ _ c45]) (by kernel_rfl)).to (by clear E1 E2; (try simp only [sl0, wk, wkL, wkO, eqCells, eqCell, mayM, mayRange, mayKind, sizedM, fOp, fWidth, fSize, fByReg, fDst, fSrc, fOff, fImm] at *); rw [Bool.eq_iff_iff]; simp [wk, wkL, wkO, eqCells, eqCell, mayM, mayRange, mayKind, sizedM, fOp, fWidth, fSize, fByReg, fDst, fSrc, fOff, fImm, *]; grind)
              by_cases h48 : kind = 3
              ·subst h48
               let E7 : EL := E2 ++ List.replicate 3 (tC (eF (nt (andT (beq_self_eq_true 3) (andT h19 (andT h20 (andT h21 (andT h22 (andT h23 (andT h24 (andT h25 (andT h26 (rfl : true = true))))))))))))) ++ [tC (nt (andT (beq_self_eq_true 3) (andT h19 (andT h20 (andT h21 (andT h22 (andT h23 (andT h24 (andT h25 (andT h26 (rfl : true = true))))))))))), tC (eF h27), tC (eF h27), tC (eF h27), tC h27] ++ List.replicate 3 (tC (eF (ltL 10 h28))) ++ [tC (ltL 10 h28), tC (eF h29), tC (eF h29), tC (eF h29), tC h29] ++ List.replicate 3 (tC (eF (ltL 10 h30))) ++ [tC (ltL 10 h30), tC (eF h31), tC (eF h31), tC (eF h31), tC h31] ++ List.replicate 3 (tC (eF (leL 32768 h32))) ++ [tC (leL 32768 h32), tC (eF h33), tC (eF h33), tC (eF h33), tC h33, tC (leL 2147483648 h34), tC (neOf h35), tC (neOf h40), tC (neOf h44), tT]
               rcases bft (decide (op < 0)) with h49 | h49
               ·exact (o94 (d := .bool false) (E7 ++ List.replicate 3 (tC (eT (leL 0 h49))) ++ [tC (leL 0 h49)]) (by kernel_rfl)).to (by clear E1 E2 E7; (try simp only [sl0, wk, wkL, wkO, eqCells, eqCell, mayM, mayRange, mayKind, sizedM, fOp, fWidth, fSize, fByReg, fDst, fSrc, fOff, fImm] at *); simp [wk, wkL, wkO, eqCells, eqCell, mayM, mayRange, mayKind, sizedM, fOp, fWidth, fSize, fByReg, fDst, fSrc, fOff, fImm, *]; omega)
               exact (o94 (d := .bool (decide (op ≤ 10))) (E7 ++ List.replicate 3 (tC (eT (leL 0 h49))) ++ [tC (leL 0 h49)]) (by kernel_rfl)).to (by clear E1 E2 E7; (try simp only [sl0, wk, wkL, wkO, eqCells, eqCell, mayM, mayRange, mayKind, sizedM, fOp, fWidth, fSize, fByReg, fDst, fSrc, fOff, fImm] at *); rw [Bool.eq_iff_iff]; simp [wk, wkL, wkO, eqCells, eqCell, mayM, mayRange, mayKind, sizedM, fOp, fWidth, fSize, fByReg, fDst, fSrc, fOff, fImm, *]; grind)
              by_cases h50 : kind = 5
              ·subst h50
               let E8 : EL := E2 ++ List.replicate 3 (tC (eF (nt (andT (beq_self_eq_true 5) (andT h19 (andT h20 (andT h21 (andT h22 (andT h23 (andT h24 (andT h25 (andT h26 (rfl : true = true))))))))))))) ++ [tC (nt (andT (beq_self_eq_true 5) (andT h19 (andT h20 (andT h21 (andT h22 (andT h23 (andT h24 (andT h25 (andT h26 (rfl : true = true))))))))))), tC (eF h27), tC (eF h27), tC (eF h27), tC h27] ++ List.replicate 3 (tC (eF (ltL 10 h28))) ++ [tC (ltL 10 h28), tC (eF h29), tC (eF h29), tC (eF h29), tC h29] ++ List.replicate 3 (tC (eF (ltL 10 h30))) ++ [tC (ltL 10 h30), tC (eF h31), tC (eF h31), tC (eF h31), tC h31] ++ List.replicate 3 (tC (eF (leL 32768 h32))) ++ [tC (leL 32768 h32), tC (eF h33), tC (eF h33), tC (eF h33), tC h33, tC (leL 2147483648 h34), tC (neOf h35), tC (neOf h40), tC (neOf h44), tC (neOf h48), tT]
               rcases bft (decide (imm < 0)) with h51 | h51
               ·exact (o94 (d := .bool false) (E8 ++ List.replicate 3 (tC (eT (leL 0 h51))) ++ [tC (leL 0 h51)]) (by kernel_rfl)).to (by clear E1 E2 E8; (try simp only [sl0, wk, wkL, wkO, eqCells, eqCell, mayM, mayRange, mayKind, sizedM, fOp, fWidth, fSize, fByReg, fDst, fSrc, fOff, fImm] at *); simp [wk, wkL, wkO, eqCells, eqCell, mayM, mayRange, mayKind, sizedM, fOp, fWidth, fSize, fByReg, fDst, fSrc, fOff, fImm, *]; omega)
               exact (o94 (d := .bool (decide (imm < 16))) (E8 ++ List.replicate 3 (tC (eT (leL 0 h51))) ++ [tC (leL 0 h51)]) (by kernel_rfl)).to (by clear E1 E2 E8; (try simp only [sl0, wk, wkL, wkO, eqCells, eqCell, mayM, mayRange, mayKind, sizedM, fOp, fWidth, fSize, fByReg, fDst, fSrc, fOff, fImm] at *); rw [Bool.eq_iff_iff]; simp [wk, wkL, wkO, eqCells, eqCell, mayM, mayRange, mayKind, sizedM, fOp, fWidth, fSize, fByReg, fDst, fSrc, fOff, fImm, *]; grind)
              exact (o94 (d := .bool true) (E2 ++ List.replicate 3 (tC (eF (nt (andT (beq_self_eq_true kind) (andT h19 (andT h20 (andT h21 (andT h22 (andT h23 (andT h24 (andT h25 (andT h26 (rfl : true = true))))))))))))) ++ [tC (nt (andT (beq_self_eq_true kind) (andT h19 (andT h20 (andT h21 (andT h22 (andT h23 (andT h24 (andT h25 (andT h26 (rfl : true = true))))))))))), tC (eF h27), tC (eF h27), tC (eF h27), tC h27] ++ List.replicate 3 (tC (eF (ltL 10 h28))) ++ [tC (ltL 10 h28), tC (eF h29), tC (eF h29), tC (eF h29), tC h29] ++ List.replicate 3 (tC (eF (ltL 10 h30))) ++ [tC (ltL 10 h30), tC (eF h31), tC (eF h31), tC (eF h31), tC h31] ++ List.replicate 3 (tC (eF (leL 32768 h32))) ++ [tC (leL 32768 h32), tC (eF h33), tC (eF h33), tC (eF h33), tC h33, tC (leL 2147483648 h34), tC (neOf h35), tC (neOf h40), tC (neOf h44), tC (neOf h48), tC (neOf h50)]) (by kernel_rfl)).to (by clear E1 E2; (try simp only [sl0, wk, wkL, wkO, eqCells, eqCell, mayM, mayRange, mayKind, sizedM, fOp, fWidth, fSize, fByReg, fDst, fSrc, fOff, fImm] at *); rw [Bool.eq_iff_iff]; simp [wk, wkL, wkO, eqCells, eqCell, mayM, mayRange, mayKind, sizedM, fOp, fWidth, fSize, fByReg, fDst, fSrc, fOff, fImm, *]; grind)
             exact (o94 (d := .bool false) (E2 ++ List.replicate 3 (tC (eF (nt (andT (beq_self_eq_true kind) (andT h19 (andT h20 (andT h21 (andT h22 (andT h23 (andT h24 (andT h25 (andT h26 (rfl : true = true))))))))))))) ++ [tC (nt (andT (beq_self_eq_true kind) (andT h19 (andT h20 (andT h21 (andT h22 (andT h23 (andT h24 (andT h25 (andT h26 (rfl : true = true))))))))))), tC (eF h27), tC (eF h27), tC (eF h27), tC h27] ++ List.replicate 3 (tC (eF (ltL 10 h28))) ++ [tC (ltL 10 h28), tC (eF h29), tC (eF h29), tC (eF h29), tC h29] ++ List.replicate 3 (tC (eF (ltL 10 h30))) ++ [tC (ltL 10 h30), tC (eF h31), tC (eF h31), tC (eF h31), tC h31] ++ List.replicate 3 (tC (eF (leL 32768 h32))) ++ [tC (leL 32768 h32), tC (eF h33), tC (eF h33), tC (eF h33), tC h33, tC (leL 2147483648 h34)]) (by kernel_rfl)).to (by clear E1 E2; (try simp only [sl0, wk, wkL, wkO, eqCells, eqCell, mayM, mayRange, mayKind, sizedM, fOp, fWidth, fSize, fByReg, fDst, fSrc, fOff, fImm] at *); simp [wk, wkL, wkO, eqCells, eqCell, mayM, mayRange, mayKind, sizedM, fOp, fWidth, fSize, fByReg, fDst, fSrc, fOff, fImm, *]; omega)
            exact (o94 (d := .bool false) (E2 ++ List.replicate 3 (tC (eF (nt (andT (beq_self_eq_true kind) (andT h19 (andT h20 (andT h21 (andT h22 (andT h23 (andT h24 (andT h25 (andT h26 (rfl : true = true))))))))))))) ++ [tC (nt (andT (beq_self_eq_true kind) (andT h19 (andT h20 (andT h21 (andT h22 (andT h23 (andT h24 (andT h25 (andT h26 (rfl : true = true))))))))))), tC (eF h27), tC (eF h27), tC (eF h27), tC h27] ++ List.replicate 3 (tC (eF (ltL 10 h28))) ++ [tC (ltL 10 h28), tC (eF h29), tC (eF h29), tC (eF h29), tC h29] ++ List.replicate 3 (tC (eF (ltL 10 h30))) ++ [tC (ltL 10 h30), tC (eF h31), tC (eF h31), tC (eF h31), tC h31] ++ List.replicate 3 (tC (eF (leL 32768 h32))) ++ [tC (leL 32768 h32), tF, tF, tF, tT, tT]) (by kernel_rfl)).to (by clear E1 E2; (try simp only [sl0, wk, wkL, wkO, eqCells, eqCell, mayM, mayRange, mayKind, sizedM, fOp, fWidth, fSize, fByReg, fDst, fSrc, fOff, fImm] at *); simp [wk, wkL, wkO, eqCells, eqCell, mayM, mayRange, mayKind, sizedM, fOp, fWidth, fSize, fByReg, fDst, fSrc, fOff, fImm, *]; omega)
           exact (o94 (d := .bool false) (E2 ++ List.replicate 3 (tC (eF (nt (andT (beq_self_eq_true kind) (andT h19 (andT h20 (andT h21 (andT h22 (andT h23 (andT h24 (andT h25 (andT h26 (rfl : true = true))))))))))))) ++ [tC (nt (andT (beq_self_eq_true kind) (andT h19 (andT h20 (andT h21 (andT h22 (andT h23 (andT h24 (andT h25 (andT h26 (rfl : true = true))))))))))), tC (eF h27), tC (eF h27), tC (eF h27), tC h27] ++ List.replicate 3 (tC (eF (ltL 10 h28))) ++ [tC (ltL 10 h28), tC (eF h29), tC (eF h29), tC (eF h29), tC h29] ++ List.replicate 3 (tC (eF (ltL 10 h30))) ++ [tC (ltL 10 h30), tF, tF, tF, tT, tF, tF, tF, tT, tF, tF, tF, tT, tT]) (by kernel_rfl)).to (by clear E1 E2; (try simp only [sl0, wk, wkL, wkO, eqCells, eqCell, mayM, mayRange, mayKind, sizedM, fOp, fWidth, fSize, fByReg, fDst, fSrc, fOff, fImm] at *); simp [wk, wkL, wkO, eqCells, eqCell, mayM, mayRange, mayKind, sizedM, fOp, fWidth, fSize, fByReg, fDst, fSrc, fOff, fImm, *]; omega)
          exact (o94 (d := .bool false) (E2 ++ List.replicate 3 (tC (eF (nt (andT (beq_self_eq_true kind) (andT h19 (andT h20 (andT h21 (andT h22 (andT h23 (andT h24 (andT h25 (andT h26 (rfl : true = true))))))))))))) ++ [tC (nt (andT (beq_self_eq_true kind) (andT h19 (andT h20 (andT h21 (andT h22 (andT h23 (andT h24 (andT h25 (andT h26 (rfl : true = true))))))))))), tC (eF h27), tC (eF h27), tC (eF h27), tC h27] ++ List.replicate 3 (tC (eF (ltL 10 h28))) ++ [tC (ltL 10 h28), tF, tF, tF, tT, tF, tF, tF, tT, tF, tF, tF, tT, tF, tF, tF, tT, tF, tF, tF, tT, tT]) (by kernel_rfl)).to (by clear E1 E2; (try simp only [sl0, wk, wkL, wkO, eqCells, eqCell, mayM, mayRange, mayKind, sizedM, fOp, fWidth, fSize, fByReg, fDst, fSrc, fOff, fImm] at *); simp [wk, wkL, wkO, eqCells, eqCell, mayM, mayRange, mayKind, sizedM, fOp, fWidth, fSize, fByReg, fDst, fSrc, fOff, fImm, *]; omega)
         exact (o94 (d := .bool false) (E2 ++ List.replicate 3 (tC (eF (nt (andT (beq_self_eq_true kind) (andT h19 (andT h20 (andT h21 (andT h22 (andT h23 (andT h24 (andT h25 (andF (y := true) h26)))))))))))) ++ [tC (nt (andT (beq_self_eq_true kind) (andT h19 (andT h20 (andT h21 (andT h22 (andT h23 (andT h24 (andT h25 (andF (y := true) h26)))))))))), tF, tF, tF, tT, tF, tF, tF, tT, tF, tF, tF, tT, tF, tF, tF, tT, tF, tF, tF, tT, tF, tF, tF, tT, tF, tF, tF, tT, tT]) (by kernel_rfl)).to (by clear E1 E2; (try simp only [sl0, wk, wkL, wkO, eqCells, eqCell, mayM, mayRange, mayKind, sizedM, fOp, fWidth, fSize, fByReg, fDst, fSrc, fOff, fImm] at *); rw [Bool.eq_iff_iff]; simp [wk, wkL, wkO, eqCells, eqCell, mayM, mayRange, mayKind, sizedM, fOp, fWidth, fSize, fByReg, fDst, fSrc, fOff, fImm, *]; grind)
        exact (o94 (d := .bool false) (E2 ++ List.replicate 3 (tC (eF (nt (andT (beq_self_eq_true kind) (andT h19 (andT h20 (andT h21 (andT h22 (andT h23 (andT h24 (andF (y := eqCells [.int .i64 imm] [.int .i64 r17]) h25))))))))))) ++ [tC (nt (andT (beq_self_eq_true kind) (andT h19 (andT h20 (andT h21 (andT h22 (andT h23 (andT h24 (andF (y := eqCells [.int .i64 imm] [.int .i64 r17]) h25))))))))), tF, tF, tF, tT, tF, tF, tF, tT, tF, tF, tF, tT, tF, tF, tF, tT, tF, tF, tF, tT, tF, tF, tF, tT, tF, tF, tF, tT, tT]) (by kernel_rfl)).to (by clear E1 E2; (try simp only [sl0, wk, wkL, wkO, eqCells, eqCell, mayM, mayRange, mayKind, sizedM, fOp, fWidth, fSize, fByReg, fDst, fSrc, fOff, fImm] at *); rw [Bool.eq_iff_iff]; simp [wk, wkL, wkO, eqCells, eqCell, mayM, mayRange, mayKind, sizedM, fOp, fWidth, fSize, fByReg, fDst, fSrc, fOff, fImm, *]; grind)
       exact (o94 (d := .bool false) (E2 ++ List.replicate 3 (tC (eF (nt (andT (beq_self_eq_true kind) (andT h19 (andT h20 (andT h21 (andT h22 (andT h23 (andF (y := eqCells [.int .i64 off, .int .i64 imm] [.int .i64 r15, .int .i64 r17]) h24)))))))))) ++ [tC (nt (andT (beq_self_eq_true kind) (andT h19 (andT h20 (andT h21 (andT h22 (andT h23 (andF (y := eqCells [.int .i64 off, .int .i64 imm] [.int .i64 r15, .int .i64 r17]) h24)))))))), tF, tF, tF, tT, tF, tF, tF, tT, tF, tF, tF, tT, tF, tF, tF, tT, tF, tF, tF, tT, tF, tF, tF, tT, tF, tF, tF, tT, tT]) (by kernel_rfl)).to (by clear E1 E2; (try simp only [sl0, wk, wkL, wkO, eqCells, eqCell, mayM, mayRange, mayKind, sizedM, fOp, fWidth, fSize, fByReg, fDst, fSrc, fOff, fImm] at *); rw [Bool.eq_iff_iff]; simp [wk, wkL, wkO, eqCells, eqCell, mayM, mayRange, mayKind, sizedM, fOp, fWidth, fSize, fByReg, fDst, fSrc, fOff, fImm, *]; grind)
      exact (o94 (d := .bool false) (E2 ++ List.replicate 3 (tC (eF (nt (andT (beq_self_eq_true kind) (andT h19 (andT h20 (andT h21 (andT h22 (andF (y := eqCells [.int .i8 src, .int .i64 off, .int .i64 imm] [.int .i8 r13, .int .i64 r15, .int .i64 r17]) h23))))))))) ++ [tC (nt (andT (beq_self_eq_true kind) (andT h19 (andT h20 (andT h21 (andT h22 (andF (y := eqCells [.int .i8 src, .int .i64 off, .int .i64 imm] [.int .i8 r13, .int .i64 r15, .int .i64 r17]) h23))))))), tF, tF, tF, tT, tF, tF, tF, tT, tF, tF, tF, tT, tF, tF, tF, tT, tF, tF, tF, tT, tF, tF, tF, tT, tF, tF, tF, tT, tT]) (by kernel_rfl)).to (by clear E1 E2; (try simp only [sl0, wk, wkL, wkO, eqCells, eqCell, mayM, mayRange, mayKind, sizedM, fOp, fWidth, fSize, fByReg, fDst, fSrc, fOff, fImm] at *); rw [Bool.eq_iff_iff]; simp [wk, wkL, wkO, eqCells, eqCell, mayM, mayRange, mayKind, sizedM, fOp, fWidth, fSize, fByReg, fDst, fSrc, fOff, fImm, *]; grind)
     exact (o94 (d := .bool false) (E2 ++ List.replicate 3 (tC (eF (nt (andT (beq_self_eq_true kind) (andT h19 (andT h20 (andT h21 (andF (y := eqCells [.int .i8 dst, .int .i8 src, .int .i64 off, .int .i64 imm] [.int .i8 r11, .int .i8 r13, .int .i64 r15, .int .i64 r17]) h22)))))))) ++ [tC (nt (andT (beq_self_eq_true kind) (andT h19 (andT h20 (andT h21 (andF (y := eqCells [.int .i8 dst, .int .i8 src, .int .i64 off, .int .i64 imm] [.int .i8 r11, .int .i8 r13, .int .i64 r15, .int .i64 r17]) h22)))))), tF, tF, tF, tT, tF, tF, tF, tT, tF, tF, tF, tT, tF, tF, tF, tT, tF, tF, tF, tT, tF, tF, tF, tT, tF, tF, tF, tT, tT]) (by kernel_rfl)).to (by clear E1 E2; (try simp only [sl0, wk, wkL, wkO, eqCells, eqCell, mayM, mayRange, mayKind, sizedM, fOp, fWidth, fSize, fByReg, fDst, fSrc, fOff, fImm] at *); rw [Bool.eq_iff_iff]; simp [wk, wkL, wkO, eqCells, eqCell, mayM, mayRange, mayKind, sizedM, fOp, fWidth, fSize, fByReg, fDst, fSrc, fOff, fImm, *]; grind)
    exact (o94 (d := .bool false) (E2 ++ List.replicate 3 (tC (eF (nt (andT (beq_self_eq_true kind) (andT h19 (andT h20 (andF (y := eqCells [.bool byReg, .int .i8 dst, .int .i8 src, .int .i64 off, .int .i64 imm] [.bool r9, .int .i8 r11, .int .i8 r13, .int .i64 r15, .int .i64 r17]) h21))))))) ++ [tC (nt (andT (beq_self_eq_true kind) (andT h19 (andT h20 (andF (y := eqCells [.bool byReg, .int .i8 dst, .int .i8 src, .int .i64 off, .int .i64 imm] [.bool r9, .int .i8 r11, .int .i8 r13, .int .i64 r15, .int .i64 r17]) h21))))), tF, tF, tF, tT, tF, tF, tF, tT, tF, tF, tF, tT, tF, tF, tF, tT, tF, tF, tF, tT, tF, tF, tF, tT, tF, tF, tF, tT, tT]) (by kernel_rfl)).to (by clear E1 E2; (try simp only [sl0, wk, wkL, wkO, eqCells, eqCell, mayM, mayRange, mayKind, sizedM, fOp, fWidth, fSize, fByReg, fDst, fSrc, fOff, fImm] at *); rw [Bool.eq_iff_iff]; simp [wk, wkL, wkO, eqCells, eqCell, mayM, mayRange, mayKind, sizedM, fOp, fWidth, fSize, fByReg, fDst, fSrc, fOff, fImm, *]; grind)
   exact (o94 (d := .bool false) (E2 ++ List.replicate 3 (tC (eF (nt (andT (beq_self_eq_true kind) (andT h19 (andF (y := eqCells [.int .i8 size, .bool byReg, .int .i8 dst, .int .i8 src, .int .i64 off, .int .i64 imm] [.int .i8 r7, .bool r9, .int .i8 r11, .int .i8 r13, .int .i64 r15, .int .i64 r17]) h20)))))) ++ [tC (nt (andT (beq_self_eq_true kind) (andT h19 (andF (y := eqCells [.int .i8 size, .bool byReg, .int .i8 dst, .int .i8 src, .int .i64 off, .int .i64 imm] [.int .i8 r7, .bool r9, .int .i8 r11, .int .i8 r13, .int .i64 r15, .int .i64 r17]) h20)))), tF, tF, tF, tT, tF, tF, tF, tT, tF, tF, tF, tT, tF, tF, tF, tT, tF, tF, tF, tT, tF, tF, tF, tT, tF, tF, tF, tT, tT]) (by kernel_rfl)).to (by clear E1 E2; (try simp only [sl0, wk, wkL, wkO, eqCells, eqCell, mayM, mayRange, mayKind, sizedM, fOp, fWidth, fSize, fByReg, fDst, fSrc, fOff, fImm] at *); rw [Bool.eq_iff_iff]; simp [wk, wkL, wkO, eqCells, eqCell, mayM, mayRange, mayKind, sizedM, fOp, fWidth, fSize, fByReg, fDst, fSrc, fOff, fImm, *]; grind)
  exact (o94 (d := .bool false) (E2 ++ List.replicate 3 (tC (eF (nt (andT (beq_self_eq_true kind) (andF (y := eqCells [.int .i8 width, .int .i8 size, .bool byReg, .int .i8 dst, .int .i8 src, .int .i64 off, .int .i64 imm] [.int .i8 r5, .int .i8 r7, .bool r9, .int .i8 r11, .int .i8 r13, .int .i64 r15, .int .i64 r17]) h19))))) ++ [tC (nt (andT (beq_self_eq_true kind) (andF (y := eqCells [.int .i8 width, .int .i8 size, .bool byReg, .int .i8 dst, .int .i8 src, .int .i64 off, .int .i64 imm] [.int .i8 r5, .int .i8 r7, .bool r9, .int .i8 r11, .int .i8 r13, .int .i64 r15, .int .i64 r17]) h19))), tF, tF, tF, tT, tF, tF, tF, tT, tF, tF, tF, tT, tF, tF, tF, tT, tF, tF, tF, tT, tF, tF, tF, tT, tF, tF, tF, tT, tT]) (by kernel_rfl)).to (by clear E1 E2; (try simp only [sl0, wk, wkL, wkO, eqCells, eqCell, mayM, mayRange, mayKind, sizedM, fOp, fWidth, fSize, fByReg, fDst, fSrc, fOff, fImm] at *); rw [Bool.eq_iff_iff]; simp [wk, wkL, wkO, eqCells, eqCell, mayM, mayRange, mayKind, sizedM, fOp, fWidth, fSize, fByReg, fDst, fSrc, fOff, fImm, *]; grind)
 exact (o94 (d := .bool false) (E1 ++ List.replicate 4 (tC (eF (ltL 6 h1))) ++ [tC (ltL 6 h1), tF, tF, tF, tT, tF, tF, tF, tT, tF, tF, tF, tT, tF, tF, tF, tT, tF, tF, tF, tT, tF, tF, tF, tT, tF, tF, tF, tT, tF, tF, tF, tT, tT]) (by kernel_rfl)).to (by clear E1; (try simp only [sl0, wk, wkL, wkO, eqCells, eqCell, mayM, mayRange, mayKind, sizedM, fOp, fWidth, fSize, fByReg, fDst, fSrc, fOff, fImm] at *); rw [Bool.eq_iff_iff]; simp [wk, wkL, wkO, eqCells, eqCell, mayM, mayRange, mayKind, sizedM, fOp, fWidth, fSize, fByReg, fDst, fSrc, fOff, fImm, *]; grind)
end Go.Proofs.Ytcngafhpodeenaa
