/- Contracts and plain laws that a statement's proof leans on (texts merged: MdK1, MdK2, MdK3, MdK4, FE4, FE4A, FE6, FE6A). -/
import Derived.Test.YtkpneibifdoecaaGreatT04
import Derived.Test.YtkpneibifdoecaaGreatT05
import Derived.Test.YtkpneibifdoecaaGreatT06
import Derived.Test.YtkpneibifdoecaaGreatT10
import Derived.Test.YtkpneibifdoecaaGreatT11
set_option linter.unusedVariables false
set_option linter.unusedSimpArgs false
namespace Go.Ev
open Go
def InstS.may (x : InstS) : Bool := mayM x.kind x.op x.width x.size x.byReg x.dst x.src x.off x.imm
def isd (l : List InstS) : List D := l.map InstS.d
def tgt2 (i kind off : Int) : Bool := (kind == 3 || kind == 4) && (decide (-1099511627776 ≤ i ∧ i ≤ 1099511627776) && decide (-1099511627776 ≤ off ∧ off ≤ 1099511627776))
def tgt1 (i kind off : Int) : Int := if tgt2 i kind off = true then i + 1 + off else 0
def ckFrom (n : Int) : Int → List InstS → Option (Int × Int)
  | _, [] => none
  | i, x :: r => if x.may = false then some (i, 31) else if tgt2 i x.kind x.off = true ∧ ¬ (0 ≤ tgt1 i x.kind x.off ∧ tgt1 i x.kind x.off < n) then some (i, 32) else ckFrom n (i + 1) r
def kindAt (l : List InstS) (i : Nat) : Int := match l[i]? with | some x => x.kind | none => 0
def checkM (ctx : Int) (l : List InstS) : Int × Int :=
  if ctx < 0 ∨ 256 < ctx then (0, 2) else if l.length < 1 ∨ 64 < l.length then (0, 3)
  else match ckFrom l.length 0 l with
    | some r => r
    | none => if kindAt l (l.length - 1) = 4 ∨ kindAt l (l.length - 1) = 6 then (0, 0) else (l.length - 1, 33)
end Go.Ev

namespace Go.Ev
open Go
def stopK (k : Int) : Bool := k == 3 || k == 4 || k == 6
def stepB (es : List (Int × D)) (k : Int) (x : InstS) : List (Int × D) :=
  if tgt2 k x.kind x.off = true then updD (if stopK x.kind = true then updD es (k + 1) (.bool true) else es) (tgt1 k x.kind x.off) (.bool true)
  else if stopK x.kind = true then updD es (k + 1) (.bool true) else es
def begE (l : List InstS) : Nat → List (Int × D)
  | 0 => [(0, .bool true)]
  | k + 1 => match l[k]? with
    | some x => stepB (begE l k) k x
    | none => begE l k
def begS (l : List InstS) (k : Nat) (i : Int) : Bool := match l[k]? with
  | some x => (stopK x.kind && i == (k : Int) + 1) || (tgt2 k x.kind x.off && i == tgt1 k x.kind x.off)
  | none => false
def begU (l : List InstS) (i : Int) : Nat → Bool
  | 0 => i == 0
  | k + 1 => begU l i k || begS l k i
def begM (l : List InstS) (i : Int) : Bool := begU l i l.length
end Go.Ev

namespace Go.Ev
open Go
structure OkP (l : List InstS) : Prop where
  pos : 1 ≤ l.length
  le : l.length ≤ 64
  may : ∀ j (h : j < l.length), l[j].may = true
  tgt : ∀ j (h : j < l.length), tgt2 j l[j].kind l[j].off = true → 0 ≤ tgt1 j l[j].kind l[j].off ∧ tgt1 j l[j].kind l[j].off < l.length
  last : kindAt l (l.length - 1) = 4 ∨ kindAt l (l.length - 1) = 6
end Go.Ev

namespace Go.Ev
open Go
theorem put_set {l : List D} {i : Nat} {x : D} (h : (i : Int) < (l.length : Int)) : PutsA l i [x] (l.set i x) := by
 refine ⟨?_, by simp; omega⟩
 rw [List.set_eq_take_append_cons_drop, if_pos (by omega)]
 rfl
theorem cl_set {l : List D} {i : Nat} {x : D} (h : ∀ c ∈ l, c.clean = true) (hx : x.clean = true) : ∀ c ∈ l.set i x, c.clean = true := by
 intro c hc
 rcases List.mem_or_eq_of_mem_set hc with q | rfl
 ·exact h c q
 ·exact hx
end Go.Ev

namespace Go.Proofs.YtkpneibifdoecaaGreat
open Go Go.Ev
set_option maxRecDepth 100000
set_option maxHeartbeats 8000000
theorem stored_ok (m : MachS) (src disp : Int) (s0 : 0 ≤ src) (s1 : src ≤ 15) (hm : mayX 27 64 0 src 4 disp 0 0 = true)  : Ret Tryz.prog 54 ([.agg (maC m), xD 27 64 0 src 4 disp 0 0]) (.int .u64 (rg m.rl src)) := by
 have c0 := @mayX_ok 27 64 0 src 4 disp 0 0 (by decide)
 rw [show (mayX 27 64 0 src 4 disp 0 0) = true from hm] at c0
 have c1 := @cut_ok (rg (MachS.rl m) src) 64
 exact (o54 (d := .int .u64 (cutM (rg (MachS.rl m) src) 64)) [tT, tT, .ret _ _ _ c0, tT, tF, tF, .tst (decide (0 ≤ src ∧ src < (↑(16 : Nat) : Int))) true (by ((try simp only [List.length_set, List.length_map, sl2] at *); (try unfold big at *); omega)), .get _ _ _ (@get_regm m src ([.bool (MachS.fk m), .bool (MachS.fc m), .bool (MachS.fz m), .bool (MachS.fs m), .bool (MachS.fo m), .int .u64 (MachS.pc m)]) s0 s1), .ret _ _ _ c1] (by kernel_rfl)).to (by simp [wk, cutM])
theorem dn_end (m : MachS) (p : PlS) (r : MachS) (cs xs : List D) (hcl : cs.length = 11) (hcs : ∀ c ∈ cs, c.clean = true) (k : Nat) (h : (xs.length : Int) ≤ k)  : RoundRun Tryz.prog (loopB Tryz.f26 0) ⟨[4, 6], [0, 1, 1000006, 7, 8], []⟩ 9 (uu :: uu :: D.slc (6 : Nat) (1 : Nat) (11 : Nat) :: uu :: D.ptr false 7 0 :: uu :: D.ptr false 8 0 :: uu :: uu :: uu :: uu :: uu :: uu :: uu :: .lst .no 8 xs :: .int .i64 (↑(List.length xs) : Int) :: .int .i64 (↑k : Int) :: un 74) [Ob.box (plC p), Ob.box (reC r), Ob.dead, Ob.dead, Ob.dead, Ob.dead, Ob.box cs, Ob.box (maC m), Ob.box zeC] (Ex.exit (0 : Nat)) (uu :: uu :: uu :: uu :: D.ptr false 7 0 :: uu :: D.ptr false 8 0 :: un 84) ([Ob.box (plC p), Ob.box (reC r), Ob.dead, Ob.dead, Ob.dead, Ob.dead, Ob.box (List.map D.demote cs), Ob.box (maC m), Ob.box zeC]) := by
 exact (RoundRun.of_eval (sp := ⟨[4, 6], [0, 1, 1000006, 7, 8], []⟩) (n0 := 9) (ex := Ex.exit (0 : Nat)) (t' := (uu :: uu :: uu :: uu :: D.ptr false 7 0 :: uu :: D.ptr false 8 0 :: un 84)) (s' := [Ob.box (plC p), Ob.box (reC r), Ob.dead, Ob.dead, Ob.dead, Ob.dead, Ob.box (List.map D.demote cs), Ob.box (maC m), Ob.box zeC]) mixed [tC (by ((try simp only [List.length_set, List.length_map, sl2] at *); (try unfold big at *); omega) : (decide ((↑k : Int) < (↑(List.length xs) : Int))) = false), .cl cs (by first | exact clAll rfl | exact hcs | exact cl_set hcs rfl)] (by kernel_rfl)).cast (by rfl) (by rfl)
theorem dn_ret (m : MachS) (p : PlS) (r : MachS) (cs xs : List D) (hcl : cs.length = 11) (hcs : ∀ c ∈ cs, c.clean = true) (k : Nat) (k1 : (k : Int) < (xs.length : Int)) (n1 : (xs.length : Int) ≤ 1000) (op w dst src base disp imm cc : Int) (hx : xs[(k : Int).toNat]? = some (xD op w dst src base disp imm cc)) (ho : op = 30)  : RoundRun Tryz.prog (loopB Tryz.f26 0) ⟨[6, 7], [0, 1, 1000006, 7, 8], []⟩ 9 (uu :: uu :: D.slc (6 : Nat) (1 : Nat) (11 : Nat) :: uu :: D.ptr false 7 0 :: uu :: D.ptr false 8 0 :: uu :: uu :: uu :: uu :: uu :: uu :: uu :: .lst .no 8 xs :: .int .i64 (↑(List.length xs) : Int) :: .int .i64 (↑k : Int) :: un 74) [Ob.box (plC p), Ob.box (reC r), Ob.dead, Ob.dead, Ob.dead, Ob.dead, Ob.box cs, Ob.box (maC m), Ob.box zeC] (Ex.ret) (uu :: uu :: uu :: uu :: uu :: uu :: D.ptr false 8 0 :: .bool true :: un 83) ([Ob.box (plC p), Ob.box (reC r), Ob.dead, Ob.dead, Ob.dead, Ob.dead, Ob.box (List.map D.demote cs), Ob.box (maC m), Ob.box (maC m)]) := by
 exact (RoundRun.of_eval (sp := ⟨[6, 7], [0, 1, 1000006, 7, 8], []⟩) (n0 := 9) (ex := Ex.ret) (t' := (uu :: uu :: uu :: uu :: uu :: uu :: D.ptr false 8 0 :: .bool true :: un 83)) (s' := [Ob.box (plC p), Ob.box (reC r), Ob.dead, Ob.dead, Ob.dead, Ob.dead, Ob.box (List.map D.demote cs), Ob.box (maC m), Ob.box (maC m)]) mixed ([tC (by ((try simp only [List.length_set, List.length_map, sl2] at *); (try unfold big at *); omega) : (decide ((↑k : Int) < (↑(List.length xs) : Int))) = true), tT, .get _ _ _ hx] ++ List.replicate 3 (tC (eF (by ((try simp only [List.length_set, List.length_map, sl2] at *); (try unfold big at *); omega) : (op == 31) = false))) ++ [tC (by ((try simp only [List.length_set, List.length_map, sl2] at *); (try unfold big at *); omega) : (op == 31) = false), tC (eqI 30 true (by ((try simp only [List.length_set, List.length_map, sl2] at *); (try unfold big at *); omega) : op = 30)), .cl cs (by first | exact clAll rfl | exact hcs | exact cl_set hcs rfl)]) (by kernel_rfl)).cast (by rfl) (by rfl)
theorem dn_plain (m : MachS) (p : PlS) (r : MachS) (cs xs : List D) (hcl : cs.length = 11) (hcs : ∀ c ∈ cs, c.clean = true) (k : Nat) (k1 : (k : Int) < (xs.length : Int)) (n1 : (xs.length : Int) ≤ 1000) (op w dst src base disp imm cc : Int) (hx : xs[(k : Int).toNat]? = some (xD op w dst src base disp imm cc)) (m1 : MachS) (hd : Ret Tryz.prog 55 [.agg (maC m), xD op w dst src base disp imm cc, .int .u64 0] (.tup [.agg (maC m1), .int .i64 0])) (o1 : (op == 31) = false) (o2 : (op == 30) = false) (o3 : (op == 26) = false) (o4 : (op == 27) = false)  : RoundRun Tryz.prog (loopB Tryz.f26 0) ⟨[2, 4, 6, 14, 15, 16], [0, 1, 1000006, 7, 8], []⟩ 9 (uu :: uu :: D.slc (6 : Nat) (1 : Nat) (11 : Nat) :: uu :: D.ptr false 7 0 :: uu :: D.ptr false 8 0 :: uu :: uu :: uu :: uu :: uu :: uu :: uu :: .lst .no 8 xs :: .int .i64 (↑(List.length xs) : Int) :: .int .i64 (↑k : Int) :: un 74) [Ob.box (plC p), Ob.box (reC r), Ob.dead, Ob.dead, Ob.dead, Ob.dead, Ob.box cs, Ob.box (maC m), Ob.box zeC] (Ex.norm) (uu :: uu :: D.slc (6 : Nat) (1 : Nat) (11 : Nat) :: uu :: D.ptr false 7 0 :: uu :: D.ptr false 8 0 :: uu :: uu :: uu :: uu :: uu :: uu :: uu :: .lst .no 8 xs :: .int .i64 (↑(List.length xs) : Int) :: .int .i64 (IntKind.wrap IntKind.i64 ((↑k : Int) + 1)) :: un 74) ([Ob.box (plC p), Ob.box (reC r), Ob.dead, Ob.dead, Ob.dead, Ob.dead, Ob.box (List.map D.demote cs), Ob.box (maC m1), Ob.box zeC]) := by
 exact (RoundRun.of_eval (sp := ⟨[2, 4, 6, 14, 15, 16], [0, 1, 1000006, 7, 8], []⟩) (n0 := 9) (ex := Ex.norm) (t' := (uu :: uu :: D.slc (6 : Nat) (1 : Nat) (11 : Nat) :: uu :: D.ptr false 7 0 :: uu :: D.ptr false 8 0 :: uu :: uu :: uu :: uu :: uu :: uu :: uu :: .lst .no 8 xs :: .int .i64 (↑(List.length xs) : Int) :: .int .i64 (IntKind.wrap IntKind.i64 ((↑k : Int) + 1)) :: un 74)) (s' := [Ob.box (plC p), Ob.box (reC r), Ob.dead, Ob.dead, Ob.dead, Ob.dead, Ob.box (List.map D.demote cs), Ob.box (maC m1), Ob.box zeC]) mixed [tC (by ((try simp only [List.length_set, List.length_map, sl2] at *); (try unfold big at *); omega) : (decide ((↑k : Int) < (↑(List.length xs) : Int))) = true), tT, .get _ _ _ hx, tC (eF o1), tC (eF o1), tC (eF o1), tC o1, tC o2, tC (eF o3), tC (eF o3), tC (eF o3), tC o3, tC o4, .ret _ _ _ hd, tF, .cl cs (by first | exact clAll rfl | exact hcs | exact cl_set hcs rfl)] (by kernel_rfl)).cast (by rfl) (by rfl)
theorem dn_load (m : MachS) (p : PlS) (r : MachS) (cs xs : List D) (hcl : cs.length = 11) (hcs : ∀ c ∈ cs, c.clean = true) (k : Nat) (k1 : (k : Int) < (xs.length : Int)) (n1 : (xs.length : Int) ≤ 1000) (op w dst src base disp imm cc : Int) (hx : xs[(k : Int).toNat]? = some (xD op w dst src base disp imm cc)) (ho : op = 26) (hw : w = 64) (hb : base = 4) (hr : (disp.tmod 8 == 0) = true) (q0 : 0 ≤ IntKind.i64.wrap (disp.tdiv 8)) (q1 : IntKind.i64.wrap (disp.tdiv 8) < 11) (v : Int) (hv : cs[Int.toNat (IntKind.i64.wrap (disp.tdiv 8)) * 1]? = some (.int .u64 v)) (m1 : MachS) (hd : Ret Tryz.prog 55 [.agg (maC m), xD op w dst src base disp imm cc, .int .u64 v] (.tup [.agg (maC m1), .int .i64 0]))  : RoundRun Tryz.prog (loopB Tryz.f26 0) ⟨[2, 4, 6, 14, 15, 16], [0, 1, 1000006, 7, 8], []⟩ 9 (uu :: uu :: D.slc (6 : Nat) (1 : Nat) (11 : Nat) :: uu :: D.ptr false 7 0 :: uu :: D.ptr false 8 0 :: uu :: uu :: uu :: uu :: uu :: uu :: uu :: .lst .no 8 xs :: .int .i64 (↑(List.length xs) : Int) :: .int .i64 (↑k : Int) :: un 74) [Ob.box (plC p), Ob.box (reC r), Ob.dead, Ob.dead, Ob.dead, Ob.dead, Ob.box cs, Ob.box (maC m), Ob.box zeC] (Ex.norm) (uu :: uu :: D.slc (6 : Nat) (1 : Nat) (11 : Nat) :: uu :: D.ptr false 7 0 :: uu :: D.ptr false 8 0 :: uu :: uu :: uu :: uu :: uu :: uu :: uu :: .lst .no 8 xs :: .int .i64 (↑(List.length xs) : Int) :: .int .i64 (IntKind.wrap IntKind.i64 ((↑k : Int) + 1)) :: un 74) ([Ob.box (plC p), Ob.box (reC r), Ob.dead, Ob.dead, Ob.dead, Ob.dead, Ob.box (List.map D.demote cs), Ob.box (maC m1), Ob.box zeC]) := by
 exact (RoundRun.of_eval (sp := ⟨[2, 4, 6, 14, 15, 16], [0, 1, 1000006, 7, 8], []⟩) (n0 := 9) (ex := Ex.norm) (t' := (uu :: uu :: D.slc (6 : Nat) (1 : Nat) (11 : Nat) :: uu :: D.ptr false 7 0 :: uu :: D.ptr false 8 0 :: uu :: uu :: uu :: uu :: uu :: uu :: uu :: .lst .no 8 xs :: .int .i64 (↑(List.length xs) : Int) :: .int .i64 (IntKind.wrap IntKind.i64 ((↑k : Int) + 1)) :: un 74)) (s' := [Ob.box (plC p), Ob.box (reC r), Ob.dead, Ob.dead, Ob.dead, Ob.dead, Ob.box (List.map D.demote cs), Ob.box (maC m1), Ob.box zeC]) mixed ([tC (by ((try simp only [List.length_set, List.length_map, sl2] at *); (try unfold big at *); omega) : (decide ((↑k : Int) < (↑(List.length xs) : Int))) = true), tT, .get _ _ _ hx] ++ List.replicate 3 (tC (eF (by ((try simp only [List.length_set, List.length_map, sl2] at *); (try unfold big at *); omega) : (op == 31) = false))) ++ [tC (by ((try simp only [List.length_set, List.length_map, sl2] at *); (try unfold big at *); omega) : (op == 31) = false), tC (by ((try simp only [List.length_set, List.length_map, sl2] at *); (try unfold big at *); omega) : (op == 30) = false)] ++ List.replicate 3 (tC (eF (eqI 26 true (by ((try simp only [List.length_set, List.length_map, sl2] at *); (try unfold big at *); omega) : op = 26)))) ++ [tC (eqI 26 true (by ((try simp only [List.length_set, List.length_map, sl2] at *); (try unfold big at *); omega) : op = 26)), tT] ++ List.replicate 3 (tC (eF (nt (eqI 4 true (by ((try simp only [List.length_set, List.length_map, sl2] at *); (try unfold big at *); omega) : base = 4))))) ++ [tC (nt (eqI 4 true (by ((try simp only [List.length_set, List.length_map, sl2] at *); (try unfold big at *); omega) : base = 4)))] ++ List.replicate 4 (tC (eF (nt (eqI 64 true (by ((try simp only [List.length_set, List.length_map, sl2] at *); (try unfold big at *); omega) : w = 64))))) ++ [tC (nt (eqI 64 true (by ((try simp only [List.length_set, List.length_map, sl2] at *); (try unfold big at *); omega) : w = 64))), tC (eF (nt (eqI 0 true (eq_of_beq hr)))), tC (eF (nt (eqI 0 true (eq_of_beq hr)))), tC (nt (eqI 0 true (eq_of_beq hr)))] ++ List.replicate 4 (tC (eF (decide_eq_false (Int.not_lt.2 q0)))) ++ [tC (decide_eq_false (Int.not_lt.2 q0)), tC (leL 11 (decide_eq_true q1)), .tst (decide (0 ≤ IntKind.wrap IntKind.i64 (Int.tdiv disp 8) ∧ IntKind.wrap IntKind.i64 (Int.tdiv disp 8) < (↑(11 : Nat) : Int))) true (by ((try simp only [List.length_set, List.length_map, sl2] at *); (try unfold big at *); omega)), .get _ _ _ hv, tC (eqI 27 false (by ((try simp only [List.length_set, List.length_map, sl2] at *); (try unfold big at *); omega) : op = 26)), .ret _ _ _ hd, tF, .cl cs (by first | exact clAll rfl | exact hcs | exact cl_set hcs rfl)]) (by kernel_rfl)).cast (by rfl) (by rfl)
theorem dn_store (m : MachS) (p : PlS) (r : MachS) (cs xs : List D) (hcl : cs.length = 11) (hcs : ∀ c ∈ cs, c.clean = true) (k : Nat) (k1 : (k : Int) < (xs.length : Int)) (n1 : (xs.length : Int) ≤ 1000) (op w dst src base disp imm cc : Int) (hx : xs[(k : Int).toNat]? = some (xD op w dst src base disp imm cc)) (ho : op = 27) (hw : w = 64) (hb : base = 4) (hr : (disp.tmod 8 == 0) = true) (q0 : 0 ≤ IntKind.i64.wrap (disp.tdiv 8)) (q1 : IntKind.i64.wrap (disp.tdiv 8) < 11) (v : Int) (hv : cs[Int.toNat (IntKind.i64.wrap (disp.tdiv 8)) * 1]? = some (.int .u64 v)) (m1 : MachS) (hd : Ret Tryz.prog 55 [.agg (maC m), xD op w dst src base disp imm cc, .int .u64 v] (.tup [.agg (maC m1), .int .i64 0])) (u : Int) (hu : Ret Tryz.prog 54 [.agg (maC m), xD op w dst src base disp imm cc] (.int .u64 u))  : RoundRun Tryz.prog (loopB Tryz.f26 0) ⟨[2, 4, 6, 14, 15, 16], [0, 1, 1000006, 7, 8], []⟩ 9 (uu :: uu :: D.slc (6 : Nat) (1 : Nat) (11 : Nat) :: uu :: D.ptr false 7 0 :: uu :: D.ptr false 8 0 :: uu :: uu :: uu :: uu :: uu :: uu :: uu :: .lst .no 8 xs :: .int .i64 (↑(List.length xs) : Int) :: .int .i64 (↑k : Int) :: un 74) [Ob.box (plC p), Ob.box (reC r), Ob.dead, Ob.dead, Ob.dead, Ob.dead, Ob.box cs, Ob.box (maC m), Ob.box zeC] (Ex.norm) (uu :: uu :: D.slc (6 : Nat) (1 : Nat) (11 : Nat) :: uu :: D.ptr false 7 0 :: uu :: D.ptr false 8 0 :: uu :: uu :: uu :: uu :: uu :: uu :: uu :: .lst .no 8 xs :: .int .i64 (↑(List.length xs) : Int) :: .int .i64 (IntKind.wrap IntKind.i64 ((↑k : Int) + 1)) :: un 74) ([Ob.box (plC p), Ob.box (reC r), Ob.dead, Ob.dead, Ob.dead, Ob.dead, Ob.box (List.map D.demote (List.set cs (Int.toNat (IntKind.wrap IntKind.i64 (Int.tdiv disp 8)) * (1 : Nat)) (.int .u64 u))), Ob.box (maC m1), Ob.box zeC]) := by
 exact (RoundRun.of_eval (sp := ⟨[2, 4, 6, 14, 15, 16], [0, 1, 1000006, 7, 8], []⟩) (n0 := 9) (ex := Ex.norm) (t' := (uu :: uu :: D.slc (6 : Nat) (1 : Nat) (11 : Nat) :: uu :: D.ptr false 7 0 :: uu :: D.ptr false 8 0 :: uu :: uu :: uu :: uu :: uu :: uu :: uu :: .lst .no 8 xs :: .int .i64 (↑(List.length xs) : Int) :: .int .i64 (IntKind.wrap IntKind.i64 ((↑k : Int) + 1)) :: un 74)) (s' := [Ob.box (plC p), Ob.box (reC r), Ob.dead, Ob.dead, Ob.dead, Ob.dead, Ob.box (List.map D.demote (List.set cs (Int.toNat (IntKind.wrap IntKind.i64 (Int.tdiv disp 8)) * (1 : Nat)) (.int .u64 u))), Ob.box (maC m1), Ob.box zeC]) mixed ([tC (by ((try simp only [List.length_set, List.length_map, sl2] at *); (try unfold big at *); omega) : (decide ((↑k : Int) < (↑(List.length xs) : Int))) = true), tT, .get _ _ _ hx] ++ List.replicate 3 (tC (eF (by ((try simp only [List.length_set, List.length_map, sl2] at *); (try unfold big at *); omega) : (op == 31) = false))) ++ [tC (by ((try simp only [List.length_set, List.length_map, sl2] at *); (try unfold big at *); omega) : (op == 31) = false), tC (by ((try simp only [List.length_set, List.length_map, sl2] at *); (try unfold big at *); omega) : (op == 30) = false)] ++ List.replicate 3 (tC (eF (by ((try simp only [List.length_set, List.length_map, sl2] at *); (try unfold big at *); omega) : (op == 26) = false))) ++ [tC (by ((try simp only [List.length_set, List.length_map, sl2] at *); (try unfold big at *); omega) : (op == 26) = false), tC (eqI 27 true (by ((try simp only [List.length_set, List.length_map, sl2] at *); (try unfold big at *); omega) : op = 27))] ++ List.replicate 3 (tC (eF (nt (eqI 4 true (by ((try simp only [List.length_set, List.length_map, sl2] at *); (try unfold big at *); omega) : base = 4))))) ++ [tC (nt (eqI 4 true (by ((try simp only [List.length_set, List.length_map, sl2] at *); (try unfold big at *); omega) : base = 4)))] ++ List.replicate 4 (tC (eF (nt (eqI 64 true (by ((try simp only [List.length_set, List.length_map, sl2] at *); (try unfold big at *); omega) : w = 64))))) ++ [tC (nt (eqI 64 true (by ((try simp only [List.length_set, List.length_map, sl2] at *); (try unfold big at *); omega) : w = 64))), tC (eF (nt (eqI 0 true (eq_of_beq hr)))), tC (eF (nt (eqI 0 true (eq_of_beq hr)))), tC (nt (eqI 0 true (eq_of_beq hr)))] ++ List.replicate 4 (tC (eF (decide_eq_false (Int.not_lt.2 q0)))) ++ [tC (decide_eq_false (Int.not_lt.2 q0)), tC (leL 11 (decide_eq_true q1)), .tst (decide (0 ≤ IntKind.wrap IntKind.i64 (Int.tdiv disp 8) ∧ IntKind.wrap IntKind.i64 (Int.tdiv disp 8) < (↑(11 : Nat) : Int))) true (by ((try simp only [List.length_set, List.length_map, sl2] at *); (try unfold big at *); omega)), .get _ _ _ hv, tC (eqI 27 true (by ((try simp only [List.length_set, List.length_map, sl2] at *); (try unfold big at *); omega) : op = 27)), .ret _ _ _ hu, .tst (decide (0 ≤ IntKind.wrap IntKind.i64 (Int.tdiv disp 8) ∧ IntKind.wrap IntKind.i64 (Int.tdiv disp 8) < (↑(11 : Nat) : Int))) true (by ((try simp only [List.length_set, List.length_map, sl2] at *); (try unfold big at *); omega)), .putA _ _ _ _ (@put_set cs (Int.toNat (IntKind.wrap IntKind.i64 (Int.tdiv disp 8)) * (1 : Nat)) (.int .u64 u) (by ((try simp only [List.length_set, List.length_map, sl2] at *); (try unfold big at *); omega))), .raw, .ret _ _ _ hd, tF, .cl (List.set cs (Int.toNat (IntKind.wrap IntKind.i64 (Int.tdiv disp 8)) * (1 : Nat)) (.int .u64 u)) (by first | exact clAll rfl | exact hcs | exact cl_set hcs rfl)]) (by kernel_rfl)).cast (by rfl) (by rfl)
end Go.Proofs.YtkpneibifdoecaaGreat

namespace Go.Proofs.YtkpneibifdoecaaGreat
open Go Go.Ev
set_option maxRecDepth 100000
def u64s (s : List Int) : List D := s.map (.int .u64)
theorem u64s_len (s : List Int) : (u64s s).length = s.length := by simp [u64s]
theorem u64s_clean (s : List Int) : ∀ c ∈ u64s s, c.clean = true := by
 intro c hc
 obtain ⟨n, _, rfl⟩ := List.mem_map.1 hc
 rfl
theorem u64s_demote (s : List Int) : (u64s s).map D.demote = u64s s := by
 simp only [u64s, List.map_map]
 rfl
theorem u64s_set (s : List Int) (i : Nat) (v : Int) : (u64s s).set i (.int .u64 v) = u64s (s.set i v) := by simp [u64s, List.map_set]
theorem u64s_get {s : List Int} {i : Nat} (h : i < s.length) : (u64s s)[i]? = some (.int .u64 (s.getD i 0)) := by
 simp [u64s, h, List.getD_eq_getElem?_getD]
def endsR : List XS → Bool
  | [] => false
  | x :: t => if x.op = 30 then true else endsR t
theorem exec_1 (m m1 : MachS) (x : XS) (v : Int) (ho : x.op ≤ 127) (he : execE m x v = 0) (e1 : execM m x v = m1) : Ret Tryz.prog 55 [.agg (maC m), xD x.op x.w x.dst x.src x.base x.disp x.imm x.cc, .int .u64 v] (.tup [.agg (maC m1), .int .i64 0]) := by
 have := exec_s_ok m x v ho
 unfold execE at he
 unfold execM at e1
 rw [he, e1] at this
 exact this
theorem may_of_exec {m : MachS} {x : XS} {v : Int} (he : execE m x v = 0) : x.may = true := by
 cases h : x.may
 ·unfold execE at he
  rw [execS_no h] at he
  cases he
 ·rfl
theorem stored_1 (m : MachS) (x : XS) (hm : x.may = true) (ho : x.op = 27) (hw : x.w = 64) (hb : x.base = 4) : Ret Tryz.prog 54 [.agg (maC m), xD x.op x.w x.dst x.src x.base x.disp x.imm x.cc] (.int .u64 (rg m.rl x.src)) := by
 obtain ⟨op, w, dst, src, base, disp, imm, cc⟩ := x
 simp only at ho hw hb ⊢
 subst ho hw hb
 have hx : mayX 27 64 dst src 4 disp imm cc = true := hm
 obtain ⟨⟨d0, d1, s0, s1, b0, b1, p0, p1, i0, i1⟩, hs⟩ := mayX_parts hx
 have hs' : (widthM 64 && decide (dst = 0 ∧ imm = 0 ∧ cc = 0)) = true := hs
 rw [Bool.and_eq_true, decide_eq_true_eq] at hs'
 obtain ⟨_, rfl, rfl, rfl⟩ := hs'
 exact stored_ok m src disp s0 s1 hx
theorem slot_at {x : XS} {n : Nat} (h : slotOk x n = true) (hn : n = 11) : x.w = 64 ∧ x.base = 4 ∧ (x.disp.tmod 8 == 0) = true ∧ IntKind.i64.wrap (x.disp.tdiv 8) = x.disp / 8 ∧ 0 ≤ x.disp / 8 ∧ x.disp / 8 < 11 := by
 unfold slotOk at h
 rw [decide_eq_true_eq] at h
 obtain ⟨h1, h2, h3, h4, h5⟩ := h
 have e1 : x.disp.tdiv 8 = x.disp / 8 := Int.tdiv_eq_ediv_of_nonneg h4
 have e2 : x.disp.tmod 8 = x.disp % 8 := Int.tmod_eq_emod_of_nonneg h4
 refine ⟨h2, h1, by rw [e2, h3]; rfl, ?_, by omega, by omega⟩
 rw [e1, w_i64]
 omega
abbrev dnT (xs : List XS) (k : Int) : List D := [.undef, .undef, .slc 6 1 11, .undef, .ptr false 7 0, .undef, .ptr false 8 0, .undef, .undef, .undef, .undef, .undef, .undef, .undef, .lst .no 8 (xs.map XS.d), .int .i64 ((xs.map XS.d).length : Int), .int .i64 k, .undef, .undef, .undef, .undef, .undef, .undef, .undef, .undef, .undef, .undef, .undef, .undef, .undef, .undef, .undef, .undef, .undef, .undef, .undef, .undef, .undef, .undef, .undef, .undef, .undef, .undef, .undef, .undef, .undef, .undef, .undef, .undef, .undef, .undef, .undef, .undef, .undef, .undef, .undef, .undef, .undef, .undef, .undef, .undef, .undef, .undef, .undef, .undef, .undef, .undef, .undef, .undef, .undef, .undef, .undef, .undef, .undef, .undef, .undef, .undef, .undef, .undef, .undef, .undef, .undef, .undef, .undef, .undef, .undef, .undef, .undef, .undef, .undef, .undef]
abbrev dnU : List D := [.undef, .undef, .undef, .undef, .ptr false 7 0, .undef, .ptr false 8 0, .undef, .undef, .undef, .undef, .undef, .undef, .undef, .undef, .undef, .undef, .undef, .undef, .undef, .undef, .undef, .undef, .undef, .undef, .undef, .undef, .undef, .undef, .undef, .undef, .undef, .undef, .undef, .undef, .undef, .undef, .undef, .undef, .undef, .undef, .undef, .undef, .undef, .undef, .undef, .undef, .undef, .undef, .undef, .undef, .undef, .undef, .undef, .undef, .undef, .undef, .undef, .undef, .undef, .undef, .undef, .undef, .undef, .undef, .undef, .undef, .undef, .undef, .undef, .undef, .undef, .undef, .undef, .undef, .undef, .undef, .undef, .undef, .undef, .undef, .undef, .undef, .undef, .undef, .undef, .undef, .undef, .undef, .undef, .undef]
abbrev dnR : List D := [.undef, .undef, .undef, .undef, .undef, .undef, .ptr false 8 0, .bool true, .undef, .undef, .undef, .undef, .undef, .undef, .undef, .undef, .undef, .undef, .undef, .undef, .undef, .undef, .undef, .undef, .undef, .undef, .undef, .undef, .undef, .undef, .undef, .undef, .undef, .undef, .undef, .undef, .undef, .undef, .undef, .undef, .undef, .undef, .undef, .undef, .undef, .undef, .undef, .undef, .undef, .undef, .undef, .undef, .undef, .undef, .undef, .undef, .undef, .undef, .undef, .undef, .undef, .undef, .undef, .undef, .undef, .undef, .undef, .undef, .undef, .undef, .undef, .undef, .undef, .undef, .undef, .undef, .undef, .undef, .undef, .undef, .undef, .undef, .undef, .undef, .undef, .undef, .undef, .undef, .undef, .undef, .undef]
abbrev dnS (p : PlS) (r : MachS) (m : MachS) (s : List Int) (out : MachS) : List Ob := [.box (plC p), .box (reC r), .dead, .dead, .dead, .dead, .box (u64s s), .box (maC m), .box (maC out)]
theorem dn_rounds (p : PlS) (r : MachS) (xs : List XS) (hx1 : xs.length ≤ 1000) : ∀ (t : List XS) (k : Nat) (m : MachS) (s : List Int) (m2 : MachS) (s2 : List Int), xs.drop k = t → s.length = 11 → (∀ x ∈ t, x.op ≤ 127 ∧ x.op ≠ 31) → doneM t m s = (m2, s2, true) →
  Rounds Tryz.prog (loopB Tryz.f26 0) 9 (dnT xs k) (dnS p r m s .zero) (if endsR t = true then .ret else .exit 0) (if endsR t = true then dnR else dnU) (dnS p r m2 s2 (if endsR t = true then m2 else .zero))
 | [], k, m, s, m2, s2, hd, hl, _, he => by
  have hk : xs.length ≤ k := by
   rcases Nat.lt_or_ge k xs.length with q | q
   ·have := List.length_drop (i := k) (l := xs)
    rw [hd] at this
    simp at this
    omega
   ·exact q
  rw [doneM] at he
  obtain ⟨rfl, rfl, _⟩ := (by simpa using he : m = m2 ∧ s = s2)
  have := dn_end m p r (u64s s) (xs.map XS.d) (by rw [u64s_len]; exact hl) (u64s_clean s) k (by rw [List.length_map]; omega)
  rw [u64s_demote] at this
  exact Rounds.last this (fun h => by cases h)
 | x :: t, k, m, s, m2, s2, hd, hl, ho, he => by
  have hlt : k < xs.length := by
   rcases Nat.lt_or_ge k xs.length with q | q
   ·exact q
   ·rw [List.drop_eq_nil_of_le q] at hd; cases hd
  have hk : xs[k] = x := by
   have := List.getElem_drop (xs := xs) (i := k) (j := 0) (h := by rw [hd]; simp)
   simp only [hd] at this
   simpa using this.symm
  have hd' : xs.drop (k + 1) = t := by
   rw [List.drop_eq_getElem_cons hlt] at hd
   exact (List.cons.inj hd).2
  have hx : (xs.map XS.d)[(k : Int).toNat]? = some (xD x.op x.w x.dst x.src x.base x.disp x.imm x.cc) := by
   rw [Int.toNat_natCast, List.getElem?_map, List.getElem?_eq_getElem hlt, hk]
   rfl
  have k1 : (k : Int) < ((xs.map XS.d).length : Int) := by rw [List.length_map]; omega
  have n1 : ((xs.map XS.d).length : Int) ≤ 1000 := by rw [List.length_map]; omega
  have hcl : (u64s s).length = 11 := by rw [u64s_len]; exact hl
  obtain ⟨o1, o2⟩ := ho x (List.mem_cons_self ..)
  have ho' : ∀ y ∈ t, y.op ≤ 127 ∧ y.op ≠ 31 := fun y hy => ho y (List.mem_cons_of_mem _ hy)
  have hw : IntKind.i64.wrap ((k : Int) + 1) = ((k + 1 : Nat) : Int) := by rw [w_i64]; omega
  rw [doneM] at he
  rw [endsR]
  by_cases q30 : x.op = 30
  ·rw [if_pos (.inr q30)] at he
   obtain ⟨rfl, rfl, _⟩ := (by simpa using he : m = m2 ∧ s = s2)
   rw [if_pos q30]
   have := dn_ret m p r (u64s s) (xs.map XS.d) hcl (u64s_clean s) k k1 n1 _ _ _ _ _ _ _ _ hx q30
   rw [u64s_demote] at this
   exact Rounds.last this (fun h => by cases h)
  rw [if_neg (by omega)] at he
  rw [if_neg q30]
  by_cases q : x.op = 26 ∨ x.op = 27
  ·rw [if_pos q] at he
   cases hs : slotOk x s.length with
   | false => rw [hs] at he; simp at he
   | true =>
    rw [hs, if_pos rfl] at he
    obtain ⟨w64, b4, r0, ew, a0, a1⟩ := slot_at hs hl
    by_cases hE : execE m x (s.getD (x.disp / 8).toNat 0) = 0
    ·rw [if_pos hE] at he
     have hv : (u64s s)[Int.toNat (IntKind.i64.wrap (x.disp.tdiv 8)) * 1]? = some (.int .u64 (s.getD (x.disp / 8).toNat 0)) := by
      rw [ew, Nat.mul_one]
      exact u64s_get (by omega)
     have hdo := exec_1 m _ x _ o1 hE rfl
     by_cases q26 : x.op = 26
     ·have e : slotPut x m s = s := by unfold slotPut; rw [if_neg (by omega)]
      rw [e] at he
      have ih := dn_rounds p r xs hx1 t (k + 1) _ s m2 s2 hd' hl ho' he
      have := dn_load m p r (u64s s) (xs.map XS.d) hcl (u64s_clean s) k k1 n1 _ _ _ _ _ _ _ _ hx q26 w64 b4 r0 (by rw [ew]; exact a0) (by rw [ew]; exact a1) _ hv _ hdo
      rw [hw, u64s_demote] at this
      exact Rounds.more this ih
     ·have q27 : x.op = 27 := by omega
      have e : slotPut x m s = s.set (x.disp / 8).toNat (rg m.rl x.src) := by unfold slotPut; rw [if_pos q27]
      rw [e] at he
      have ih := dn_rounds p r xs hx1 t (k + 1) _ _ m2 s2 hd' (by rw [List.length_set]; exact hl) ho' he
      have := dn_store m p r (u64s s) (xs.map XS.d) hcl (u64s_clean s) k k1 n1 _ _ _ _ _ _ _ _ hx q27 w64 b4 r0 (by rw [ew]; exact a0) (by rw [ew]; exact a1) _ hv _ hdo _ (stored_1 m x (may_of_exec hE) q27 w64 b4)
      rw [hw, ew, Nat.mul_one, u64s_set, u64s_demote] at this
      exact Rounds.more this ih
    ·rw [if_neg hE] at he
     simp at he
  ·rw [if_neg q] at he
   by_cases hE : execE m x 0 = 0
   ·rw [if_pos hE] at he
    have ih := dn_rounds p r xs hx1 t (k + 1) _ s m2 s2 hd' hl ho' he
    have := dn_plain m p r (u64s s) (xs.map XS.d) hcl (u64s_clean s) k k1 n1 _ _ _ _ _ _ _ _ hx _ (exec_1 m _ x 0 o1 hE rfl) (by simpa using o2) (by simpa using q30) (by simp; omega) (by simp; omega)
    rw [hw, u64s_demote] at this
    exact Rounds.more this ih
   ·rw [if_neg hE] at he
    simp at he
theorem dn_run (p : PlS) (r : MachS) (xs : List XS) (hx1 : xs.length ≤ 1000) (m : MachS) (s : List Int) (m2 : MachS) (s2 : List Int) (hl : s.length = 11) (ho : ∀ x ∈ xs, x.op ≤ 127 ∧ x.op ≠ 31) (he : doneM xs m s = (m2, s2, true)) :
  LoopRun Tryz.prog 9 (.loop (loopB Tryz.f26 0)) (dnT xs 0) (dnS p r m s .zero) (if endsR xs = true then .ret else .exit 0) (if endsR xs = true then dnR else dnU) (dnS p r m2 s2 (if endsR xs = true then m2 else .zero)) :=
 LoopRun.of_rounds (by show 9 ≤ 9; decide) (dn_rounds p r xs hx1 xs 0 m s m2 s2 rfl hl ho he)
end Go.Proofs.YtkpneibifdoecaaGreat

namespace Go.Proofs.YtkpneibifdoecaaGreat
open Go Go.Ev
set_option maxRecDepth 100000
set_option maxHeartbeats 8000000
theorem wakes23_ok  : Ret Tryz.prog 8 ([]) (.bool true) := by
 have c0 := @amay_ok 2 0
 have c1 := @amay_ok 2 1
 exact (o8 (d := .bool true) ([.inl, .inl] ++ List.replicate 9 tT ++ [.inl, .inl, .inl] ++ List.replicate 9 tT ++ [.get ([D.fn (Fn.func 120) [] [], D.fn (Fn.func 117) [] [], D.fn (Fn.func 117) [] [], D.fn (Fn.func 123) [] [], D.fn (Fn.func 124) [] [D.ptr false 4 0], D.fn (Fn.func 119) [] [], D.fn (Fn.func 126) [] []]) 1 (D.fn (Fn.func 117) [] []) rfl, tT, .inl, .inl] ++ List.replicate 9 tT ++ [.inl, tT, .inl, .inl, .go 64, tT, tT, .get ([.int .i8 0, .int .i8 1, .int .i8 2, .int .i8 11]) 0 (.int .i8 0) rfl, tT, tT, tT, .get ([.int .i8 0, .int .i8 1, .int .i8 2, .int .i8 11]) 1 (.int .i8 1) rfl, tT, tT, tT, .get ([.int .i8 0, .int .i8 1, .int .i8 2, .int .i8 11]) 2 (.int .i8 2) rfl, tT, tT, tT, .get ([.int .i8 0, .int .i8 1, .int .i8 2, .int .i8 11]) 3 (.int .i8 11) rfl, tT, tF] ++ List.replicate 13 tT ++ [.flat _ _ flat_Ir, tT, tT, tT, tT, tT, tT, .inl, .go 64, tT, tT, .getA ([.int .i8 0, .int .i8 0, .int .i8 0, .int .i8 0, .int .i8 2, .int .i8 0, .int .i8 2, .int .i8 1, .int .i8 0, .int .i8 0, .int .i8 0, .int .i8 0, .int .i8 0, .int .i8 0, .int .i8 0, .int .i8 0, .int .i8 0, .int .i8 0, .int .i8 0, .int .i8 0, .int .i8 0, .int .i8 0]) 0 2 ([.int .i8 0, .int .i8 0]) ⟨rfl, by first | decide | simp⟩, .flat _ _ flat_Place] ++ List.replicate 14 tF ++ [tT, tT, .getA ([.int .i8 0, .int .i8 0, .int .i8 0, .int .i8 0, .int .i8 2, .int .i8 0, .int .i8 2, .int .i8 1, .int .i8 0, .int .i8 0, .int .i8 0, .int .i8 0, .int .i8 0, .int .i8 0, .int .i8 0, .int .i8 0, .int .i8 0, .int .i8 0, .int .i8 0, .int .i8 0, .int .i8 0, .int .i8 0]) 2 2 ([.int .i8 0, .int .i8 0]) ⟨rfl, by first | decide | simp⟩, .flat _ _ flat_Place] ++ List.replicate 14 tF ++ [tT, tT, .getA ([.int .i8 0, .int .i8 0, .int .i8 0, .int .i8 0, .int .i8 2, .int .i8 0, .int .i8 2, .int .i8 1, .int .i8 0, .int .i8 0, .int .i8 0, .int .i8 0, .int .i8 0, .int .i8 0, .int .i8 0, .int .i8 0, .int .i8 0, .int .i8 0, .int .i8 0, .int .i8 0, .int .i8 0, .int .i8 0]) 4 2 ([.int .i8 2, .int .i8 0]) ⟨rfl, by first | decide | simp⟩, .flat _ _ flat_Place, tT, tT, .ret _ _ _ c0] ++ List.replicate 19 tT ++ [tF, tT, tT, .getA ([.int .i8 0, .int .i8 0, .int .i8 0, .int .i8 0, .int .i8 2, .int .i8 0, .int .i8 2, .int .i8 1, .int .i8 0, .int .i8 0, .int .i8 0, .int .i8 0, .int .i8 0, .int .i8 0, .int .i8 0, .int .i8 0, .int .i8 0, .int .i8 0, .int .i8 0, .int .i8 0, .int .i8 0, .int .i8 0]) 6 2 ([.int .i8 2, .int .i8 1]) ⟨rfl, by first | decide | simp⟩, .flat _ _ flat_Place, tT, tT, .ret _ _ _ c1] ++ List.replicate 19 tT ++ [tF, tT, tT, .getA ([.int .i8 0, .int .i8 0, .int .i8 0, .int .i8 0, .int .i8 2, .int .i8 0, .int .i8 2, .int .i8 1, .int .i8 0, .int .i8 0, .int .i8 0, .int .i8 0, .int .i8 0, .int .i8 0, .int .i8 0, .int .i8 0, .int .i8 0, .int .i8 0, .int .i8 0, .int .i8 0, .int .i8 0, .int .i8 0]) 8 2 ([.int .i8 0, .int .i8 0]) ⟨rfl, by first | decide | simp⟩, .flat _ _ flat_Place] ++ List.replicate 14 tF ++ [tT, tT, .getA ([.int .i8 0, .int .i8 0, .int .i8 0, .int .i8 0, .int .i8 2, .int .i8 0, .int .i8 2, .int .i8 1, .int .i8 0, .int .i8 0, .int .i8 0, .int .i8 0, .int .i8 0, .int .i8 0, .int .i8 0, .int .i8 0, .int .i8 0, .int .i8 0, .int .i8 0, .int .i8 0, .int .i8 0, .int .i8 0]) 10 2 ([.int .i8 0, .int .i8 0]) ⟨rfl, by first | decide | simp⟩, .flat _ _ flat_Place] ++ List.replicate 14 tF ++ [tT, tT, .getA ([.int .i8 0, .int .i8 0, .int .i8 0, .int .i8 0, .int .i8 2, .int .i8 0, .int .i8 2, .int .i8 1, .int .i8 0, .int .i8 0, .int .i8 0, .int .i8 0, .int .i8 0, .int .i8 0, .int .i8 0, .int .i8 0, .int .i8 0, .int .i8 0, .int .i8 0, .int .i8 0, .int .i8 0, .int .i8 0]) 12 2 ([.int .i8 0, .int .i8 0]) ⟨rfl, by first | decide | simp⟩, .flat _ _ flat_Place] ++ List.replicate 14 tF ++ [tT, tT, .getA ([.int .i8 0, .int .i8 0, .int .i8 0, .int .i8 0, .int .i8 2, .int .i8 0, .int .i8 2, .int .i8 1, .int .i8 0, .int .i8 0, .int .i8 0, .int .i8 0, .int .i8 0, .int .i8 0, .int .i8 0, .int .i8 0, .int .i8 0, .int .i8 0, .int .i8 0, .int .i8 0, .int .i8 0, .int .i8 0]) 14 2 ([.int .i8 0, .int .i8 0]) ⟨rfl, by first | decide | simp⟩, .flat _ _ flat_Place] ++ List.replicate 14 tF ++ [tT, tT, .getA ([.int .i8 0, .int .i8 0, .int .i8 0, .int .i8 0, .int .i8 2, .int .i8 0, .int .i8 2, .int .i8 1, .int .i8 0, .int .i8 0, .int .i8 0, .int .i8 0, .int .i8 0, .int .i8 0, .int .i8 0, .int .i8 0, .int .i8 0, .int .i8 0, .int .i8 0, .int .i8 0, .int .i8 0, .int .i8 0]) 16 2 ([.int .i8 0, .int .i8 0]) ⟨rfl, by first | decide | simp⟩, .flat _ _ flat_Place] ++ List.replicate 14 tF ++ [tT, tT, .getA ([.int .i8 0, .int .i8 0, .int .i8 0, .int .i8 0, .int .i8 2, .int .i8 0, .int .i8 2, .int .i8 1, .int .i8 0, .int .i8 0, .int .i8 0, .int .i8 0, .int .i8 0, .int .i8 0, .int .i8 0, .int .i8 0, .int .i8 0, .int .i8 0, .int .i8 0, .int .i8 0, .int .i8 0, .int .i8 0]) 18 2 ([.int .i8 0, .int .i8 0]) ⟨rfl, by first | decide | simp⟩, .flat _ _ flat_Place] ++ List.replicate 14 tF ++ [tT, tT, .getA ([.int .i8 0, .int .i8 0, .int .i8 0, .int .i8 0, .int .i8 2, .int .i8 0, .int .i8 2, .int .i8 1, .int .i8 0, .int .i8 0, .int .i8 0, .int .i8 0, .int .i8 0, .int .i8 0, .int .i8 0, .int .i8 0, .int .i8 0, .int .i8 0, .int .i8 0, .int .i8 0, .int .i8 0, .int .i8 0]) 20 2 ([.int .i8 0, .int .i8 0]) ⟨rfl, by first | decide | simp⟩, .flat _ _ flat_Place] ++ List.replicate 15 tF ++ [tT, tF, tT, .getA ([.int .i8 0, .int .i8 0, .int .i8 0, .int .i8 0, .int .i8 2, .int .i8 0, .int .i8 2, .int .i8 1, .int .i8 0, .int .i8 0, .int .i8 0, .int .i8 0, .int .i8 0, .int .i8 0, .int .i8 0, .int .i8 0, .int .i8 0, .int .i8 0, .int .i8 0, .int .i8 0, .int .i8 0, .int .i8 0]) 6 2 ([.int .i8 2, .int .i8 1]) ⟨rfl, by first | decide | simp⟩, .inl, tF, tT, tT, tT, tT, tT, tT, tT, .get ([(xD 26 64 0 0 4 8 0 0)]) 0 ((xD 26 64 0 0 4 8 0 0)) rfl, tT, tT, tT, .flat _ _ flat_X, tT]) (by kernel_rfl)).to (by simp [wk])
theorem d13_end (m : MachS) (r : MachS) (cs xs : List D) (hcl : cs.length = 11) (hcs : ∀ c ∈ cs, c.clean = true) (k : Nat) (h : (xs.length : Int) ≤ k)  : RoundRun Tryz.prog (loopB Tryz.f26 0) ⟨[4, 6], [1, 1000006, 13, 14], []⟩ 15 (uu :: uu :: D.slc (6 : Nat) (1 : Nat) (11 : Nat) :: uu :: D.ptr false 13 0 :: uu :: D.ptr false 14 0 :: uu :: uu :: uu :: uu :: uu :: uu :: uu :: .lst .no 8 xs :: .int .i64 (↑(List.length xs) : Int) :: .int .i64 (↑k : Int) :: un 74) [Ob.dead, Ob.box (reC r), Ob.dead, Ob.dead, Ob.dead, Ob.dead, Ob.box cs, Ob.dead, Ob.dead, Ob.dead, Ob.dead, Ob.dead, Ob.dead, Ob.box (maC m), Ob.box zeC] (Ex.exit (0 : Nat)) (uu :: uu :: uu :: uu :: D.ptr false 13 0 :: uu :: D.ptr false 14 0 :: un 84) ([Ob.dead, Ob.box (reC r), Ob.dead, Ob.dead, Ob.dead, Ob.dead, Ob.box (List.map D.demote cs), Ob.dead, Ob.dead, Ob.dead, Ob.dead, Ob.dead, Ob.dead, Ob.box (maC m), Ob.box zeC]) := by
 exact (RoundRun.of_eval (sp := ⟨[4, 6], [1, 1000006, 13, 14], []⟩) (n0 := 15) (ex := Ex.exit (0 : Nat)) (t' := (uu :: uu :: uu :: uu :: D.ptr false 13 0 :: uu :: D.ptr false 14 0 :: un 84)) (s' := [Ob.dead, Ob.box (reC r), Ob.dead, Ob.dead, Ob.dead, Ob.dead, Ob.box (List.map D.demote cs), Ob.dead, Ob.dead, Ob.dead, Ob.dead, Ob.dead, Ob.dead, Ob.box (maC m), Ob.box zeC]) mixed [tC (by ((try simp only [List.length_set, List.length_map, sl2] at *); (try unfold big at *); omega) : (decide ((↑k : Int) < (↑(List.length xs) : Int))) = false), .cl cs (by first | exact clAll rfl | exact hcs | exact cl_set hcs rfl)] (by kernel_rfl)).cast (by rfl) (by rfl)
theorem d13_ret (m : MachS) (r : MachS) (cs xs : List D) (hcl : cs.length = 11) (hcs : ∀ c ∈ cs, c.clean = true) (k : Nat) (k1 : (k : Int) < (xs.length : Int)) (n1 : (xs.length : Int) ≤ 1000) (op w dst src base disp imm cc : Int) (hx : xs[(k : Int).toNat]? = some (xD op w dst src base disp imm cc)) (ho : op = 30)  : RoundRun Tryz.prog (loopB Tryz.f26 0) ⟨[6, 7], [1, 1000006, 13, 14], []⟩ 15 (uu :: uu :: D.slc (6 : Nat) (1 : Nat) (11 : Nat) :: uu :: D.ptr false 13 0 :: uu :: D.ptr false 14 0 :: uu :: uu :: uu :: uu :: uu :: uu :: uu :: .lst .no 8 xs :: .int .i64 (↑(List.length xs) : Int) :: .int .i64 (↑k : Int) :: un 74) [Ob.dead, Ob.box (reC r), Ob.dead, Ob.dead, Ob.dead, Ob.dead, Ob.box cs, Ob.dead, Ob.dead, Ob.dead, Ob.dead, Ob.dead, Ob.dead, Ob.box (maC m), Ob.box zeC] (Ex.ret) (uu :: uu :: uu :: uu :: uu :: uu :: D.ptr false 14 0 :: .bool true :: un 83) ([Ob.dead, Ob.box (reC r), Ob.dead, Ob.dead, Ob.dead, Ob.dead, Ob.box (List.map D.demote cs), Ob.dead, Ob.dead, Ob.dead, Ob.dead, Ob.dead, Ob.dead, Ob.box (maC m), Ob.box (maC m)]) := by
 exact (RoundRun.of_eval (sp := ⟨[6, 7], [1, 1000006, 13, 14], []⟩) (n0 := 15) (ex := Ex.ret) (t' := (uu :: uu :: uu :: uu :: uu :: uu :: D.ptr false 14 0 :: .bool true :: un 83)) (s' := [Ob.dead, Ob.box (reC r), Ob.dead, Ob.dead, Ob.dead, Ob.dead, Ob.box (List.map D.demote cs), Ob.dead, Ob.dead, Ob.dead, Ob.dead, Ob.dead, Ob.dead, Ob.box (maC m), Ob.box (maC m)]) mixed ([tC (by ((try simp only [List.length_set, List.length_map, sl2] at *); (try unfold big at *); omega) : (decide ((↑k : Int) < (↑(List.length xs) : Int))) = true), tT, .get _ _ _ hx] ++ List.replicate 3 (tC (eF (by ((try simp only [List.length_set, List.length_map, sl2] at *); (try unfold big at *); omega) : (op == 31) = false))) ++ [tC (by ((try simp only [List.length_set, List.length_map, sl2] at *); (try unfold big at *); omega) : (op == 31) = false), tC (eqI 30 true (by ((try simp only [List.length_set, List.length_map, sl2] at *); (try unfold big at *); omega) : op = 30)), .cl cs (by first | exact clAll rfl | exact hcs | exact cl_set hcs rfl)]) (by kernel_rfl)).cast (by rfl) (by rfl)
theorem d13_plain (m : MachS) (r : MachS) (cs xs : List D) (hcl : cs.length = 11) (hcs : ∀ c ∈ cs, c.clean = true) (k : Nat) (k1 : (k : Int) < (xs.length : Int)) (n1 : (xs.length : Int) ≤ 1000) (op w dst src base disp imm cc : Int) (hx : xs[(k : Int).toNat]? = some (xD op w dst src base disp imm cc)) (m1 : MachS) (hd : Ret Tryz.prog 55 [.agg (maC m), xD op w dst src base disp imm cc, .int .u64 0] (.tup [.agg (maC m1), .int .i64 0])) (o1 : (op == 31) = false) (o2 : (op == 30) = false) (o3 : (op == 26) = false) (o4 : (op == 27) = false)  : RoundRun Tryz.prog (loopB Tryz.f26 0) ⟨[2, 4, 6, 14, 15, 16], [1, 1000006, 13, 14], []⟩ 15 (uu :: uu :: D.slc (6 : Nat) (1 : Nat) (11 : Nat) :: uu :: D.ptr false 13 0 :: uu :: D.ptr false 14 0 :: uu :: uu :: uu :: uu :: uu :: uu :: uu :: .lst .no 8 xs :: .int .i64 (↑(List.length xs) : Int) :: .int .i64 (↑k : Int) :: un 74) [Ob.dead, Ob.box (reC r), Ob.dead, Ob.dead, Ob.dead, Ob.dead, Ob.box cs, Ob.dead, Ob.dead, Ob.dead, Ob.dead, Ob.dead, Ob.dead, Ob.box (maC m), Ob.box zeC] (Ex.norm) (uu :: uu :: D.slc (6 : Nat) (1 : Nat) (11 : Nat) :: uu :: D.ptr false 13 0 :: uu :: D.ptr false 14 0 :: uu :: uu :: uu :: uu :: uu :: uu :: uu :: .lst .no 8 xs :: .int .i64 (↑(List.length xs) : Int) :: .int .i64 (IntKind.wrap IntKind.i64 ((↑k : Int) + 1)) :: un 74) ([Ob.dead, Ob.box (reC r), Ob.dead, Ob.dead, Ob.dead, Ob.dead, Ob.box (List.map D.demote cs), Ob.dead, Ob.dead, Ob.dead, Ob.dead, Ob.dead, Ob.dead, Ob.box (maC m1), Ob.box zeC]) := by
 exact (RoundRun.of_eval (sp := ⟨[2, 4, 6, 14, 15, 16], [1, 1000006, 13, 14], []⟩) (n0 := 15) (ex := Ex.norm) (t' := (uu :: uu :: D.slc (6 : Nat) (1 : Nat) (11 : Nat) :: uu :: D.ptr false 13 0 :: uu :: D.ptr false 14 0 :: uu :: uu :: uu :: uu :: uu :: uu :: uu :: .lst .no 8 xs :: .int .i64 (↑(List.length xs) : Int) :: .int .i64 (IntKind.wrap IntKind.i64 ((↑k : Int) + 1)) :: un 74)) (s' := [Ob.dead, Ob.box (reC r), Ob.dead, Ob.dead, Ob.dead, Ob.dead, Ob.box (List.map D.demote cs), Ob.dead, Ob.dead, Ob.dead, Ob.dead, Ob.dead, Ob.dead, Ob.box (maC m1), Ob.box zeC]) mixed [tC (by ((try simp only [List.length_set, List.length_map, sl2] at *); (try unfold big at *); omega) : (decide ((↑k : Int) < (↑(List.length xs) : Int))) = true), tT, .get _ _ _ hx, tC (eF o1), tC (eF o1), tC (eF o1), tC o1, tC o2, tC (eF o3), tC (eF o3), tC (eF o3), tC o3, tC o4, .ret _ _ _ hd, tF, .cl cs (by first | exact clAll rfl | exact hcs | exact cl_set hcs rfl)] (by kernel_rfl)).cast (by rfl) (by rfl)
theorem d13_load (m : MachS) (r : MachS) (cs xs : List D) (hcl : cs.length = 11) (hcs : ∀ c ∈ cs, c.clean = true) (k : Nat) (k1 : (k : Int) < (xs.length : Int)) (n1 : (xs.length : Int) ≤ 1000) (op w dst src base disp imm cc : Int) (hx : xs[(k : Int).toNat]? = some (xD op w dst src base disp imm cc)) (ho : op = 26) (hw : w = 64) (hb : base = 4) (hr : (disp.tmod 8 == 0) = true) (q0 : 0 ≤ IntKind.i64.wrap (disp.tdiv 8)) (q1 : IntKind.i64.wrap (disp.tdiv 8) < 11) (v : Int) (hv : cs[Int.toNat (IntKind.i64.wrap (disp.tdiv 8)) * 1]? = some (.int .u64 v)) (m1 : MachS) (hd : Ret Tryz.prog 55 [.agg (maC m), xD op w dst src base disp imm cc, .int .u64 v] (.tup [.agg (maC m1), .int .i64 0]))  : RoundRun Tryz.prog (loopB Tryz.f26 0) ⟨[2, 4, 6, 14, 15, 16], [1, 1000006, 13, 14], []⟩ 15 (uu :: uu :: D.slc (6 : Nat) (1 : Nat) (11 : Nat) :: uu :: D.ptr false 13 0 :: uu :: D.ptr false 14 0 :: uu :: uu :: uu :: uu :: uu :: uu :: uu :: .lst .no 8 xs :: .int .i64 (↑(List.length xs) : Int) :: .int .i64 (↑k : Int) :: un 74) [Ob.dead, Ob.box (reC r), Ob.dead, Ob.dead, Ob.dead, Ob.dead, Ob.box cs, Ob.dead, Ob.dead, Ob.dead, Ob.dead, Ob.dead, Ob.dead, Ob.box (maC m), Ob.box zeC] (Ex.norm) (uu :: uu :: D.slc (6 : Nat) (1 : Nat) (11 : Nat) :: uu :: D.ptr false 13 0 :: uu :: D.ptr false 14 0 :: uu :: uu :: uu :: uu :: uu :: uu :: uu :: .lst .no 8 xs :: .int .i64 (↑(List.length xs) : Int) :: .int .i64 (IntKind.wrap IntKind.i64 ((↑k : Int) + 1)) :: un 74) ([Ob.dead, Ob.box (reC r), Ob.dead, Ob.dead, Ob.dead, Ob.dead, Ob.box (List.map D.demote cs), Ob.dead, Ob.dead, Ob.dead, Ob.dead, Ob.dead, Ob.dead, Ob.box (maC m1), Ob.box zeC]) := by
 exact (RoundRun.of_eval (sp := ⟨[2, 4, 6, 14, 15, 16], [1, 1000006, 13, 14], []⟩) (n0 := 15) (ex := Ex.norm) (t' := (uu :: uu :: D.slc (6 : Nat) (1 : Nat) (11 : Nat) :: uu :: D.ptr false 13 0 :: uu :: D.ptr false 14 0 :: uu :: uu :: uu :: uu :: uu :: uu :: uu :: .lst .no 8 xs :: .int .i64 (↑(List.length xs) : Int) :: .int .i64 (IntKind.wrap IntKind.i64 ((↑k : Int) + 1)) :: un 74)) (s' := [Ob.dead, Ob.box (reC r), Ob.dead, Ob.dead, Ob.dead, Ob.dead, Ob.box (List.map D.demote cs), Ob.dead, Ob.dead, Ob.dead, Ob.dead, Ob.dead, Ob.dead, Ob.box (maC m1), Ob.box zeC]) mixed ([tC (by ((try simp only [List.length_set, List.length_map, sl2] at *); (try unfold big at *); omega) : (decide ((↑k : Int) < (↑(List.length xs) : Int))) = true), tT, .get _ _ _ hx] ++ List.replicate 3 (tC (eF (by ((try simp only [List.length_set, List.length_map, sl2] at *); (try unfold big at *); omega) : (op == 31) = false))) ++ [tC (by ((try simp only [List.length_set, List.length_map, sl2] at *); (try unfold big at *); omega) : (op == 31) = false), tC (by ((try simp only [List.length_set, List.length_map, sl2] at *); (try unfold big at *); omega) : (op == 30) = false)] ++ List.replicate 3 (tC (eF (eqI 26 true (by ((try simp only [List.length_set, List.length_map, sl2] at *); (try unfold big at *); omega) : op = 26)))) ++ [tC (eqI 26 true (by ((try simp only [List.length_set, List.length_map, sl2] at *); (try unfold big at *); omega) : op = 26)), tT] ++ List.replicate 3 (tC (eF (nt (eqI 4 true (by ((try simp only [List.length_set, List.length_map, sl2] at *); (try unfold big at *); omega) : base = 4))))) ++ [tC (nt (eqI 4 true (by ((try simp only [List.length_set, List.length_map, sl2] at *); (try unfold big at *); omega) : base = 4)))] ++ List.replicate 4 (tC (eF (nt (eqI 64 true (by ((try simp only [List.length_set, List.length_map, sl2] at *); (try unfold big at *); omega) : w = 64))))) ++ [tC (nt (eqI 64 true (by ((try simp only [List.length_set, List.length_map, sl2] at *); (try unfold big at *); omega) : w = 64))), tC (eF (nt (eqI 0 true (eq_of_beq hr)))), tC (eF (nt (eqI 0 true (eq_of_beq hr)))), tC (nt (eqI 0 true (eq_of_beq hr)))] ++ List.replicate 4 (tC (eF (decide_eq_false (Int.not_lt.2 q0)))) ++ [tC (decide_eq_false (Int.not_lt.2 q0)), tC (leL 11 (decide_eq_true q1)), .tst (decide (0 ≤ IntKind.wrap IntKind.i64 (Int.tdiv disp 8) ∧ IntKind.wrap IntKind.i64 (Int.tdiv disp 8) < (↑(11 : Nat) : Int))) true (by ((try simp only [List.length_set, List.length_map, sl2] at *); (try unfold big at *); omega)), .get _ _ _ hv, tC (eqI 27 false (by ((try simp only [List.length_set, List.length_map, sl2] at *); (try unfold big at *); omega) : op = 26)), .ret _ _ _ hd, tF, .cl cs (by first | exact clAll rfl | exact hcs | exact cl_set hcs rfl)]) (by kernel_rfl)).cast (by rfl) (by rfl)
theorem d13_store (m : MachS) (r : MachS) (cs xs : List D) (hcl : cs.length = 11) (hcs : ∀ c ∈ cs, c.clean = true) (k : Nat) (k1 : (k : Int) < (xs.length : Int)) (n1 : (xs.length : Int) ≤ 1000) (op w dst src base disp imm cc : Int) (hx : xs[(k : Int).toNat]? = some (xD op w dst src base disp imm cc)) (ho : op = 27) (hw : w = 64) (hb : base = 4) (hr : (disp.tmod 8 == 0) = true) (q0 : 0 ≤ IntKind.i64.wrap (disp.tdiv 8)) (q1 : IntKind.i64.wrap (disp.tdiv 8) < 11) (v : Int) (hv : cs[Int.toNat (IntKind.i64.wrap (disp.tdiv 8)) * 1]? = some (.int .u64 v)) (m1 : MachS) (hd : Ret Tryz.prog 55 [.agg (maC m), xD op w dst src base disp imm cc, .int .u64 v] (.tup [.agg (maC m1), .int .i64 0])) (u : Int) (hu : Ret Tryz.prog 54 [.agg (maC m), xD op w dst src base disp imm cc] (.int .u64 u))  : RoundRun Tryz.prog (loopB Tryz.f26 0) ⟨[2, 4, 6, 14, 15, 16], [1, 1000006, 13, 14], []⟩ 15 (uu :: uu :: D.slc (6 : Nat) (1 : Nat) (11 : Nat) :: uu :: D.ptr false 13 0 :: uu :: D.ptr false 14 0 :: uu :: uu :: uu :: uu :: uu :: uu :: uu :: .lst .no 8 xs :: .int .i64 (↑(List.length xs) : Int) :: .int .i64 (↑k : Int) :: un 74) [Ob.dead, Ob.box (reC r), Ob.dead, Ob.dead, Ob.dead, Ob.dead, Ob.box cs, Ob.dead, Ob.dead, Ob.dead, Ob.dead, Ob.dead, Ob.dead, Ob.box (maC m), Ob.box zeC] (Ex.norm) (uu :: uu :: D.slc (6 : Nat) (1 : Nat) (11 : Nat) :: uu :: D.ptr false 13 0 :: uu :: D.ptr false 14 0 :: uu :: uu :: uu :: uu :: uu :: uu :: uu :: .lst .no 8 xs :: .int .i64 (↑(List.length xs) : Int) :: .int .i64 (IntKind.wrap IntKind.i64 ((↑k : Int) + 1)) :: un 74) ([Ob.dead, Ob.box (reC r), Ob.dead, Ob.dead, Ob.dead, Ob.dead, Ob.box (List.map D.demote (List.set cs (Int.toNat (IntKind.wrap IntKind.i64 (Int.tdiv disp 8)) * (1 : Nat)) (.int .u64 u))), Ob.dead, Ob.dead, Ob.dead, Ob.dead, Ob.dead, Ob.dead, Ob.box (maC m1), Ob.box zeC]) := by
 exact (RoundRun.of_eval (sp := ⟨[2, 4, 6, 14, 15, 16], [1, 1000006, 13, 14], []⟩) (n0 := 15) (ex := Ex.norm) (t' := (uu :: uu :: D.slc (6 : Nat) (1 : Nat) (11 : Nat) :: uu :: D.ptr false 13 0 :: uu :: D.ptr false 14 0 :: uu :: uu :: uu :: uu :: uu :: uu :: uu :: .lst .no 8 xs :: .int .i64 (↑(List.length xs) : Int) :: .int .i64 (IntKind.wrap IntKind.i64 ((↑k : Int) + 1)) :: un 74)) (s' := [Ob.dead, Ob.box (reC r), Ob.dead, Ob.dead, Ob.dead, Ob.dead, Ob.box (List.map D.demote (List.set cs (Int.toNat (IntKind.wrap IntKind.i64 (Int.tdiv disp 8)) * (1 : Nat)) (.int .u64 u))), Ob.dead, Ob.dead, Ob.dead, Ob.dead, Ob.dead, Ob.dead, Ob.box (maC m1), Ob.box zeC]) mixed ([tC (by ((try simp only [List.length_set, List.length_map, sl2] at *); (try unfold big at *); omega) : (decide ((↑k : Int) < (↑(List.length xs) : Int))) = true), tT, .get _ _ _ hx] ++ List.replicate 3 (tC (eF (by ((try simp only [List.length_set, List.length_map, sl2] at *); (try unfold big at *); omega) : (op == 31) = false))) ++ [tC (by ((try simp only [List.length_set, List.length_map, sl2] at *); (try unfold big at *); omega) : (op == 31) = false), tC (by ((try simp only [List.length_set, List.length_map, sl2] at *); (try unfold big at *); omega) : (op == 30) = false)] ++ List.replicate 3 (tC (eF (by ((try simp only [List.length_set, List.length_map, sl2] at *); (try unfold big at *); omega) : (op == 26) = false))) ++ [tC (by ((try simp only [List.length_set, List.length_map, sl2] at *); (try unfold big at *); omega) : (op == 26) = false), tC (eqI 27 true (by ((try simp only [List.length_set, List.length_map, sl2] at *); (try unfold big at *); omega) : op = 27))] ++ List.replicate 3 (tC (eF (nt (eqI 4 true (by ((try simp only [List.length_set, List.length_map, sl2] at *); (try unfold big at *); omega) : base = 4))))) ++ [tC (nt (eqI 4 true (by ((try simp only [List.length_set, List.length_map, sl2] at *); (try unfold big at *); omega) : base = 4)))] ++ List.replicate 4 (tC (eF (nt (eqI 64 true (by ((try simp only [List.length_set, List.length_map, sl2] at *); (try unfold big at *); omega) : w = 64))))) ++ [tC (nt (eqI 64 true (by ((try simp only [List.length_set, List.length_map, sl2] at *); (try unfold big at *); omega) : w = 64))), tC (eF (nt (eqI 0 true (eq_of_beq hr)))), tC (eF (nt (eqI 0 true (eq_of_beq hr)))), tC (nt (eqI 0 true (eq_of_beq hr)))] ++ List.replicate 4 (tC (eF (decide_eq_false (Int.not_lt.2 q0)))) ++ [tC (decide_eq_false (Int.not_lt.2 q0)), tC (leL 11 (decide_eq_true q1)), .tst (decide (0 ≤ IntKind.wrap IntKind.i64 (Int.tdiv disp 8) ∧ IntKind.wrap IntKind.i64 (Int.tdiv disp 8) < (↑(11 : Nat) : Int))) true (by ((try simp only [List.length_set, List.length_map, sl2] at *); (try unfold big at *); omega)), .get _ _ _ hv, tC (eqI 27 true (by ((try simp only [List.length_set, List.length_map, sl2] at *); (try unfold big at *); omega) : op = 27)), .ret _ _ _ hu, .tst (decide (0 ≤ IntKind.wrap IntKind.i64 (Int.tdiv disp 8) ∧ IntKind.wrap IntKind.i64 (Int.tdiv disp 8) < (↑(11 : Nat) : Int))) true (by ((try simp only [List.length_set, List.length_map, sl2] at *); (try unfold big at *); omega)), .putA _ _ _ _ (@put_set cs (Int.toNat (IntKind.wrap IntKind.i64 (Int.tdiv disp 8)) * (1 : Nat)) (.int .u64 u) (by ((try simp only [List.length_set, List.length_map, sl2] at *); (try unfold big at *); omega))), .raw, .ret _ _ _ hd, tF, .cl (List.set cs (Int.toNat (IntKind.wrap IntKind.i64 (Int.tdiv disp 8)) * (1 : Nat)) (.int .u64 u)) (by first | exact clAll rfl | exact hcs | exact cl_set hcs rfl)]) (by kernel_rfl)).cast (by rfl) (by rfl)
theorem d15_end (m : MachS) (r : MachS) (cs xs : List D) (hcl : cs.length = 11) (hcs : ∀ c ∈ cs, c.clean = true) (k : Nat) (h : (xs.length : Int) ≤ k)  : RoundRun Tryz.prog (loopB Tryz.f26 0) ⟨[4, 6], [1, 1000006, 15, 16], []⟩ 17 (uu :: uu :: D.slc (6 : Nat) (1 : Nat) (11 : Nat) :: uu :: D.ptr false 15 0 :: uu :: D.ptr false 16 0 :: uu :: uu :: uu :: uu :: uu :: uu :: uu :: .lst .no 8 xs :: .int .i64 (↑(List.length xs) : Int) :: .int .i64 (↑k : Int) :: un 74) [Ob.dead, Ob.box (reC r), Ob.dead, Ob.dead, Ob.dead, Ob.dead, Ob.box cs, Ob.dead, Ob.dead, Ob.dead, Ob.dead, Ob.dead, Ob.dead, Ob.dead, Ob.dead, Ob.box (maC m), Ob.box zeC] (Ex.exit (0 : Nat)) (uu :: uu :: uu :: uu :: D.ptr false 15 0 :: uu :: D.ptr false 16 0 :: un 84) ([Ob.dead, Ob.box (reC r), Ob.dead, Ob.dead, Ob.dead, Ob.dead, Ob.box (List.map D.demote cs), Ob.dead, Ob.dead, Ob.dead, Ob.dead, Ob.dead, Ob.dead, Ob.dead, Ob.dead, Ob.box (maC m), Ob.box zeC]) := by
 exact (RoundRun.of_eval (sp := ⟨[4, 6], [1, 1000006, 15, 16], []⟩) (n0 := 17) (ex := Ex.exit (0 : Nat)) (t' := (uu :: uu :: uu :: uu :: D.ptr false 15 0 :: uu :: D.ptr false 16 0 :: un 84)) (s' := [Ob.dead, Ob.box (reC r), Ob.dead, Ob.dead, Ob.dead, Ob.dead, Ob.box (List.map D.demote cs), Ob.dead, Ob.dead, Ob.dead, Ob.dead, Ob.dead, Ob.dead, Ob.dead, Ob.dead, Ob.box (maC m), Ob.box zeC]) mixed [tC (by ((try simp only [List.length_set, List.length_map, sl2] at *); (try unfold big at *); omega) : (decide ((↑k : Int) < (↑(List.length xs) : Int))) = false), .cl cs (by first | exact clAll rfl | exact hcs | exact cl_set hcs rfl)] (by kernel_rfl)).cast (by rfl) (by rfl)
theorem d15_ret (m : MachS) (r : MachS) (cs xs : List D) (hcl : cs.length = 11) (hcs : ∀ c ∈ cs, c.clean = true) (k : Nat) (k1 : (k : Int) < (xs.length : Int)) (n1 : (xs.length : Int) ≤ 1000) (op w dst src base disp imm cc : Int) (hx : xs[(k : Int).toNat]? = some (xD op w dst src base disp imm cc)) (ho : op = 30)  : RoundRun Tryz.prog (loopB Tryz.f26 0) ⟨[6, 7], [1, 1000006, 15, 16], []⟩ 17 (uu :: uu :: D.slc (6 : Nat) (1 : Nat) (11 : Nat) :: uu :: D.ptr false 15 0 :: uu :: D.ptr false 16 0 :: uu :: uu :: uu :: uu :: uu :: uu :: uu :: .lst .no 8 xs :: .int .i64 (↑(List.length xs) : Int) :: .int .i64 (↑k : Int) :: un 74) [Ob.dead, Ob.box (reC r), Ob.dead, Ob.dead, Ob.dead, Ob.dead, Ob.box cs, Ob.dead, Ob.dead, Ob.dead, Ob.dead, Ob.dead, Ob.dead, Ob.dead, Ob.dead, Ob.box (maC m), Ob.box zeC] (Ex.ret) (uu :: uu :: uu :: uu :: uu :: uu :: D.ptr false 16 0 :: .bool true :: un 83) ([Ob.dead, Ob.box (reC r), Ob.dead, Ob.dead, Ob.dead, Ob.dead, Ob.box (List.map D.demote cs), Ob.dead, Ob.dead, Ob.dead, Ob.dead, Ob.dead, Ob.dead, Ob.dead, Ob.dead, Ob.box (maC m), Ob.box (maC m)]) := by
 exact (RoundRun.of_eval (sp := ⟨[6, 7], [1, 1000006, 15, 16], []⟩) (n0 := 17) (ex := Ex.ret) (t' := (uu :: uu :: uu :: uu :: uu :: uu :: D.ptr false 16 0 :: .bool true :: un 83)) (s' := [Ob.dead, Ob.box (reC r), Ob.dead, Ob.dead, Ob.dead, Ob.dead, Ob.box (List.map D.demote cs), Ob.dead, Ob.dead, Ob.dead, Ob.dead, Ob.dead, Ob.dead, Ob.dead, Ob.dead, Ob.box (maC m), Ob.box (maC m)]) mixed ([tC (by ((try simp only [List.length_set, List.length_map, sl2] at *); (try unfold big at *); omega) : (decide ((↑k : Int) < (↑(List.length xs) : Int))) = true), tT, .get _ _ _ hx] ++ List.replicate 3 (tC (eF (by ((try simp only [List.length_set, List.length_map, sl2] at *); (try unfold big at *); omega) : (op == 31) = false))) ++ [tC (by ((try simp only [List.length_set, List.length_map, sl2] at *); (try unfold big at *); omega) : (op == 31) = false), tC (eqI 30 true (by ((try simp only [List.length_set, List.length_map, sl2] at *); (try unfold big at *); omega) : op = 30)), .cl cs (by first | exact clAll rfl | exact hcs | exact cl_set hcs rfl)]) (by kernel_rfl)).cast (by rfl) (by rfl)
theorem d15_plain (m : MachS) (r : MachS) (cs xs : List D) (hcl : cs.length = 11) (hcs : ∀ c ∈ cs, c.clean = true) (k : Nat) (k1 : (k : Int) < (xs.length : Int)) (n1 : (xs.length : Int) ≤ 1000) (op w dst src base disp imm cc : Int) (hx : xs[(k : Int).toNat]? = some (xD op w dst src base disp imm cc)) (m1 : MachS) (hd : Ret Tryz.prog 55 [.agg (maC m), xD op w dst src base disp imm cc, .int .u64 0] (.tup [.agg (maC m1), .int .i64 0])) (o1 : (op == 31) = false) (o2 : (op == 30) = false) (o3 : (op == 26) = false) (o4 : (op == 27) = false)  : RoundRun Tryz.prog (loopB Tryz.f26 0) ⟨[2, 4, 6, 14, 15, 16], [1, 1000006, 15, 16], []⟩ 17 (uu :: uu :: D.slc (6 : Nat) (1 : Nat) (11 : Nat) :: uu :: D.ptr false 15 0 :: uu :: D.ptr false 16 0 :: uu :: uu :: uu :: uu :: uu :: uu :: uu :: .lst .no 8 xs :: .int .i64 (↑(List.length xs) : Int) :: .int .i64 (↑k : Int) :: un 74) [Ob.dead, Ob.box (reC r), Ob.dead, Ob.dead, Ob.dead, Ob.dead, Ob.box cs, Ob.dead, Ob.dead, Ob.dead, Ob.dead, Ob.dead, Ob.dead, Ob.dead, Ob.dead, Ob.box (maC m), Ob.box zeC] (Ex.norm) (uu :: uu :: D.slc (6 : Nat) (1 : Nat) (11 : Nat) :: uu :: D.ptr false 15 0 :: uu :: D.ptr false 16 0 :: uu :: uu :: uu :: uu :: uu :: uu :: uu :: .lst .no 8 xs :: .int .i64 (↑(List.length xs) : Int) :: .int .i64 (IntKind.wrap IntKind.i64 ((↑k : Int) + 1)) :: un 74) ([Ob.dead, Ob.box (reC r), Ob.dead, Ob.dead, Ob.dead, Ob.dead, Ob.box (List.map D.demote cs), Ob.dead, Ob.dead, Ob.dead, Ob.dead, Ob.dead, Ob.dead, Ob.dead, Ob.dead, Ob.box (maC m1), Ob.box zeC]) := by
 exact (RoundRun.of_eval (sp := ⟨[2, 4, 6, 14, 15, 16], [1, 1000006, 15, 16], []⟩) (n0 := 17) (ex := Ex.norm) (t' := (uu :: uu :: D.slc (6 : Nat) (1 : Nat) (11 : Nat) :: uu :: D.ptr false 15 0 :: uu :: D.ptr false 16 0 :: uu :: uu :: uu :: uu :: uu :: uu :: uu :: .lst .no 8 xs :: .int .i64 (↑(List.length xs) : Int) :: .int .i64 (IntKind.wrap IntKind.i64 ((↑k : Int) + 1)) :: un 74)) (s' := [Ob.dead, Ob.box (reC r), Ob.dead, Ob.dead, Ob.dead, Ob.dead, Ob.box (List.map D.demote cs), Ob.dead, Ob.dead, Ob.dead, Ob.dead, Ob.dead, Ob.dead, Ob.dead, Ob.dead, Ob.box (maC m1), Ob.box zeC]) mixed [tC (by ((try simp only [List.length_set, List.length_map, sl2] at *); (try unfold big at *); omega) : (decide ((↑k : Int) < (↑(List.length xs) : Int))) = true), tT, .get _ _ _ hx, tC (eF o1), tC (eF o1), tC (eF o1), tC o1, tC o2, tC (eF o3), tC (eF o3), tC (eF o3), tC o3, tC o4, .ret _ _ _ hd, tF, .cl cs (by first | exact clAll rfl | exact hcs | exact cl_set hcs rfl)] (by kernel_rfl)).cast (by rfl) (by rfl)
theorem d15_load (m : MachS) (r : MachS) (cs xs : List D) (hcl : cs.length = 11) (hcs : ∀ c ∈ cs, c.clean = true) (k : Nat) (k1 : (k : Int) < (xs.length : Int)) (n1 : (xs.length : Int) ≤ 1000) (op w dst src base disp imm cc : Int) (hx : xs[(k : Int).toNat]? = some (xD op w dst src base disp imm cc)) (ho : op = 26) (hw : w = 64) (hb : base = 4) (hr : (disp.tmod 8 == 0) = true) (q0 : 0 ≤ IntKind.i64.wrap (disp.tdiv 8)) (q1 : IntKind.i64.wrap (disp.tdiv 8) < 11) (v : Int) (hv : cs[Int.toNat (IntKind.i64.wrap (disp.tdiv 8)) * 1]? = some (.int .u64 v)) (m1 : MachS) (hd : Ret Tryz.prog 55 [.agg (maC m), xD op w dst src base disp imm cc, .int .u64 v] (.tup [.agg (maC m1), .int .i64 0]))  : RoundRun Tryz.prog (loopB Tryz.f26 0) ⟨[2, 4, 6, 14, 15, 16], [1, 1000006, 15, 16], []⟩ 17 (uu :: uu :: D.slc (6 : Nat) (1 : Nat) (11 : Nat) :: uu :: D.ptr false 15 0 :: uu :: D.ptr false 16 0 :: uu :: uu :: uu :: uu :: uu :: uu :: uu :: .lst .no 8 xs :: .int .i64 (↑(List.length xs) : Int) :: .int .i64 (↑k : Int) :: un 74) [Ob.dead, Ob.box (reC r), Ob.dead, Ob.dead, Ob.dead, Ob.dead, Ob.box cs, Ob.dead, Ob.dead, Ob.dead, Ob.dead, Ob.dead, Ob.dead, Ob.dead, Ob.dead, Ob.box (maC m), Ob.box zeC] (Ex.norm) (uu :: uu :: D.slc (6 : Nat) (1 : Nat) (11 : Nat) :: uu :: D.ptr false 15 0 :: uu :: D.ptr false 16 0 :: uu :: uu :: uu :: uu :: uu :: uu :: uu :: .lst .no 8 xs :: .int .i64 (↑(List.length xs) : Int) :: .int .i64 (IntKind.wrap IntKind.i64 ((↑k : Int) + 1)) :: un 74) ([Ob.dead, Ob.box (reC r), Ob.dead, Ob.dead, Ob.dead, Ob.dead, Ob.box (List.map D.demote cs), Ob.dead, Ob.dead, Ob.dead, Ob.dead, Ob.dead, Ob.dead, Ob.dead, Ob.dead, Ob.box (maC m1), Ob.box zeC]) := by
 exact (RoundRun.of_eval (sp := ⟨[2, 4, 6, 14, 15, 16], [1, 1000006, 15, 16], []⟩) (n0 := 17) (ex := Ex.norm) (t' := (uu :: uu :: D.slc (6 : Nat) (1 : Nat) (11 : Nat) :: uu :: D.ptr false 15 0 :: uu :: D.ptr false 16 0 :: uu :: uu :: uu :: uu :: uu :: uu :: uu :: .lst .no 8 xs :: .int .i64 (↑(List.length xs) : Int) :: .int .i64 (IntKind.wrap IntKind.i64 ((↑k : Int) + 1)) :: un 74)) (s' := [Ob.dead, Ob.box (reC r), Ob.dead, Ob.dead, Ob.dead, Ob.dead, Ob.box (List.map D.demote cs), Ob.dead, Ob.dead, Ob.dead, Ob.dead, Ob.dead, Ob.dead, Ob.dead, Ob.dead, Ob.box (maC m1), Ob.box zeC]) mixed ([tC (by ((try simp only [List.length_set, List.length_map, sl2] at *); (try unfold big at *); omega) : (decide ((↑k : Int) < (↑(List.length xs) : Int))) = true), tT, .get _ _ _ hx] ++ List.replicate 3 (tC (eF (by ((try simp only [List.length_set, List.length_map, sl2] at *); (try unfold big at *); omega) : (op == 31) = false))) ++ [tC (by ((try simp only [List.length_set, List.length_map, sl2] at *); (try unfold big at *); omega) : (op == 31) = false), tC (by ((try simp only [List.length_set, List.length_map, sl2] at *); (try unfold big at *); omega) : (op == 30) = false)] ++ List.replicate 3 (tC (eF (eqI 26 true (by ((try simp only [List.length_set, List.length_map, sl2] at *); (try unfold big at *); omega) : op = 26)))) ++ [tC (eqI 26 true (by ((try simp only [List.length_set, List.length_map, sl2] at *); (try unfold big at *); omega) : op = 26)), tT] ++ List.replicate 3 (tC (eF (nt (eqI 4 true (by ((try simp only [List.length_set, List.length_map, sl2] at *); (try unfold big at *); omega) : base = 4))))) ++ [tC (nt (eqI 4 true (by ((try simp only [List.length_set, List.length_map, sl2] at *); (try unfold big at *); omega) : base = 4)))] ++ List.replicate 4 (tC (eF (nt (eqI 64 true (by ((try simp only [List.length_set, List.length_map, sl2] at *); (try unfold big at *); omega) : w = 64))))) ++ [tC (nt (eqI 64 true (by ((try simp only [List.length_set, List.length_map, sl2] at *); (try unfold big at *); omega) : w = 64))), tC (eF (nt (eqI 0 true (eq_of_beq hr)))), tC (eF (nt (eqI 0 true (eq_of_beq hr)))), tC (nt (eqI 0 true (eq_of_beq hr)))] ++ List.replicate 4 (tC (eF (decide_eq_false (Int.not_lt.2 q0)))) ++ [tC (decide_eq_false (Int.not_lt.2 q0)), tC (leL 11 (decide_eq_true q1)), .tst (decide (0 ≤ IntKind.wrap IntKind.i64 (Int.tdiv disp 8) ∧ IntKind.wrap IntKind.i64 (Int.tdiv disp 8) < (↑(11 : Nat) : Int))) true (by ((try simp only [List.length_set, List.length_map, sl2] at *); (try unfold big at *); omega)), .get _ _ _ hv, tC (eqI 27 false (by ((try simp only [List.length_set, List.length_map, sl2] at *); (try unfold big at *); omega) : op = 26)), .ret _ _ _ hd, tF, .cl cs (by first | exact clAll rfl | exact hcs | exact cl_set hcs rfl)]) (by kernel_rfl)).cast (by rfl) (by rfl)
theorem d15_store (m : MachS) (r : MachS) (cs xs : List D) (hcl : cs.length = 11) (hcs : ∀ c ∈ cs, c.clean = true) (k : Nat) (k1 : (k : Int) < (xs.length : Int)) (n1 : (xs.length : Int) ≤ 1000) (op w dst src base disp imm cc : Int) (hx : xs[(k : Int).toNat]? = some (xD op w dst src base disp imm cc)) (ho : op = 27) (hw : w = 64) (hb : base = 4) (hr : (disp.tmod 8 == 0) = true) (q0 : 0 ≤ IntKind.i64.wrap (disp.tdiv 8)) (q1 : IntKind.i64.wrap (disp.tdiv 8) < 11) (v : Int) (hv : cs[Int.toNat (IntKind.i64.wrap (disp.tdiv 8)) * 1]? = some (.int .u64 v)) (m1 : MachS) (hd : Ret Tryz.prog 55 [.agg (maC m), xD op w dst src base disp imm cc, .int .u64 v] (.tup [.agg (maC m1), .int .i64 0])) (u : Int) (hu : Ret Tryz.prog 54 [.agg (maC m), xD op w dst src base disp imm cc] (.int .u64 u))  : RoundRun Tryz.prog (loopB Tryz.f26 0) ⟨[2, 4, 6, 14, 15, 16], [1, 1000006, 15, 16], []⟩ 17 (uu :: uu :: D.slc (6 : Nat) (1 : Nat) (11 : Nat) :: uu :: D.ptr false 15 0 :: uu :: D.ptr false 16 0 :: uu :: uu :: uu :: uu :: uu :: uu :: uu :: .lst .no 8 xs :: .int .i64 (↑(List.length xs) : Int) :: .int .i64 (↑k : Int) :: un 74) [Ob.dead, Ob.box (reC r), Ob.dead, Ob.dead, Ob.dead, Ob.dead, Ob.box cs, Ob.dead, Ob.dead, Ob.dead, Ob.dead, Ob.dead, Ob.dead, Ob.dead, Ob.dead, Ob.box (maC m), Ob.box zeC] (Ex.norm) (uu :: uu :: D.slc (6 : Nat) (1 : Nat) (11 : Nat) :: uu :: D.ptr false 15 0 :: uu :: D.ptr false 16 0 :: uu :: uu :: uu :: uu :: uu :: uu :: uu :: .lst .no 8 xs :: .int .i64 (↑(List.length xs) : Int) :: .int .i64 (IntKind.wrap IntKind.i64 ((↑k : Int) + 1)) :: un 74) ([Ob.dead, Ob.box (reC r), Ob.dead, Ob.dead, Ob.dead, Ob.dead, Ob.box (List.map D.demote (List.set cs (Int.toNat (IntKind.wrap IntKind.i64 (Int.tdiv disp 8)) * (1 : Nat)) (.int .u64 u))), Ob.dead, Ob.dead, Ob.dead, Ob.dead, Ob.dead, Ob.dead, Ob.dead, Ob.dead, Ob.box (maC m1), Ob.box zeC]) := by
 exact (RoundRun.of_eval (sp := ⟨[2, 4, 6, 14, 15, 16], [1, 1000006, 15, 16], []⟩) (n0 := 17) (ex := Ex.norm) (t' := (uu :: uu :: D.slc (6 : Nat) (1 : Nat) (11 : Nat) :: uu :: D.ptr false 15 0 :: uu :: D.ptr false 16 0 :: uu :: uu :: uu :: uu :: uu :: uu :: uu :: .lst .no 8 xs :: .int .i64 (↑(List.length xs) : Int) :: .int .i64 (IntKind.wrap IntKind.i64 ((↑k : Int) + 1)) :: un 74)) (s' := [Ob.dead, Ob.box (reC r), Ob.dead, Ob.dead, Ob.dead, Ob.dead, Ob.box (List.map D.demote (List.set cs (Int.toNat (IntKind.wrap IntKind.i64 (Int.tdiv disp 8)) * (1 : Nat)) (.int .u64 u))), Ob.dead, Ob.dead, Ob.dead, Ob.dead, Ob.dead, Ob.dead, Ob.dead, Ob.dead, Ob.box (maC m1), Ob.box zeC]) mixed ([tC (by ((try simp only [List.length_set, List.length_map, sl2] at *); (try unfold big at *); omega) : (decide ((↑k : Int) < (↑(List.length xs) : Int))) = true), tT, .get _ _ _ hx] ++ List.replicate 3 (tC (eF (by ((try simp only [List.length_set, List.length_map, sl2] at *); (try unfold big at *); omega) : (op == 31) = false))) ++ [tC (by ((try simp only [List.length_set, List.length_map, sl2] at *); (try unfold big at *); omega) : (op == 31) = false), tC (by ((try simp only [List.length_set, List.length_map, sl2] at *); (try unfold big at *); omega) : (op == 30) = false)] ++ List.replicate 3 (tC (eF (by ((try simp only [List.length_set, List.length_map, sl2] at *); (try unfold big at *); omega) : (op == 26) = false))) ++ [tC (by ((try simp only [List.length_set, List.length_map, sl2] at *); (try unfold big at *); omega) : (op == 26) = false), tC (eqI 27 true (by ((try simp only [List.length_set, List.length_map, sl2] at *); (try unfold big at *); omega) : op = 27))] ++ List.replicate 3 (tC (eF (nt (eqI 4 true (by ((try simp only [List.length_set, List.length_map, sl2] at *); (try unfold big at *); omega) : base = 4))))) ++ [tC (nt (eqI 4 true (by ((try simp only [List.length_set, List.length_map, sl2] at *); (try unfold big at *); omega) : base = 4)))] ++ List.replicate 4 (tC (eF (nt (eqI 64 true (by ((try simp only [List.length_set, List.length_map, sl2] at *); (try unfold big at *); omega) : w = 64))))) ++ [tC (nt (eqI 64 true (by ((try simp only [List.length_set, List.length_map, sl2] at *); (try unfold big at *); omega) : w = 64))), tC (eF (nt (eqI 0 true (eq_of_beq hr)))), tC (eF (nt (eqI 0 true (eq_of_beq hr)))), tC (nt (eqI 0 true (eq_of_beq hr)))] ++ List.replicate 4 (tC (eF (decide_eq_false (Int.not_lt.2 q0)))) ++ [tC (decide_eq_false (Int.not_lt.2 q0)), tC (leL 11 (decide_eq_true q1)), .tst (decide (0 ≤ IntKind.wrap IntKind.i64 (Int.tdiv disp 8) ∧ IntKind.wrap IntKind.i64 (Int.tdiv disp 8) < (↑(11 : Nat) : Int))) true (by ((try simp only [List.length_set, List.length_map, sl2] at *); (try unfold big at *); omega)), .get _ _ _ hv, tC (eqI 27 true (by ((try simp only [List.length_set, List.length_map, sl2] at *); (try unfold big at *); omega) : op = 27)), .ret _ _ _ hu, .tst (decide (0 ≤ IntKind.wrap IntKind.i64 (Int.tdiv disp 8) ∧ IntKind.wrap IntKind.i64 (Int.tdiv disp 8) < (↑(11 : Nat) : Int))) true (by ((try simp only [List.length_set, List.length_map, sl2] at *); (try unfold big at *); omega)), .putA _ _ _ _ (@put_set cs (Int.toNat (IntKind.wrap IntKind.i64 (Int.tdiv disp 8)) * (1 : Nat)) (.int .u64 u) (by ((try simp only [List.length_set, List.length_map, sl2] at *); (try unfold big at *); omega))), .raw, .ret _ _ _ hd, tF, .cl (List.set cs (Int.toNat (IntKind.wrap IntKind.i64 (Int.tdiv disp 8)) * (1 : Nat)) (.int .u64 u)) (by first | exact clAll rfl | exact hcs | exact cl_set hcs rfl)]) (by kernel_rfl)).cast (by rfl) (by rfl)
theorem d17_end (m : MachS) (r : MachS) (cs xs : List D) (hcl : cs.length = 11) (hcs : ∀ c ∈ cs, c.clean = true) (k : Nat) (h : (xs.length : Int) ≤ k)  : RoundRun Tryz.prog (loopB Tryz.f26 0) ⟨[4, 6], [1, 1000006, 17, 18], []⟩ 19 (uu :: uu :: D.slc (6 : Nat) (1 : Nat) (11 : Nat) :: uu :: D.ptr false 17 0 :: uu :: D.ptr false 18 0 :: uu :: uu :: uu :: uu :: uu :: uu :: uu :: .lst .no 8 xs :: .int .i64 (↑(List.length xs) : Int) :: .int .i64 (↑k : Int) :: un 74) [Ob.dead, Ob.box (reC r), Ob.dead, Ob.dead, Ob.dead, Ob.dead, Ob.box cs, Ob.dead, Ob.dead, Ob.dead, Ob.dead, Ob.dead, Ob.dead, Ob.dead, Ob.dead, Ob.dead, Ob.dead, Ob.box (maC m), Ob.box zeC] (Ex.exit (0 : Nat)) (uu :: uu :: uu :: uu :: D.ptr false 17 0 :: uu :: D.ptr false 18 0 :: un 84) ([Ob.dead, Ob.box (reC r), Ob.dead, Ob.dead, Ob.dead, Ob.dead, Ob.box (List.map D.demote cs), Ob.dead, Ob.dead, Ob.dead, Ob.dead, Ob.dead, Ob.dead, Ob.dead, Ob.dead, Ob.dead, Ob.dead, Ob.box (maC m), Ob.box zeC]) := by
 exact (RoundRun.of_eval (sp := ⟨[4, 6], [1, 1000006, 17, 18], []⟩) (n0 := 19) (ex := Ex.exit (0 : Nat)) (t' := (uu :: uu :: uu :: uu :: D.ptr false 17 0 :: uu :: D.ptr false 18 0 :: un 84)) (s' := [Ob.dead, Ob.box (reC r), Ob.dead, Ob.dead, Ob.dead, Ob.dead, Ob.box (List.map D.demote cs), Ob.dead, Ob.dead, Ob.dead, Ob.dead, Ob.dead, Ob.dead, Ob.dead, Ob.dead, Ob.dead, Ob.dead, Ob.box (maC m), Ob.box zeC]) mixed [tC (by ((try simp only [List.length_set, List.length_map, sl2] at *); (try unfold big at *); omega) : (decide ((↑k : Int) < (↑(List.length xs) : Int))) = false), .cl cs (by first | exact clAll rfl | exact hcs | exact cl_set hcs rfl)] (by kernel_rfl)).cast (by rfl) (by rfl)
theorem d17_ret (m : MachS) (r : MachS) (cs xs : List D) (hcl : cs.length = 11) (hcs : ∀ c ∈ cs, c.clean = true) (k : Nat) (k1 : (k : Int) < (xs.length : Int)) (n1 : (xs.length : Int) ≤ 1000) (op w dst src base disp imm cc : Int) (hx : xs[(k : Int).toNat]? = some (xD op w dst src base disp imm cc)) (ho : op = 30)  : RoundRun Tryz.prog (loopB Tryz.f26 0) ⟨[6, 7], [1, 1000006, 17, 18], []⟩ 19 (uu :: uu :: D.slc (6 : Nat) (1 : Nat) (11 : Nat) :: uu :: D.ptr false 17 0 :: uu :: D.ptr false 18 0 :: uu :: uu :: uu :: uu :: uu :: uu :: uu :: .lst .no 8 xs :: .int .i64 (↑(List.length xs) : Int) :: .int .i64 (↑k : Int) :: un 74) [Ob.dead, Ob.box (reC r), Ob.dead, Ob.dead, Ob.dead, Ob.dead, Ob.box cs, Ob.dead, Ob.dead, Ob.dead, Ob.dead, Ob.dead, Ob.dead, Ob.dead, Ob.dead, Ob.dead, Ob.dead, Ob.box (maC m), Ob.box zeC] (Ex.ret) (uu :: uu :: uu :: uu :: uu :: uu :: D.ptr false 18 0 :: .bool true :: un 83) ([Ob.dead, Ob.box (reC r), Ob.dead, Ob.dead, Ob.dead, Ob.dead, Ob.box (List.map D.demote cs), Ob.dead, Ob.dead, Ob.dead, Ob.dead, Ob.dead, Ob.dead, Ob.dead, Ob.dead, Ob.dead, Ob.dead, Ob.box (maC m), Ob.box (maC m)]) := by
 exact (RoundRun.of_eval (sp := ⟨[6, 7], [1, 1000006, 17, 18], []⟩) (n0 := 19) (ex := Ex.ret) (t' := (uu :: uu :: uu :: uu :: uu :: uu :: D.ptr false 18 0 :: .bool true :: un 83)) (s' := [Ob.dead, Ob.box (reC r), Ob.dead, Ob.dead, Ob.dead, Ob.dead, Ob.box (List.map D.demote cs), Ob.dead, Ob.dead, Ob.dead, Ob.dead, Ob.dead, Ob.dead, Ob.dead, Ob.dead, Ob.dead, Ob.dead, Ob.box (maC m), Ob.box (maC m)]) mixed ([tC (by ((try simp only [List.length_set, List.length_map, sl2] at *); (try unfold big at *); omega) : (decide ((↑k : Int) < (↑(List.length xs) : Int))) = true), tT, .get _ _ _ hx] ++ List.replicate 3 (tC (eF (by ((try simp only [List.length_set, List.length_map, sl2] at *); (try unfold big at *); omega) : (op == 31) = false))) ++ [tC (by ((try simp only [List.length_set, List.length_map, sl2] at *); (try unfold big at *); omega) : (op == 31) = false), tC (eqI 30 true (by ((try simp only [List.length_set, List.length_map, sl2] at *); (try unfold big at *); omega) : op = 30)), .cl cs (by first | exact clAll rfl | exact hcs | exact cl_set hcs rfl)]) (by kernel_rfl)).cast (by rfl) (by rfl)
theorem d17_plain (m : MachS) (r : MachS) (cs xs : List D) (hcl : cs.length = 11) (hcs : ∀ c ∈ cs, c.clean = true) (k : Nat) (k1 : (k : Int) < (xs.length : Int)) (n1 : (xs.length : Int) ≤ 1000) (op w dst src base disp imm cc : Int) (hx : xs[(k : Int).toNat]? = some (xD op w dst src base disp imm cc)) (m1 : MachS) (hd : Ret Tryz.prog 55 [.agg (maC m), xD op w dst src base disp imm cc, .int .u64 0] (.tup [.agg (maC m1), .int .i64 0])) (o1 : (op == 31) = false) (o2 : (op == 30) = false) (o3 : (op == 26) = false) (o4 : (op == 27) = false)  : RoundRun Tryz.prog (loopB Tryz.f26 0) ⟨[2, 4, 6, 14, 15, 16], [1, 1000006, 17, 18], []⟩ 19 (uu :: uu :: D.slc (6 : Nat) (1 : Nat) (11 : Nat) :: uu :: D.ptr false 17 0 :: uu :: D.ptr false 18 0 :: uu :: uu :: uu :: uu :: uu :: uu :: uu :: .lst .no 8 xs :: .int .i64 (↑(List.length xs) : Int) :: .int .i64 (↑k : Int) :: un 74) [Ob.dead, Ob.box (reC r), Ob.dead, Ob.dead, Ob.dead, Ob.dead, Ob.box cs, Ob.dead, Ob.dead, Ob.dead, Ob.dead, Ob.dead, Ob.dead, Ob.dead, Ob.dead, Ob.dead, Ob.dead, Ob.box (maC m), Ob.box zeC] (Ex.norm) (uu :: uu :: D.slc (6 : Nat) (1 : Nat) (11 : Nat) :: uu :: D.ptr false 17 0 :: uu :: D.ptr false 18 0 :: uu :: uu :: uu :: uu :: uu :: uu :: uu :: .lst .no 8 xs :: .int .i64 (↑(List.length xs) : Int) :: .int .i64 (IntKind.wrap IntKind.i64 ((↑k : Int) + 1)) :: un 74) ([Ob.dead, Ob.box (reC r), Ob.dead, Ob.dead, Ob.dead, Ob.dead, Ob.box (List.map D.demote cs), Ob.dead, Ob.dead, Ob.dead, Ob.dead, Ob.dead, Ob.dead, Ob.dead, Ob.dead, Ob.dead, Ob.dead, Ob.box (maC m1), Ob.box zeC]) := by
 exact (RoundRun.of_eval (sp := ⟨[2, 4, 6, 14, 15, 16], [1, 1000006, 17, 18], []⟩) (n0 := 19) (ex := Ex.norm) (t' := (uu :: uu :: D.slc (6 : Nat) (1 : Nat) (11 : Nat) :: uu :: D.ptr false 17 0 :: uu :: D.ptr false 18 0 :: uu :: uu :: uu :: uu :: uu :: uu :: uu :: .lst .no 8 xs :: .int .i64 (↑(List.length xs) : Int) :: .int .i64 (IntKind.wrap IntKind.i64 ((↑k : Int) + 1)) :: un 74)) (s' := [Ob.dead, Ob.box (reC r), Ob.dead, Ob.dead, Ob.dead, Ob.dead, Ob.box (List.map D.demote cs), Ob.dead, Ob.dead, Ob.dead, Ob.dead, Ob.dead, Ob.dead, Ob.dead, Ob.dead, Ob.dead, Ob.dead, Ob.box (maC m1), Ob.box zeC]) mixed [tC (by ((try simp only [List.length_set, List.length_map, sl2] at *); (try unfold big at *); omega) : (decide ((↑k : Int) < (↑(List.length xs) : Int))) = true), tT, .get _ _ _ hx, tC (eF o1), tC (eF o1), tC (eF o1), tC o1, tC o2, tC (eF o3), tC (eF o3), tC (eF o3), tC o3, tC o4, .ret _ _ _ hd, tF, .cl cs (by first | exact clAll rfl | exact hcs | exact cl_set hcs rfl)] (by kernel_rfl)).cast (by rfl) (by rfl)
theorem d17_load (m : MachS) (r : MachS) (cs xs : List D) (hcl : cs.length = 11) (hcs : ∀ c ∈ cs, c.clean = true) (k : Nat) (k1 : (k : Int) < (xs.length : Int)) (n1 : (xs.length : Int) ≤ 1000) (op w dst src base disp imm cc : Int) (hx : xs[(k : Int).toNat]? = some (xD op w dst src base disp imm cc)) (ho : op = 26) (hw : w = 64) (hb : base = 4) (hr : (disp.tmod 8 == 0) = true) (q0 : 0 ≤ IntKind.i64.wrap (disp.tdiv 8)) (q1 : IntKind.i64.wrap (disp.tdiv 8) < 11) (v : Int) (hv : cs[Int.toNat (IntKind.i64.wrap (disp.tdiv 8)) * 1]? = some (.int .u64 v)) (m1 : MachS) (hd : Ret Tryz.prog 55 [.agg (maC m), xD op w dst src base disp imm cc, .int .u64 v] (.tup [.agg (maC m1), .int .i64 0]))  : RoundRun Tryz.prog (loopB Tryz.f26 0) ⟨[2, 4, 6, 14, 15, 16], [1, 1000006, 17, 18], []⟩ 19 (uu :: uu :: D.slc (6 : Nat) (1 : Nat) (11 : Nat) :: uu :: D.ptr false 17 0 :: uu :: D.ptr false 18 0 :: uu :: uu :: uu :: uu :: uu :: uu :: uu :: .lst .no 8 xs :: .int .i64 (↑(List.length xs) : Int) :: .int .i64 (↑k : Int) :: un 74) [Ob.dead, Ob.box (reC r), Ob.dead, Ob.dead, Ob.dead, Ob.dead, Ob.box cs, Ob.dead, Ob.dead, Ob.dead, Ob.dead, Ob.dead, Ob.dead, Ob.dead, Ob.dead, Ob.dead, Ob.dead, Ob.box (maC m), Ob.box zeC] (Ex.norm) (uu :: uu :: D.slc (6 : Nat) (1 : Nat) (11 : Nat) :: uu :: D.ptr false 17 0 :: uu :: D.ptr false 18 0 :: uu :: uu :: uu :: uu :: uu :: uu :: uu :: .lst .no 8 xs :: .int .i64 (↑(List.length xs) : Int) :: .int .i64 (IntKind.wrap IntKind.i64 ((↑k : Int) + 1)) :: un 74) ([Ob.dead, Ob.box (reC r), Ob.dead, Ob.dead, Ob.dead, Ob.dead, Ob.box (List.map D.demote cs), Ob.dead, Ob.dead, Ob.dead, Ob.dead, Ob.dead, Ob.dead, Ob.dead, Ob.dead, Ob.dead, Ob.dead, Ob.box (maC m1), Ob.box zeC]) := by
 exact (RoundRun.of_eval (sp := ⟨[2, 4, 6, 14, 15, 16], [1, 1000006, 17, 18], []⟩) (n0 := 19) (ex := Ex.norm) (t' := (uu :: uu :: D.slc (6 : Nat) (1 : Nat) (11 : Nat) :: uu :: D.ptr false 17 0 :: uu :: D.ptr false 18 0 :: uu :: uu :: uu :: uu :: uu :: uu :: uu :: .lst .no 8 xs :: .int .i64 (↑(List.length xs) : Int) :: .int .i64 (IntKind.wrap IntKind.i64 ((↑k : Int) + 1)) :: un 74)) (s' := [Ob.dead, Ob.box (reC r), Ob.dead, Ob.dead, Ob.dead, Ob.dead, Ob.box (List.map D.demote cs), Ob.dead, Ob.dead, Ob.dead, Ob.dead, Ob.dead, Ob.dead, Ob.dead, Ob.dead, Ob.dead, Ob.dead, Ob.box (maC m1), Ob.box zeC]) mixed ([tC (by ((try simp only [List.length_set, List.length_map, sl2] at *); (try unfold big at *); omega) : (decide ((↑k : Int) < (↑(List.length xs) : Int))) = true), tT, .get _ _ _ hx] ++ List.replicate 3 (tC (eF (by ((try simp only [List.length_set, List.length_map, sl2] at *); (try unfold big at *); omega) : (op == 31) = false))) ++ [tC (by ((try simp only [List.length_set, List.length_map, sl2] at *); (try unfold big at *); omega) : (op == 31) = false), tC (by ((try simp only [List.length_set, List.length_map, sl2] at *); (try unfold big at *); omega) : (op == 30) = false)] ++ List.replicate 3 (tC (eF (eqI 26 true (by ((try simp only [List.length_set, List.length_map, sl2] at *); (try unfold big at *); omega) : op = 26)))) ++ [tC (eqI 26 true (by ((try simp only [List.length_set, List.length_map, sl2] at *); (try unfold big at *); omega) : op = 26)), tT] ++ List.replicate 3 (tC (eF (nt (eqI 4 true (by ((try simp only [List.length_set, List.length_map, sl2] at *); (try unfold big at *); omega) : base = 4))))) ++ [tC (nt (eqI 4 true (by ((try simp only [List.length_set, List.length_map, sl2] at *); (try unfold big at *); omega) : base = 4)))] ++ List.replicate 4 (tC (eF (nt (eqI 64 true (by ((try simp only [List.length_set, List.length_map, sl2] at *); (try unfold big at *); omega) : w = 64))))) ++ [tC (nt (eqI 64 true (by ((try simp only [List.length_set, List.length_map, sl2] at *); (try unfold big at *); omega) : w = 64))), tC (eF (nt (eqI 0 true (eq_of_beq hr)))), tC (eF (nt (eqI 0 true (eq_of_beq hr)))), tC (nt (eqI 0 true (eq_of_beq hr)))] ++ List.replicate 4 (tC (eF (decide_eq_false (Int.not_lt.2 q0)))) ++ [tC (decide_eq_false (Int.not_lt.2 q0)), tC (leL 11 (decide_eq_true q1)), .tst (decide (0 ≤ IntKind.wrap IntKind.i64 (Int.tdiv disp 8) ∧ IntKind.wrap IntKind.i64 (Int.tdiv disp 8) < (↑(11 : Nat) : Int))) true (by ((try simp only [List.length_set, List.length_map, sl2] at *); (try unfold big at *); omega)), .get _ _ _ hv, tC (eqI 27 false (by ((try simp only [List.length_set, List.length_map, sl2] at *); (try unfold big at *); omega) : op = 26)), .ret _ _ _ hd, tF, .cl cs (by first | exact clAll rfl | exact hcs | exact cl_set hcs rfl)]) (by kernel_rfl)).cast (by rfl) (by rfl)
theorem d17_store (m : MachS) (r : MachS) (cs xs : List D) (hcl : cs.length = 11) (hcs : ∀ c ∈ cs, c.clean = true) (k : Nat) (k1 : (k : Int) < (xs.length : Int)) (n1 : (xs.length : Int) ≤ 1000) (op w dst src base disp imm cc : Int) (hx : xs[(k : Int).toNat]? = some (xD op w dst src base disp imm cc)) (ho : op = 27) (hw : w = 64) (hb : base = 4) (hr : (disp.tmod 8 == 0) = true) (q0 : 0 ≤ IntKind.i64.wrap (disp.tdiv 8)) (q1 : IntKind.i64.wrap (disp.tdiv 8) < 11) (v : Int) (hv : cs[Int.toNat (IntKind.i64.wrap (disp.tdiv 8)) * 1]? = some (.int .u64 v)) (m1 : MachS) (hd : Ret Tryz.prog 55 [.agg (maC m), xD op w dst src base disp imm cc, .int .u64 v] (.tup [.agg (maC m1), .int .i64 0])) (u : Int) (hu : Ret Tryz.prog 54 [.agg (maC m), xD op w dst src base disp imm cc] (.int .u64 u))  : RoundRun Tryz.prog (loopB Tryz.f26 0) ⟨[2, 4, 6, 14, 15, 16], [1, 1000006, 17, 18], []⟩ 19 (uu :: uu :: D.slc (6 : Nat) (1 : Nat) (11 : Nat) :: uu :: D.ptr false 17 0 :: uu :: D.ptr false 18 0 :: uu :: uu :: uu :: uu :: uu :: uu :: uu :: .lst .no 8 xs :: .int .i64 (↑(List.length xs) : Int) :: .int .i64 (↑k : Int) :: un 74) [Ob.dead, Ob.box (reC r), Ob.dead, Ob.dead, Ob.dead, Ob.dead, Ob.box cs, Ob.dead, Ob.dead, Ob.dead, Ob.dead, Ob.dead, Ob.dead, Ob.dead, Ob.dead, Ob.dead, Ob.dead, Ob.box (maC m), Ob.box zeC] (Ex.norm) (uu :: uu :: D.slc (6 : Nat) (1 : Nat) (11 : Nat) :: uu :: D.ptr false 17 0 :: uu :: D.ptr false 18 0 :: uu :: uu :: uu :: uu :: uu :: uu :: uu :: .lst .no 8 xs :: .int .i64 (↑(List.length xs) : Int) :: .int .i64 (IntKind.wrap IntKind.i64 ((↑k : Int) + 1)) :: un 74) ([Ob.dead, Ob.box (reC r), Ob.dead, Ob.dead, Ob.dead, Ob.dead, Ob.box (List.map D.demote (List.set cs (Int.toNat (IntKind.wrap IntKind.i64 (Int.tdiv disp 8)) * (1 : Nat)) (.int .u64 u))), Ob.dead, Ob.dead, Ob.dead, Ob.dead, Ob.dead, Ob.dead, Ob.dead, Ob.dead, Ob.dead, Ob.dead, Ob.box (maC m1), Ob.box zeC]) := by
 exact (RoundRun.of_eval (sp := ⟨[2, 4, 6, 14, 15, 16], [1, 1000006, 17, 18], []⟩) (n0 := 19) (ex := Ex.norm) (t' := (uu :: uu :: D.slc (6 : Nat) (1 : Nat) (11 : Nat) :: uu :: D.ptr false 17 0 :: uu :: D.ptr false 18 0 :: uu :: uu :: uu :: uu :: uu :: uu :: uu :: .lst .no 8 xs :: .int .i64 (↑(List.length xs) : Int) :: .int .i64 (IntKind.wrap IntKind.i64 ((↑k : Int) + 1)) :: un 74)) (s' := [Ob.dead, Ob.box (reC r), Ob.dead, Ob.dead, Ob.dead, Ob.dead, Ob.box (List.map D.demote (List.set cs (Int.toNat (IntKind.wrap IntKind.i64 (Int.tdiv disp 8)) * (1 : Nat)) (.int .u64 u))), Ob.dead, Ob.dead, Ob.dead, Ob.dead, Ob.dead, Ob.dead, Ob.dead, Ob.dead, Ob.dead, Ob.dead, Ob.box (maC m1), Ob.box zeC]) mixed ([tC (by ((try simp only [List.length_set, List.length_map, sl2] at *); (try unfold big at *); omega) : (decide ((↑k : Int) < (↑(List.length xs) : Int))) = true), tT, .get _ _ _ hx] ++ List.replicate 3 (tC (eF (by ((try simp only [List.length_set, List.length_map, sl2] at *); (try unfold big at *); omega) : (op == 31) = false))) ++ [tC (by ((try simp only [List.length_set, List.length_map, sl2] at *); (try unfold big at *); omega) : (op == 31) = false), tC (by ((try simp only [List.length_set, List.length_map, sl2] at *); (try unfold big at *); omega) : (op == 30) = false)] ++ List.replicate 3 (tC (eF (by ((try simp only [List.length_set, List.length_map, sl2] at *); (try unfold big at *); omega) : (op == 26) = false))) ++ [tC (by ((try simp only [List.length_set, List.length_map, sl2] at *); (try unfold big at *); omega) : (op == 26) = false), tC (eqI 27 true (by ((try simp only [List.length_set, List.length_map, sl2] at *); (try unfold big at *); omega) : op = 27))] ++ List.replicate 3 (tC (eF (nt (eqI 4 true (by ((try simp only [List.length_set, List.length_map, sl2] at *); (try unfold big at *); omega) : base = 4))))) ++ [tC (nt (eqI 4 true (by ((try simp only [List.length_set, List.length_map, sl2] at *); (try unfold big at *); omega) : base = 4)))] ++ List.replicate 4 (tC (eF (nt (eqI 64 true (by ((try simp only [List.length_set, List.length_map, sl2] at *); (try unfold big at *); omega) : w = 64))))) ++ [tC (nt (eqI 64 true (by ((try simp only [List.length_set, List.length_map, sl2] at *); (try unfold big at *); omega) : w = 64))), tC (eF (nt (eqI 0 true (eq_of_beq hr)))), tC (eF (nt (eqI 0 true (eq_of_beq hr)))), tC (nt (eqI 0 true (eq_of_beq hr)))] ++ List.replicate 4 (tC (eF (decide_eq_false (Int.not_lt.2 q0)))) ++ [tC (decide_eq_false (Int.not_lt.2 q0)), tC (leL 11 (decide_eq_true q1)), .tst (decide (0 ≤ IntKind.wrap IntKind.i64 (Int.tdiv disp 8) ∧ IntKind.wrap IntKind.i64 (Int.tdiv disp 8) < (↑(11 : Nat) : Int))) true (by ((try simp only [List.length_set, List.length_map, sl2] at *); (try unfold big at *); omega)), .get _ _ _ hv, tC (eqI 27 true (by ((try simp only [List.length_set, List.length_map, sl2] at *); (try unfold big at *); omega) : op = 27)), .ret _ _ _ hu, .tst (decide (0 ≤ IntKind.wrap IntKind.i64 (Int.tdiv disp 8) ∧ IntKind.wrap IntKind.i64 (Int.tdiv disp 8) < (↑(11 : Nat) : Int))) true (by ((try simp only [List.length_set, List.length_map, sl2] at *); (try unfold big at *); omega)), .putA _ _ _ _ (@put_set cs (Int.toNat (IntKind.wrap IntKind.i64 (Int.tdiv disp 8)) * (1 : Nat)) (.int .u64 u) (by ((try simp only [List.length_set, List.length_map, sl2] at *); (try unfold big at *); omega))), .raw, .ret _ _ _ hd, tF, .cl (List.set cs (Int.toNat (IntKind.wrap IntKind.i64 (Int.tdiv disp 8)) * (1 : Nat)) (.int .u64 u)) (by first | exact clAll rfl | exact hcs | exact cl_set hcs rfl)]) (by kernel_rfl)).cast (by rfl) (by rfl)
end Go.Proofs.YtkpneibifdoecaaGreat

namespace Go.Proofs.YtkpneibifdoecaaGreat
open Go Go.Ev
set_option maxRecDepth 100000
abbrev d13T (xs : List XS) (k : Int) : List D := [.undef, .undef, .slc 6 1 11, .undef, .ptr false 13 0, .undef, .ptr false 14 0, .undef, .undef, .undef, .undef, .undef, .undef, .undef, .lst .no 8 (xs.map XS.d), .int .i64 ((xs.map XS.d).length : Int), .int .i64 k, .undef, .undef, .undef, .undef, .undef, .undef, .undef, .undef, .undef, .undef, .undef, .undef, .undef, .undef, .undef, .undef, .undef, .undef, .undef, .undef, .undef, .undef, .undef, .undef, .undef, .undef, .undef, .undef, .undef, .undef, .undef, .undef, .undef, .undef, .undef, .undef, .undef, .undef, .undef, .undef, .undef, .undef, .undef, .undef, .undef, .undef, .undef, .undef, .undef, .undef, .undef, .undef, .undef, .undef, .undef, .undef, .undef, .undef, .undef, .undef, .undef, .undef, .undef, .undef, .undef, .undef, .undef, .undef, .undef, .undef, .undef, .undef, .undef, .undef]
abbrev d13U : List D := [.undef, .undef, .undef, .undef, .ptr false 13 0, .undef, .ptr false 14 0, .undef, .undef, .undef, .undef, .undef, .undef, .undef, .undef, .undef, .undef, .undef, .undef, .undef, .undef, .undef, .undef, .undef, .undef, .undef, .undef, .undef, .undef, .undef, .undef, .undef, .undef, .undef, .undef, .undef, .undef, .undef, .undef, .undef, .undef, .undef, .undef, .undef, .undef, .undef, .undef, .undef, .undef, .undef, .undef, .undef, .undef, .undef, .undef, .undef, .undef, .undef, .undef, .undef, .undef, .undef, .undef, .undef, .undef, .undef, .undef, .undef, .undef, .undef, .undef, .undef, .undef, .undef, .undef, .undef, .undef, .undef, .undef, .undef, .undef, .undef, .undef, .undef, .undef, .undef, .undef, .undef, .undef, .undef, .undef]
abbrev d13R : List D := [.undef, .undef, .undef, .undef, .undef, .undef, .ptr false 14 0, .bool true, .undef, .undef, .undef, .undef, .undef, .undef, .undef, .undef, .undef, .undef, .undef, .undef, .undef, .undef, .undef, .undef, .undef, .undef, .undef, .undef, .undef, .undef, .undef, .undef, .undef, .undef, .undef, .undef, .undef, .undef, .undef, .undef, .undef, .undef, .undef, .undef, .undef, .undef, .undef, .undef, .undef, .undef, .undef, .undef, .undef, .undef, .undef, .undef, .undef, .undef, .undef, .undef, .undef, .undef, .undef, .undef, .undef, .undef, .undef, .undef, .undef, .undef, .undef, .undef, .undef, .undef, .undef, .undef, .undef, .undef, .undef, .undef, .undef, .undef, .undef, .undef, .undef, .undef, .undef, .undef, .undef, .undef, .undef]
abbrev d13S (r : MachS) (m : MachS) (s : List Int) (out : MachS) : List Ob := [.dead, .box (reC r), .dead, .dead, .dead, .dead, .box (u64s s), .dead, .dead, .dead, .dead, .dead, .dead, .box (maC m), .box (maC out)]
theorem d13_rounds (r : MachS) (xs : List XS) (hx1 : xs.length ≤ 1000) : ∀ (t : List XS) (k : Nat) (m : MachS) (s : List Int) (m2 : MachS) (s2 : List Int), xs.drop k = t → s.length = 11 → (∀ x ∈ t, x.op ≤ 127 ∧ x.op ≠ 31) → doneM t m s = (m2, s2, true) →
  Rounds Tryz.prog (loopB Tryz.f26 0) 15 (d13T xs k) (d13S r m s .zero) (if endsR t = true then .ret else .exit 0) (if endsR t = true then d13R else d13U) (d13S r m2 s2 (if endsR t = true then m2 else .zero))
 | [], k, m, s, m2, s2, hd, hl, _, he => by
  have hk : xs.length ≤ k := by
   rcases Nat.lt_or_ge k xs.length with q | q
   ·have := List.length_drop (i := k) (l := xs)
    rw [hd] at this
    simp at this
    omega
   ·exact q
  rw [doneM] at he
  obtain ⟨rfl, rfl, _⟩ := (by simpa using he : m = m2 ∧ s = s2)
  have := d13_end m r (u64s s) (xs.map XS.d) (by rw [u64s_len]; exact hl) (u64s_clean s) k (by rw [List.length_map]; omega)
  rw [u64s_demote] at this
  exact Rounds.last this (fun h => by cases h)
 | x :: t, k, m, s, m2, s2, hd, hl, ho, he => by
  have hlt : k < xs.length := by
   rcases Nat.lt_or_ge k xs.length with q | q
   ·exact q
   ·rw [List.drop_eq_nil_of_le q] at hd; cases hd
  have hk : xs[k] = x := by
   have := List.getElem_drop (xs := xs) (i := k) (j := 0) (h := by rw [hd]; simp)
   simp only [hd] at this
   simpa using this.symm
  have hd' : xs.drop (k + 1) = t := by
   rw [List.drop_eq_getElem_cons hlt] at hd
   exact (List.cons.inj hd).2
  have hx : (xs.map XS.d)[(k : Int).toNat]? = some (xD x.op x.w x.dst x.src x.base x.disp x.imm x.cc) := by
   rw [Int.toNat_natCast, List.getElem?_map, List.getElem?_eq_getElem hlt, hk]
   rfl
  have k1 : (k : Int) < ((xs.map XS.d).length : Int) := by rw [List.length_map]; omega
  have n1 : ((xs.map XS.d).length : Int) ≤ 1000 := by rw [List.length_map]; omega
  have hcl : (u64s s).length = 11 := by rw [u64s_len]; exact hl
  obtain ⟨o1, o2⟩ := ho x (List.mem_cons_self ..)
  have ho' : ∀ y ∈ t, y.op ≤ 127 ∧ y.op ≠ 31 := fun y hy => ho y (List.mem_cons_of_mem _ hy)
  have hw : IntKind.i64.wrap ((k : Int) + 1) = ((k + 1 : Nat) : Int) := by rw [w_i64]; omega
  rw [doneM] at he
  rw [endsR]
  by_cases q30 : x.op = 30
  ·rw [if_pos (.inr q30)] at he
   obtain ⟨rfl, rfl, _⟩ := (by simpa using he : m = m2 ∧ s = s2)
   rw [if_pos q30]
   have := d13_ret m r (u64s s) (xs.map XS.d) hcl (u64s_clean s) k k1 n1 _ _ _ _ _ _ _ _ hx q30
   rw [u64s_demote] at this
   exact Rounds.last this (fun h => by cases h)
  rw [if_neg (by omega)] at he
  rw [if_neg q30]
  by_cases q : x.op = 26 ∨ x.op = 27
  ·rw [if_pos q] at he
   cases hs : slotOk x s.length with
   | false => rw [hs] at he; simp at he
   | true =>
    rw [hs, if_pos rfl] at he
    obtain ⟨w64, b4, r0, ew, a0, a1⟩ := slot_at hs hl
    by_cases hE : execE m x (s.getD (x.disp / 8).toNat 0) = 0
    ·rw [if_pos hE] at he
     have hv : (u64s s)[Int.toNat (IntKind.i64.wrap (x.disp.tdiv 8)) * 1]? = some (.int .u64 (s.getD (x.disp / 8).toNat 0)) := by
      rw [ew, Nat.mul_one]
      exact u64s_get (by omega)
     have hdo := exec_1 m _ x _ o1 hE rfl
     by_cases q26 : x.op = 26
     ·have e : slotPut x m s = s := by unfold slotPut; rw [if_neg (by omega)]
      rw [e] at he
      have ih := d13_rounds r xs hx1 t (k + 1) _ s m2 s2 hd' hl ho' he
      have := d13_load m r (u64s s) (xs.map XS.d) hcl (u64s_clean s) k k1 n1 _ _ _ _ _ _ _ _ hx q26 w64 b4 r0 (by rw [ew]; exact a0) (by rw [ew]; exact a1) _ hv _ hdo
      rw [hw, u64s_demote] at this
      exact Rounds.more this ih
     ·have q27 : x.op = 27 := by omega
      have e : slotPut x m s = s.set (x.disp / 8).toNat (rg m.rl x.src) := by unfold slotPut; rw [if_pos q27]
      rw [e] at he
      have ih := d13_rounds r xs hx1 t (k + 1) _ _ m2 s2 hd' (by rw [List.length_set]; exact hl) ho' he
      have := d13_store m r (u64s s) (xs.map XS.d) hcl (u64s_clean s) k k1 n1 _ _ _ _ _ _ _ _ hx q27 w64 b4 r0 (by rw [ew]; exact a0) (by rw [ew]; exact a1) _ hv _ hdo _ (stored_1 m x (may_of_exec hE) q27 w64 b4)
      rw [hw, ew, Nat.mul_one, u64s_set, u64s_demote] at this
      exact Rounds.more this ih
    ·rw [if_neg hE] at he
     simp at he
  ·rw [if_neg q] at he
   by_cases hE : execE m x 0 = 0
   ·rw [if_pos hE] at he
    have ih := d13_rounds r xs hx1 t (k + 1) _ s m2 s2 hd' hl ho' he
    have := d13_plain m r (u64s s) (xs.map XS.d) hcl (u64s_clean s) k k1 n1 _ _ _ _ _ _ _ _ hx _ (exec_1 m _ x 0 o1 hE rfl) (by simpa using o2) (by simpa using q30) (by simp; omega) (by simp; omega)
    rw [hw, u64s_demote] at this
    exact Rounds.more this ih
   ·rw [if_neg hE] at he
    simp at he
theorem d13_run (r : MachS) (xs : List XS) (hx1 : xs.length ≤ 1000) (m : MachS) (s : List Int) (m2 : MachS) (s2 : List Int) (hl : s.length = 11) (ho : ∀ x ∈ xs, x.op ≤ 127 ∧ x.op ≠ 31) (he : doneM xs m s = (m2, s2, true)) :
  LoopRun Tryz.prog 15 (.loop (loopB Tryz.f26 0)) (d13T xs 0) (d13S r m s .zero) (if endsR xs = true then .ret else .exit 0) (if endsR xs = true then d13R else d13U) (d13S r m2 s2 (if endsR xs = true then m2 else .zero)) :=
 LoopRun.of_rounds (by show 15 ≤ 15; decide) (d13_rounds r xs hx1 xs 0 m s m2 s2 rfl hl ho he)
abbrev d15T (xs : List XS) (k : Int) : List D := [.undef, .undef, .slc 6 1 11, .undef, .ptr false 15 0, .undef, .ptr false 16 0, .undef, .undef, .undef, .undef, .undef, .undef, .undef, .lst .no 8 (xs.map XS.d), .int .i64 ((xs.map XS.d).length : Int), .int .i64 k, .undef, .undef, .undef, .undef, .undef, .undef, .undef, .undef, .undef, .undef, .undef, .undef, .undef, .undef, .undef, .undef, .undef, .undef, .undef, .undef, .undef, .undef, .undef, .undef, .undef, .undef, .undef, .undef, .undef, .undef, .undef, .undef, .undef, .undef, .undef, .undef, .undef, .undef, .undef, .undef, .undef, .undef, .undef, .undef, .undef, .undef, .undef, .undef, .undef, .undef, .undef, .undef, .undef, .undef, .undef, .undef, .undef, .undef, .undef, .undef, .undef, .undef, .undef, .undef, .undef, .undef, .undef, .undef, .undef, .undef, .undef, .undef, .undef, .undef]
abbrev d15U : List D := [.undef, .undef, .undef, .undef, .ptr false 15 0, .undef, .ptr false 16 0, .undef, .undef, .undef, .undef, .undef, .undef, .undef, .undef, .undef, .undef, .undef, .undef, .undef, .undef, .undef, .undef, .undef, .undef, .undef, .undef, .undef, .undef, .undef, .undef, .undef, .undef, .undef, .undef, .undef, .undef, .undef, .undef, .undef, .undef, .undef, .undef, .undef, .undef, .undef, .undef, .undef, .undef, .undef, .undef, .undef, .undef, .undef, .undef, .undef, .undef, .undef, .undef, .undef, .undef, .undef, .undef, .undef, .undef, .undef, .undef, .undef, .undef, .undef, .undef, .undef, .undef, .undef, .undef, .undef, .undef, .undef, .undef, .undef, .undef, .undef, .undef, .undef, .undef, .undef, .undef, .undef, .undef, .undef, .undef]
abbrev d15R : List D := [.undef, .undef, .undef, .undef, .undef, .undef, .ptr false 16 0, .bool true, .undef, .undef, .undef, .undef, .undef, .undef, .undef, .undef, .undef, .undef, .undef, .undef, .undef, .undef, .undef, .undef, .undef, .undef, .undef, .undef, .undef, .undef, .undef, .undef, .undef, .undef, .undef, .undef, .undef, .undef, .undef, .undef, .undef, .undef, .undef, .undef, .undef, .undef, .undef, .undef, .undef, .undef, .undef, .undef, .undef, .undef, .undef, .undef, .undef, .undef, .undef, .undef, .undef, .undef, .undef, .undef, .undef, .undef, .undef, .undef, .undef, .undef, .undef, .undef, .undef, .undef, .undef, .undef, .undef, .undef, .undef, .undef, .undef, .undef, .undef, .undef, .undef, .undef, .undef, .undef, .undef, .undef, .undef]
abbrev d15S (r : MachS) (m : MachS) (s : List Int) (out : MachS) : List Ob := [.dead, .box (reC r), .dead, .dead, .dead, .dead, .box (u64s s), .dead, .dead, .dead, .dead, .dead, .dead, .dead, .dead, .box (maC m), .box (maC out)]
theorem d15_rounds (r : MachS) (xs : List XS) (hx1 : xs.length ≤ 1000) : ∀ (t : List XS) (k : Nat) (m : MachS) (s : List Int) (m2 : MachS) (s2 : List Int), xs.drop k = t → s.length = 11 → (∀ x ∈ t, x.op ≤ 127 ∧ x.op ≠ 31) → doneM t m s = (m2, s2, true) →
  Rounds Tryz.prog (loopB Tryz.f26 0) 17 (d15T xs k) (d15S r m s .zero) (if endsR t = true then .ret else .exit 0) (if endsR t = true then d15R else d15U) (d15S r m2 s2 (if endsR t = true then m2 else .zero))
 | [], k, m, s, m2, s2, hd, hl, _, he => by
  have hk : xs.length ≤ k := by
   rcases Nat.lt_or_ge k xs.length with q | q
   ·have := List.length_drop (i := k) (l := xs)
    rw [hd] at this
    simp at this
    omega
   ·exact q
  rw [doneM] at he
  obtain ⟨rfl, rfl, _⟩ := (by simpa using he : m = m2 ∧ s = s2)
  have := d15_end m r (u64s s) (xs.map XS.d) (by rw [u64s_len]; exact hl) (u64s_clean s) k (by rw [List.length_map]; omega)
  rw [u64s_demote] at this
  exact Rounds.last this (fun h => by cases h)
 | x :: t, k, m, s, m2, s2, hd, hl, ho, he => by
  have hlt : k < xs.length := by
   rcases Nat.lt_or_ge k xs.length with q | q
   ·exact q
   ·rw [List.drop_eq_nil_of_le q] at hd; cases hd
  have hk : xs[k] = x := by
   have := List.getElem_drop (xs := xs) (i := k) (j := 0) (h := by rw [hd]; simp)
   simp only [hd] at this
   simpa using this.symm
  have hd' : xs.drop (k + 1) = t := by
   rw [List.drop_eq_getElem_cons hlt] at hd
   exact (List.cons.inj hd).2
  have hx : (xs.map XS.d)[(k : Int).toNat]? = some (xD x.op x.w x.dst x.src x.base x.disp x.imm x.cc) := by
   rw [Int.toNat_natCast, List.getElem?_map, List.getElem?_eq_getElem hlt, hk]
   rfl
  have k1 : (k : Int) < ((xs.map XS.d).length : Int) := by rw [List.length_map]; omega
  have n1 : ((xs.map XS.d).length : Int) ≤ 1000 := by rw [List.length_map]; omega
  have hcl : (u64s s).length = 11 := by rw [u64s_len]; exact hl
  obtain ⟨o1, o2⟩ := ho x (List.mem_cons_self ..)
  have ho' : ∀ y ∈ t, y.op ≤ 127 ∧ y.op ≠ 31 := fun y hy => ho y (List.mem_cons_of_mem _ hy)
  have hw : IntKind.i64.wrap ((k : Int) + 1) = ((k + 1 : Nat) : Int) := by rw [w_i64]; omega
  rw [doneM] at he
  rw [endsR]
  by_cases q30 : x.op = 30
  ·rw [if_pos (.inr q30)] at he
   obtain ⟨rfl, rfl, _⟩ := (by simpa using he : m = m2 ∧ s = s2)
   rw [if_pos q30]
   have := d15_ret m r (u64s s) (xs.map XS.d) hcl (u64s_clean s) k k1 n1 _ _ _ _ _ _ _ _ hx q30
   rw [u64s_demote] at this
   exact Rounds.last this (fun h => by cases h)
  rw [if_neg (by omega)] at he
  rw [if_neg q30]
  by_cases q : x.op = 26 ∨ x.op = 27
  ·rw [if_pos q] at he
   cases hs : slotOk x s.length with
   | false => rw [hs] at he; simp at he
   | true =>
    rw [hs, if_pos rfl] at he
    obtain ⟨w64, b4, r0, ew, a0, a1⟩ := slot_at hs hl
    by_cases hE : execE m x (s.getD (x.disp / 8).toNat 0) = 0
    ·rw [if_pos hE] at he
     have hv : (u64s s)[Int.toNat (IntKind.i64.wrap (x.disp.tdiv 8)) * 1]? = some (.int .u64 (s.getD (x.disp / 8).toNat 0)) := by
      rw [ew, Nat.mul_one]
      exact u64s_get (by omega)
     have hdo := exec_1 m _ x _ o1 hE rfl
     by_cases q26 : x.op = 26
     ·have e : slotPut x m s = s := by unfold slotPut; rw [if_neg (by omega)]
      rw [e] at he
      have ih := d15_rounds r xs hx1 t (k + 1) _ s m2 s2 hd' hl ho' he
      have := d15_load m r (u64s s) (xs.map XS.d) hcl (u64s_clean s) k k1 n1 _ _ _ _ _ _ _ _ hx q26 w64 b4 r0 (by rw [ew]; exact a0) (by rw [ew]; exact a1) _ hv _ hdo
      rw [hw, u64s_demote] at this
      exact Rounds.more this ih
     ·have q27 : x.op = 27 := by omega
      have e : slotPut x m s = s.set (x.disp / 8).toNat (rg m.rl x.src) := by unfold slotPut; rw [if_pos q27]
      rw [e] at he
      have ih := d15_rounds r xs hx1 t (k + 1) _ _ m2 s2 hd' (by rw [List.length_set]; exact hl) ho' he
      have := d15_store m r (u64s s) (xs.map XS.d) hcl (u64s_clean s) k k1 n1 _ _ _ _ _ _ _ _ hx q27 w64 b4 r0 (by rw [ew]; exact a0) (by rw [ew]; exact a1) _ hv _ hdo _ (stored_1 m x (may_of_exec hE) q27 w64 b4)
      rw [hw, ew, Nat.mul_one, u64s_set, u64s_demote] at this
      exact Rounds.more this ih
    ·rw [if_neg hE] at he
     simp at he
  ·rw [if_neg q] at he
   by_cases hE : execE m x 0 = 0
   ·rw [if_pos hE] at he
    have ih := d15_rounds r xs hx1 t (k + 1) _ s m2 s2 hd' hl ho' he
    have := d15_plain m r (u64s s) (xs.map XS.d) hcl (u64s_clean s) k k1 n1 _ _ _ _ _ _ _ _ hx _ (exec_1 m _ x 0 o1 hE rfl) (by simpa using o2) (by simpa using q30) (by simp; omega) (by simp; omega)
    rw [hw, u64s_demote] at this
    exact Rounds.more this ih
   ·rw [if_neg hE] at he
    simp at he
theorem d15_run (r : MachS) (xs : List XS) (hx1 : xs.length ≤ 1000) (m : MachS) (s : List Int) (m2 : MachS) (s2 : List Int) (hl : s.length = 11) (ho : ∀ x ∈ xs, x.op ≤ 127 ∧ x.op ≠ 31) (he : doneM xs m s = (m2, s2, true)) :
  LoopRun Tryz.prog 17 (.loop (loopB Tryz.f26 0)) (d15T xs 0) (d15S r m s .zero) (if endsR xs = true then .ret else .exit 0) (if endsR xs = true then d15R else d15U) (d15S r m2 s2 (if endsR xs = true then m2 else .zero)) :=
 LoopRun.of_rounds (by show 17 ≤ 17; decide) (d15_rounds r xs hx1 xs 0 m s m2 s2 rfl hl ho he)
abbrev d17T (xs : List XS) (k : Int) : List D := [.undef, .undef, .slc 6 1 11, .undef, .ptr false 17 0, .undef, .ptr false 18 0, .undef, .undef, .undef, .undef, .undef, .undef, .undef, .lst .no 8 (xs.map XS.d), .int .i64 ((xs.map XS.d).length : Int), .int .i64 k, .undef, .undef, .undef, .undef, .undef, .undef, .undef, .undef, .undef, .undef, .undef, .undef, .undef, .undef, .undef, .undef, .undef, .undef, .undef, .undef, .undef, .undef, .undef, .undef, .undef, .undef, .undef, .undef, .undef, .undef, .undef, .undef, .undef, .undef, .undef, .undef, .undef, .undef, .undef, .undef, .undef, .undef, .undef, .undef, .undef, .undef, .undef, .undef, .undef, .undef, .undef, .undef, .undef, .undef, .undef, .undef, .undef, .undef, .undef, .undef, .undef, .undef, .undef, .undef, .undef, .undef, .undef, .undef, .undef, .undef, .undef, .undef, .undef, .undef]
abbrev d17U : List D := [.undef, .undef, .undef, .undef, .ptr false 17 0, .undef, .ptr false 18 0, .undef, .undef, .undef, .undef, .undef, .undef, .undef, .undef, .undef, .undef, .undef, .undef, .undef, .undef, .undef, .undef, .undef, .undef, .undef, .undef, .undef, .undef, .undef, .undef, .undef, .undef, .undef, .undef, .undef, .undef, .undef, .undef, .undef, .undef, .undef, .undef, .undef, .undef, .undef, .undef, .undef, .undef, .undef, .undef, .undef, .undef, .undef, .undef, .undef, .undef, .undef, .undef, .undef, .undef, .undef, .undef, .undef, .undef, .undef, .undef, .undef, .undef, .undef, .undef, .undef, .undef, .undef, .undef, .undef, .undef, .undef, .undef, .undef, .undef, .undef, .undef, .undef, .undef, .undef, .undef, .undef, .undef, .undef, .undef]
abbrev d17R : List D := [.undef, .undef, .undef, .undef, .undef, .undef, .ptr false 18 0, .bool true, .undef, .undef, .undef, .undef, .undef, .undef, .undef, .undef, .undef, .undef, .undef, .undef, .undef, .undef, .undef, .undef, .undef, .undef, .undef, .undef, .undef, .undef, .undef, .undef, .undef, .undef, .undef, .undef, .undef, .undef, .undef, .undef, .undef, .undef, .undef, .undef, .undef, .undef, .undef, .undef, .undef, .undef, .undef, .undef, .undef, .undef, .undef, .undef, .undef, .undef, .undef, .undef, .undef, .undef, .undef, .undef, .undef, .undef, .undef, .undef, .undef, .undef, .undef, .undef, .undef, .undef, .undef, .undef, .undef, .undef, .undef, .undef, .undef, .undef, .undef, .undef, .undef, .undef, .undef, .undef, .undef, .undef, .undef]
abbrev d17S (r : MachS) (m : MachS) (s : List Int) (out : MachS) : List Ob := [.dead, .box (reC r), .dead, .dead, .dead, .dead, .box (u64s s), .dead, .dead, .dead, .dead, .dead, .dead, .dead, .dead, .dead, .dead, .box (maC m), .box (maC out)]
theorem d17_rounds (r : MachS) (xs : List XS) (hx1 : xs.length ≤ 1000) : ∀ (t : List XS) (k : Nat) (m : MachS) (s : List Int) (m2 : MachS) (s2 : List Int), xs.drop k = t → s.length = 11 → (∀ x ∈ t, x.op ≤ 127 ∧ x.op ≠ 31) → doneM t m s = (m2, s2, true) →
  Rounds Tryz.prog (loopB Tryz.f26 0) 19 (d17T xs k) (d17S r m s .zero) (if endsR t = true then .ret else .exit 0) (if endsR t = true then d17R else d17U) (d17S r m2 s2 (if endsR t = true then m2 else .zero))
 | [], k, m, s, m2, s2, hd, hl, _, he => by
  have hk : xs.length ≤ k := by
   rcases Nat.lt_or_ge k xs.length with q | q
   ·have := List.length_drop (i := k) (l := xs)
    rw [hd] at this
    simp at this
    omega
   ·exact q
  rw [doneM] at he
  obtain ⟨rfl, rfl, _⟩ := (by simpa using he : m = m2 ∧ s = s2)
  have := d17_end m r (u64s s) (xs.map XS.d) (by rw [u64s_len]; exact hl) (u64s_clean s) k (by rw [List.length_map]; omega)
  rw [u64s_demote] at this
  exact Rounds.last this (fun h => by cases h)
 | x :: t, k, m, s, m2, s2, hd, hl, ho, he => by
  have hlt : k < xs.length := by
   rcases Nat.lt_or_ge k xs.length with q | q
   ·exact q
   ·rw [List.drop_eq_nil_of_le q] at hd; cases hd
  have hk : xs[k] = x := by
   have := List.getElem_drop (xs := xs) (i := k) (j := 0) (h := by rw [hd]; simp)
   simp only [hd] at this
   simpa using this.symm
  have hd' : xs.drop (k + 1) = t := by
   rw [List.drop_eq_getElem_cons hlt] at hd
   exact (List.cons.inj hd).2
  have hx : (xs.map XS.d)[(k : Int).toNat]? = some (xD x.op x.w x.dst x.src x.base x.disp x.imm x.cc) := by
   rw [Int.toNat_natCast, List.getElem?_map, List.getElem?_eq_getElem hlt, hk]
   rfl
  have k1 : (k : Int) < ((xs.map XS.d).length : Int) := by rw [List.length_map]; omega
  have n1 : ((xs.map XS.d).length : Int) ≤ 1000 := by rw [List.length_map]; omega
  have hcl : (u64s s).length = 11 := by rw [u64s_len]; exact hl
  obtain ⟨o1, o2⟩ := ho x (List.mem_cons_self ..)
  have ho' : ∀ y ∈ t, y.op ≤ 127 ∧ y.op ≠ 31 := fun y hy => ho y (List.mem_cons_of_mem _ hy)
  have hw : IntKind.i64.wrap ((k : Int) + 1) = ((k + 1 : Nat) : Int) := by rw [w_i64]; omega
  rw [doneM] at he
  rw [endsR]
  by_cases q30 : x.op = 30
  ·rw [if_pos (.inr q30)] at he
   obtain ⟨rfl, rfl, _⟩ := (by simpa using he : m = m2 ∧ s = s2)
   rw [if_pos q30]
   have := d17_ret m r (u64s s) (xs.map XS.d) hcl (u64s_clean s) k k1 n1 _ _ _ _ _ _ _ _ hx q30
   rw [u64s_demote] at this
   exact Rounds.last this (fun h => by cases h)
  rw [if_neg (by omega)] at he
  rw [if_neg q30]
  by_cases q : x.op = 26 ∨ x.op = 27
  ·rw [if_pos q] at he
   cases hs : slotOk x s.length with
   | false => rw [hs] at he; simp at he
   | true =>
    rw [hs, if_pos rfl] at he
    obtain ⟨w64, b4, r0, ew, a0, a1⟩ := slot_at hs hl
    by_cases hE : execE m x (s.getD (x.disp / 8).toNat 0) = 0
    ·rw [if_pos hE] at he
     have hv : (u64s s)[Int.toNat (IntKind.i64.wrap (x.disp.tdiv 8)) * 1]? = some (.int .u64 (s.getD (x.disp / 8).toNat 0)) := by
      rw [ew, Nat.mul_one]
      exact u64s_get (by omega)
     have hdo := exec_1 m _ x _ o1 hE rfl
     by_cases q26 : x.op = 26
     ·have e : slotPut x m s = s := by unfold slotPut; rw [if_neg (by omega)]
      rw [e] at he
      have ih := d17_rounds r xs hx1 t (k + 1) _ s m2 s2 hd' hl ho' he
      have := d17_load m r (u64s s) (xs.map XS.d) hcl (u64s_clean s) k k1 n1 _ _ _ _ _ _ _ _ hx q26 w64 b4 r0 (by rw [ew]; exact a0) (by rw [ew]; exact a1) _ hv _ hdo
      rw [hw, u64s_demote] at this
      exact Rounds.more this ih
     ·have q27 : x.op = 27 := by omega
      have e : slotPut x m s = s.set (x.disp / 8).toNat (rg m.rl x.src) := by unfold slotPut; rw [if_pos q27]
      rw [e] at he
      have ih := d17_rounds r xs hx1 t (k + 1) _ _ m2 s2 hd' (by rw [List.length_set]; exact hl) ho' he
      have := d17_store m r (u64s s) (xs.map XS.d) hcl (u64s_clean s) k k1 n1 _ _ _ _ _ _ _ _ hx q27 w64 b4 r0 (by rw [ew]; exact a0) (by rw [ew]; exact a1) _ hv _ hdo _ (stored_1 m x (may_of_exec hE) q27 w64 b4)
      rw [hw, ew, Nat.mul_one, u64s_set, u64s_demote] at this
      exact Rounds.more this ih
    ·rw [if_neg hE] at he
     simp at he
  ·rw [if_neg q] at he
   by_cases hE : execE m x 0 = 0
   ·rw [if_pos hE] at he
    have ih := d17_rounds r xs hx1 t (k + 1) _ s m2 s2 hd' hl ho' he
    have := d17_plain m r (u64s s) (xs.map XS.d) hcl (u64s_clean s) k k1 n1 _ _ _ _ _ _ _ _ hx _ (exec_1 m _ x 0 o1 hE rfl) (by simpa using o2) (by simpa using q30) (by simp; omega) (by simp; omega)
    rw [hw, u64s_demote] at this
    exact Rounds.more this ih
   ·rw [if_neg hE] at he
    simp at he
theorem d17_run (r : MachS) (xs : List XS) (hx1 : xs.length ≤ 1000) (m : MachS) (s : List Int) (m2 : MachS) (s2 : List Int) (hl : s.length = 11) (ho : ∀ x ∈ xs, x.op ≤ 127 ∧ x.op ≠ 31) (he : doneM xs m s = (m2, s2, true)) :
  LoopRun Tryz.prog 19 (.loop (loopB Tryz.f26 0)) (d17T xs 0) (d17S r m s .zero) (if endsR xs = true then .ret else .exit 0) (if endsR xs = true then d17R else d17U) (d17S r m2 s2 (if endsR xs = true then m2 else .zero)) :=
 LoopRun.of_rounds (by show 19 ≤ 19; decide) (d17_rounds r xs hx1 xs 0 m s m2 s2 rfl hl ho he)
end Go.Proofs.YtkpneibifdoecaaGreat
