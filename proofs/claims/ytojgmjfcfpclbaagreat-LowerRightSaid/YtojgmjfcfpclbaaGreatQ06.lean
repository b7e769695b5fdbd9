/- Contracts and plain laws that a statement's proof leans on (texts merged: MdG, ZL0A, ZL0, MayR, Flt, MdW, MdF2, MdE, MdP, MdS, MdI, MdJ, MdT, MdK, MdR). -/
import Derived.Test.YtojgmjfcfpclbaaGreatQ04
import Derived.Test.YtojgmjfcfpclbaaGreatQ05
set_option linter.unusedVariables false
set_option linter.unusedSimpArgs false
namespace Go.Ev
open Go
theorem may_forms {kind op width size : Int} {byReg : Bool} {dst src off imm : Int} (h : mayM kind op width size byReg dst src off imm = true) :
    (0 ≤ dst ∧ dst ≤ 10 ∧ 0 ≤ src ∧ src ≤ 10 ∧ -32768 ≤ off ∧ off ≤ 32767 ∧ -2147483648 ≤ imm ∧ imm ≤ 2147483647) ∧
    ((kind = 0 ∧ size = 0 ∧ off = 0 ∧ dst < 10 ∧ (op = 8 → byReg = false) ∧ (op = 0 ∨ op = 1 ∨ op = 2 ∨ op = 3 ∨ op = 4 ∨ op = 5 ∨ op = 6 ∨ op = 7 ∨ op = 8 ∨ op = 9 ∨ op = 10 ∨ op = 11 ∨ op = 12) ∧ (width = 32 ∨ width = 64) ∧ (byReg = true → imm = 0) ∧ (byReg = false → src = 0)) ∨
     (kind = 1 ∧ op = 0 ∧ width = 0 ∧ byReg = false ∧ imm = 0 ∧ dst < 10 ∧ (size = 1 ∨ size = 2 ∨ size = 4 ∨ size = 8)) ∨
     (kind = 2 ∧ op = 0 ∧ width = 0 ∧ byReg = false ∧ imm = 0 ∧ (size = 1 ∨ size = 2 ∨ size = 4 ∨ size = 8)) ∨
     (kind = 3 ∧ width = 0 ∧ size = 0 ∧ (op = 0 ∨ op = 1 ∨ op = 2 ∨ op = 3 ∨ op = 4 ∨ op = 5 ∨ op = 6 ∨ op = 7 ∨ op = 8 ∨ op = 9 ∨ op = 10) ∧ (byReg = true → imm = 0) ∧ (byReg = false → src = 0)) ∨
     (kind = 4 ∧ op = 0 ∧ width = 0 ∧ size = 0 ∧ byReg = false ∧ dst = 0 ∧ src = 0 ∧ imm = 0) ∨
     (kind = 5 ∧ op = 0 ∧ width = 0 ∧ size = 0 ∧ byReg = false ∧ dst = 0 ∧ src = 0 ∧ off = 0 ∧ 0 ≤ imm ∧ imm ≤ 15) ∨
     (kind = 6 ∧ op = 0 ∧ width = 0 ∧ size = 0 ∧ byReg = false ∧ dst = 0 ∧ src = 0 ∧ off = 0 ∧ imm = 0)) := by
  unfold mayM mayRange at h
  rw [Bool.and_eq_true, decide_eq_true_eq] at h
  refine ⟨h.1, ?_⟩
  have h2 := h.2
  clear h
  unfold mayKind sizedM at h2
  split at h2
  · refine .inl ?_
    cases byReg <;> simp at h2 ⊢ <;> omega
  · split at h2
    · simp at h2; refine .inr (.inl ?_); simp [h2]; omega
    · split at h2
      · simp at h2; refine .inr (.inr (.inl ?_)); simp [h2]; omega
      · split at h2
        · refine .inr (.inr (.inr (.inl ?_)))
          cases byReg <;> simp at h2 ⊢ <;> omega
        · split at h2
          · simp at h2; refine .inr (.inr (.inr (.inr (.inl ?_)))); simp [h2]; omega
          · split at h2
            · simp at h2; refine .inr (.inr (.inr (.inr (.inr (.inl ?_))))); simp [h2]; omega
            · split at h2
              · simp at h2; refine .inr (.inr (.inr (.inr (.inr (.inr ?_))))); simp [h2]; omega
              · cases h2
def oneOK (kind op width size : Int) (byReg : Bool) (dst src off imm : Int) : Bool := mayM kind op width size byReg dst src off imm && (!(kind == 3) && !(kind == 4))
def oneL (kind op width size : Int) (byReg : Bool) (dst src off imm : Int) : List D := if oneOK kind op width size byReg dst src off imm then stepsM kind op width size byReg dst src off imm else []
def oneE (kind op width size : Int) (byReg : Bool) (dst src off imm : Int) : Int := if oneOK kind op width size byReg dst src off imm then 0 else 2
end Go.Ev
namespace Go.Ev
open Go
def irOf : D → IrS
  | .agg [.int _ a, .int _ b, .int _ c, .int _ d, .int _ e, .int _ f, .int _ g, .int _ h, .int _ i, .int _ j, .int _ k, .int _ l, .int _ m] => ⟨a, b, c, d, e, f, g, h, i, j, k, l, m⟩
  | _ => ⟨0, 0, 0, 0, 0, 0, 0, 0, 0, 0, 0, 0, 0⟩
def AllIr (l : List D) : Prop := (l.map irOf).map IrS.d = l
theorem allIr_nil : AllIr [] := rfl
theorem allIr_cons {kind op w dst src base disp imm cc reg phys num to : Int} {l : List D} (h : AllIr l) : AllIr (irD kind op w dst src base disp imm cc reg phys num to :: l) := by
  unfold AllIr at h ⊢
  rw [List.map_cons, List.map_cons, h]
  rfl
theorem allIr_app {l m : List D} (h : AllIr l) (k : AllIr m) : AllIr (l ++ m) := by
  unfold AllIr at h k ⊢
  rw [List.map_append, List.map_append, h, k]
theorem steps_ir (kind op width size : Int) (byReg : Bool) (dst src off imm : Int) : AllIr (stepsM kind op width size byReg dst src off imm) := by
  unfold stepsM aluM
  repeat' split
  all_goals first
    | rfl
    | (repeat' first | exact allIr_nil | apply allIr_app | apply allIr_cons)
end Go.Ev

namespace Go.Proofs.YtojgmjfcfpclbaaGreat
open Go Go.Ev
theorem does_alu_ok (op width : Int) (byReg : Bool) (dst src imm : Int) (h : mayM 0 op width 0 byReg dst src 0 imm = true) :
    Ret Tryz.prog 87 [instD 0 op width 0 byReg dst src 0 imm] (.lst .no 13 (aluM op width byReg dst src imm)) := by
  obtain ⟨⟨_, _, _, _, _, _, i1, i2⟩, hf⟩ := may_forms h
  rcases hf with ⟨_, _, _, _, h8, ho, hw, _, _⟩ | ⟨h0, _⟩ | ⟨h0, _⟩ | ⟨h0, _⟩ | ⟨h0, _⟩ | ⟨h0, _⟩ | ⟨h0, _⟩
  · rcases ho with rfl | rfl | rfl | rfl | rfl | rfl | rfl | rfl | rfl | rfl | rfl | rfl | rfl <;> rcases hw with rfl | rfl
    all_goals first
      | exact does_0_0_32_ok _ _ _ _ i1 i2
      | exact does_0_0_64_ok _ _ _ _ i1 i2
      | exact does_0_1_32_ok _ _ _ _ i1 i2
      | exact does_0_1_64_ok _ _ _ _ i1 i2
      | exact does_0_2_32_ok _ _ _ _ i1 i2
      | exact does_0_2_64_ok _ _ _ _ i1 i2
      | exact does_0_3_32_ok _ _ _ _ i1 i2
      | exact does_0_3_64_ok _ _ _ _ i1 i2
      | exact does_0_4_32_ok _ _ _ _ i1 i2
      | exact does_0_4_64_ok _ _ _ _ i1 i2
      | exact does_0_5_32_ok _ _ _ _ i1 i2
      | exact does_0_5_64_ok _ _ _ _ i1 i2
      | exact does_0_6_32_ok _ _ _ _ i1 i2
      | exact does_0_6_64_ok _ _ _ _ i1 i2
      | exact does_0_7_32_ok _ _ _ _ i1 i2
      | exact does_0_7_64_ok _ _ _ _ i1 i2
      | exact does_0_8_32_ok _ _ _ _ i1 i2 (h8 rfl)
      | exact does_0_8_64_ok _ _ _ _ i1 i2 (h8 rfl)
      | exact does_0_9_32_ok _ _ _ _ i1 i2
      | exact does_0_9_64_ok _ _ _ _ i1 i2
      | exact does_0_10_32_ok _ _ _ _ i1 i2
      | exact does_0_10_64_ok _ _ _ _ i1 i2
      | exact does_0_11_32_ok _ _ _ _ i1 i2
      | exact does_0_11_64_ok _ _ _ _ i1 i2
      | exact does_0_12_32_ok _ _ _ _ i1 i2
      | exact does_0_12_64_ok _ _ _ _ i1 i2
  all_goals exact absurd h0 (by decide)
end Go.Proofs.YtojgmjfcfpclbaaGreat

namespace Go.Proofs.YtojgmjfcfpclbaaGreat
open Go Go.Ev
set_option maxRecDepth 100000
set_option maxHeartbeats 8000000
theorem one_alu_ok (op width : Int) (byReg : Bool) (dst src imm : Int) (hm : mayM 0 op width 0 byReg dst src 0 imm = true)  : Ret Tryz.prog 41 ([instD 0 op width 0 byReg dst src 0 imm]) (.tup [.lst .no 13 (aluM op width byReg dst src imm), .int .i64 0]) := by
 have c0 := @instrMay_ok 0 op width 0 byReg dst src 0 imm
 have c1 := @does_alu_ok op width byReg dst src imm hm
 exact (o41 (d := .tup [.lst .no 13 (aluM op width byReg dst src imm), .int .i64 0]) ([.ret _ _ _ c0] ++ List.replicate 3 (tC (eF (nt hm))) ++ [tC (nt hm), tT, tT, tT, tF, tF, .ret _ _ _ c1]) (by kernel_rfl)).to (by simp [wk, wkL, wkO, ])
theorem wakes18_ok  : Ret Tryz.prog 40 ([]) (.bool true) := by
 have c0 := @one_alu_ok 0 64 false 1 0 5 (rfl : true = true)
 exact (o40 (d := .bool true) [.ret _ _ _ c0, tT, tT, tT, .inl, tF, .go 64, tT, tT, .get ([(irD 1 0 0 0 0 0 0 0 0 1 0 0 0), (irD 0 9 64 0 0 0 0 5 0 0 0 0 0), (irD 2 0 0 0 0 0 0 0 0 1 0 0 0)]) 0 ((irD 1 0 0 0 0 0 0 0 0 1 0 0 0)) rfl, tT, .get ([(irD 1 0 0 0 0 0 0 0 0 1 0 0 0), (irD 0 9 64 0 0 0 0 5 0 0 0 0 0), (irD 2 0 0 0 0 0 0 0 0 1 0 0 0)]) 0 ((irD 1 0 0 0 0 0 0 0 0 1 0 0 0)) rfl, .flat _ _ flat_Ir, tF, tT, tT, .get ([(irD 1 0 0 0 0 0 0 0 0 1 0 0 0), (irD 0 9 64 0 0 0 0 5 0 0 0 0 0), (irD 2 0 0 0 0 0 0 0 0 1 0 0 0)]) 1 ((irD 0 9 64 0 0 0 0 5 0 0 0 0 0)) rfl, tT, .get ([(irD 1 0 0 0 0 0 0 0 0 1 0 0 0), (irD 0 9 64 0 0 0 0 5 0 0 0 0 0), (irD 2 0 0 0 0 0 0 0 0 1 0 0 0)]) 1 ((irD 0 9 64 0 0 0 0 5 0 0 0 0 0)) rfl, .flat _ _ flat_Ir, tF, tT, tT, .get ([(irD 1 0 0 0 0 0 0 0 0 1 0 0 0), (irD 0 9 64 0 0 0 0 5 0 0 0 0 0), (irD 2 0 0 0 0 0 0 0 0 1 0 0 0)]) 2 ((irD 2 0 0 0 0 0 0 0 0 1 0 0 0)) rfl, tT, .get ([(irD 1 0 0 0 0 0 0 0 0 1 0 0 0), (irD 0 9 64 0 0 0 0 5 0 0 0 0 0), (irD 2 0 0 0 0 0 0 0 0 1 0 0 0)]) 2 ((irD 2 0 0 0 0 0 0 0 0 1 0 0 0)) rfl, .flat _ _ flat_Ir, tF, tF, tT] (by kernel_rfl)).to (by simp [wk])
end Go.Proofs.YtojgmjfcfpclbaaGreat

namespace Go.Proofs.YtojgmjfcfpclbaaGreat
open Go Go.Ev
set_option maxRecDepth 100000
set_option maxHeartbeats 8000000
theorem fields3_ok (kind op width size : Int) (byReg : Bool) (dst src off imm : Int) : Ret Tryz.prog 84 ([instD kind op width size byReg dst src off imm]) (instD kind (fOp kind op) (fWidth kind width) (fSize kind size) (fByReg kind op byReg) (fDst kind dst) (fSrc kind op byReg src) (fOff kind off) (fImm kind op byReg imm)) := by
 by_cases h0 : kind = 0
 ·subst h0
  cases byReg
  ·by_cases h1 : op = 8
   ·subst h1
    exact (o84 (d := (instD 0 8 width 0 false dst 0 0 0)) [tT, tF, tF, tF, tF, tF, tF] (by kernel_rfl)).to (by simp [wk, wkL, fOp, fWidth, fSize, fByReg, fDst, fSrc, fOff, fImm, *])
   exact (o84 (d := (instD 0 op width 0 false dst 0 0 imm)) [tT, tF, tF, tF, tF, tF, tC (nt (neOf h1))] (by kernel_rfl)).to (by simp [wk, wkL, fOp, fWidth, fSize, fByReg, fDst, fSrc, fOff, fImm, *])
  by_cases h2 : op = 8
  ·subst h2
   exact (o84 (d := (instD 0 8 width 0 false dst 0 0 0)) [tT, tT, tT, tT, tT, tF, tF] (by kernel_rfl)).to (by simp [wk, wkL, fOp, fWidth, fSize, fByReg, fDst, fSrc, fOff, fImm, *])
  exact (o84 (d := (instD 0 op width 0 (op != 8) dst src 0 0)) [tT, tT, tT, tT, tT, tC (nt (neOf h2))] (by kernel_rfl)).to (by simp [wk, wkL, fOp, fWidth, fSize, fByReg, fDst, fSrc, fOff, fImm, *])
 let E1 : EL := [tC (neOf h0)]
 by_cases h3 : kind = 1
 ·subst h3
  exact (o84 (d := (instD 1 0 0 size false dst src off 0)) (E1 ++ [tT]) (by kernel_rfl)).to (by clear E1; simp [wk, wkL, fOp, fWidth, fSize, fByReg, fDst, fSrc, fOff, fImm, *])
 by_cases h4 : kind = 2
 ·subst h4
  exact (o84 (d := (instD 2 0 0 size false dst src off 0)) (E1 ++ [tC (neOf h3), tT]) (by kernel_rfl)).to (by clear E1; simp [wk, wkL, fOp, fWidth, fSize, fByReg, fDst, fSrc, fOff, fImm, *])
 let E2 : EL := E1 ++ [tC (neOf h3), tC (neOf h4)]
 by_cases h5 : kind = 3
 ·subst h5
  cases byReg
  ·exact (o84 (d := (instD 3 op 0 0 false dst 0 off imm)) (E2 ++ [tT, tF]) (by kernel_rfl)).to (by clear E1 E2; simp [wk, wkL, fOp, fWidth, fSize, fByReg, fDst, fSrc, fOff, fImm, *])
  exact (o84 (d := (instD 3 op 0 0 true dst src off 0)) (E2 ++ [tT, tT]) (by kernel_rfl)).to (by clear E1 E2; simp [wk, wkL, fOp, fWidth, fSize, fByReg, fDst, fSrc, fOff, fImm, *])
 by_cases h6 : kind = 4
 ·subst h6
  exact (o84 (d := (instD 4 0 0 0 false 0 0 off 0)) (E2 ++ [tC (neOf h5), tT]) (by kernel_rfl)).to (by clear E1 E2; simp [wk, wkL, fOp, fWidth, fSize, fByReg, fDst, fSrc, fOff, fImm, *])
 by_cases h7 : kind = 5
 ·subst h7
  exact (o84 (d := (instD 5 0 0 0 false 0 0 0 imm)) (E2 ++ [tC (neOf h5), tC (neOf h6), tT]) (by kernel_rfl)).to (by clear E1 E2; simp [wk, wkL, fOp, fWidth, fSize, fByReg, fDst, fSrc, fOff, fImm, *])
 exact (o84 (d := (instD kind 0 0 0 false 0 0 0 0)) (E2 ++ [tC (neOf h5), tC (neOf h6), tC (neOf h7)]) (by kernel_rfl)).to (by clear E1 E2; simp [wk, wkL, fOp, fWidth, fSize, fByReg, fDst, fSrc, fOff, fImm, *])
theorem sized3_ok (n : Int) : Ret Tryz.prog 85 ([.int .i8 n]) (.bool (sizedM n)) := by
 by_cases h0 : n = 1
 ·subst h0
  exact (o85 (d := .bool true) [tF, tF, tT, tF, tF, tT, tF, tF, tT] (by kernel_rfl)).to (by (try simp only [sl0, wk, wkL, wkO, eqCells, eqCell, sizedM] at *); simp [wk, wkL, wkO, eqCells, eqCell, sizedM, *]; done)
 let E1 : EL := [tC (eF (neOf h0)), tC (eF (neOf h0)), tC (neOf h0)]
 by_cases h1 : n = 2
 ·subst h1
  exact (o85 (d := .bool true) (E1 ++ [tF, tF, tT, tF, tF, tT]) (by kernel_rfl)).to (by clear E1; (try simp only [sl0, wk, wkL, wkO, eqCells, eqCell, sizedM] at *); simp [wk, wkL, wkO, eqCells, eqCell, sizedM, *]; done)
 by_cases h2 : n = 4
 ·subst h2
  exact (o85 (d := .bool true) (E1 ++ [tC (eF (neOf h1)), tC (eF (neOf h1)), tC (neOf h1), tF, tF, tT]) (by kernel_rfl)).to (by clear E1; (try simp only [sl0, wk, wkL, wkO, eqCells, eqCell, sizedM] at *); simp [wk, wkL, wkO, eqCells, eqCell, sizedM, *]; done)
 exact (o85 (d := .bool (n == 8)) (E1 ++ [tC (eF (neOf h1)), tC (eF (neOf h1)), tC (neOf h1), tC (eF (neOf h2)), tC (eF (neOf h2)), tC (neOf h2)]) (by kernel_rfl)).to (by clear E1; (try simp only [sl0, wk, wkL, wkO, eqCells, eqCell, sizedM] at *); rw [Bool.eq_iff_iff]; simp [wk, wkL, wkO, eqCells, eqCell, sizedM, *]; done)
theorem refMay_ok (kind op width size : Int) (byReg : Bool) (dst src off imm : Int) : Ret Tryz.prog 39 ([instD kind op width size byReg dst src off imm]) (.bool (mayM kind op width size byReg dst src off imm)) := by
 rcases bft (decide (kind < 0)) with h0 | h0
 ·exact (o39 (d := .bool false) [tC (eF h0), tC (eF h0), tC (eF h0), tC h0, tF, tF, tF, tF, tT, tF, tF, tF, tT, tF, tF, tF, tT, tF, tF, tF, tT, tF, tF, tF, tT, tF, tF, tF, tT, tF, tF, tF, tT, tF, tF, tF, tT, tF, tF, tF, tT, tT] (by kernel_rfl)).to (by (try simp only [sl0, wk, wkL, wkO, eqCells, eqCell, mayM, mayRange, mayKind, sizedM, fOp, fWidth, fSize, fByReg, fDst, fSrc, fOff, fImm] at *); rw [Bool.eq_iff_iff]; simp [wk, wkL, wkO, eqCells, eqCell, mayM, mayRange, mayKind, sizedM, fOp, fWidth, fSize, fByReg, fDst, fSrc, fOff, fImm, *]; grind)
 let E1 : EL := [tC (eF h0), tC (eF h0), tC (eF h0), tC h0]
 rcases bft (decide (kind < 7)) with h1 | h1
 ·have c2 := @fields3_ok kind op width size byReg dst src off imm
  generalize g4 : fOp kind op = r3 at c2
  generalize g6 : fWidth kind width = r5 at c2
  generalize g8 : fSize kind size = r7 at c2
  generalize g10 : fByReg kind op byReg = r9 at c2
  generalize g12 : fDst kind dst = r11 at c2
  generalize g14 : fSrc kind op byReg src = r13 at c2
  generalize g16 : fOff kind off = r15 at c2
  generalize g18 : fImm kind op byReg imm = r17 at c2
  let E2 : EL := E1 ++ List.replicate 3 (tC (eF (ltL 6 h1))) ++ [.ret _ _ _ c2, tC (eF (ltL 6 h1)), .flat _ _ flat_Instr, tC (ltL 6 h1)]
  rcases bft (op == r3) with h19 | h19
  ·rcases bft (width == r5) with h20 | h20
   ·rcases bft (size == r7) with h21 | h21
    ·rcases bft (byReg == r9) with h22 | h22
     ·rcases bft (dst == r11) with h23 | h23
      ·rcases bft (src == r13) with h24 | h24
       ·rcases bft (off == r15) with h25 | h25
        ·rcases bft (imm == r17) with h26 | h26
         ·rcases bft (decide (dst < 0)) with h27 | h27
          ·exact (o39 (d := .bool false) (E2 ++ List.replicate 3 (tC (eF (nt (andT (beq_self_eq_true kind) (andT h19 (andT h20 (andT h21 (andT h22 (andT h23 (andT h24 (andT h25 (andT h26 (rfl : true = true))))))))))))) ++ [tC (nt (andT (beq_self_eq_true kind) (andT h19 (andT h20 (andT h21 (andT h22 (andT h23 (andT h24 (andT h25 (andT h26 (rfl : true = true))))))))))), tC (eF h27), tC (eF h27), tC (eF h27), tC h27, tF, tF, tF, tT, tF, tF, tF, tT, tF, tF, tF, tT, tF, tF, tF, tT, tF, tF, tF, tT, tF, tF, tF, tT, tT]) (by kernel_rfl)).to (by clear E1 E2; (try simp only [sl0, wk, wkL, wkO, eqCells, eqCell, mayM, mayRange, mayKind, sizedM, fOp, fWidth, fSize, fByReg, fDst, fSrc, fOff, fImm] at *); simp [wk, wkL, wkO, eqCells, eqCell, mayM, mayRange, mayKind, sizedM, fOp, fWidth, fSize, fByReg, fDst, fSrc, fOff, fImm, *]; omega)
          rcases bft (decide (dst < 11)) with h28 | h28
          ·rcases bft (decide (src < 0)) with h29 | h29
           ·exact (o39 (d := .bool false) (E2 ++ List.replicate 3 (tC (eF (nt (andT (beq_self_eq_true kind) (andT h19 (andT h20 (andT h21 (andT h22 (andT h23 (andT h24 (andT h25 (andT h26 (rfl : true = true))))))))))))) ++ [tC (nt (andT (beq_self_eq_true kind) (andT h19 (andT h20 (andT h21 (andT h22 (andT h23 (andT h24 (andT h25 (andT h26 (rfl : true = true))))))))))), tC (eF h27), tC (eF h27), tC (eF h27), tC h27] ++ List.replicate 3 (tC (eF (ltL 10 h28))) ++ [tC (ltL 10 h28), tC (eF h29), tC (eF h29), tC (eF h29), tC h29, tF, tF, tF, tT, tF, tF, tF, tT, tF, tF, tF, tT, tF, tF, tF, tT, tT]) (by kernel_rfl)).to (by clear E1 E2; (try simp only [sl0, wk, wkL, wkO, eqCells, eqCell, mayM, mayRange, mayKind, sizedM, fOp, fWidth, fSize, fByReg, fDst, fSrc, fOff, fImm] at *); simp [wk, wkL, wkO, eqCells, eqCell, mayM, mayRange, mayKind, sizedM, fOp, fWidth, fSize, fByReg, fDst, fSrc, fOff, fImm, *]; omega)
           rcases bft (decide (src < 11)) with h30 | h30
           ·rcases bft (decide (off < (-32768))) with h31 | h31
            ·exact (o39 (d := .bool false) (E2 ++ List.replicate 3 (tC (eF (nt (andT (beq_self_eq_true kind) (andT h19 (andT h20 (andT h21 (andT h22 (andT h23 (andT h24 (andT h25 (andT h26 (rfl : true = true))))))))))))) ++ [tC (nt (andT (beq_self_eq_true kind) (andT h19 (andT h20 (andT h21 (andT h22 (andT h23 (andT h24 (andT h25 (andT h26 (rfl : true = true))))))))))), tC (eF h27), tC (eF h27), tC (eF h27), tC h27] ++ List.replicate 3 (tC (eF (ltL 10 h28))) ++ [tC (ltL 10 h28), tC (eF h29), tC (eF h29), tC (eF h29), tC h29] ++ List.replicate 3 (tC (eF (ltL 10 h30))) ++ [tC (ltL 10 h30), tC (eF h31), tC (eF h31), tC (eF h31), tC h31, tF, tF, tF, tT, tF, tF, tF, tT, tT]) (by kernel_rfl)).to (by clear E1 E2; (try simp only [sl0, wk, wkL, wkO, eqCells, eqCell, mayM, mayRange, mayKind, sizedM, fOp, fWidth, fSize, fByReg, fDst, fSrc, fOff, fImm] at *); simp [wk, wkL, wkO, eqCells, eqCell, mayM, mayRange, mayKind, sizedM, fOp, fWidth, fSize, fByReg, fDst, fSrc, fOff, fImm, *]; omega)
            rcases bft (decide (off < 32768)) with h32 | h32
            ·rcases bft (decide (imm < (-2147483648))) with h33 | h33
             ·exact (o39 (d := .bool false) (E2 ++ List.replicate 3 (tC (eF (nt (andT (beq_self_eq_true kind) (andT h19 (andT h20 (andT h21 (andT h22 (andT h23 (andT h24 (andT h25 (andT h26 (rfl : true = true))))))))))))) ++ [tC (nt (andT (beq_self_eq_true kind) (andT h19 (andT h20 (andT h21 (andT h22 (andT h23 (andT h24 (andT h25 (andT h26 (rfl : true = true))))))))))), tC (eF h27), tC (eF h27), tC (eF h27), tC h27] ++ List.replicate 3 (tC (eF (ltL 10 h28))) ++ [tC (ltL 10 h28), tC (eF h29), tC (eF h29), tC (eF h29), tC h29] ++ List.replicate 3 (tC (eF (ltL 10 h30))) ++ [tC (ltL 10 h30), tC (eF h31), tC (eF h31), tC (eF h31), tC h31] ++ List.replicate 3 (tC (eF (leL 32768 h32))) ++ [tC (leL 32768 h32), tC (eF h33), tC (eF h33), tC (eF h33), tC h33, tT]) (by kernel_rfl)).to (by clear E1 E2; (try simp only [sl0, wk, wkL, wkO, eqCells, eqCell, mayM, mayRange, mayKind, sizedM, fOp, fWidth, fSize, fByReg, fDst, fSrc, fOff, fImm] at *); simp [wk, wkL, wkO, eqCells, eqCell, mayM, mayRange, mayKind, sizedM, fOp, fWidth, fSize, fByReg, fDst, fSrc, fOff, fImm, *]; omega)
             rcases bft (decide (imm < 2147483648)) with h34 | h34
             ·by_cases h35 : kind = 0
              ·subst h35
               let E3 : EL := E2 ++ List.replicate 3 (tC (eF (nt (andT (beq_self_eq_true 0) (andT h19 (andT h20 (andT h21 (andT h22 (andT h23 (andT h24 (andT h25 (andT h26 (rfl : true = true))))))))))))) ++ [tC (nt (andT (beq_self_eq_true 0) (andT h19 (andT h20 (andT h21 (andT h22 (andT h23 (andT h24 (andT h25 (andT h26 (rfl : true = true))))))))))), tC (eF h27), tC (eF h27), tC (eF h27), tC h27] ++ List.replicate 3 (tC (eF (ltL 10 h28))) ++ [tC (ltL 10 h28), tC (eF h29), tC (eF h29), tC (eF h29), tC h29] ++ List.replicate 3 (tC (eF (ltL 10 h30))) ++ [tC (ltL 10 h30), tC (eF h31), tC (eF h31), tC (eF h31), tC h31] ++ List.replicate 3 (tC (eF (leL 32768 h32))) ++ [tC (leL 32768 h32), tC (eF h33), tC (eF h33), tC (eF h33), tC h33, tC (leL 2147483648 h34), tT]
               rcases bft (decide (op < 0)) with h36 | h36
               ·exact (o39 (d := .bool false) (E3 ++ List.replicate 3 (tC (eT (leL 0 h36))) ++ [tC (leL 0 h36)] ++ List.replicate 10 tF) (by kernel_rfl)).to (by clear E1 E2 E3; (try simp only [sl0, wk, wkL, wkO, eqCells, eqCell, mayM, mayRange, mayKind, sizedM, fOp, fWidth, fSize, fByReg, fDst, fSrc, fOff, fImm] at *); simp [wk, wkL, wkO, eqCells, eqCell, mayM, mayRange, mayKind, sizedM, fOp, fWidth, fSize, fByReg, fDst, fSrc, fOff, fImm, *]; omega)
               let E4 : EL := E3 ++ List.replicate 3 (tC (eT (leL 0 h36))) ++ [tC (leL 0 h36)]
               rcases bft (decide (op < 13)) with h37 | h37
               ·by_cases h38 : width = 32
                ·subst h38
                 exact (o39 (d := .bool (decide (dst < 10))) (E4 ++ List.replicate 4 (tC (eT (leC 12 h37))) ++ [tF, tF, tF, tC (eT (leC 12 h37)), tT, tC (leC 12 h37), tT, tT, tT, tT]) (by kernel_rfl)).to (by clear E1 E2 E3 E4; (try simp only [sl0, wk, wkL, wkO, eqCells, eqCell, mayM, mayRange, mayKind, sizedM, fOp, fWidth, fSize, fByReg, fDst, fSrc, fOff, fImm] at *); rw [Bool.eq_iff_iff]; simp [wk, wkL, wkO, eqCells, eqCell, mayM, mayRange, mayKind, sizedM, fOp, fWidth, fSize, fByReg, fDst, fSrc, fOff, fImm, *]; grind)
                let E5 : EL := E4 ++ List.replicate 4 (tC (eT (leC 12 h37))) ++ List.replicate 3 (tC (eF (neOf h38))) ++ [tC (eT (leC 12 h37)), tC (neOf h38), tC (leC 12 h37)]
                by_cases h39 : width = 64
                ·subst h39
                 exact (o39 (d := .bool (decide (dst < 10))) (E5 ++ [tT, tT, tT, tT]) (by kernel_rfl)).to (by clear E1 E2 E3 E4 E5; (try simp only [sl0, wk, wkL, wkO, eqCells, eqCell, mayM, mayRange, mayKind, sizedM, fOp, fWidth, fSize, fByReg, fDst, fSrc, fOff, fImm] at *); rw [Bool.eq_iff_iff]; simp [wk, wkL, wkO, eqCells, eqCell, mayM, mayRange, mayKind, sizedM, fOp, fWidth, fSize, fByReg, fDst, fSrc, fOff, fImm, *]; grind)
                exact (o39 (d := .bool false) (E5 ++ List.replicate 3 (tC (eT (neOf h39))) ++ [tC (neOf h39)]) (by kernel_rfl)).to (by clear E1 E2 E3 E4 E5; (try simp only [sl0, wk, wkL, wkO, eqCells, eqCell, mayM, mayRange, mayKind, sizedM, fOp, fWidth, fSize, fByReg, fDst, fSrc, fOff, fImm] at *); simp [wk, wkL, wkO, eqCells, eqCell, mayM, mayRange, mayKind, sizedM, fOp, fWidth, fSize, fByReg, fDst, fSrc, fOff, fImm, *]; omega)
               exact (o39 (d := .bool false) (E4 ++ List.replicate 5 (tC (eT (leC 12 h37))) ++ [tC (leC 12 h37), tF, tF, tF, tF]) (by kernel_rfl)).to (by clear E1 E2 E3 E4; (try simp only [sl0, wk, wkL, wkO, eqCells, eqCell, mayM, mayRange, mayKind, sizedM, fOp, fWidth, fSize, fByReg, fDst, fSrc, fOff, fImm] at *); simp [wk, wkL, wkO, eqCells, eqCell, mayM, mayRange, mayKind, sizedM, fOp, fWidth, fSize, fByReg, fDst, fSrc, fOff, fImm, *]; omega)
              by_cases h40 : kind = 1
              ·subst h40
               have c41 := @sized3_ok size
               generalize g43 : sizedM size = r42 at c41
               let E6 : EL := E2 ++ List.replicate 3 (tC (eF (nt (andT (beq_self_eq_true 1) (andT h19 (andT h20 (andT h21 (andT h22 (andT h23 (andT h24 (andT h25 (andT h26 (rfl : true = true))))))))))))) ++ [tC (nt (andT (beq_self_eq_true 1) (andT h19 (andT h20 (andT h21 (andT h22 (andT h23 (andT h24 (andT h25 (andT h26 (rfl : true = true))))))))))), tC (eF h27), tC (eF h27), tC (eF h27), tC h27] ++ List.replicate 3 (tC (eF (ltL 10 h28))) ++ [tC (ltL 10 h28), tC (eF h29), tC (eF h29), tC (eF h29), tC h29] ++ List.replicate 3 (tC (eF (ltL 10 h30))) ++ [tC (ltL 10 h30), tC (eF h31), tC (eF h31), tC (eF h31), tC h31] ++ List.replicate 3 (tC (eF (leL 32768 h32))) ++ [tC (leL 32768 h32), tC (eF h33), tC (eF h33), tC (eF h33), tC h33, tC (leL 2147483648 h34), tC (neOf h35), tT, .ret _ _ _ c41]
               cases r42
               ·exact (o39 (d := .bool false) (E6 ++ [tF, tF, tF, tF]) (by kernel_rfl)).to (by clear E1 E2 E6; (try simp only [sl0, wk, wkL, wkO, eqCells, eqCell, mayM, mayRange, mayKind, sizedM, fOp, fWidth, fSize, fByReg, fDst, fSrc, fOff, fImm] at *); simp [wk, wkL, wkO, eqCells, eqCell, mayM, mayRange, mayKind, sizedM, fOp, fWidth, fSize, fByReg, fDst, fSrc, fOff, fImm, *]; omega)
               exact (o39 (d := .bool (decide (dst < 10))) (E6 ++ [tT, tT, tT, tT]) (by kernel_rfl)).to (by clear E1 E2 E6; (try simp only [sl0, wk, wkL, wkO, eqCells, eqCell, mayM, mayRange, mayKind, sizedM, fOp, fWidth, fSize, fByReg, fDst, fSrc, fOff, fImm] at *); rw [Bool.eq_iff_iff]; simp [wk, wkL, wkO, eqCells, eqCell, mayM, mayRange, mayKind, sizedM, fOp, fWidth, fSize, fByReg, fDst, fSrc, fOff, fImm, *]; grind)
              by_cases h44 : kind = 2
              ·subst h44
               have c45 := @sized3_ok size
               generalize g47 : sizedM size = r46 at c45
               exact (o39 (d := .bool r46) (E2 ++ List.replicate 3 (tC (eF (nt (andT (beq_self_eq_true 2) (andT h19 (andT h20 (andT h21 (andT h22 (andT h23 (andT h24 (andT h25 (andT h26 (rfl : true = true))))))))))))) ++ [tC (nt (andT (beq_self_eq_true 2) (andT h19 (andT h20 (andT h21 (andT h22 (andT h23 (andT h24 (andT h25 (andT h26 (rfl : true = true))))))))))), tC (eF h27), tC (eF h27), tC (eF h27), tC h27] ++ List.replicate 3 (tC (eF (ltL 10 h28))) ++ [tC (ltL 10 h28), tC (eF h29), tC (eF h29), tC (eF h29), tC h29] ++ List.replicate 3 (tC (eF (ltL 10 h30))) ++ [tC (ltL 10 h30), tC (eF h31), tC (eF h31), tC (eF h31), tC h31] ++ List.replicate 3 (tC (eF (leL 32768 h32))) ++ [tC (leL 32768 h32), tC (eF h33), tC (eF h33), tC (eF h33), tC h33, tC (leL 2147483648 h34), tC (neOf h35), tC (neOf h40), tT, .ret _ _ _ c45]) (by kernel_rfl)).to (by clear E1 E2; (try simp only [sl0, wk, wkL, wkO, eqCells, eqCell, mayM, mayRange, mayKind, sizedM, fOp, fWidth, fSize, fByReg, fDst, fSrc, fOff, fImm] at *); rw [Bool.eq_iff_iff]; simp [wk, wkL, wkO, eqCells, eqCell, mayM, mayRange, mayKind, sizedM, fOp, fWidth, fSize, fByReg, fDst, fSrc, fOff, fImm, *]; grind)
              by_cases h48 : kind = 3
              ·subst h48
               let E7 : EL := E2 ++ List.replicate 3 (tC (eF (nt (andT (beq_self_eq_true 3) (andT h19 (andT h20 (andT h21 (andT h22 (andT h23 (andT h24 (andT h25 (andT h26 (rfl : true = true))))))))))))) ++ [tC (nt (andT (beq_self_eq_true 3) (andT h19 (andT h20 (andT h21 (andT h22 (andT h23 (andT h24 (andT h25 (andT h26 (rfl : true = true))))))))))), tC (eF h27), tC (eF h27), tC (eF h27), tC h27] ++ List.replicate 3 (tC (eF (ltL 10 h28))) ++ [tC (ltL 10 h28), tC (eF h29), tC (eF h29), tC (eF h29), tC h29] ++ List.replicate 3 (tC (eF (ltL 10 h30))) ++ [tC (ltL 10 h30), tC (eF h31), tC (eF h31), tC (eF h31), tC h31] ++ List.replicate 3 (tC (eF (leL 32768 h32))) ++ [tC (leL 32768 h32), tC (eF h33), tC (eF h33), tC (eF h33), tC h33, tC (leL 2147483648 h34), tC (neOf h35), tC (neOf h40), tC (neOf h44), tT]
               rcases bft (decide (op < 0)) with h49 | h49
               ·exact (o39 (d := .bool false) (E7 ++ List.replicate 3 (tC (eT (leL 0 h49))) ++ [tC (leL 0 h49)]) (by kernel_rfl)).to (by clear E1 E2 E7; (try simp only [sl0, wk, wkL, wkO, eqCells, eqCell, mayM, mayRange, mayKind, sizedM, fOp, fWidth, fSize, fByReg, fDst, fSrc, fOff, fImm] at *); simp [wk, wkL, wkO, eqCells, eqCell, mayM, mayRange, mayKind, sizedM, fOp, fWidth, fSize, fByReg, fDst, fSrc, fOff, fImm, *]; omega)
               exact (o39 (d := .bool (decide (op ≤ 10))) (E7 ++ List.replicate 3 (tC (eT (leL 0 h49))) ++ [tC (leL 0 h49)]) (by kernel_rfl)).to (by clear E1 E2 E7; (try simp only [sl0, wk, wkL, wkO, eqCells, eqCell, mayM, mayRange, mayKind, sizedM, fOp, fWidth, fSize, fByReg, fDst, fSrc, fOff, fImm] at *); rw [Bool.eq_iff_iff]; simp [wk, wkL, wkO, eqCells, eqCell, mayM, mayRange, mayKind, sizedM, fOp, fWidth, fSize, fByReg, fDst, fSrc, fOff, fImm, *]; grind)
              by_cases h50 : kind = 5
              ·subst h50
               let E8 : EL := E2 ++ List.replicate 3 (tC (eF (nt (andT (beq_self_eq_true 5) (andT h19 (andT h20 (andT h21 (andT h22 (andT h23 (andT h24 (andT h25 (andT h26 (rfl : true = true))))))))))))) ++ [tC (nt (andT (beq_self_eq_true 5) (andT h19 (andT h20 (andT h21 (andT h22 (andT h23 (andT h24 (andT h25 (andT h26 (rfl : true = true))))))))))), tC (eF h27), tC (eF h27), tC (eF h27), tC h27] ++ List.replicate 3 (tC (eF (ltL 10 h28))) ++ [tC (ltL 10 h28), tC (eF h29), tC (eF h29), tC (eF h29), tC h29] ++ List.replicate 3 (tC (eF (ltL 10 h30))) ++ [tC (ltL 10 h30), tC (eF h31), tC (eF h31), tC (eF h31), tC h31] ++ List.replicate 3 (tC (eF (leL 32768 h32))) ++ [tC (leL 32768 h32), tC (eF h33), tC (eF h33), tC (eF h33), tC h33, tC (leL 2147483648 h34), tC (neOf h35), tC (neOf h40), tC (neOf h44), tC (neOf h48), tT]
               rcases bft (decide (imm < 0)) with h51 | h51
               ·exact (o39 (d := .bool false) (E8 ++ List.replicate 3 (tC (eT (leL 0 h51))) ++ [tC (leL 0 h51)]) (by kernel_rfl)).to (by clear E1 E2 E8; (try simp only [sl0, wk, wkL, wkO, eqCells, eqCell, mayM, mayRange, mayKind, sizedM, fOp, fWidth, fSize, fByReg, fDst, fSrc, fOff, fImm] at *); simp [wk, wkL, wkO, eqCells, eqCell, mayM, mayRange, mayKind, sizedM, fOp, fWidth, fSize, fByReg, fDst, fSrc, fOff, fImm, *]; omega)
               exact (o39 (d := .bool (decide (imm < 16))) (E8 ++ List.replicate 3 (tC (eT (leL 0 h51))) ++ [tC (leL 0 h51)]) (by kernel_rfl)).to (by clear E1 E2 E8; (try simp only [sl0, wk, wkL, wkO, eqCells, eqCell, mayM, mayRange, mayKind, sizedM, fOp, fWidth, fSize, fByReg, fDst, fSrc, fOff, fImm] at *); rw [Bool.eq_iff_iff]; simp [wk, wkL, wkO, eqCells, eqCell, mayM, mayRange, mayKind, sizedM, fOp, fWidth, fSize, fByReg, fDst, fSrc, fOff, fImm, *]; grind)
              exact (o39 (d := .bool true) (E2 ++ List.replicate 3 (tC (eF (nt (andT (beq_self_eq_true kind) (andT h19 (andT h20 (andT h21 (andT h22 (andT h23 (andT h24 (andT h25 (andT h26 (rfl : true = true))))))))))))) ++ [tC (nt (andT (beq_self_eq_true kind) (andT h19 (andT h20 (andT h21 (andT h22 (andT h23 (andT h24 (andT h25 (andT h26 (rfl : true = true))))))))))), tC (eF h27), tC (eF h27), tC (eF h27), tC h27] ++ List.replicate 3 (tC (eF (ltL 10 h28))) ++ [tC (ltL 10 h28), tC (eF h29), tC (eF h29), tC (eF h29), tC h29] ++ List.replicate 3 (tC (eF (ltL 10 h30))) ++ [tC (ltL 10 h30), tC (eF h31), tC (eF h31), tC (eF h31), tC h31] ++ List.replicate 3 (tC (eF (leL 32768 h32))) ++ [tC (leL 32768 h32), tC (eF h33), tC (eF h33), tC (eF h33), tC h33, tC (leL 2147483648 h34), tC (neOf h35), tC (neOf h40), tC (neOf h44), tC (neOf h48), tC (neOf h50)]) (by kernel_rfl)).to (by clear E1 E2; (try simp only [sl0, wk, wkL, wkO, eqCells, eqCell, mayM, mayRange, mayKind, sizedM, fOp, fWidth, fSize, fByReg, fDst, fSrc, fOff, fImm] at *); rw [Bool.eq_iff_iff]; simp [wk, wkL, wkO, eqCells, eqCell, mayM, mayRange, mayKind, sizedM, fOp, fWidth, fSize, fByReg, fDst, fSrc, fOff, fImm, *]; grind)
             exact (o39 (d := .bool false) (E2 ++ List.replicate 3 (tC (eF (nt (andT (beq_self_eq_true kind) (andT h19 (andT h20 (andT h21 (andT h22 (andT h23 (andT h24 (andT h25 (andT h26 (rfl : true = true))))))))))))) ++ [tC (nt (andT (beq_self_eq_true kind) (andT h19 (andT h20 (andT h21 (andT h22 (andT h23 (andT h24 (andT h25 (andT h26 (rfl : true = true))))))))))), tC (eF h27), tC (eF h27), tC (eF h27), tC h27] ++ List.replicate 3 (tC (eF (ltL 10 h28))) ++ [tC (ltL 10 h28), tC (eF h29), tC (eF h29), tC (eF h29), tC h29] ++ List.replicate 3 (tC (eF (ltL 10 h30))) ++ [tC (ltL 10 h30), tC (eF h31), tC (eF h31), tC (eF h31), tC h31] ++ List.replicate 3 (tC (eF (leL 32768 h32))) ++ [tC (leL 32768 h32), tC (eF h33), tC (eF h33), tC (eF h33), tC h33, tC (leL 2147483648 h34)]) (by kernel_rfl)).to (by clear E1 E2; (try simp only [sl0, wk, wkL, wkO, eqCells, eqCell, mayM, mayRange, mayKind, sizedM, fOp, fWidth, fSize, fByReg, fDst, fSrc, fOff, fImm] at *); simp [wk, wkL, wkO, eqCells, eqCell, mayM, mayRange, mayKind, sizedM, fOp, fWidth, fSize, fByReg, fDst, fSrc, fOff, fImm, *]; omega)
            exact (o39 (d := .bool false) (E2 ++ List.replicate 3 (tC (eF (nt (andT (beq_self_eq_true kind) (andT h19 (andT h20 (andT h21 (andT h22 (andT h23 (andT h24 (andT h25 (andT h26 (rfl : true = true))))))))))))) ++ [tC (nt (andT (beq_self_eq_true kind) (andT h19 (andT h20 (andT h21 (andT h22 (andT h23 (andT h24 (andT h25 (andT h26 (rfl : true = true))))))))))), tC (eF h27), tC (eF h27), tC (eF h27), tC h27] ++ List.replicate 3 (tC (eF (ltL 10 h28))) ++ [tC (ltL 10 h28), tC (eF h29), tC (eF h29), tC (eF h29), tC h29] ++ List.replicate 3 (tC (eF (ltL 10 h30))) ++ [tC (ltL 10 h30), tC (eF h31), tC (eF h31), tC (eF h31), tC h31] ++ List.replicate 3 (tC (eF (leL 32768 h32))) ++ [tC (leL 32768 h32), tF, tF, tF, tT, tT]) (by kernel_rfl)).to (by clear E1 E2; (try simp only [sl0, wk, wkL, wkO, eqCells, eqCell, mayM, mayRange, mayKind, sizedM, fOp, fWidth, fSize, fByReg, fDst, fSrc, fOff, fImm] at *); simp [wk, wkL, wkO, eqCells, eqCell, mayM, mayRange, mayKind, sizedM, fOp, fWidth, fSize, fByReg, fDst, fSrc, fOff, fImm, *]; omega)
           exact (o39 (d := .bool false) (E2 ++ List.replicate 3 (tC (eF (nt (andT (beq_self_eq_true kind) (andT h19 (andT h20 (andT h21 (andT h22 (andT h23 (andT h24 (andT h25 (andT h26 (rfl : true = true))))))))))))) ++ [tC (nt (andT (beq_self_eq_true kind) (andT h19 (andT h20 (andT h21 (andT h22 (andT h23 (andT h24 (andT h25 (andT h26 (rfl : true = true))))))))))), tC (eF h27), tC (eF h27), tC (eF h27), tC h27] ++ List.replicate 3 (tC (eF (ltL 10 h28))) ++ [tC (ltL 10 h28), tC (eF h29), tC (eF h29), tC (eF h29), tC h29] ++ List.replicate 3 (tC (eF (ltL 10 h30))) ++ [tC (ltL 10 h30), tF, tF, tF, tT, tF, tF, tF, tT, tF, tF, tF, tT, tT]) (by kernel_rfl)).to (by clear E1 E2; (try simp only [sl0, wk, wkL, wkO, eqCells, eqCell, mayM, mayRange, mayKind, sizedM, fOp, fWidth, fSize, fByReg, fDst, fSrc, fOff, fImm] at *); simp [wk, wkL, wkO, eqCells, eqCell, mayM, mayRange, mayKind, sizedM, fOp, fWidth, fSize, fByReg, fDst, fSrc, fOff, fImm, *]; omega)
          exact (o39 (d := .bool false) (E2 ++ List.replicate 3 (tC (eF (nt (andT (beq_self_eq_true kind) (andT h19 (andT h20 (andT h21 (andT h22 (andT h23 (andT h24 (andT h25 (andT h26 (rfl : true = true))))))))))))) ++ [tC (nt (andT (beq_self_eq_true kind) (andT h19 (andT h20 (andT h21 (andT h22 (andT h23 (andT h24 (andT h25 (andT h26 (rfl : true = true))))))))))), tC (eF h27), tC (eF h27), tC (eF h27), tC h27] ++ List.replicate 3 (tC (eF (ltL 10 h28))) ++ [tC (ltL 10 h28), tF, tF, tF, tT, tF, tF, tF, tT, tF, tF, tF, tT, tF, tF, tF, tT, tF, tF, tF, tT, tT]) (by kernel_rfl)).to (by clear E1 E2; (try simp only [sl0, wk, wkL, wkO, eqCells, eqCell, mayM, mayRange, mayKind, sizedM, fOp, fWidth, fSize, fByReg, fDst, fSrc, fOff, fImm] at *); simp [wk, wkL, wkO, eqCells, eqCell, mayM, mayRange, mayKind, sizedM, fOp, fWidth, fSize, fByReg, fDst, fSrc, fOff, fImm, *]; omega)
         exact (o39 (d := .bool false) (E2 ++ List.replicate 3 (tC (eF (nt (andT (beq_self_eq_true kind) (andT h19 (andT h20 (andT h21 (andT h22 (andT h23 (andT h24 (andT h25 (andF (y := true) h26)))))))))))) ++ [tC (nt (andT (beq_self_eq_true kind) (andT h19 (andT h20 (andT h21 (andT h22 (andT h23 (andT h24 (andT h25 (andF (y := true) h26)))))))))), tF, tF, tF, tT, tF, tF, tF, tT, tF, tF, tF, tT, tF, tF, tF, tT, tF, tF, tF, tT, tF, tF, tF, tT, tF, tF, tF, tT, tT]) (by kernel_rfl)).to (by clear E1 E2; (try simp only [sl0, wk, wkL, wkO, eqCells, eqCell, mayM, mayRange, mayKind, sizedM, fOp, fWidth, fSize, fByReg, fDst, fSrc, fOff, fImm] at *); rw [Bool.eq_iff_iff]; simp [wk, wkL, wkO, eqCells, eqCell, mayM, mayRange, mayKind, sizedM, fOp, fWidth, fSize, fByReg, fDst, fSrc, fOff, fImm, *]; grind)
        exact (o39 (d := .bool false) (E2 ++ List.replicate 3 (tC (eF (nt (andT (beq_self_eq_true kind) (andT h19 (andT h20 (andT h21 (andT h22 (andT h23 (andT h24 (andF (y := eqCells [.int .i64 imm] [.int .i64 r17]) h25))))))))))) ++ [tC (nt (andT (beq_self_eq_true kind) (andT h19 (andT h20 (andT h21 (andT h22 (andT h23 (andT h24 (andF (y := eqCells [.int .i64 imm] [.int .i64 r17]) h25))))))))), tF, tF, tF, tT, tF, tF, tF, tT, tF, tF, tF, tT, tF, tF, tF, tT, tF, tF, tF, tT, tF, tF, tF, tT, tF, tF, tF, tT, tT]) (by kernel_rfl)).to (by clear E1 E2; (try simp only [sl0, wk, wkL, wkO, eqCells, eqCell, mayM, mayRange, mayKind, sizedM, fOp, fWidth, fSize, fByReg, fDst, fSrc, fOff, fImm] at *); rw [Bool.eq_iff_iff]; simp [wk, wkL, wkO, eqCells, eqCell, mayM, mayRange, mayKind, sizedM, fOp, fWidth, fSize, fByReg, fDst, fSrc, fOff, fImm, *]; grind)
       exact (o39 (d := .bool false) (E2 ++ List.replicate 3 (tC (eF (nt (andT (beq_self_eq_true kind) (andT h19 (andT h20 (andT h21 (andT h22 (andT h23 (andF (y := eqCells [.int .i64 off, .int .i64 imm] [.int .i64 r15, .int .i64 r17]) h24)))))))))) ++ [tC (nt (andT (beq_self_eq_true kind) (andT h19 (andT h20 (andT h21 (andT h22 (andT h23 (andF (y := eqCells [.int .i64 off, .int .i64 imm] [.int .i64 r15, .int .i64 r17]) h24)))))))), tF, tF, tF, tT, tF, tF, tF, tT, tF, tF, tF, tT, tF, tF, tF, tT, tF, tF, tF, tT, tF, tF, tF, tT, tF, tF, tF, tT, tT]) (by kernel_rfl)).to (by clear E1 E2; (try simp only [sl0, wk, wkL, wkO, eqCells, eqCell, mayM, mayRange, mayKind, sizedM, fOp, fWidth, fSize, fByReg, fDst, fSrc, fOff, fImm] at *); rw [Bool.eq_iff_iff]; simp [wk, wkL, wkO, eqCells, eqCell, mayM, mayRange, mayKind, sizedM, fOp, fWidth, fSize, fByReg, fDst, fSrc, fOff, fImm, *]; grind)
      exact (o39 (d := .bool false) (E2 ++ List.replicate 3 (tC (eF (nt (andT (beq_self_eq_true kind) (andT h19 (andT h20 (andT h21 (andT h22 (andF (y := eqCells [.int .i8 src, .int .i64 off, .int .i64 imm] [.int .i8 r13, .int .i64 r15, .int .i64 r17]) h23))))))))) ++ [tC (nt (andT (beq_self_eq_true kind) (andT h19 (andT h20 (andT h21 (andT h22 (andF (y := eqCells [.int .i8 src, .int .i64 off, .int .i64 imm] [.int .i8 r13, .int .i64 r15, .int .i64 r17]) h23))))))), tF, tF, tF, tT, tF, tF, tF, tT, tF, tF, tF, tT, tF, tF, tF, tT, tF, tF, tF, tT, tF, tF, tF, tT, tF, tF, tF, tT, tT]) (by kernel_rfl)).to (by clear E1 E2; (try simp only [sl0, wk, wkL, wkO, eqCells, eqCell, mayM, mayRange, mayKind, sizedM, fOp, fWidth, fSize, fByReg, fDst, fSrc, fOff, fImm] at *); rw [Bool.eq_iff_iff]; simp [wk, wkL, wkO, eqCells, eqCell, mayM, mayRange, mayKind, sizedM, fOp, fWidth, fSize, fByReg, fDst, fSrc, fOff, fImm, *]; grind)
     exact (o39 (d := .bool false) (E2 ++ List.replicate 3 (tC (eF (nt (andT (beq_self_eq_true kind) (andT h19 (andT h20 (andT h21 (andF (y := eqCells [.int .i8 dst, .int .i8 src, .int .i64 off, .int .i64 imm] [.int .i8 r11, .int .i8 r13, .int .i64 r15, .int .i64 r17]) h22)))))))) ++ [tC (nt (andT (beq_self_eq_true kind) (andT h19 (andT h20 (andT h21 (andF (y := eqCells [.int .i8 dst, .int .i8 src, .int .i64 off, .int .i64 imm] [.int .i8 r11, .int .i8 r13, .int .i64 r15, .int .i64 r17]) h22)))))), tF, tF, tF, tT, tF, tF, tF, tT, tF, tF, tF, tT, tF, tF, tF, tT, tF, tF, tF, tT, tF, tF, tF, tT, tF, tF, tF, tT, tT]) (by kernel_rfl)).to (by clear E1 E2; (try simp only [sl0, wk, wkL, wkO, eqCells, eqCell, mayM, mayRange, mayKind, sizedM, fOp, fWidth, fSize, fByReg, fDst, fSrc, fOff, fImm] at *); rw [Bool.eq_iff_iff]; simp [wk, wkL, wkO, eqCells, eqCell, mayM, mayRange, mayKind, sizedM, fOp, fWidth, fSize, fByReg, fDst, fSrc, fOff, fImm, *]; grind)
    exact (o39 (d := .bool false) (E2 ++ List.replicate 3 (tC (eF (nt (andT (beq_self_eq_true kind) (andT h19 (andT h20 (andF (y := eqCells [.bool byReg, .int .i8 dst, .int .i8 src, .int .i64 off, .int .i64 imm] [.bool r9, .int .i8 r11, .int .i8 r13, .int .i64 r15, .int .i64 r17]) h21))))))) ++ [tC (nt (andT (beq_self_eq_true kind) (andT h19 (andT h20 (andF (y := eqCells [.bool byReg, .int .i8 dst, .int .i8 src, .int .i64 off, .int .i64 imm] [.bool r9, .int .i8 r11, .int .i8 r13, .int .i64 r15, .int .i64 r17]) h21))))), tF, tF, tF, tT, tF, tF, tF, tT, tF, tF, tF, tT, tF, tF, tF, tT, tF, tF, tF, tT, tF, tF, tF, tT, tF, tF, tF, tT, tT]) (by kernel_rfl)).to (by clear E1 E2; (try simp only [sl0, wk, wkL, wkO, eqCells, eqCell, mayM, mayRange, mayKind, sizedM, fOp, fWidth, fSize, fByReg, fDst, fSrc, fOff, fImm] at *); rw [Bool.eq_iff_iff]; simp [wk, wkL, wkO, eqCells, eqCell, mayM, mayRange, mayKind, sizedM, fOp, fWidth, fSize, fByReg, fDst, fSrc, fOff, fImm, *]; grind)
   exact (o39 (d := .bool false) (E2 ++ List.replicate 3 (tC (eF (nt (andT (beq_self_eq_true kind) (andT h19 (andF (y := eqCells [.int .i8 size, .bool byReg, .int .i8 dst, .int .i8 src, .int .i64 off, .int .i64 imm] [.int .i8 r7, .bool r9, .int .i8 r11, .int .i8 r13, .int .i64 r15, .int .i64 r17]) h20)))))) ++ [tC (nt (andT (beq_self_eq_true kind) (andT h19 (andF (y := eqCells [.int .i8 size, .bool byReg, .int .i8 dst, .int .i8 src, .int .i64 off, .int .i64 imm] [.int .i8 r7, .bool r9, .int .i8 r11, .int .i8 r13, .int .i64 r15, .int .i64 r17]) h20)))), tF, tF, tF, tT, tF, tF, tF, tT, tF, tF, tF, tT, tF, tF, tF, tT, tF, tF, tF, tT, tF, tF, tF, tT, tF, tF, tF, tT, tT]) (by kernel_rfl)).to (by clear E1 E2; (try simp only [sl0, wk, wkL, wkO, eqCells, eqCell, mayM, mayRange, mayKind, sizedM, fOp, fWidth, fSize, fByReg, fDst, fSrc, fOff, fImm] at *); rw [Bool.eq_iff_iff]; simp [wk, wkL, wkO, eqCells, eqCell, mayM, mayRange, mayKind, sizedM, fOp, fWidth, fSize, fByReg, fDst, fSrc, fOff, fImm, *]; grind)
  exact (o39 (d := .bool false) (E2 ++ List.replicate 3 (tC (eF (nt (andT (beq_self_eq_true kind) (andF (y := eqCells [.int .i8 width, .int .i8 size, .bool byReg, .int .i8 dst, .int .i8 src, .int .i64 off, .int .i64 imm] [.int .i8 r5, .int .i8 r7, .bool r9, .int .i8 r11, .int .i8 r13, .int .i64 r15, .int .i64 r17]) h19))))) ++ [tC (nt (andT (beq_self_eq_true kind) (andF (y := eqCells [.int .i8 width, .int .i8 size, .bool byReg, .int .i8 dst, .int .i8 src, .int .i64 off, .int .i64 imm] [.int .i8 r5, .int .i8 r7, .bool r9, .int .i8 r11, .int .i8 r13, .int .i64 r15, .int .i64 r17]) h19))), tF, tF, tF, tT, tF, tF, tF, tT, tF, tF, tF, tT, tF, tF, tF, tT, tF, tF, tF, tT, tF, tF, tF, tT, tF, tF, tF, tT, tT]) (by kernel_rfl)).to (by clear E1 E2; (try simp only [sl0, wk, wkL, wkO, eqCells, eqCell, mayM, mayRange, mayKind, sizedM, fOp, fWidth, fSize, fByReg, fDst, fSrc, fOff, fImm] at *); rw [Bool.eq_iff_iff]; simp [wk, wkL, wkO, eqCells, eqCell, mayM, mayRange, mayKind, sizedM, fOp, fWidth, fSize, fByReg, fDst, fSrc, fOff, fImm, *]; grind)
 exact (o39 (d := .bool false) (E1 ++ List.replicate 4 (tC (eF (ltL 6 h1))) ++ [tC (ltL 6 h1), tF, tF, tF, tT, tF, tF, tF, tT, tF, tF, tF, tT, tF, tF, tF, tT, tF, tF, tF, tT, tF, tF, tF, tT, tF, tF, tF, tT, tF, tF, tF, tT, tT]) (by kernel_rfl)).to (by clear E1; (try simp only [sl0, wk, wkL, wkO, eqCells, eqCell, mayM, mayRange, mayKind, sizedM, fOp, fWidth, fSize, fByReg, fDst, fSrc, fOff, fImm] at *); rw [Bool.eq_iff_iff]; simp [wk, wkL, wkO, eqCells, eqCell, mayM, mayRange, mayKind, sizedM, fOp, fWidth, fSize, fByReg, fDst, fSrc, fOff, fImm, *]; grind)
end Go.Proofs.YtojgmjfcfpclbaaGreat

namespace Go.Proofs.YtojgmjfcfpclbaaGreat
open Go Go.Ev
theorem flat_R11 : FlatEq Tryz.prog 47 [.int .u64, .int .u64, .int .u64, .int .u64, .int .u64, .int .u64, .int .u64, .int .u64, .int .u64, .int .u64, .int .u64] := FlatEq.of_flat (d := 5) (by kernel_rfl) (by kernel_rfl) (by kernel_rfl) (by kernel_rfl)
end Go.Proofs.YtojgmjfcfpclbaaGreat

namespace Go.Ev
open Go
def readsX (op dst src base : Int) : Int :=
  if op = 0 then sh8 src
  else if op = 1 ∨ op = 28 ∨ op = 29 then 0
  else if 20 ≤ op ∧ op ≤ 22 then or64 (sh8 dst) (sh8 1)
  else if op = 24 then or64 (or64 (sh8 dst) (sh8 0)) (sh8 2)
  else if op = 26 then sh8 base
  else if op = 27 then or64 (sh8 base) (sh8 src)
  else if op = 30 then 17
  else if op = 31 then 1477
  else if shapeM op = 1 ∨ shapeM op = 2 ∨ shapeM op = 6 then or64 (sh8 dst) (sh8 src)
  else sh8 dst
def writesX (op dst : Int) : Int :=
  if op = 7 ∨ op = 8 ∨ op = 14 ∨ op = 15 ∨ op = 27 ∨ op = 28 ∨ op = 29 then 0
  else if op = 24 then 5
  else if op = 30 then 16
  else if op = 31 then 2051
  else sh8 dst
def readsXX (op w dst src base disp imm cc : Int) : Int := if mayX op w dst src base disp imm cc then readsX op dst src base else 0
def writesXX (op w dst src base disp imm cc : Int) : Int := if mayX op w dst src base disp imm cc then writesX op dst else 0
end Go.Ev

namespace Go.Ev
open Go
def addC (w a b : Int) : Bool := decide (cutM (u64 (a + b)) w < cutM a w)
def addO (w a b : Int) : Bool := negM (and64u (xor64 a (u64 (a + b))) (xor64 b (u64 (a + b)))) w
def subC (w a b : Int) : Bool := decide (cutM a w < cutM b w)
def subO (w a b : Int) : Bool := negM (and64u (xor64 a b) (xor64 a (u64 (a - b)))) w
theorem sign_a (v : Int) : IntKind.u64.wrap (IntKind.i64.wrap (IntKind.i8.wrap v)) = IntKind.u64.wrap (IntKind.i8.wrap v) := by rw [w_u64, w_u64, w_i64, w_i8]; omega
theorem sign_b (v : Int) : IntKind.u64.wrap (IntKind.i64.wrap (IntKind.i16.wrap v)) = IntKind.u64.wrap (IntKind.i16.wrap v) := by rw [w_u64, w_u64, w_i64, w_i16]; omega
theorem sign_c (v : Int) : IntKind.u64.wrap (IntKind.i64.wrap (IntKind.i32.wrap v)) = IntKind.u64.wrap (IntKind.i32.wrap v) := by rw [w_u64, w_u64, w_i64, w_i32]; omega
def holdM (cc : Int) (c z s o : Bool) : Bool :=
  if cc = 2 then c else if cc = 3 then !c else if cc = 4 then z else if cc = 5 then !z else if cc = 6 then (c || z) else if cc = 7 then !(c || z)
  else if cc = 12 then (s != o) else if cc = 13 then !(s != o) else if cc = 14 then (z || (s != o)) else !(z || (s != o))
def wrOp (op : Int) : Bool := !(decide (op = 7 ∨ op = 8 ∨ op = 14 ∨ op = 15 ∨ op = 27 ∨ op = 28 ∨ op = 29))
theorem sh8_pos {d : Int} (h0 : 0 ≤ d) (h1 : d ≤ 15) : sh8 d ≠ 0 := by
  obtain ⟨n, rfl⟩ := fin16 h0 h1
  clear h0 h1
  revert n
  decide +kernel
theorem wr_nz {op w dst src base disp imm cc : Int} (hm : mayX op w dst src base disp imm cc = true) (d0 : 0 ≤ dst) (d1 : dst ≤ 15) (hop : wrOp op = true) : (writesXX op w dst src base disp imm cc == 0) = false := by
  rw [beq_eq_false_iff_ne]
  unfold writesXX
  rw [if_pos hm]
  unfold writesX
  simp only [wrOp, Bool.not_eq_true', decide_eq_false_iff_not] at hop
  rw [if_neg hop]
  split
  · decide
  · split
    · decide
    · split
      · decide
      · exact sh8_pos d0 d1
theorem wr_z {op w dst src base disp imm cc : Int} (hop : wrOp op = false) : (writesXX op w dst src base disp imm cc == 0) = true := by
  rw [beq_iff_eq]
  unfold writesXX writesX
  simp only [wrOp, Bool.not_eq_false', decide_eq_true_eq] at hop
  rw [if_pos hop]
  split <;> rfl
end Go.Ev

namespace Go.Ev
open Go
def inU (n : Int) : Prop := 0 ≤ n ∧ n ≤ 18446744073709551615
theorem cut_range {v w : Int} (h : inU v) : inU (cutM v w) ∧ cutM v w ≤ v := by
  unfold inU at *
  unfold cutM
  split
  · omega
  · split
    · omega
    · split <;> omega
theorem cut_cut (v w : Int) : cutM (cutM v w) w = cutM v w := by
  unfold cutM
  split
  · omega
  · split
    · omega
    · split
      · omega
      · rfl
theorem rg_in {l : List Int} (h : ∀ x ∈ l, inU x) (i : Int) : inU (rg l i) := by
  unfold rg
  rw [List.getD_eq_getElem?_getD]
  cases e : l[i.toNat]? with
  | none => exact ⟨by decide, by decide⟩
  | some x => exact h x (List.mem_of_getElem? e)
theorem u64_in {n : Int} (h : inU n) : u64 n = n := by
  unfold u64 inU at *
  rw [w_u64]; omega
theorem tdiv_le {a b : Int} (ha : 0 ≤ a) (hb : 0 ≤ b) : 0 ≤ a.tdiv b ∧ a.tdiv b ≤ a := by
  rw [Int.tdiv_eq_ediv_of_nonneg ha]
  refine ⟨Int.ediv_nonneg ha hb, ?_⟩
  exact Int.ediv_le_self b ha
theorem tmod_le {a b : Int} (ha : 0 ≤ a) (hb : 0 ≤ b) : 0 ≤ a.tmod b ∧ a.tmod b ≤ a := by
  rw [Int.tmod_eq_emod_of_nonneg ha]
  rcases Int.lt_or_eq_of_le hb with h | h
  · refine ⟨Int.emod_nonneg _ (by omega), ?_⟩
    have h1 := Int.emod_add_mul_ediv a b
    have h2 := Int.mul_nonneg hb (Int.ediv_nonneg ha hb)
    omega
  · subst h; simp [ha]
theorem cut_small {v w n : Int} (hv : 0 ≤ v) (h : v ≤ cutM n w) (hn : inU n) : cutM v w = v := by
  have := cut_range (w := w) hn
  unfold inU at *
  unfold cutM at *
  split
  · rename_i e; rw [if_pos e] at h; omega
  · rename_i e
    rw [if_neg e] at h
    split
    · rename_i e2; rw [if_pos e2] at h; omega
    · rename_i e2
      rw [if_neg e2] at h
      split
      · rename_i e3; rw [if_pos e3] at h; omega
      · rfl
theorem div_same {a b w : Int} (ha : inU a) (hb : inU b) (h : (cutM b w == 0) = false) : (u64 ((cutM a w).tdiv (cutM b w)) == doM 3 w a (cutM b w)) = true := by
  rw [beq_eq_false_iff_ne] at h
  rw [beq_iff_eq]
  have h1 := cut_range (w := w) ha
  have h2 := cut_range (w := w) hb
  have h3 := tdiv_le h1.1.1 h2.1.1
  unfold doM
  rw [cut_cut]
  have e : opM 3 (cutM a w) (cutM b w) (byM (cutM b w) w) w = u64 ((cutM a w).tdiv (cutM b w)) := by
    simp [opM, h]
  rw [e, u64_in ⟨h3.1, by have := h1.1.2; omega⟩, cut_small h3.1 h3.2 ha]
theorem mod_same {a b w : Int} (ha : inU a) (hb : inU b) (h : (cutM b w == 0) = false) : ((cutM a w).tmod (cutM b w) == doM 9 w a (cutM b w)) = true := by
  rw [beq_eq_false_iff_ne] at h
  rw [beq_iff_eq]
  have h1 := cut_range (w := w) ha
  have h2 := cut_range (w := w) hb
  have h3 := tmod_le h1.1.1 h2.1.1
  unfold doM
  rw [cut_cut]
  have e : opM 9 (cutM a w) (cutM b w) (byM (cutM b w) w) w = (cutM a w).tmod (cutM b w) := by
    simp [opM, h]
  rw [e, cut_small h3.1 h3.2 ha]
def bitOf (w k : Int) : Int := IntKind.i64.wrap ((BitVec.ofInt 64 (w.fdiv (2 ^ (min k.toNat 64))) &&& BitVec.ofInt 64 1).toNat : Int)
def mayP (w dst src : Int) : Bool := longM w && regM dst && regM src
end Go.Ev

namespace Go.Ev
open Go
theorem reads_may {op w dst src base disp imm cc : Int} (hm : mayX op w dst src base disp imm cc = true) : readsXX op w dst src base disp imm cc = readsX op dst src base := by unfold readsXX; rw [if_pos hm]
theorem writes_may {op w dst src base disp imm cc : Int} (hm : mayX op w dst src base disp imm cc = true) : writesXX op w dst src base disp imm cc = writesX op dst := by unfold writesXX; rw [if_pos hm]
theorem may_long {sh w dst src base disp imm cc : Int} (h : mayS sh w dst src base disp imm cc = true) (hs : sh = 1 ∨ sh = 2 ∨ sh = 3 ∨ sh = 4 ∨ sh = 5 ∨ sh = 6) : longM w = true := by
  rcases hs with rfl | rfl | rfl | rfl | rfl | rfl <;> simp [mayS] at h <;> first | exact h.1 | exact h.1.1 | exact h
theorem may_cc {w dst src base disp imm cc : Int} (h : mayS 6 w dst src base disp imm cc = true) : ccM cc = true := by
  simp [mayS] at h; exact h.2
theorem may_cc' {w dst src base disp imm cc : Int} (h : mayS 10 w dst src base disp imm cc = true) : ccM cc = true := by
  simp [mayS] at h; exact h.2
end Go.Ev

namespace Go.Ev
open Go
structure MachS where
  (q0 q1 q2 q3 q4 q5 q6 q7 q8 q9 q10 q11 q12 q13 q14 q15 : Int)
  (fk fc fz fs fo : Bool)
  (pc : Int)
deriving DecidableEq
def MachS.d (m : MachS) : D := .agg [.int .u64 m.q0, .int .u64 m.q1, .int .u64 m.q2, .int .u64 m.q3, .int .u64 m.q4, .int .u64 m.q5, .int .u64 m.q6, .int .u64 m.q7, .int .u64 m.q8, .int .u64 m.q9, .int .u64 m.q10, .int .u64 m.q11, .int .u64 m.q12, .int .u64 m.q13, .int .u64 m.q14, .int .u64 m.q15, .bool m.fk, .bool m.fc, .bool m.fz, .bool m.fs, .bool m.fo, .int .u64 m.pc]
def MachS.rl (m : MachS) : List Int := [m.q0, m.q1, m.q2, m.q3, m.q4, m.q5, m.q6, m.q7, m.q8, m.q9, m.q10, m.q11, m.q12, m.q13, m.q14, m.q15]
def MachS.put (m : MachS) (i v : Int) : MachS := ⟨st 0 i v m.q0, st 1 i v m.q1, st 2 i v m.q2, st 3 i v m.q3, st 4 i v m.q4, st 5 i v m.q5, st 6 i v m.q6, st 7 i v m.q7, st 8 i v m.q8, st 9 i v m.q9, st 10 i v m.q10, st 11 i v m.q11, st 12 i v m.q12, st 13 i v m.q13, st 14 i v m.q14, st 15 i v m.q15, m.fk, m.fc, m.fz, m.fs, m.fo, m.pc⟩
def MachS.flags (m : MachS) (k c z s o : Bool) : MachS := ⟨m.q0, m.q1, m.q2, m.q3, m.q4, m.q5, m.q6, m.q7, m.q8, m.q9, m.q10, m.q11, m.q12, m.q13, m.q14, m.q15, k, c, z, s, o, m.pc⟩
def MachS.at (m : MachS) (v : Int) : MachS := ⟨m.q0, m.q1, m.q2, m.q3, m.q4, m.q5, m.q6, m.q7, m.q8, m.q9, m.q10, m.q11, m.q12, m.q13, m.q14, m.q15, m.fk, m.fc, m.fz, m.fs, m.fo, v⟩
def MachS.zero : MachS := ⟨0, 0, 0, 0, 0, 0, 0, 0, 0, 0, 0, 0, 0, 0, 0, 0, false, false, false, false, false, 0⟩
def XS.len (x : XS) : Int := lenX x.op x.w x.dst x.src x.base x.disp x.imm x.cc
def XS.may (x : XS) : Bool := mayX x.op x.w x.dst x.src x.base x.disp x.imm x.cc
def sopM (op : Int) : Option (Int × Int) :=
  match op with
  | 2 => some (0, 0)
  | 3 => some (4, 0)
  | 4 => some (5, 0)
  | 5 => some (1, 0)
  | 6 => some (10, 0)
  | 7 => some (1, 0)
  | 8 => some (5, 0)
  | 9 => some (0, 1)
  | 10 => some (4, 1)
  | 11 => some (5, 1)
  | 12 => some (1, 1)
  | 13 => some (10, 1)
  | 14 => some (1, 1)
  | 15 => some (5, 1)
  | 16 => some (2, 0)
  | 17 => some (6, 1)
  | 18 => some (7, 1)
  | 19 => some (12, 1)
  | 20 => some (6, 2)
  | 21 => some (7, 2)
  | 22 => some (12, 2)
  | 23 => some (8, 0)
  | _ => none
def secS (m : MachS) (x : XS) (k : Int) : Int := match k with
  | 2 => m.q1
  | 1 => u64 x.imm
  | _ => rg m.rl x.src
def flagS (m : MachS) (s w a b v : Int) : MachS := match s with
  | 0 => m.flags true (addC w a b) (cutM (u64 (a + b)) w == 0) (negM (u64 (a + b)) w) (addO w a b)
  | 1 => m.flags true (subC w a b) (cutM (u64 (a - b)) w == 0) (negM (u64 (a - b)) w) (subO w a b)
  | 8 => m.flags true (subC w 0 a) (cutM (u64 (0 - a)) w == 0) (negM (u64 (0 - a)) w) (subO w 0 a)
  | 4 => m.flags true false (cutM v w == 0) (negM v w) false
  | 5 => m.flags true false (cutM v w == 0) (negM v w) false
  | 10 => m.flags true false (cutM v w == 0) (negM v w) false
  | _ => m.flags false false false false false
def keepOp (op : Int) : Bool := match op with
  | 7 => true
  | 8 => true
  | 14 => true
  | 15 => true
  | _ => false
def doS (m : MachS) (x : XS) (ld : Int) : MachS × Int := match sopM x.op with
  | some (s, k) =>
    let a := rg m.rl x.dst
    let b := secS m x k
    let v := doM s x.w a b
    match keepOp x.op with
    | true => (flagS m s x.w a b v, 0)
    | false => ((flagS m s x.w a b v).put x.dst v, 0)
  | none => match x.op with
    | 0 => (m.put x.dst (cutM (rg m.rl x.src) x.w), 0)
    | 1 => (m.put x.dst (cutM (u64 x.imm) x.w), 0)
    | 24 => match cutM (rg m.rl x.dst) x.w == 0 with
      | true => (.zero, 20)
      | false => match cutM m.q2 x.w == 0 with
        | false => (.zero, 20)
        | true => (({ m with q0 := u64 ((cutM m.q0 x.w).tdiv (cutM (rg m.rl x.dst) x.w)), q2 := (cutM m.q0 x.w).tmod (cutM (rg m.rl x.dst) x.w) }).flags false false false false false, 0)
    | 25 => match m.fk with
      | false => (.zero, 20)
      | true => (m.put x.dst (cutM (if holdM x.cc m.fc m.fz m.fs m.fo then rg m.rl x.src else rg m.rl x.dst) x.w), 0)
    | 26 => (m.put x.dst (cutM ld x.w), 0)
    | 28 => (m.at (u64 (m.pc + u64 x.imm)), 0)
    | 29 => match m.fk with
      | false => (.zero, 20)
      | true => (m.at (if holdM x.cc m.fc m.fz m.fs m.fo then u64 (m.pc + u64 x.imm) else m.pc), 0)
    | 30 => (({ m with q4 := u64 (m.q4 + 8) }).at ld, 0)
    | 31 => ({ m with q0 := ld, q1 := 0, q11 := 0 }, 0)
    | _ => (m, 0)
def execS (m : MachS) (x : XS) (ld : Int) : MachS × Int := match x.may with
  | false => (.zero, 2)
  | true => doS (m.at (u64 (m.pc + u64 x.len))) x ld
def execM (m : MachS) (x : XS) (ld : Int) : MachS := (execS m x ld).1
def execE (m : MachS) (x : XS) (ld : Int) : Int := (execS m x ld).2
theorem execS_no {m : MachS} {x : XS} {ld : Int} (h : x.may = false) : execS m x ld = (.zero, 2) := by unfold execS; rw [h]
theorem execS_may {m : MachS} {x : XS} {ld : Int} (h : x.may = true) : execS m x ld = doS (m.at (u64 (m.pc + u64 x.len))) x ld := by unfold execS; rw [h]
def pcX (m : MachS) (op w dst src base disp imm cc : Int) : Int := u64 (m.pc + u64 (lenX op w dst src base disp imm cc))
def xT (op w dst src base disp imm cc ld : Int) : List D := [.int .i8 op, .int .i8 w, .int .i8 dst, .int .i8 src, .int .i8 base, .int .i64 disp, .int .i64 imm, .int .i8 cc, .int .u64 ld]
def fT (m : MachS) (p : Int) (tl : List D) : List D := .bool m.fk :: .bool m.fc :: .bool m.fz :: .bool m.fs :: .bool m.fo :: .int .u64 p :: tl
def zC : List D := [.int .u64 0, .int .u64 0, .int .u64 0, .int .u64 0, .int .u64 0, .int .u64 0, .int .u64 0, .int .u64 0, .int .u64 0, .int .u64 0, .int .u64 0, .int .u64 0, .int .u64 0, .int .u64 0, .int .u64 0, .int .u64 0, .bool false, .bool false, .bool false, .bool false, .bool false, .int .u64 0]
def MachS.cw (m : MachS) (p : Int) (tl : List D) : List D := .int .u64 m.q0 :: .int .u64 m.q1 :: .int .u64 m.q2 :: .int .u64 m.q3 :: .int .u64 m.q4 :: .int .u64 m.q5 :: .int .u64 m.q6 :: .int .u64 m.q7 :: .int .u64 m.q8 :: .int .u64 m.q9 :: .int .u64 m.q10 :: .int .u64 m.q11 :: .int .u64 m.q12 :: .int .u64 m.q13 :: .int .u64 m.q14 :: .int .u64 m.q15 :: .bool m.fk :: .bool m.fc :: .bool m.fz :: .bool m.fs :: .bool m.fo :: .int .u64 p :: tl
theorem get_regm (m : MachS) (i : Int) (tl : List D) (h0 : 0 ≤ i) (h1 : i ≤ 15) : (D.int .u64 m.q0 :: D.int .u64 m.q1 :: D.int .u64 m.q2 :: D.int .u64 m.q3 :: D.int .u64 m.q4 :: D.int .u64 m.q5 :: D.int .u64 m.q6 :: D.int .u64 m.q7 :: D.int .u64 m.q8 :: D.int .u64 m.q9 :: D.int .u64 m.q10 :: D.int .u64 m.q11 :: D.int .u64 m.q12 :: D.int .u64 m.q13 :: D.int .u64 m.q14 :: D.int .u64 m.q15 :: tl : List D)[0 + i.toNat * 1]? = some (.int .u64 (rg m.rl i)) := get_reg h0 h1
theorem put_regm (m : MachS) (i v : Int) (tl : List D) (h0 : 0 ≤ i) (h1 : i ≤ 15) : PutsA (D.int .u64 m.q0 :: D.int .u64 m.q1 :: D.int .u64 m.q2 :: D.int .u64 m.q3 :: D.int .u64 m.q4 :: D.int .u64 m.q5 :: D.int .u64 m.q6 :: D.int .u64 m.q7 :: D.int .u64 m.q8 :: D.int .u64 m.q9 :: D.int .u64 m.q10 :: D.int .u64 m.q11 :: D.int .u64 m.q12 :: D.int .u64 m.q13 :: D.int .u64 m.q14 :: D.int .u64 m.q15 :: tl : List D) (0 + i.toNat * 1) [D.int .u64 v] (D.int .u64 (m.put i v).q0 :: D.int .u64 (m.put i v).q1 :: D.int .u64 (m.put i v).q2 :: D.int .u64 (m.put i v).q3 :: D.int .u64 (m.put i v).q4 :: D.int .u64 (m.put i v).q5 :: D.int .u64 (m.put i v).q6 :: D.int .u64 (m.put i v).q7 :: D.int .u64 (m.put i v).q8 :: D.int .u64 (m.put i v).q9 :: D.int .u64 (m.put i v).q10 :: D.int .u64 (m.put i v).q11 :: D.int .u64 (m.put i v).q12 :: D.int .u64 (m.put i v).q13 :: D.int .u64 (m.put i v).q14 :: D.int .u64 (m.put i v).q15 :: tl) := put_reg h0 h1
def addrS (m : MachS) (x : XS) : Int × Int × Bool :=
  if x.may = true ∧ (x.op = 26 ∨ x.op = 27) then (u64 (rg m.rl x.base + u64 x.disp), x.w / 8, true)
  else if x.may = true ∧ x.op = 30 then (m.q4, 8, true)
  else (0, 0, false)
def storedS (m : MachS) (x : XS) : Int := if x.may = true ∧ x.op = 27 then cutM (rg m.rl x.src) x.w else 0
def numS (m : MachS) : Int × Bool := if 16 ≤ m.q0 then (0, false) else (IntKind.i64.wrap m.q0, true)
def numV (q : Int) : Int := if 16 ≤ q then 0 else IntKind.i64.wrap q
def numB (q : Int) : Bool := !decide (16 ≤ q)
def argsS (m : MachS) : List Int := if 16 ≤ m.q0 then [] else [m.q7, m.q6, m.q2, m.q10, m.q8].take (m.q0.toNat % 6)
def wD (l : List Int) : List D := l.map (fun x => .int .u64 x)
def toccM (cc : Int) : Int × Bool :=
  if cc = 0 then (4, true) else if cc = 1 then (5, true) else if cc = 2 then (7, true) else if cc = 3 then (3, true) else if cc = 4 then (2, true) else if cc = 5 then (6, true)
  else if cc = 6 then (15, true) else if cc = 7 then (13, true) else if cc = 8 then (12, true) else if cc = 9 then (14, true) else if cc = 10 then (5, true) else (0, false)
def ccM' (cc : Int) : Int × Bool :=
  if cc = 4 then (0, true) else if cc = 5 then (1, true) else if cc = 7 then (2, true) else if cc = 3 then (3, true) else if cc = 2 then (4, true) else if cc = 6 then (5, true)
  else if cc = 15 then (6, true) else if cc = 13 then (7, true) else if cc = 12 then (8, true) else if cc = 14 then (9, true) else (0, false)
end Go.Ev

namespace Go.Ev
open Go
structure RgS where
  (r0 r1 r2 r3 r4 r5 r6 r7 r8 r9 r10 : Int)
deriving DecidableEq
def RgS.c (r : RgS) : List D := [.int .u64 r.r0, .int .u64 r.r1, .int .u64 r.r2, .int .u64 r.r3, .int .u64 r.r4, .int .u64 r.r5, .int .u64 r.r6, .int .u64 r.r7, .int .u64 r.r8, .int .u64 r.r9, .int .u64 r.r10]
def RgS.d (r : RgS) : D := .agg r.c
def RgS.l (r : RgS) : List Int := [r.r0, r.r1, r.r2, r.r3, r.r4, r.r5, r.r6, r.r7, r.r8, r.r9, r.r10]
def RgS.get (r : RgS) (i : Int) : Int := rg r.l i
def RgS.put (r : RgS) (i v : Int) : RgS := ⟨st 0 i v r.r0, st 1 i v r.r1, st 2 i v r.r2, st 3 i v r.r3, st 4 i v r.r4, st 5 i v r.r5, st 6 i v r.r6, st 7 i v r.r7, st 8 i v r.r8, st 9 i v r.r9, st 10 i v r.r10⟩
def RgS.zero : RgS := ⟨0, 0, 0, 0, 0, 0, 0, 0, 0, 0, 0⟩
theorem fin11 {i : Int} (h0 : 0 ≤ i) (h1 : i ≤ 10) : i = 0 ∨ i = 1 ∨ i = 2 ∨ i = 3 ∨ i = 4 ∨ i = 5 ∨ i = 6 ∨ i = 7 ∨ i = 8 ∨ i = 9 ∨ i = 10 := by omega
section
variable {r0 r1 r2 r3 r4 r5 r6 r7 r8 r9 r10 i v : Int} {tl : List D}
theorem get_rg (h0 : 0 ≤ i) (h1 : i ≤ 10) : (D.int .u64 r0 :: D.int .u64 r1 :: D.int .u64 r2 :: D.int .u64 r3 :: D.int .u64 r4 :: D.int .u64 r5 :: D.int .u64 r6 :: D.int .u64 r7 :: D.int .u64 r8 :: D.int .u64 r9 :: D.int .u64 r10 :: tl : List D)[0 + i.toNat * 1]? = some (.int .u64 (rg [r0, r1, r2, r3, r4, r5, r6, r7, r8, r9, r10] i)) := by
  rcases fin11 h0 h1 with rfl | rfl | rfl | rfl | rfl | rfl | rfl | rfl | rfl | rfl | rfl <;> rfl
theorem put_rg (h0 : 0 ≤ i) (h1 : i ≤ 10) : PutsA (D.int .u64 r0 :: D.int .u64 r1 :: D.int .u64 r2 :: D.int .u64 r3 :: D.int .u64 r4 :: D.int .u64 r5 :: D.int .u64 r6 :: D.int .u64 r7 :: D.int .u64 r8 :: D.int .u64 r9 :: D.int .u64 r10 :: tl : List D) (0 + i.toNat * 1) [D.int .u64 v] (D.int .u64 (st 0 i v r0) :: D.int .u64 (st 1 i v r1) :: D.int .u64 (st 2 i v r2) :: D.int .u64 (st 3 i v r3) :: D.int .u64 (st 4 i v r4) :: D.int .u64 (st 5 i v r5) :: D.int .u64 (st 6 i v r6) :: D.int .u64 (st 7 i v r7) :: D.int .u64 (st 8 i v r8) :: D.int .u64 (st 9 i v r9) :: D.int .u64 (st 10 i v r10) :: tl) := by
  rcases fin11 h0 h1 with rfl | rfl | rfl | rfl | rfl | rfl | rfl | rfl | rfl | rfl | rfl <;> exact ⟨rfl, by simp⟩
end
theorem sl3 (n : Nat) : decide ((0 : Int) ≤ (n : Int) ∧ (n : Int) ≤ (n : Int) ∧ (n : Int) = (n : Int)) = true := by simp
theorem len_lt1 {x : D} {tl : List D} : decide (((x :: tl).length : Int) < 1) = false := by simp; omega
theorem len_ge1 {x : D} {tl : List D} : decide ((0 : Int) ≤ (1 : Int) ∧ (1 : Int) ≤ ((x :: tl).length : Int)) = true := by simp; omega
def MachS.c (m : MachS) : List D := [.int .u64 m.q0, .int .u64 m.q1, .int .u64 m.q2, .int .u64 m.q3, .int .u64 m.q4, .int .u64 m.q5, .int .u64 m.q6, .int .u64 m.q7, .int .u64 m.q8, .int .u64 m.q9, .int .u64 m.q10, .int .u64 m.q11, .int .u64 m.q12, .int .u64 m.q13, .int .u64 m.q14, .int .u64 m.q15, .bool m.fk, .bool m.fc, .bool m.fz, .bool m.fs, .bool m.fo, .int .u64 m.pc]
def IrS.x (s : IrS) : XS := ⟨s.op, s.w, s.dst, s.src, s.base, s.disp, s.imm, s.cc⟩
def scrM (n : Int) : Bool := decide (n = 0 ∨ n = 1 ∨ n = 2 ∨ n = 11)
theorem scr_bit_all : ∀ n : Fin 128, (bitOf 2055 (n.val : Int) == 1) = scrM (n.val : Int) := by decide +kernel
theorem wk_bool {a b : Bool} (h : a = b) : wk (.bool a) (.bool b) := by subst h; simp [wk]
theorem scr_bit_eq {n : Int} (h0 : decide (n < 0) = false) (h1 : n ≤ 127) : (bitOf 2055 n == 1) = scrM n := by
  rw [decide_eq_false_iff_not] at h0
  have := scr_bit_all ⟨n.toNat, by omega⟩
  simp only [Int.toNat_of_nonneg (show 0 ≤ n by omega)] at this
  exact this
theorem scr_neg {n : Int} (h0 : decide (n < 0) = true) : false = scrM n := by
  rw [decide_eq_true_eq] at h0
  exact (decide_eq_false (by omega)).symm
def namesM (op w dst src base disp imm cc : Int) : Int := or64 (readsXX op w dst src base disp imm cc) (writesXX op w dst src base disp imm cc)
def ownM (op w dst src base disp imm cc : Int) : Bool := andNot64 (namesM op w dst src base disp imm cc) 2055 == 0
theorem own_t {op w dst src base disp imm cc : Int} (h : ownM op w dst src base disp imm cc = true) : (IntKind.i64.wrap ((BitVec.ofInt IntKind.i64.bits (IntKind.i64.wrap ((BitVec.ofInt IntKind.i64.bits (readsXX op w dst src base disp imm cc) ||| BitVec.ofInt IntKind.i64.bits (writesXX op w dst src base disp imm cc)).toNat : Int)) &&& ~~~BitVec.ofInt IntKind.i64.bits 2055).toNat : Int) == 0) = true := h
theorem own_f {op w dst src base disp imm cc : Int} (h : ownM op w dst src base disp imm cc = false) : (IntKind.i64.wrap ((BitVec.ofInt IntKind.i64.bits (IntKind.i64.wrap ((BitVec.ofInt IntKind.i64.bits (readsXX op w dst src base disp imm cc) ||| BitVec.ofInt IntKind.i64.bits (writesXX op w dst src base disp imm cc)).toNat : Int)) &&& ~~~BitVec.ofInt IntKind.i64.bits 2055).toNat : Int) == 0) = false := h
def zeroX (op w dst src base disp imm cc : Int) : Bool := decide (op = 0 ∧ w = 0 ∧ dst = 0 ∧ src = 0 ∧ base = 0 ∧ disp = 0 ∧ imm = 0 ∧ cc = 0)
def mayI (kind op w dst src base disp imm cc reg phys num to : Int) : Bool :=
  if kind = 0 then mayX op w dst src base disp imm cc && decide (op < 28) && ownM op w dst src base disp imm cc && decide (reg = 0 ∧ phys = 0 ∧ num = 0 ∧ to = 0)
  else if kind = 1 ∨ kind = 2 then decide (0 ≤ reg ∧ reg ≤ 10) && scrM phys && zeroX op w dst src base disp imm cc && decide (num = 0 ∧ to = 0)
  else if kind = 3 then decide (0 ≤ num ∧ num ≤ 15) && zeroX op w dst src base disp imm cc && decide (reg = 0 ∧ phys = 0 ∧ to = 0)
  else if kind = 4 then ccM cc && zeroX (op - 29) w dst src base disp imm 0 && decide (0 ≤ to ∧ to ≤ 64) && decide (reg = 0 ∧ phys = 0 ∧ num = 0)
  else if kind = 5 then decide (0 ≤ to ∧ to ≤ 64) && zeroX op w dst src base disp imm cc && decide (reg = 0 ∧ phys = 0 ∧ num = 0)
  else if kind = 6 then zeroX op w dst src base disp imm cc && decide (reg = 0 ∧ phys = 0 ∧ num = 0 ∧ to = 0)
  else false
theorem eq_irc (k1 a1 a2 a3 a4 a5 a6 a7 a8 a9 a10 a11 a12 k2 b1 b2 b3 b4 b5 b6 b7 b8 b9 b10 b11 b12 : Int) : eqCells (irC k1 a1 a2 a3 a4 a5 a6 a7 a8 a9 a10 a11 a12) (irC k2 b1 b2 b3 b4 b5 b6 b7 b8 b9 b10 b11 b12) =
    decide (k1 = k2 ∧ a1 = b1 ∧ a2 = b2 ∧ a3 = b3 ∧ a4 = b4 ∧ a5 = b5 ∧ a6 = b6 ∧ a7 = b7 ∧ a8 = b8 ∧ a9 = b9 ∧ a10 = b10 ∧ a11 = b11 ∧ a12 = b12) := by
  rw [Bool.eq_iff_iff]
  simp [eqCells, eqCell]
theorem mayI_0 (op w dst src base disp imm cc reg phys num to : Int) : mayI 0 op w dst src base disp imm cc reg phys num to = (mayX op w dst src base disp imm cc && decide (op < 28) && ownM op w dst src base disp imm cc && decide (reg = 0 ∧ phys = 0 ∧ num = 0 ∧ to = 0)) := rfl
theorem mayI_1 (op w dst src base disp imm cc reg phys num to : Int) : mayI 1 op w dst src base disp imm cc reg phys num to = (decide (0 ≤ reg ∧ reg ≤ 10) && scrM phys && zeroX op w dst src base disp imm cc && decide (num = 0 ∧ to = 0)) := rfl
theorem mayI_2 (op w dst src base disp imm cc reg phys num to : Int) : mayI 2 op w dst src base disp imm cc reg phys num to = (decide (0 ≤ reg ∧ reg ≤ 10) && scrM phys && zeroX op w dst src base disp imm cc && decide (num = 0 ∧ to = 0)) := rfl
theorem mayI_3 (op w dst src base disp imm cc reg phys num to : Int) : mayI 3 op w dst src base disp imm cc reg phys num to = (decide (0 ≤ num ∧ num ≤ 15) && zeroX op w dst src base disp imm cc && decide (reg = 0 ∧ phys = 0 ∧ to = 0)) := rfl
theorem mayI_4 (op w dst src base disp imm cc reg phys num to : Int) : mayI 4 op w dst src base disp imm cc reg phys num to = (ccM cc && zeroX (op - 29) w dst src base disp imm 0 && decide (0 ≤ to ∧ to ≤ 64) && decide (reg = 0 ∧ phys = 0 ∧ num = 0)) := rfl
theorem mayI_5 (op w dst src base disp imm cc reg phys num to : Int) : mayI 5 op w dst src base disp imm cc reg phys num to = (decide (0 ≤ to ∧ to ≤ 64) && zeroX op w dst src base disp imm cc && decide (reg = 0 ∧ phys = 0 ∧ num = 0)) := rfl
theorem mayI_6 (op w dst src base disp imm cc reg phys num to : Int) : mayI 6 op w dst src base disp imm cc reg phys num to = (zeroX op w dst src base disp imm cc && decide (reg = 0 ∧ phys = 0 ∧ num = 0 ∧ to = 0)) := rfl
def stopsI (kind op : Int) : Bool := decide ((3 ≤ kind ∧ kind ≤ 6) ∨ (kind = 0 ∧ (op = 26 ∨ op = 27)))
theorem stops_op {op : Int} (h2 : ¬ op = 26) : wk (.bool (op == (27 : Int))) (.bool (stopsI 0 op)) := by
  apply wk_bool; unfold stopsI
  by_cases q : op = 27
  · subst q; rfl
  · have e : (op == 27) = false := beq_eq_false_iff_ne.mpr q
    rw [e]; symm; rw [decide_eq_false_iff_not]; omega
def IrS.ok (s : IrS) : Prop := -128 ≤ s.kind ∧ s.kind ≤ 127 ∧ s.op ≤ 127 ∧ s.cc ≤ 127 ∧ s.phys ≤ 127 ∧ -128 ≤ s.reg ∧ s.reg ≤ 127
def AllOk (l : List IrS) : Prop := ∀ s ∈ l, s.ok
def IrS.may (s : IrS) : Bool := mayI s.kind s.op s.w s.dst s.src s.base s.disp s.imm s.cc s.reg s.phys s.num s.to
def IrS.stops (s : IrS) : Bool := stopsI s.kind s.op
def badI (l : List IrS) : Option Nat := l.findIdx? (fun s => !s.may)
def chkI (l : List IrS) : Int × Int := match badI l with
  | some k => ((k : Int), 2)
  | none => (0, 0)
def runI : List IrS → RgS → MachS → RgS × MachS × Nat × Int
  | [], r, m => (r, m, 0, 0)
  | s :: t, r, m => match s.stops with
    | true => (r, m, t.length + 1, 0)
    | false => if s.kind = 1 then runI t r (m.put s.phys (r.get s.reg))
      else if s.kind = 2 then runI t (r.put s.reg (rg m.rl s.phys)) m
      else if (execS m s.x 0).2 = 0 then runI t r ((execS m s.x 0).1.at 0)
      else (.zero, .zero, t.length + 1, (execS m s.x 0).2)
def restI (l : List IrS) (r : RgS) (m : MachS) : List IrS := l.drop (l.length - (runI l r m).2.2.1)
def doI (l : List IrS) (r : RgS) : RgS × MachS × Int × Int :=
  if (chkI l).2 = 0 then
    let q := runI l r .zero
    if q.2.2.2 = 0 then (q.1, q.2.1, ((l.length - q.2.2.1 : Nat) : Int), 0) else (.zero, .zero, 0, q.2.2.2)
  else (.zero, .zero, 0, 2)
def namedI (k : Int) (n : Int) : List IrS → Int
  | [] => n
  | s :: t => namedI k (if s.kind = k ∧ 0 ≤ s.reg ∧ s.reg ≤ 10 then or64 n (sh8 s.reg) else n) t
end Go.Ev

namespace Go.Ev
open Go
theorem chk_ok {l : List IrS} : (chkI l).2 = 0 ↔ ∀ s ∈ l, s.may = true := by
  unfold chkI badI
  cases e : l.findIdx? (fun s => !s.may) with
  | none =>
    rw [List.findIdx?_eq_none_iff] at e
    simp only [true_iff]
    intro s hs
    simpa using e s hs
  | some k =>
    simp only [show ((2 : Int) = 0) = False from by simp, false_iff]
    intro h
    rw [List.findIdx?_eq_some_iff_getElem] at e
    obtain ⟨hk, h1, _⟩ := e
    simp [h _ (List.getElem_mem hk)] at h1
theorem chk_app {l k : List IrS} : (chkI (l ++ k)).2 = 0 ↔ (chkI l).2 = 0 ∧ (chkI k).2 = 0 := by
  simp only [chk_ok, List.mem_append]
  constructor
  · exact fun h => ⟨fun s hs => h s (.inl hs), fun s hs => h s (.inr hs)⟩
  · rintro ⟨h1, h2⟩ s (hs | hs)
    · exact h1 s hs
    · exact h2 s hs
theorem stops_take {s : IrS} (h : s.kind = 1 ∨ s.kind = 2) : s.stops = false := by
  unfold IrS.stops stopsI
  rw [decide_eq_false_iff_not]
  omega
theorem runI_stop {s : IrS} {t : List IrS} {r : RgS} {m : MachS} (h : s.stops = true) : runI (s :: t) r m = (r, m, t.length + 1, 0) := by
  rw [runI, h]
theorem runI_take {s : IrS} {t : List IrS} {r : RgS} {m : MachS} (h : s.kind = 1) : runI (s :: t) r m = runI t r (m.put s.phys (r.get s.reg)) := by
  rw [runI, stops_take (.inl h)]
  simp only [if_pos h]
theorem runI_give {s : IrS} {t : List IrS} {r : RgS} {m : MachS} (h : s.kind = 2) : runI (s :: t) r m = runI t (r.put s.reg (rg m.rl s.phys)) m := by
  rw [runI, stops_take (.inr h)]
  simp only [if_neg (show ¬ s.kind = 1 by omega), if_pos h]
theorem runI_x {s : IrS} {t : List IrS} {r : RgS} {m : MachS} (hs : s.stops = false) (h1 : s.kind ≠ 1) (h2 : s.kind ≠ 2) (h : (execS m s.x 0).2 = 0) : runI (s :: t) r m = runI t r ((execS m s.x 0).1.at 0) := by
  rw [runI, hs]
  simp only [if_neg h1, if_neg h2, if_pos h]
theorem runI_xe {s : IrS} {t : List IrS} {r : RgS} {m : MachS} (hs : s.stops = false) (h1 : s.kind ≠ 1) (h2 : s.kind ≠ 2) (h : (execS m s.x 0).2 ≠ 0) : runI (s :: t) r m = (.zero, .zero, t.length + 1, (execS m s.x 0).2) := by
  rw [runI, hs]
  simp only [if_neg h1, if_neg h2, if_neg h]
theorem runI_app {l l' : List IrS} {r r' : RgS} {m m' : MachS} (h : runI l r m = (r', m', 0, 0)) : runI (l ++ l') r m = runI l' r' m' := by
  induction l generalizing r m with
  | nil =>
    rw [runI] at h
    have h1 := (Prod.mk.inj h).1
    have h2 := (Prod.mk.inj (Prod.mk.inj h).2).1
    rw [h1, h2]
    rfl
  | cons s t ih =>
    rw [List.cons_append]
    cases hs : s.stops
    · by_cases h1 : s.kind = 1
      · rw [runI_take h1] at h ⊢
        exact ih h
      · by_cases h2 : s.kind = 2
        · rw [runI_give h2] at h ⊢
          exact ih h
        · by_cases he : (execS m s.x 0).2 = 0
          · rw [runI_x hs h1 h2 he] at h ⊢
            exact ih h
          · rw [runI_xe hs h1 h2 he] at h
            simp at h
    · rw [runI_stop hs] at h
      simp at h
theorem runI_left (l : List IrS) (r : RgS) (m : MachS) : (runI l r m).2.2.1 ≤ l.length := by
  induction l generalizing r m with
  | nil => simp [runI]
  | cons s t ih =>
    cases hs : s.stops
    · by_cases h1 : s.kind = 1
      · rw [runI_take h1]; have := ih r (m.put s.phys (r.get s.reg)); simp; omega
      · by_cases h2 : s.kind = 2
        · rw [runI_give h2]; have := ih (r.put s.reg (rg m.rl s.phys)) m; simp; omega
        · by_cases he : (execS m s.x 0).2 = 0
          · rw [runI_x hs h1 h2 he]; have := ih r ((execS m s.x 0).1.at 0); simp; omega
          · rw [runI_xe hs h1 h2 he]; simp
    · rw [runI_stop hs]; simp
theorem restI_len (l : List IrS) (r : RgS) (m : MachS) : (restI l r m).length = (runI l r m).2.2.1 := by
  have := runI_left l r m
  unfold restI
  rw [List.length_drop]
  omega
theorem restI_cons {s : IrS} {t : List IrS} {r r' : RgS} {m m' : MachS} (h : runI (s :: t) r m = runI t r' m') : restI (s :: t) r m = restI t r' m' := by
  unfold restI
  rw [h]
  have := runI_left t r' m'
  rw [List.length_cons, show t.length + 1 - (runI t r' m').2.2.1 = (t.length - (runI t r' m').2.2.1) + 1 by omega, List.drop_succ_cons]
theorem restI_stop {s : IrS} {t : List IrS} {r : RgS} {m : MachS} (h : s.stops = true) : restI (s :: t) r m = s :: t := by
  unfold restI
  rw [runI_stop h, List.length_cons, Nat.sub_self, List.drop_zero]
theorem may_kind0 {s : IrS} (hm : s.may = true) (hs : s.stops = false) (h1 : s.kind ≠ 1) (h2 : s.kind ≠ 2) : s.kind = 0 := by
  obtain ⟨kind, op, w, dst, src, base, disp, imm, cc, reg, phys, num, to⟩ := s
  replace hs : stopsI kind op = false := hs
  unfold stopsI at hs
  rw [decide_eq_false_iff_not] at hs
  replace hm : mayI kind op w dst src base disp imm cc reg phys num to = true := hm
  unfold mayI at hm
  refine Classical.byContradiction fun hk => ?_
  replace h1 : kind ≠ 1 := h1
  replace h2 : kind ≠ 2 := h2
  replace hk : ¬ kind = 0 := hk
  rw [if_neg hk, if_neg (by omega), if_neg (by omega), if_neg (by omega), if_neg (by omega), if_neg (by omega)] at hm
  cases hm
theorem doI_ok {l : List IrS} {r : RgS} (h : (chkI l).2 = 0) (h2 : (runI l r .zero).2.2.2 = 0) : doI l r = ((runI l r .zero).1, (runI l r .zero).2.1, ((l.length - (runI l r .zero).2.2.1 : Nat) : Int), 0) := by
  unfold doI
  simp only [if_pos h, if_pos h2]
end Go.Ev

namespace Go.Ev
open Go
theorem and8u (a : Int) : ((BitVec.ofInt 64 a &&& BitVec.ofInt 64 255).toNat : Int) = a % 256 := by have := and_ones 64 8 (by omega) a; exact this
theorem and16u (a : Int) : ((BitVec.ofInt 64 a &&& BitVec.ofInt 64 65535).toNat : Int) = a % 65536 := by have := and_ones 64 16 (by omega) a; exact this
theorem bit_at (v : Int) (i : Nat) : (BitVec.ofInt 64 v).getLsbD i = decide ((v % 18446744073709551616).toNat / 2 ^ i % 2 = 1) := by
  rw [← BitVec.testBit_toNat, toNat_ofInt, Nat.testBit_eq_decide_div_mod_eq]
  rfl
def topM (v w : Int) : Bool := IntKind.u64.wrap ((BitVec.ofInt 64 (v.fdiv (2 ^ (min (IntKind.i8.wrap (w - 1)).toNat 64))) &&& BitVec.ofInt 64 1).toNat : Int) == 1
theorem and1 (a : Int) : ((BitVec.ofInt 64 a &&& BitVec.ofInt 64 1).toNat : Int) = a % 2 := by have := and_ones 64 1 (by omega) a; exact this
theorem top32 (v : Int) : topM v 32 = (BitVec.ofInt 64 v).getLsbD 31 := by
  have e : topM v 32 = (IntKind.u64.wrap ((BitVec.ofInt 64 (v.fdiv 2147483648) &&& BitVec.ofInt 64 1).toNat : Int) == 1) := rfl
  rw [e, and1, w_u64, Int.fdiv_eq_ediv_of_nonneg _ (by decide), bit_at, Bool.eq_iff_iff, beq_iff_eq, decide_eq_true_eq]
  omega
theorem top_cut {w v : Int} (hw : longM w = true) : topM (cutM v w) w = topM v w := by
  rcases long_cases hw with rfl | rfl
  · rw [top32, top32, bit_at, bit_at, show cutM v 32 = v % 4294967296 from rfl, decide_eq_decide]
    omega
  · rfl
theorem sign32_t {v : Int} (h : topM (cutM v 32) 32 = true) : IntKind.u64.wrap (cutM v 32 - 4294967296) = signM v 32 := by
  rw [show signM v 32 = IntKind.u64.wrap (IntKind.i32.wrap v) from rfl]
  rw [top_cut rfl, top32, bit_at, decide_eq_true_eq] at h
  rw [show cutM v 32 = v % 4294967296 from rfl, w_u64, w_u64, w_i32]
  omega
theorem sign32_f {v : Int} (h : topM (cutM v 32) 32 = false) : cutM v 32 = signM v 32 := by
  rw [show signM v 32 = IntKind.u64.wrap (IntKind.i32.wrap v) from rfl]
  rw [top_cut rfl, top32, bit_at, decide_eq_false_iff_not] at h
  rw [show cutM v 32 = v % 4294967296 from rfl, w_u64, w_i32]
  omega
theorem sign32_t' {v : Int} (h : IntKind.u64.wrap ((BitVec.ofInt 64 ((cutM v 32).fdiv 2147483648) &&& BitVec.ofInt 64 1).toNat : Int) = 1) : IntKind.u64.wrap (cutM v 32 - 4294967296) = signM v 32 := by
  refine sign32_t ?_
  have e : topM (cutM v 32) 32 = (IntKind.u64.wrap ((BitVec.ofInt 64 ((cutM v 32).fdiv 2147483648) &&& BitVec.ofInt 64 1).toNat : Int) == 1) := rfl
  rw [e, h]
  rfl
theorem sign32_f' {v : Int} (h : ¬ IntKind.u64.wrap ((BitVec.ofInt 64 ((cutM v 32).fdiv 2147483648) &&& BitVec.ofInt 64 1).toNat : Int) = 1) : cutM v 32 = signM v 32 := by
  refine sign32_f ?_
  have e : topM (cutM v 32) 32 = (IntKind.u64.wrap ((BitVec.ofInt 64 ((cutM v 32).fdiv 2147483648) &&& BitVec.ofInt 64 1).toNat : Int) == 1) := rfl
  rw [e]
  exact beq_eq_false_iff_ne.mpr h
end Go.Ev

namespace Go.Ev
open Go
theorem rg_put_l {r : RgS} {i v : Int} (h0 : 0 ≤ i) (h1 : i ≤ 10) : (r.put i v).l = r.l.set i.toNat v := by
  rcases fin11 h0 h1 with rfl | rfl | rfl | rfl | rfl | rfl | rfl | rfl | rfl | rfl | rfl <;> rfl
theorem may_reg {s : IrS} (h : s.may = true) (hk : s.kind = 1 ∨ s.kind = 2) : 0 ≤ s.reg ∧ s.reg ≤ 10 ∧ scrM s.phys = true := by
  unfold IrS.may mayI at h
  rw [if_neg (by omega), if_pos hk] at h
  simp only [Bool.and_eq_true, decide_eq_true_eq] at h
  exact ⟨h.1.1.1.1, h.1.1.1.2, h.1.1.2⟩
def EqBut (o : Int) (r r' : RgS) : Prop := ∀ k, 0 ≤ k → k ≤ 10 → k ≠ o → r.get k = r'.get k
end Go.Ev

namespace Go.Ev
open Go
set_option maxRecDepth 10000
abbrev takeS (p r : Int) : IrS := ⟨1, 0, 0, 0, 0, 0, 0, 0, 0, r, p, 0, 0⟩
abbrev giveS (r p : Int) : IrS := ⟨2, 0, 0, 0, 0, 0, 0, 0, 0, r, p, 0, 0⟩
abbrev xS (op w dst src imm cc : Int) : IrS := ⟨0, op, w, dst, src, 0, 0, imm, cc, 0, 0, 0, 0⟩
theorem run_take {p i : Int} {t : List IrS} {r : RgS} {m : MachS} : runI (takeS p i :: t) r m = runI t r (m.put p (r.get i)) := runI_take rfl
theorem run_give {p i : Int} {t : List IrS} {r : RgS} {m : MachS} : runI (giveS i p :: t) r m = runI t (r.put i (rg m.rl p)) m := runI_give rfl
theorem run_x {op w dst src imm cc : Int} {t : List IrS} {r : RgS} {m m' : MachS} (hs : stopsI 0 op = false) (hm : mayX op w dst src 0 0 imm cc = true)
    (hd : doS (m.at (u64 (m.pc + u64 (XS.len ⟨op, w, dst, src, 0, 0, imm, cc⟩)))) ⟨op, w, dst, src, 0, 0, imm, cc⟩ 0 = (m', 0)) : runI (xS op w dst src imm cc :: t) r m = runI t r (m'.at 0) := by
  have e : execS m (xS op w dst src imm cc).x 0 = (m', 0) := by
    rw [execS_may (x := (xS op w dst src imm cc).x) hm]
    exact hd
  have h := runI_x (s := xS op w dst src imm cc) (t := t) (r := r) (m := m) hs (show (0 : Int) ≠ 1 by decide) (show (0 : Int) ≠ 2 by decide) (by rw [e])
  rw [h, e]
theorem run_op {op w dst src imm cc s k : Int} {t : List IrS} {r : RgS} {m : MachS} (hs : stopsI 0 op = false) (hm : mayX op w dst src 0 0 imm cc = true) (hk : sopM op = some (s, k)) (hp : keepOp op = false) :
    ∃ k' c z n o, runI (xS op w dst src imm cc :: t) r m = runI t r ((((m.at 0).flags k' c z n o).put dst (doM s w (rg m.rl dst) (secS m ⟨op, w, dst, src, 0, 0, imm, cc⟩ k)))) := by
  have hf : ∀ (m0 : MachS) (s w a b v : Int), ∃ k' c z n o, flagS m0 s w a b v = m0.flags k' c z n o := by
    intro m0 s w a b v
    unfold flagS
    split <;> exact ⟨_, _, _, _, _, rfl⟩
  generalize hpc : u64 (m.pc + u64 (XS.len ⟨op, w, dst, src, 0, 0, imm, cc⟩)) = p
  obtain ⟨k', c, z, n, o, e⟩ := hf (m.at p) s w (rg m.rl dst) (secS m ⟨op, w, dst, src, 0, 0, imm, cc⟩ k) (doM s w (rg m.rl dst) (secS m ⟨op, w, dst, src, 0, 0, imm, cc⟩ k))
  refine ⟨k', c, z, n, o, ?_⟩
  have hsec : secS (m.at p) ⟨op, w, dst, src, 0, 0, imm, cc⟩ k = secS m ⟨op, w, dst, src, 0, 0, imm, cc⟩ k := by
    unfold secS
    split <;> rfl
  rw [run_x (m' := ((m.at p).flags k' c z n o).put dst (doM s w (rg m.rl dst) (secS m ⟨op, w, dst, src, 0, 0, imm, cc⟩ k))) hs hm]
  · rfl
  · rw [hpc]
    unfold doS
    simp only [hk, hp]
    rw [hsec]
    have e2 : (flagS (m.at p) s w (rg (m.at p).rl dst) (secS m ⟨op, w, dst, src, 0, 0, imm, cc⟩ k) (doM s w (rg (m.at p).rl dst) (secS m ⟨op, w, dst, src, 0, 0, imm, cc⟩ k))) = (m.at p).flags k' c z n o := e
    rw [e2]
    rfl
theorem run_movi {w dst imm : Int} {t : List IrS} {r : RgS} {m : MachS} (hm : mayX 1 w dst 0 0 0 imm 0 = true) : runI (xS 1 w dst 0 imm 0 :: t) r m = runI t r ((m.at 0).put dst (cutM (u64 imm) w)) :=
  run_x rfl hm rfl
theorem run_mov {w dst src : Int} {t : List IrS} {r : RgS} {m : MachS} (hm : mayX 0 w dst src 0 0 0 0 = true) : runI (xS 0 w dst src 0 0 :: t) r m = runI t r ((m.at 0).put dst (cutM (rg m.rl src) w)) :=
  run_x rfl hm rfl
theorem may_x1 {op w : Int} (hw : w = 32 ∨ w = 64) (ho : op = 2 ∨ op = 3 ∨ op = 4 ∨ op = 5 ∨ op = 6 ∨ op = 8 ∨ op = 16) {a b : Int} (ha : a = 0 ∨ a = 1) (hb : b = 0 ∨ b = 1) : mayX op w a b 0 0 0 0 = true := by
  rcases hw with rfl | rfl <;> rcases ho with rfl | rfl | rfl | rfl | rfl | rfl | rfl <;> rcases ha with rfl | rfl <;> rcases hb with rfl | rfl <;> rfl
theorem may_imm {op w d imm : Int} (hw : w = 32 ∨ w = 64) (ho : op = 1 ∨ op = 9 ∨ op = 10 ∨ op = 11 ∨ op = 12 ∨ op = 13 ∨ op = 14 ∨ op = 15) (hd : d = 0 ∨ d = 1 ∨ d = 2 ∨ d = 11) (i1 : -2147483648 ≤ imm) (i2 : imm ≤ 2147483647) : mayX op w d 0 0 0 imm 0 = true := by
  have hi : decide (-2147483648 ≤ imm ∧ imm ≤ 2147483647) = true := decide_eq_true ⟨i1, i2⟩
  unfold mayX
  rw [hi]
  rcases hw with rfl | rfl <;> rcases ho with rfl | rfl | rfl | rfl | rfl | rfl | rfl | rfl <;> rcases hd with rfl | rfl | rfl | rfl <;> rfl
theorem may_shift {op w imm : Int} (hw : w = 32 ∨ w = 64) (ho : op = 17 ∨ op = 18 ∨ op = 19) : mayX op w 0 0 0 0 (imm % w) 0 = true := by
  have h0 : 0 ≤ imm % w ∧ imm % w < w := by rcases hw with rfl | rfl <;> omega
  have hi : decide (-2147483648 ≤ imm % w ∧ imm % w ≤ 2147483647) = true := decide_eq_true (by rcases hw with rfl | rfl <;> omega)
  unfold mayX
  rw [hi]
  have hj : decide ((0 : Int) = 0 ∧ (0 : Int) = 0 ∧ (0 : Int) = 0 ∧ (0 : Int) = 0 ∧ 0 ≤ imm % w ∧ imm % w < w) = true := decide_eq_true ⟨rfl, rfl, rfl, rfl, h0.1, h0.2⟩
  have hs : mayS 4 w 0 0 0 0 (imm % w) 0 = true := by
    show (longM w && _) = true
    rw [show longM w = true by rcases hw with rfl | rfl <;> rfl]
    exact hj
  rcases ho with rfl | rfl | rfl <;> exact hs
theorem may_one {op w : Int} (hw : w = 32 ∨ w = 64) (ho : op = 20 ∨ op = 21 ∨ op = 22 ∨ op = 23 ∨ op = 24) {a : Int} (ha : a = 0 ∨ a = 1) : mayX op w a 0 0 0 0 0 = true := by
  rcases hw with rfl | rfl <;> rcases ho with rfl | rfl | rfl | rfl | rfl <;> rcases ha with rfl | rfl <;> rfl
theorem may_cmov {w d : Int} (hw : w = 32 ∨ w = 64) (hd : d = 0 ∨ d = 1 ∨ d = 2) : mayX 25 w d 11 0 0 0 4 = true := by
  rcases hw with rfl | rfl <;> rcases hd with rfl | rfl | rfl <;> rfl
theorem may_mov {w : Int} (hw : w = 32 ∨ w = 64) : mayX 0 w 0 0 0 0 0 0 = true := by rcases hw with rfl | rfl <;> rfl
def Gives (l : List IrS) (r : RgS) (d v : Int) : Prop := ∀ m, ∃ m', runI l r m = (r.put d v, m', 0, 0)
theorem gives_end {r : RgS} {m : MachS} {d v : Int} : ∃ m', runI [] (r.put d v) m = (r.put d v, m', 0, 0) := ⟨_, rfl⟩
theorem run_two {op w s : Int} {r : RgS} {a b : Int} (hw : w = 32 ∨ w = 64) (ho : op = 2 ∨ op = 3 ∨ op = 4 ∨ op = 5 ∨ op = 6 ∨ op = 16) (hs : sopM op = some (s, 0)) :
    Gives [takeS 0 a, takeS 1 b, xS op w 0 1 0 0, giveS a 0] r a (doM s w (r.get a) (r.get b)) := by
  intro m
  rw [run_take, run_take]
  have hm := may_x1 (a := 0) (b := 1) hw (show op = 2 ∨ op = 3 ∨ op = 4 ∨ op = 5 ∨ op = 6 ∨ op = 8 ∨ op = 16 by omega) (.inl rfl) (.inr rfl)
  have h1 : stopsI 0 op = false := by rcases ho with rfl | rfl | rfl | rfl | rfl | rfl <;> rfl
  have h2 : keepOp op = false := by rcases ho with rfl | rfl | rfl | rfl | rfl | rfl <;> rfl
  obtain ⟨k', c, z, n, o, e⟩ := run_op (t := [giveS a 0]) (r := r) (m := (m.put 0 (r.get a)).put 1 (r.get b)) h1 hm hs h2
  rw [e, run_give]
  exact gives_end
theorem run_num {op w s imm : Int} {r : RgS} {a : Int} (hm : mayX op w 0 0 0 0 imm 0 = true) (h1 : stopsI 0 op = false) (h2 : keepOp op = false) (hs : sopM op = some (s, 1)) :
    Gives [takeS 0 a, xS op w 0 0 imm 0, giveS a 0] r a (doM s w (r.get a) (u64 imm)) := by
  intro m
  rw [run_take]
  obtain ⟨k', c, z, n, o, e⟩ := run_op (t := [giveS a 0]) (r := r) (m := m.put 0 (r.get a)) h1 hm hs h2
  rw [e, run_give]
  exact gives_end
theorem run_cl {op w s : Int} {r : RgS} {a b : Int} (hw : w = 32 ∨ w = 64) (ho : op = 20 ∨ op = 21 ∨ op = 22) (hs : sopM op = some (s, 2)) :
    Gives [takeS 0 a, takeS 1 b, xS op w 0 0 0 0, giveS a 0] r a (doM s w (r.get a) (r.get b)) := by
  intro m
  rw [run_take, run_take]
  have hm := may_one (a := 0) hw (show op = 20 ∨ op = 21 ∨ op = 22 ∨ op = 23 ∨ op = 24 by omega) (.inl rfl)
  have h1 : stopsI 0 op = false := by rcases ho with rfl | rfl | rfl <;> rfl
  have h2 : keepOp op = false := by rcases ho with rfl | rfl | rfl <;> rfl
  obtain ⟨k', c, z, n, o, e⟩ := run_op (t := [giveS a 0]) (r := r) (m := (m.put 0 (r.get a)).put 1 (r.get b)) h1 hm hs h2
  rw [e, run_give]
  exact gives_end
theorem run_neg {w : Int} {r : RgS} {a v : Int} (hw : w = 32 ∨ w = 64) :
    Gives [takeS 0 a, xS 23 w 0 0 0 0, giveS a 0] r a (doM 8 w (r.get a) v) := by
  intro m
  rw [run_take]
  have hm := may_one (a := 0) hw (show (23 : Int) = 20 ∨ (23 : Int) = 21 ∨ (23 : Int) = 22 ∨ (23 : Int) = 23 ∨ (23 : Int) = 24 by omega) (.inl rfl)
  obtain ⟨k', c, z, n, o, e⟩ := run_op (t := [giveS a 0]) (r := r) (m := m.put 0 (r.get a)) rfl hm rfl rfl
  rw [e, run_give]
  exact gives_end
theorem run_mul {w imm : Int} {r : RgS} {a : Int} (hw : w = 32 ∨ w = 64) (i1 : -2147483648 ≤ imm) (i2 : imm ≤ 2147483647) :
    Gives [takeS 0 a, xS 1 w 1 0 imm 0, xS 16 w 0 1 0 0, giveS a 0] r a (doM 2 w (r.get a) (u64 imm)) := by
  intro m
  have hm := may_x1 (a := 0) (b := 1) hw (show (16 : Int) = 2 ∨ (16 : Int) = 3 ∨ (16 : Int) = 4 ∨ (16 : Int) = 5 ∨ (16 : Int) = 6 ∨ (16 : Int) = 8 ∨ (16 : Int) = 16 by omega) (.inl rfl) (.inr rfl)
  rw [run_take, run_movi (may_imm hw (.inl rfl) (.inr (.inl rfl)) i1 i2)]
  obtain ⟨k', c, z, n, o, e⟩ := run_op (t := [giveS a 0]) (r := r) (m := ((m.put 0 (r.get a)).at 0).put 1 (cutM (u64 imm) w)) rfl hm rfl rfl
  rw [e, run_give]
  have ev : doM 2 w (r.get a) (cutM (u64 imm) w) = doM 2 w (r.get a) (u64 imm) := by unfold doM; rw [cut_cut]
  rw [← ev]
  exact gives_end
theorem mov_val {w a b : Int} : doM 11 w a b = cutM b w := by
  show cutM (cutM b w) w = _
  rw [cut_cut]
theorem run_movr32 {r : RgS} {a b v : Int} : Gives [takeS 0 b, xS 0 32 0 0 0 0, giveS a 0] r a (doM 11 32 v (r.get b)) := by
  intro m
  rw [run_take, run_mov rfl, run_give, mov_val]
  exact gives_end
theorem run_movr64 {r : RgS} {a b v : Int} : Gives [takeS 0 b, giveS a 0] r a (doM 11 64 v (r.get b)) := by
  intro m
  rw [run_take, run_give, mov_val]
  exact gives_end
theorem run_movn {w imm : Int} {r : RgS} {a v : Int} (hw : w = 32 ∨ w = 64) (i1 : -2147483648 ≤ imm) (i2 : imm ≤ 2147483647) : Gives [xS 1 w 0 0 imm 0, giveS a 0] r a (doM 11 w v (u64 imm)) := by
  intro m
  rw [run_movi (may_imm hw (.inl rfl) (.inl rfl) i1 i2), run_give, mov_val]
  exact gives_end
theorem gives_of {r : RgS} {m : MachS} {d p v : Int} (h : rg m.rl p = v) : ∃ m', runI [] (r.put d (rg m.rl p)) m = (r.put d v, m', 0, 0) := by rw [h]; exact ⟨_, rfl⟩
theorem run_div {w : Int} {t : List IrS} {r : RgS} {m : MachS} (hw : w = 32 ∨ w = 64) (hd : (cutM m.q1 w == 0) = false) (hz : (cutM m.q2 w == 0) = true) :
    runI (xS 24 w 1 0 0 0 :: t) r m = runI t r ((({ m with q0 := u64 ((cutM m.q0 w).tdiv (cutM m.q1 w)), q2 := (cutM m.q0 w).tmod (cutM m.q1 w) } : MachS).flags false false false false false).at 0) := by
  refine run_x rfl (may_one hw (.inr (.inr (.inr (.inr rfl)))) (.inr rfl)) (m' := (({ m.at (u64 (m.pc + u64 (XS.len ⟨24, w, 1, 0, 0, 0, 0, 0⟩))) with q0 := u64 ((cutM m.q0 w).tdiv (cutM m.q1 w)), q2 := (cutM m.q0 w).tmod (cutM m.q1 w) } : MachS).flags false false false false false)) ?_
  generalize u64 (m.pc + u64 (XS.len ⟨24, w, 1, 0, 0, 0, 0, 0⟩)) = p
  show (match (cutM m.q1 w == 0 : Bool) with | true => ((MachS.zero, 20) : MachS × Int) | false => match (cutM m.q2 w == 0 : Bool) with | false => (.zero, 20) | true => _) = _
  rw [hd, hz]
  rfl
theorem run_cmov {w d : Int} {t : List IrS} {r : RgS} {m : MachS} (hw : w = 32 ∨ w = 64) (hd : d = 0 ∨ d = 1 ∨ d = 2) (hk : m.fk = true) :
    runI (xS 25 w d 11 0 4 :: t) r m = runI t r ((m.at 0).put d (cutM (if m.fz = true then m.q11 else rg m.rl d) w)) := by
  refine run_x rfl (may_cmov hw hd) (m' := (m.at (u64 (m.pc + u64 (XS.len ⟨25, w, d, 11, 0, 0, 0, 4⟩)))).put d (cutM (if m.fz = true then m.q11 else rg m.rl d) w)) ?_
  generalize u64 (m.pc + u64 (XS.len ⟨25, w, d, 11, 0, 0, 0, 4⟩)) = p
  show (match m.fk with | false => ((MachS.zero, 20) : MachS × Int) | true => _) = _
  rw [hk]
  rfl
theorem run_test {w : Int} {t : List IrS} {r : RgS} {m : MachS} (hw : w = 32 ∨ w = 64) :
    ∃ n, runI (xS 8 w 1 1 0 0 :: t) r m = runI t r ((m.at 0).flags true false (cutM (doM 5 w m.q1 m.q1) w == 0) n false) :=
  ⟨_, run_x rfl (may_x1 hw (show (8 : Int) = 2 ∨ (8 : Int) = 3 ∨ (8 : Int) = 4 ∨ (8 : Int) = 5 ∨ (8 : Int) = 6 ∨ (8 : Int) = 8 ∨ (8 : Int) = 16 by omega) (.inr rfl) (.inr rfl)) rfl⟩
theorem and_self {x : Int} (h : inU x) : and64u x x = x := by
  unfold and64u
  rw [BitVec.and_self, toNat_ofInt]
  unfold u64 inU at *
  rw [w_u64]
  rw [show ((2 ^ 64 : Nat) : Int) = 18446744073709551616 from rfl]
  omega
theorem test_z {w b : Int} (hb : inU b) : (cutM (doM 5 w b b) w == 0) = (cutM b w == 0) := by
  show (cutM (cutM (and64u (cutM b w) (cutM b w)) w) w == 0) = _
  rw [and_self (cut_range hb).1, cut_cut, cut_cut]
theorem cut_one {w : Int} (hw : w = 32 ∨ w = 64) : cutM 1 w = 1 := by rcases hw with rfl | rfl <;> rfl
theorem cut_nil {w : Int} (hw : w = 32 ∨ w = 64) : cutM 0 w = 0 := by rcases hw with rfl | rfl <;> rfl
theorem div_val {w a b : Int} (h : (cutM b w == 0) = false) : doM 3 w a b = cutM (u64 ((cutM a w).tdiv (cutM b w))) w := by
  rw [beq_eq_false_iff_ne] at h
  show cutM (if cutM b w = 0 then 0 else u64 ((cutM a w).tdiv (cutM b w))) w = _
  rw [if_neg h]
theorem div_val0 {w a b : Int} (hw : w = 32 ∨ w = 64) (h : (cutM b w == 0) = true) : doM 3 w a b = 0 := by
  rw [beq_iff_eq] at h
  show cutM (if cutM b w = 0 then 0 else u64 ((cutM a w).tdiv (cutM b w))) w = _
  rw [if_pos h, cut_nil hw]
theorem mod_val {w a b : Int} (h : (cutM b w == 0) = false) : doM 9 w a b = cutM ((cutM a w).tmod (cutM b w)) w := by
  rw [beq_eq_false_iff_ne] at h
  show cutM (if cutM b w = 0 then cutM a w else (cutM a w).tmod (cutM b w)) w = _
  rw [if_neg h]
theorem mod_val0 {w a b : Int} (h : (cutM b w == 0) = true) : doM 9 w a b = cutM a w := by
  rw [beq_iff_eq] at h
  show cutM (if cutM b w = 0 then cutM a w else (cutM a w).tmod (cutM b w)) w = _
  rw [if_pos h, cut_cut]
theorem some_div {w b : Int} (hw : w = 32 ∨ w = 64) : (cutM (cutM (if (cutM b w == 0) = true then 1 else b) w) w == 0) = false := by
  rw [cut_cut]
  cases h : cutM b w == 0
  · simp only [Bool.false_eq_true, if_false]; exact h
  · simp only [if_true]; rw [cut_one hw]; rfl
theorem run_divr {w : Int} {r : RgS} {a b : Int} (hw : w = 32 ∨ w = 64) (hb : inU (r.get b)) :
    Gives [takeS 0 a, takeS 1 b, xS 1 32 2 0 0 0, xS 1 32 11 0 1 0, xS 8 w 1 1 0 0, xS 25 w 1 11 0 4, xS 24 w 1 0 0 0, takeS 1 b, xS 1 32 11 0 0 0, xS 8 w 1 1 0 0, xS 25 w 0 11 0 4, giveS a 0] r a (doM 3 w (r.get a) (r.get b)) := by
  intro m
  rw [run_take, run_take, run_movi rfl, run_movi rfl]
  generalize hM : ((((((m.put 0 (r.get a)).put 1 (r.get b)).at 0).put 2 (cutM (u64 0) 32)).at 0).put 11 (cutM (u64 1) 32)) = M
  have e0 : M.q0 = r.get a := by rw [← hM]; rfl
  have e1 : M.q1 = r.get b := by rw [← hM]; rfl
  have e2 : M.q2 = 0 := by rw [← hM]; rfl
  have e11 : M.q11 = 1 := by rw [← hM]; rfl
  clear hM
  obtain ⟨n, et⟩ := run_test (t := [xS 25 w 1 11 0 4, xS 24 w 1 0 0 0, takeS 1 b, xS 1 32 11 0 0 0, xS 8 w 1 1 0 0, xS 25 w 0 11 0 4, giveS a 0]) (r := r) (m := M) hw
  rw [et, run_cmov hw (by omega) rfl]
  generalize hN : MachS.put _ 1 _ = N
  have f0 : N.q0 = r.get a := by rw [← hN]; exact e0
  have f1 : N.q1 = cutM (if (cutM (r.get b) w == 0) = true then 1 else r.get b) w := by
    rw [← hN, ← test_z hb]
    show cutM (if (cutM (doM 5 w M.q1 M.q1) w == 0) = true then M.q11 else M.q1) w = _
    rw [e11, e1]
  have f2 : N.q2 = 0 := by rw [← hN]; exact e2
  clear hN et e0 e1 e2 e11
  rw [run_div hw (by rw [f1]; exact some_div hw) (by rw [f2, cut_nil hw]; rfl), run_take, run_movi rfl]
  generalize hL : MachS.put _ 11 _ = L
  have g0 : L.q0 = u64 ((cutM N.q0 w).tdiv (cutM N.q1 w)) := by rw [← hL]; rfl
  have g1 : L.q1 = r.get b := by rw [← hL]; rfl
  have g11 : L.q11 = 0 := by rw [← hL]; rfl
  clear hL
  obtain ⟨n, et⟩ := run_test (t := [xS 25 w 0 11 0 4, giveS a 0]) (r := r) (m := L) hw
  rw [et, run_cmov hw (by omega) rfl, run_give]
  refine gives_of ?_
  show cutM (if (cutM (doM 5 w L.q1 L.q1) w == 0) = true then L.q11 else L.q0) w = _
  rw [g1, test_z hb, g11, g0, f0, f1]
  cases h : cutM (r.get b) w == 0
  · simp only [Bool.false_eq_true, if_false]
    rw [div_val h, cut_cut]
  · simp only [if_true]
    rw [div_val0 hw h, cut_nil hw]
theorem run_modr {w : Int} {r : RgS} {a b : Int} (hw : w = 32 ∨ w = 64) (hb : inU (r.get b)) :
    Gives [takeS 0 a, takeS 1 b, xS 1 32 2 0 0 0, xS 1 32 11 0 1 0, xS 8 w 1 1 0 0, xS 25 w 1 11 0 4, xS 24 w 1 0 0 0, takeS 1 b, takeS 11 a, xS 8 w 1 1 0 0, xS 25 w 2 11 0 4, giveS a 2] r a (doM 9 w (r.get a) (r.get b)) := by
  intro m
  rw [run_take, run_take, run_movi rfl, run_movi rfl]
  generalize hM : ((((((m.put 0 (r.get a)).put 1 (r.get b)).at 0).put 2 (cutM (u64 0) 32)).at 0).put 11 (cutM (u64 1) 32)) = M
  have e0 : M.q0 = r.get a := by rw [← hM]; rfl
  have e1 : M.q1 = r.get b := by rw [← hM]; rfl
  have e2 : M.q2 = 0 := by rw [← hM]; rfl
  have e11 : M.q11 = 1 := by rw [← hM]; rfl
  clear hM
  obtain ⟨n, et⟩ := run_test (t := [xS 25 w 1 11 0 4, xS 24 w 1 0 0 0, takeS 1 b, takeS 11 a, xS 8 w 1 1 0 0, xS 25 w 2 11 0 4, giveS a 2]) (r := r) (m := M) hw
  rw [et, run_cmov hw (by omega) rfl]
  generalize hN : MachS.put _ 1 _ = N
  have f0 : N.q0 = r.get a := by rw [← hN]; exact e0
  have f1 : N.q1 = cutM (if (cutM (r.get b) w == 0) = true then 1 else r.get b) w := by
    rw [← hN, ← test_z hb]
    show cutM (if (cutM (doM 5 w M.q1 M.q1) w == 0) = true then M.q11 else M.q1) w = _
    rw [e11, e1]
  have f2 : N.q2 = 0 := by rw [← hN]; exact e2
  clear hN et e0 e1 e2 e11
  rw [run_div hw (by rw [f1]; exact some_div hw) (by rw [f2, cut_nil hw]; rfl), run_take, run_take]
  generalize hL : MachS.put _ 11 _ = L
  have g2 : L.q2 = (cutM N.q0 w).tmod (cutM N.q1 w) := by rw [← hL]; rfl
  have g1 : L.q1 = r.get b := by rw [← hL]; rfl
  have g11 : L.q11 = r.get a := by rw [← hL]; rfl
  clear hL
  obtain ⟨n, et⟩ := run_test (t := [xS 25 w 2 11 0 4, giveS a 2]) (r := r) (m := L) hw
  rw [et, run_cmov hw (by omega) rfl, run_give]
  refine gives_of ?_
  show cutM (if (cutM (doM 5 w L.q1 L.q1) w == 0) = true then L.q11 else L.q2) w = _
  rw [g1, test_z hb, g11, g2, f0, f1]
  cases h : cutM (r.get b) w == 0
  · simp only [Bool.false_eq_true, if_false]
    rw [mod_val h, cut_cut]
  · simp only [if_true]
    rw [mod_val0 h]
theorem zero_cut {w imm : Int} (hw : w = 32 ∨ w = 64) (i1 : -2147483648 ≤ imm) (i2 : imm ≤ 2147483647) : (cutM (u64 imm) w == 0) = zeroImm w imm := by
  unfold zeroImm u64
  rw [Bool.eq_iff_iff, beq_iff_eq, w_u64]
  rcases hw with rfl | rfl
  · rw [show ∀ v, cutM v 32 = v % 4294967296 from fun _ => rfl, if_pos rfl, decide_eq_true_eq]
    omega
  · rw [show ∀ v, cutM v 64 = v from fun _ => rfl, if_neg (by decide), decide_eq_true_eq]
    omega
theorem u64_range (n : Int) : inU (u64 n) := by
  unfold inU u64
  rw [w_u64]
  omega
theorem run_divn {w imm : Int} {r : RgS} {a : Int} (hw : w = 32 ∨ w = 64) (i1 : -2147483648 ≤ imm) (i2 : imm ≤ 2147483647) (ha : inU (r.get a)) (hz : zeroImm w imm = false) :
    Gives [takeS 0 a, xS 1 w 1 0 imm 0, xS 1 32 2 0 0 0, xS 24 w 1 0 0 0, giveS a 0] r a (doM 3 w (r.get a) (u64 imm)) := by
  intro m
  rw [run_take, run_movi (may_imm hw (.inl rfl) (.inr (.inl rfl)) i1 i2), run_movi rfl]
  generalize hM : MachS.put _ 2 _ = M
  have e0 : M.q0 = r.get a := by rw [← hM]; rfl
  have e1 : M.q1 = cutM (u64 imm) w := by rw [← hM]; rfl
  have e2 : M.q2 = 0 := by rw [← hM]; rfl
  clear hM
  rw [← zero_cut hw i1 i2] at hz
  rw [run_div hw (by rw [e1, cut_cut]; exact hz) (by rw [e2, cut_nil hw]; rfl), run_give]
  have ev : rg ((({ M with q0 := u64 ((cutM M.q0 w).tdiv (cutM M.q1 w)), q2 := (cutM M.q0 w).tmod (cutM M.q1 w) } : MachS).flags false false false false false).at 0).rl 0 = doM 3 w (r.get a) (u64 imm) := by
    show u64 ((cutM M.q0 w).tdiv (cutM M.q1 w)) = _
    rw [e0, e1, cut_cut]
    have h := div_same ha (u64_range imm) hz
    rw [beq_iff_eq] at h
    rw [h]
    show cutM (opM 3 _ (cutM (cutM (u64 imm) w) w) _ w) w = cutM (opM 3 _ (cutM (u64 imm) w) _ w) w
    rw [cut_cut]
  rw [ev]
  exact gives_end
theorem run_modn {w imm : Int} {r : RgS} {a : Int} (hw : w = 32 ∨ w = 64) (i1 : -2147483648 ≤ imm) (i2 : imm ≤ 2147483647) (ha : inU (r.get a)) (hz : zeroImm w imm = false) :
    Gives [takeS 0 a, xS 1 w 1 0 imm 0, xS 1 32 2 0 0 0, xS 24 w 1 0 0 0, giveS a 2] r a (doM 9 w (r.get a) (u64 imm)) := by
  intro m
  rw [run_take, run_movi (may_imm hw (.inl rfl) (.inr (.inl rfl)) i1 i2), run_movi rfl]
  generalize hM : MachS.put _ 2 _ = M
  have e0 : M.q0 = r.get a := by rw [← hM]; rfl
  have e1 : M.q1 = cutM (u64 imm) w := by rw [← hM]; rfl
  have e2 : M.q2 = 0 := by rw [← hM]; rfl
  clear hM
  rw [← zero_cut hw i1 i2] at hz
  rw [run_div hw (by rw [e1, cut_cut]; exact hz) (by rw [e2, cut_nil hw]; rfl), run_give]
  have ev : rg ((({ M with q0 := u64 ((cutM M.q0 w).tdiv (cutM M.q1 w)), q2 := (cutM M.q0 w).tmod (cutM M.q1 w) } : MachS).flags false false false false false).at 0).rl 2 = doM 9 w (r.get a) (u64 imm) := by
    show (cutM M.q0 w).tmod (cutM M.q1 w) = _
    rw [e0, e1, cut_cut]
    have h := mod_same ha (u64_range imm) hz
    rw [beq_iff_eq] at h
    rw [h]
    show cutM (opM 9 _ (cutM (cutM (u64 imm) w) w) _ w) w = cutM (opM 9 _ (cutM (u64 imm) w) _ w) w
    rw [cut_cut]
  rw [ev]
  exact gives_end
theorem run_div0 {w imm : Int} {r : RgS} {a : Int} (hw : w = 32 ∨ w = 64) (i1 : -2147483648 ≤ imm) (i2 : imm ≤ 2147483647) (hz : zeroImm w imm = true) : Gives [xS 1 w 0 0 0 0, giveS a 0] r a (doM 3 w (r.get a) (u64 imm)) := by
  intro m
  rw [← zero_cut hw i1 i2] at hz
  rw [run_movi (may_imm hw (.inl rfl) (.inl rfl) (by decide) (by decide)), run_give, div_val0 hw hz]
  have ev : rg ((m.at 0).put 0 (cutM (u64 0) w)).rl 0 = 0 := cut_nil hw
  rw [ev]
  exact gives_end
theorem run_mod032 {imm : Int} {r : RgS} {a : Int} (i1 : -2147483648 ≤ imm) (i2 : imm ≤ 2147483647) (hz : zeroImm 32 imm = true) : Gives [takeS 0 a, xS 0 32 0 0 0 0, giveS a 0] r a (doM 9 32 (r.get a) (u64 imm)) := by
  intro m
  rw [← zero_cut (.inl rfl) i1 i2] at hz
  rw [run_take, run_mov rfl, run_give, mod_val0 hz]
  exact gives_end
theorem run_mod064 {imm : Int} {r : RgS} {a : Int} (i1 : -2147483648 ≤ imm) (i2 : imm ≤ 2147483647) (hz : zeroImm 64 imm = true) : Gives [takeS 0 a, giveS a 0] r a (doM 9 64 (r.get a) (u64 imm)) := by
  intro m
  rw [← zero_cut (.inr rfl) i1 i2] at hz
  rw [run_take, run_give, mod_val0 hz]
  exact gives_end
theorem by_mod {w imm : Int} (hw : w = 32 ∨ w = 64) : byM (cutM (u64 (imm % w)) w) w = byM (cutM (u64 imm) w) w := by
  unfold byM u64
  rcases hw with rfl | rfl
  · have h31 : ∀ x : Int, and64u x (IntKind.u64.wrap (IntKind.i8.wrap (32 - 1))) = u64 (x % 32) := fun x => by
      unfold and64u; rw [show IntKind.u64.wrap (IntKind.i8.wrap (32 - 1)) = 31 from rfl, and31]
    rw [h31, h31, show ∀ v, cutM v 32 = v % 4294967296 from fun _ => rfl]
    simp only [show ∀ v, cutM v 32 = v % 4294967296 from fun _ => rfl]
    rw [w_u64, w_u64]
    congr 1
    omega
  · have h63 : ∀ x : Int, and64u x (IntKind.u64.wrap (IntKind.i8.wrap (64 - 1))) = u64 (x % 64) := fun x => by
      unfold and64u; rw [show IntKind.u64.wrap (IntKind.i8.wrap (64 - 1)) = 63 from rfl, and63]
    rw [h63, h63, show ∀ v, cutM v 64 = v from fun _ => rfl]
    simp only [show ∀ v, cutM v 64 = v from fun _ => rfl]
    rw [w_u64, w_u64]
    congr 1
    omega
theorem shift_val {w imm s a : Int} (hw : w = 32 ∨ w = 64) (hs : s = 6 ∨ s = 7 ∨ s = 12) : doM s w a (u64 (imm % w)) = doM s w a (u64 imm) := by
  unfold doM
  rw [by_mod hw]
  rcases hs with rfl | rfl | rfl <;> rfl
theorem alu_gives {op w dst src imm : Int} {byReg : Bool} {r : RgS} (hr : ∀ k, inU (r.get k)) (hw : w = 32 ∨ w = 64) (h8 : op = 8 → byReg = false)
    (ho : op = 0 ∨ op = 1 ∨ op = 2 ∨ op = 3 ∨ op = 4 ∨ op = 5 ∨ op = 6 ∨ op = 7 ∨ op = 8 ∨ op = 9 ∨ op = 10 ∨ op = 11 ∨ op = 12) (i1 : -2147483648 ≤ imm) (i2 : imm ≤ 2147483647) :
    Gives ((aluM op w byReg dst src imm).map irOf) r dst (doM op w (r.get dst) (if byReg = true then r.get src else u64 imm)) := by
  rcases ho with rfl | rfl | rfl | rfl | rfl | rfl | rfl | rfl | rfl | rfl | rfl | rfl | rfl
  · cases byReg
    · exact run_num (op := 9) (s := 0) (may_imm hw (by omega) (.inl rfl) i1 i2) rfl rfl rfl
    · exact run_two (op := 2) (s := 0) hw (by omega) rfl
  · cases byReg
    · exact run_num (op := 12) (s := 1) (may_imm hw (by omega) (.inl rfl) i1 i2) rfl rfl rfl
    · exact run_two (op := 5) (s := 1) hw (by omega) rfl
  · cases byReg
    · exact run_mul hw i1 i2
    · exact run_two (op := 16) (s := 2) hw (by omega) rfl
  · cases byReg
    · cases hz : zeroImm w imm
      · have e : aluM 3 w false dst src imm = [takeD 0 dst, num 1 w 1 imm, num 1 32 2 0, two 24 w 1 0, giveD dst 0] := by simp [aluM, hz]
        rw [e]
        exact run_divn hw i1 i2 (hr _) hz
      · have e : aluM 3 w false dst src imm = [num 1 w 0 0, giveD dst 0] := by simp [aluM, hz]
        rw [e]
        exact run_div0 hw i1 i2 hz
    · exact run_divr hw (hr _)
  · cases byReg
    · exact run_num (op := 10) (s := 4) (may_imm hw (by omega) (.inl rfl) i1 i2) rfl rfl rfl
    · exact run_two (op := 3) (s := 4) hw (by omega) rfl
  · cases byReg
    · exact run_num (op := 11) (s := 5) (may_imm hw (by omega) (.inl rfl) i1 i2) rfl rfl rfl
    · exact run_two (op := 4) (s := 5) hw (by omega) rfl
  · cases byReg
    · have h := run_num (op := 17) (s := 6) (r := r) (a := dst) (may_shift (imm := imm) hw (by omega)) rfl rfl rfl
      rw [shift_val hw (by omega)] at h
      exact h
    · exact run_cl (op := 20) (s := 6) hw (by omega) rfl
  · cases byReg
    · have h := run_num (op := 18) (s := 7) (r := r) (a := dst) (may_shift (imm := imm) hw (by omega)) rfl rfl rfl
      rw [shift_val hw (by omega)] at h
      exact h
    · exact run_cl (op := 21) (s := 7) hw (by omega) rfl
  · rw [h8 rfl]
    exact run_neg hw
  · cases byReg
    · cases hz : zeroImm w imm
      · have e : aluM 9 w false dst src imm = [takeD 0 dst, num 1 w 1 imm, num 1 32 2 0, two 24 w 1 0, giveD dst 2] := by simp [aluM, hz]
        rw [e]
        exact run_modn hw i1 i2 (hr _) hz
      · rcases hw with rfl | rfl
        · have e : aluM 9 32 false dst src imm = [takeD 0 dst, two 0 32 0 0, giveD dst 0] := by simp [aluM, hz]
          rw [e]
          exact run_mod032 i1 i2 hz
        · have e : aluM 9 64 false dst src imm = [takeD 0 dst, giveD dst 0] := by simp [aluM, hz]
          rw [e]
          exact run_mod064 i1 i2 hz
    · exact run_modr hw (hr _)
  · cases byReg
    · exact run_num (op := 13) (s := 10) (may_imm hw (by omega) (.inl rfl) i1 i2) rfl rfl rfl
    · exact run_two (op := 6) (s := 10) hw (by omega) rfl
  · cases byReg
    · exact run_movn hw i1 i2
    · rcases hw with rfl | rfl
      · exact run_movr32
      · exact run_movr64
  · cases byReg
    · have h := run_num (op := 19) (s := 12) (r := r) (a := dst) (may_shift (imm := imm) hw (by omega)) rfl rfl rfl
      rw [shift_val hw (by omega)] at h
      exact h
    · exact run_cl (op := 22) (s := 12) hw (by omega) rfl
end Go.Ev
