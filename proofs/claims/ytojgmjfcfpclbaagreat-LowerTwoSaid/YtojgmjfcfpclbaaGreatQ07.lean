/- Contracts and plain laws that a statement's proof leans on (texts merged: MdN, ZL1, XOf, ZR0, ZR1, ZL2, ZR2, ZR3, ZR4, ZR4A, XOfA, XMay0). -/
import Derived.Test.YtojgmjfcfpclbaaGreatQ04
import Derived.Test.YtojgmjfcfpclbaaGreatQ06
set_option linter.unusedVariables false
set_option linter.unusedSimpArgs false
namespace Go.Ev
open Go
def Mays (l : List IrS) : Prop := ∀ s ∈ l, s.may = true
theorem mays_nil : Mays [] := fun _ h => by cases h
theorem mays_cons {s : IrS} {t : List IrS} (h : s.may = true) (k : Mays t) : Mays (s :: t) := by
  intro x hx
  rcases List.mem_cons.mp hx with rfl | hx
  · exact h
  · exact k x hx
theorem mays_take {p i : Int} {t : List IrS} (i0 : 0 ≤ i) (i1 : i ≤ 10) (k : Mays t) (hp : scrM p = true := by rfl) : Mays (takeS p i :: t) := by
  refine mays_cons ?_ k
  show (decide (0 ≤ i ∧ i ≤ 10) && scrM p && true && true) = true
  rw [hp, decide_eq_true (show 0 ≤ i ∧ i ≤ 10 from ⟨i0, i1⟩)]; rfl
theorem mays_give {p i : Int} {t : List IrS} (i0 : 0 ≤ i) (i1 : i ≤ 10) (k : Mays t) (hp : scrM p = true := by rfl) : Mays (giveS i p :: t) := by
  refine mays_cons ?_ k
  show (decide (0 ≤ i ∧ i ≤ 10) && scrM p && true && true) = true
  rw [hp, decide_eq_true (show 0 ≤ i ∧ i ≤ 10 from ⟨i0, i1⟩)]; rfl
theorem mays_x {op w dst src imm cc : Int} {t : List IrS} (hm : mayX op w dst src 0 0 imm cc = true) (k : Mays t) (ho : decide (op < 28) = true := by rfl) (h : (andNot64 (or64 (readsX op dst src 0) (writesX op dst)) 2055 == 0) = true := by rfl) : Mays (xS op w dst src imm cc :: t) := by
  refine mays_cons ?_ k
  show (mayX op w dst src 0 0 imm cc && decide (op < 28) && ownM op w dst src 0 0 imm cc && true) = true
  unfold ownM namesM
  rw [reads_may hm, writes_may hm, hm, ho, h]; rfl
theorem alu_may {op w dst src imm : Int} {byReg : Bool} (d0 : 0 ≤ dst) (d1 : dst ≤ 10) (s0 : 0 ≤ src) (s1 : src ≤ 10) (hw : w = 32 ∨ w = 64) (h8 : op = 8 → byReg = false)
    (ho : op = 0 ∨ op = 1 ∨ op = 2 ∨ op = 3 ∨ op = 4 ∨ op = 5 ∨ op = 6 ∨ op = 7 ∨ op = 8 ∨ op = 9 ∨ op = 10 ∨ op = 11 ∨ op = 12) (i1 : -2147483648 ≤ imm) (i2 : imm ≤ 2147483647) :
    Mays ((aluM op w byReg dst src imm).map irOf) := by
  have G0 : Mays [giveS dst 0] := mays_give d0 d1 mays_nil
  have G2 : Mays [giveS dst 2] := mays_give d0 d1 mays_nil
  have im : ∀ {op d : Int}, (op = 1 ∨ op = 9 ∨ op = 10 ∨ op = 11 ∨ op = 12 ∨ op = 13 ∨ op = 14 ∨ op = 15) → (d = 0 ∨ d = 1 ∨ d = 2 ∨ d = 11) → mayX op w d 0 0 0 imm 0 = true := fun h k => may_imm hw h k i1 i2
  have on1 : mayX 24 w 1 0 0 0 0 0 = true := may_one hw (by omega) (.inr rfl)
  have ts : mayX 8 w 1 1 0 0 0 0 = true := may_x1 hw (by omega) (.inr rfl) (.inr rfl)
  have cm : ∀ {d : Int}, (d = 0 ∨ d = 1 ∨ d = 2) → mayX 25 w d 11 0 0 0 4 = true := fun h => may_cmov hw h
  have cl : ∀ {op : Int}, (op = 20 ∨ op = 21 ∨ op = 22 ∨ op = 23 ∨ op = 24) → mayX op w 0 0 0 0 0 0 = true := fun h => may_one hw h (.inl rfl)
  have tw : ∀ {op : Int}, (op = 2 ∨ op = 3 ∨ op = 4 ∨ op = 5 ∨ op = 6 ∨ op = 8 ∨ op = 16) → mayX op w 0 1 0 0 0 0 = true := fun h => may_x1 hw h (.inl rfl) (.inr rfl)
  have z1 : ∀ {d imm : Int}, (d = 0 ∨ d = 1 ∨ d = 2 ∨ d = 11) → (-2147483648 ≤ imm) → (imm ≤ 2147483647) → mayX 1 32 d 0 0 0 imm 0 = true := fun h a b => may_imm (.inl rfl) (.inl rfl) h a b
  rcases ho with rfl | rfl | rfl | rfl | rfl | rfl | rfl | rfl | rfl | rfl | rfl | rfl | rfl
  · cases byReg
    · exact mays_take d0 d1 (mays_x (im (op := 9) (by omega) (.inl rfl)) G0)
    · exact mays_take d0 d1 (mays_take s0 s1 (mays_x (tw (op := 2) (by omega)) G0))
  · cases byReg
    · exact mays_take d0 d1 (mays_x (im (op := 12) (by omega) (.inl rfl)) G0)
    · exact mays_take d0 d1 (mays_take s0 s1 (mays_x (tw (op := 5) (by omega)) G0))
  · cases byReg
    · exact mays_take d0 d1 (mays_x (im (op := 1) (by omega) (.inr (.inl rfl))) (mays_x (tw (op := 16) (by omega)) G0))
    · exact mays_take d0 d1 (mays_take s0 s1 (mays_x (tw (op := 16) (by omega)) G0))
  · cases byReg
    · cases hz : zeroImm w imm
      · have e : aluM 3 w false dst src imm = [takeD 0 dst, num 1 w 1 imm, num 1 32 2 0, two 24 w 1 0, giveD dst 0] := by simp [aluM, hz]
        rw [e]
        exact mays_take d0 d1 (mays_x (im (op := 1) (by omega) (.inr (.inl rfl))) (mays_x (z1 (.inr (.inr (.inl rfl))) (by decide) (by decide)) (mays_x on1 G0)))
      · have e : aluM 3 w false dst src imm = [num 1 w 0 0, giveD dst 0] := by simp [aluM, hz]
        rw [e]
        exact mays_x (may_imm hw (.inl rfl) (.inl rfl) (by decide) (by decide)) G0
    · exact mays_take d0 d1 (mays_take s0 s1 (mays_x (z1 (.inr (.inr (.inl rfl))) (by decide) (by decide)) (mays_x (z1 (.inr (.inr (.inr rfl))) (by decide) (by decide)) (mays_x ts (mays_x (cm (.inr (.inl rfl))) (mays_x on1 (mays_take s0 s1 (mays_x (z1 (.inr (.inr (.inr rfl))) (by decide) (by decide)) (mays_x ts (mays_x (cm (.inl rfl)) G0))))))))))
  · cases byReg
    · exact mays_take d0 d1 (mays_x (im (op := 10) (by omega) (.inl rfl)) G0)
    · exact mays_take d0 d1 (mays_take s0 s1 (mays_x (tw (op := 3) (by omega)) G0))
  · cases byReg
    · exact mays_take d0 d1 (mays_x (im (op := 11) (by omega) (.inl rfl)) G0)
    · exact mays_take d0 d1 (mays_take s0 s1 (mays_x (tw (op := 4) (by omega)) G0))
  · cases byReg
    · exact mays_take d0 d1 (mays_x (may_shift (op := 17) hw (by omega)) G0)
    · exact mays_take d0 d1 (mays_take s0 s1 (mays_x (cl (op := 20) (by omega)) G0))
  · cases byReg
    · exact mays_take d0 d1 (mays_x (may_shift (op := 18) hw (by omega)) G0)
    · exact mays_take d0 d1 (mays_take s0 s1 (mays_x (cl (op := 21) (by omega)) G0))
  · rw [h8 rfl]
    exact mays_take d0 d1 (mays_x (cl (op := 23) (by omega)) G0)
  · cases byReg
    · cases hz : zeroImm w imm
      · have e : aluM 9 w false dst src imm = [takeD 0 dst, num 1 w 1 imm, num 1 32 2 0, two 24 w 1 0, giveD dst 2] := by simp [aluM, hz]
        rw [e]
        exact mays_take d0 d1 (mays_x (im (op := 1) (by omega) (.inr (.inl rfl))) (mays_x (z1 (.inr (.inr (.inl rfl))) (by decide) (by decide)) (mays_x on1 G2)))
      · rcases hw with rfl | rfl
        · have e : aluM 9 32 false dst src imm = [takeD 0 dst, two 0 32 0 0, giveD dst 0] := by simp [aluM, hz]
          rw [e]
          exact mays_take d0 d1 (mays_x (may_mov (.inl rfl)) G0)
        · have e : aluM 9 64 false dst src imm = [takeD 0 dst, giveD dst 0] := by simp [aluM, hz]
          rw [e]
          exact mays_take d0 d1 G0
    · exact mays_take d0 d1 (mays_take s0 s1 (mays_x (z1 (.inr (.inr (.inl rfl))) (by decide) (by decide)) (mays_x (z1 (.inr (.inr (.inr rfl))) (by decide) (by decide)) (mays_x ts (mays_x (cm (.inr (.inl rfl))) (mays_x on1 (mays_take s0 s1 (mays_take d0 d1 (mays_x ts (mays_x (cm (.inr (.inr rfl))) G2))))))))))
  · cases byReg
    · exact mays_take d0 d1 (mays_x (im (op := 13) (by omega) (.inl rfl)) G0)
    · exact mays_take d0 d1 (mays_take s0 s1 (mays_x (tw (op := 6) (by omega)) G0))
  · cases byReg
    · exact mays_x (im (op := 1) (by omega) (.inl rfl)) G0
    · rcases hw with rfl | rfl
      · exact mays_take s0 s1 (mays_x (may_mov (.inl rfl)) G0)
      · exact mays_take s0 s1 G0
  · cases byReg
    · exact mays_take d0 d1 (mays_x (may_shift (op := 19) hw (by omega)) G0)
    · exact mays_take d0 d1 (mays_take s0 s1 (mays_x (cl (op := 22) (by omega)) G0))
theorem alu_do {op w dst src imm : Int} {byReg : Bool} {r : RgS} (hr : ∀ k, inU (r.get k)) (d0 : 0 ≤ dst) (d1 : dst ≤ 10) (s0 : 0 ≤ src) (s1 : src ≤ 10) (hw : w = 32 ∨ w = 64) (h8 : op = 8 → byReg = false)
    (ho : op = 0 ∨ op = 1 ∨ op = 2 ∨ op = 3 ∨ op = 4 ∨ op = 5 ∨ op = 6 ∨ op = 7 ∨ op = 8 ∨ op = 9 ∨ op = 10 ∨ op = 11 ∨ op = 12) (i1 : -2147483648 ≤ imm) (i2 : imm ≤ 2147483647) :
    ∃ m, doI ((aluM op w byReg dst src imm).map irOf) r = (r.put dst (doM op w (r.get dst) (if byReg = true then r.get src else u64 imm)), m, (((aluM op w byReg dst src imm).map irOf).length : Int), 0) := by
  obtain ⟨m', e⟩ := alu_gives (dst := dst) (src := src) hr hw h8 ho i1 i2 .zero
  refine ⟨m', ?_⟩
  have hc : (chkI ((aluM op w byReg dst src imm).map irOf)).2 = 0 := chk_ok.mpr (alu_may d0 d1 s0 s1 hw h8 ho i1 i2)
  rw [doI_ok hc (by rw [e]), e, Nat.sub_zero]
theorem alu_two {op w dst src imm op' w' dst' src' imm' : Int} {byReg byReg' : Bool} {r : RgS} (hr : ∀ k, inU (r.get k)) (hr' : ∀ k, inU ((r.put dst (doM op w (r.get dst) (if byReg = true then r.get src else u64 imm))).get k))
    (d0 : 0 ≤ dst) (d1 : dst ≤ 10) (s0 : 0 ≤ src) (s1 : src ≤ 10) (hw : w = 32 ∨ w = 64) (h8 : op = 8 → byReg = false)
    (ho : op = 0 ∨ op = 1 ∨ op = 2 ∨ op = 3 ∨ op = 4 ∨ op = 5 ∨ op = 6 ∨ op = 7 ∨ op = 8 ∨ op = 9 ∨ op = 10 ∨ op = 11 ∨ op = 12) (i1 : -2147483648 ≤ imm) (i2 : imm ≤ 2147483647)
    (d0' : 0 ≤ dst') (d1' : dst' ≤ 10) (s0' : 0 ≤ src') (s1' : src' ≤ 10) (hw' : w' = 32 ∨ w' = 64) (h8' : op' = 8 → byReg' = false)
    (ho' : op' = 0 ∨ op' = 1 ∨ op' = 2 ∨ op' = 3 ∨ op' = 4 ∨ op' = 5 ∨ op' = 6 ∨ op' = 7 ∨ op' = 8 ∨ op' = 9 ∨ op' = 10 ∨ op' = 11 ∨ op' = 12) (i1' : -2147483648 ≤ imm') (i2' : imm' ≤ 2147483647) :
    ∃ m, doI ((aluM op w byReg dst src imm).map irOf ++ (aluM op' w' byReg' dst' src' imm').map irOf) r =
      ((r.put dst (doM op w (r.get dst) (if byReg = true then r.get src else u64 imm))).put dst' (doM op' w' ((r.put dst (doM op w (r.get dst) (if byReg = true then r.get src else u64 imm))).get dst') (if byReg' = true then (r.put dst (doM op w (r.get dst) (if byReg = true then r.get src else u64 imm))).get src' else u64 imm')), m,
        (((aluM op w byReg dst src imm).map irOf ++ (aluM op' w' byReg' dst' src' imm').map irOf).length : Int), 0) := by
  obtain ⟨m1, e1⟩ := alu_gives (dst := dst) (src := src) hr hw h8 ho i1 i2 .zero
  obtain ⟨m2, e2⟩ := alu_gives (dst := dst') (src := src') hr' hw' h8' ho' i1' i2' m1
  refine ⟨m2, ?_⟩
  have hc : (chkI ((aluM op w byReg dst src imm).map irOf ++ (aluM op' w' byReg' dst' src' imm').map irOf)).2 = 0 :=
    chk_app.mpr ⟨chk_ok.mpr (alu_may d0 d1 s0 s1 hw h8 ho i1 i2), chk_ok.mpr (alu_may d0' d1' s0' s1' hw' h8' ho' i1' i2')⟩
  have e := (runI_app e1).trans e2
  rw [doI_ok hc (by rw [e]), e, Nat.sub_zero]
end Go.Ev

namespace Go.Proofs.YtojgmjfcfpclbaaGreat
open Go Go.Ev
set_option maxRecDepth 100000
set_option maxHeartbeats 8000000
theorem right_true_ok (op width dst src imm : Int) (r0 r1 r2 r3 r4 r5 r6 r7 r8 r9 r10 : Int) (hm : mayM 0 op width 0 true dst src 0 imm = true) (d0 : 0 ≤ dst) (d1 : dst ≤ 10) (s0 : 0 ≤ src) (s1 : src ≤ 10) (l : List IrS) (m : MachS) (v : Int) (h1 : Ret Tryz.prog 41 [instD 0 op width 0 true dst src 0 imm] (.tup [.lst .no 13 (l.map IrS.d), .int .i64 0])) (h2 : Ret Tryz.prog 25 [.lst .no 13 (l.map IrS.d), .agg [.int .u64 r0, .int .u64 r1, .int .u64 r2, .int .u64 r3, .int .u64 r4, .int .u64 r5, .int .u64 r6, .int .u64 r7, .int .u64 r8, .int .u64 r9, .int .u64 r10]] (.tup [.agg [.int .u64 (st 0 dst v r0), .int .u64 (st 1 dst v r1), .int .u64 (st 2 dst v r2), .int .u64 (st 3 dst v r3), .int .u64 (st 4 dst v r4), .int .u64 (st 5 dst v r5), .int .u64 (st 6 dst v r6), .int .u64 (st 7 dst v r7), .int .u64 (st 8 dst v r8), .int .u64 (st 9 dst v r9), .int .u64 (st 10 dst v r10)], m.d, .int .i64 ((l.map IrS.d).length : Int), .int .i64 0])) (h3 : Ret Tryz.prog 42 [.int .i8 op, .int .i8 width, .int .u64 (rg [r0, r1, r2, r3, r4, r5, r6, r7, r8, r9, r10] dst), .int .u64 (rg [r0, r1, r2, r3, r4, r5, r6, r7, r8, r9, r10] src)] (.tup [.int .u64 v, .int .i64 0]))  : Ret Tryz.prog 5 ([instD 0 op width 0 true dst src 0 imm, .agg [.int .u64 r0, .int .u64 r1, .int .u64 r2, .int .u64 r3, .int .u64 r4, .int .u64 r5, .int .u64 r6, .int .u64 r7, .int .u64 r8, .int .u64 r9, .int .u64 r10]]) (.bool true) := by
 have c0 := @refMay_ok 0 op width 0 true dst src 0 imm
 have c1 := @wakes18_ok
 exact (o5 (d := .bool true) ([tT, tT, .ret _ _ _ c0, tT, tF, tC (nt hm), .ret _ _ _ h1, tF, .ret _ _ _ h2, tT, .tst (decide (0 ≤ src ∧ src < (↑(11 : Nat) : Int))) true (by (simp only [sl2] at *; omega)), .get _ _ _ (@get_rg r0 r1 r2 r3 r4 r5 r6 r7 r8 r9 r10 src ([]) s0 s1), .tst (decide (0 ≤ dst ∧ dst < (↑(11 : Nat) : Int))) true (by (simp only [sl2] at *; omega)), .get _ _ _ (@get_rg r0 r1 r2 r3 r4 r5 r6 r7 r8 r9 r10 dst ([]) d0 d1), .ret _ _ _ h3, .tst (decide (0 ≤ dst ∧ dst < (↑(11 : Nat) : Int))) true (by (simp only [sl2] at *; omega)), .putA _ _ _ _ (@put_rg r0 r1 r2 r3 r4 r5 r6 r7 r8 r9 r10 dst v ([]) d0 d1)] ++ List.replicate 8 tT ++ List.replicate 3 (tC (eT (beq_self_eq_true ((↑(List.length (List.map IrS.d l)) : Int))))) ++ [.flat _ _ flat_R11, tC (beq_self_eq_true ((↑(List.length (List.map IrS.d l)) : Int))), tC (eT (andT (beq_self_eq_true (st 0 dst v r0)) (andT (beq_self_eq_true (st 1 dst v r1)) (andT (beq_self_eq_true (st 2 dst v r2)) (andT (beq_self_eq_true (st 3 dst v r3)) (andT (beq_self_eq_true (st 4 dst v r4)) (andT (beq_self_eq_true (st 5 dst v r5)) (andT (beq_self_eq_true (st 6 dst v r6)) (andT (beq_self_eq_true (st 7 dst v r7)) (andT (beq_self_eq_true (st 8 dst v r8)) (andT (beq_self_eq_true (st 9 dst v r9)) (andT (beq_self_eq_true (st 10 dst v r10)) (rfl : true = true))))))))))))), .ret _ _ _ c1, tC (andT (beq_self_eq_true (st 0 dst v r0)) (andT (beq_self_eq_true (st 1 dst v r1)) (andT (beq_self_eq_true (st 2 dst v r2)) (andT (beq_self_eq_true (st 3 dst v r3)) (andT (beq_self_eq_true (st 4 dst v r4)) (andT (beq_self_eq_true (st 5 dst v r5)) (andT (beq_self_eq_true (st 6 dst v r6)) (andT (beq_self_eq_true (st 7 dst v r7)) (andT (beq_self_eq_true (st 8 dst v r8)) (andT (beq_self_eq_true (st 9 dst v r9)) (andT (beq_self_eq_true (st 10 dst v r10)) (rfl : true = true))))))))))))]) (by kernel_rfl)).to (by simp [wk])
theorem right_false_ok (op width dst src imm : Int) (r0 r1 r2 r3 r4 r5 r6 r7 r8 r9 r10 : Int) (hm : mayM 0 op width 0 false dst src 0 imm = true) (d0 : 0 ≤ dst) (d1 : dst ≤ 10) (s0 : 0 ≤ src) (s1 : src ≤ 10) (l : List IrS) (m : MachS) (v : Int) (h1 : Ret Tryz.prog 41 [instD 0 op width 0 false dst src 0 imm] (.tup [.lst .no 13 (l.map IrS.d), .int .i64 0])) (h2 : Ret Tryz.prog 25 [.lst .no 13 (l.map IrS.d), .agg [.int .u64 r0, .int .u64 r1, .int .u64 r2, .int .u64 r3, .int .u64 r4, .int .u64 r5, .int .u64 r6, .int .u64 r7, .int .u64 r8, .int .u64 r9, .int .u64 r10]] (.tup [.agg [.int .u64 (st 0 dst v r0), .int .u64 (st 1 dst v r1), .int .u64 (st 2 dst v r2), .int .u64 (st 3 dst v r3), .int .u64 (st 4 dst v r4), .int .u64 (st 5 dst v r5), .int .u64 (st 6 dst v r6), .int .u64 (st 7 dst v r7), .int .u64 (st 8 dst v r8), .int .u64 (st 9 dst v r9), .int .u64 (st 10 dst v r10)], m.d, .int .i64 ((l.map IrS.d).length : Int), .int .i64 0])) (h3 : Ret Tryz.prog 42 [.int .i8 op, .int .i8 width, .int .u64 (rg [r0, r1, r2, r3, r4, r5, r6, r7, r8, r9, r10] dst), .int .u64 (IntKind.u64.wrap imm)] (.tup [.int .u64 v, .int .i64 0]))  : Ret Tryz.prog 5 ([instD 0 op width 0 false dst src 0 imm, .agg [.int .u64 r0, .int .u64 r1, .int .u64 r2, .int .u64 r3, .int .u64 r4, .int .u64 r5, .int .u64 r6, .int .u64 r7, .int .u64 r8, .int .u64 r9, .int .u64 r10]]) (.bool true) := by
 have c0 := @refMay_ok 0 op width 0 false dst src 0 imm
 have c1 := @wakes18_ok
 exact (o5 (d := .bool true) ([tT, tT, .ret _ _ _ c0, tT, tF, tC (nt hm), .ret _ _ _ h1, tF, .ret _ _ _ h2, tF, .tst (decide (0 ≤ dst ∧ dst < (↑(11 : Nat) : Int))) true (by (simp only [sl2] at *; omega)), .get _ _ _ (@get_rg r0 r1 r2 r3 r4 r5 r6 r7 r8 r9 r10 dst ([]) d0 d1), .ret _ _ _ h3, .tst (decide (0 ≤ dst ∧ dst < (↑(11 : Nat) : Int))) true (by (simp only [sl2] at *; omega)), .putA _ _ _ _ (@put_rg r0 r1 r2 r3 r4 r5 r6 r7 r8 r9 r10 dst v ([]) d0 d1)] ++ List.replicate 8 tT ++ List.replicate 3 (tC (eT (beq_self_eq_true ((↑(List.length (List.map IrS.d l)) : Int))))) ++ [.flat _ _ flat_R11, tC (beq_self_eq_true ((↑(List.length (List.map IrS.d l)) : Int))), tC (eT (andT (beq_self_eq_true (st 0 dst v r0)) (andT (beq_self_eq_true (st 1 dst v r1)) (andT (beq_self_eq_true (st 2 dst v r2)) (andT (beq_self_eq_true (st 3 dst v r3)) (andT (beq_self_eq_true (st 4 dst v r4)) (andT (beq_self_eq_true (st 5 dst v r5)) (andT (beq_self_eq_true (st 6 dst v r6)) (andT (beq_self_eq_true (st 7 dst v r7)) (andT (beq_self_eq_true (st 8 dst v r8)) (andT (beq_self_eq_true (st 9 dst v r9)) (andT (beq_self_eq_true (st 10 dst v r10)) (rfl : true = true))))))))))))), .ret _ _ _ c1, tC (andT (beq_self_eq_true (st 0 dst v r0)) (andT (beq_self_eq_true (st 1 dst v r1)) (andT (beq_self_eq_true (st 2 dst v r2)) (andT (beq_self_eq_true (st 3 dst v r3)) (andT (beq_self_eq_true (st 4 dst v r4)) (andT (beq_self_eq_true (st 5 dst v r5)) (andT (beq_self_eq_true (st 6 dst v r6)) (andT (beq_self_eq_true (st 7 dst v r7)) (andT (beq_self_eq_true (st 8 dst v r8)) (andT (beq_self_eq_true (st 9 dst v r9)) (andT (beq_self_eq_true (st 10 dst v r10)) (rfl : true = true))))))))))))]) (by kernel_rfl)).to (by simp [wk])
theorem right_k_ok (kind op width size : Int) (byReg : Bool) (dst src off imm : Int) (r0 r1 r2 r3 r4 r5 r6 r7 r8 r9 r10 : Int) (h : (kind == 0) = false) : Ret Tryz.prog 5 ([instD kind op width size byReg dst src off imm, .agg [.int .u64 r0, .int .u64 r1, .int .u64 r2, .int .u64 r3, .int .u64 r4, .int .u64 r5, .int .u64 r6, .int .u64 r7, .int .u64 r8, .int .u64 r9, .int .u64 r10]]) (.bool true) := by
 have c0 := @wakes18_ok
 exact (o5 (d := .bool true) (List.replicate 3 (tC (eF (nt h))) ++ [tC (nt h), tT, .ret _ _ _ c0]) (by kernel_rfl)).to (by simp [wk])
theorem right_m_ok (kind op width size : Int) (byReg : Bool) (dst src off imm : Int) (r0 r1 r2 r3 r4 r5 r6 r7 r8 r9 r10 : Int) (h : mayM kind op width size byReg dst src off imm = false) : Ret Tryz.prog 5 ([instD kind op width size byReg dst src off imm, .agg [.int .u64 r0, .int .u64 r1, .int .u64 r2, .int .u64 r3, .int .u64 r4, .int .u64 r5, .int .u64 r6, .int .u64 r7, .int .u64 r8, .int .u64 r9, .int .u64 r10]]) (.bool true) := by
 by_cases h0 : kind = 0
 ·subst h0
  have c1 := @refMay_ok 0 op width size byReg dst src off imm
  have c2 := @wakes18_ok
  exact (o5 (d := .bool true) [tT, tT, .ret _ _ _ c1, tT, tF, tC (nt h), .ret _ _ _ c2] (by kernel_rfl)).to (by simp [wk])
 have c3 := @wakes18_ok
 exact (o5 (d := .bool true) (List.replicate 3 (tC (eF (nt (neOf h0)))) ++ [tC (nt (neOf h0)), tT, .ret _ _ _ c3]) (by kernel_rfl)).to (by simp [wk])
end Go.Proofs.YtojgmjfcfpclbaaGreat

namespace Go.Proofs.YtojgmjfcfpclbaaGreat
open Go Go.Ev
set_option maxRecDepth 100000
set_option maxHeartbeats 8000000
def tab_XOf_0 : List D := [.int .i8 1, .int .u8 137, .int .i8 0, .int .i8 3, .int .u8 199, .int .i8 0, .int .i8 1, .int .u8 1, .int .i8 0, .int .i8 1, .int .u8 9, .int .i8 0, .int .i8 1, .int .u8 33, .int .i8 0, .int .i8 1, .int .u8 41, .int .i8 0, .int .i8 1, .int .u8 49, .int .i8 0, .int .i8 1, .int .u8 57, .int .i8 0, .int .i8 1, .int .u8 133, .int .i8 0, .int .i8 3, .int .u8 129, .int .i8 0, .int .i8 3, .int .u8 129, .int .i8 1, .int .i8 3, .int .u8 129, .int .i8 4, .int .i8 3, .int .u8 129, .int .i8 5, .int .i8 3, .int .u8 129, .int .i8 6, .int .i8 3, .int .u8 129, .int .i8 7, .int .i8 3, .int .u8 247, .int .i8 0, .int .i8 2, .int .u8 175, .int .i8 0, .int .i8 4, .int .u8 193, .int .i8 4, .int .i8 4, .int .u8 193, .int .i8 5, .int .i8 4, .int .u8 193, .int .i8 7, .int .i8 5, .int .u8 211, .int .i8 4, .int .i8 5, .int .u8 211, .int .i8 5, .int .i8 5, .int .u8 211, .int .i8 7, .int .i8 5, .int .u8 247, .int .i8 3, .int .i8 5, .int .u8 247, .int .i8 6, .int .i8 6, .int .u8 64, .int .i8 0, .int .i8 7, .int .u8 139, .int .i8 0, .int .i8 8, .int .u8 137, .int .i8 0, .int .i8 9, .int .u8 233, .int .i8 0, .int .i8 10, .int .u8 128, .int .i8 0, .int .i8 11, .int .u8 195, .int .i8 0, .int .i8 11, .int .u8 5, .int .i8 0]
theorem of_0_ok  : Ret Tryz.prog 96 ([.int .i8 0]) (.tup [.agg [.int .i8 (shapeM 0), .int .u8 (codeM 0), .int .i8 (numM 0)], .bool true]) := by
 exact (o96 (d := .tup [.agg [.int .i8 1, .int .u8 137, .int .i8 0], .bool true]) [.inl, tT, tT, tT, tF, tF, tT, .getA tab_XOf_0 0 3 ([.int .i8 1, .int .u8 137, .int .i8 0]) ⟨rfl, by decide⟩] (by kernel_rfl)).to (by simp [wk, wkL]; decide)
theorem of_1_ok  : Ret Tryz.prog 96 ([.int .i8 1]) (.tup [.agg [.int .i8 (shapeM 1), .int .u8 (codeM 1), .int .i8 (numM 1)], .bool true]) := by
 exact (o96 (d := .tup [.agg [.int .i8 3, .int .u8 199, .int .i8 0], .bool true]) [.inl, tT, tT, tT, tF, tF, tT, .getA tab_XOf_0 3 3 ([.int .i8 3, .int .u8 199, .int .i8 0]) ⟨rfl, by decide⟩] (by kernel_rfl)).to (by simp [wk, wkL]; decide)
theorem of_2_ok  : Ret Tryz.prog 96 ([.int .i8 2]) (.tup [.agg [.int .i8 (shapeM 2), .int .u8 (codeM 2), .int .i8 (numM 2)], .bool true]) := by
 exact (o96 (d := .tup [.agg [.int .i8 1, .int .u8 1, .int .i8 0], .bool true]) [.inl, tT, tT, tT, tF, tF, tT, .getA tab_XOf_0 6 3 ([.int .i8 1, .int .u8 1, .int .i8 0]) ⟨rfl, by decide⟩] (by kernel_rfl)).to (by simp [wk, wkL]; decide)
theorem of_3_ok  : Ret Tryz.prog 96 ([.int .i8 3]) (.tup [.agg [.int .i8 (shapeM 3), .int .u8 (codeM 3), .int .i8 (numM 3)], .bool true]) := by
 exact (o96 (d := .tup [.agg [.int .i8 1, .int .u8 9, .int .i8 0], .bool true]) [.inl, tT, tT, tT, tF, tF, tT, .getA tab_XOf_0 9 3 ([.int .i8 1, .int .u8 9, .int .i8 0]) ⟨rfl, by decide⟩] (by kernel_rfl)).to (by simp [wk, wkL]; decide)
theorem of_4_ok  : Ret Tryz.prog 96 ([.int .i8 4]) (.tup [.agg [.int .i8 (shapeM 4), .int .u8 (codeM 4), .int .i8 (numM 4)], .bool true]) := by
 exact (o96 (d := .tup [.agg [.int .i8 1, .int .u8 33, .int .i8 0], .bool true]) [.inl, tT, tT, tT, tF, tF, tT, .getA tab_XOf_0 12 3 ([.int .i8 1, .int .u8 33, .int .i8 0]) ⟨rfl, by decide⟩] (by kernel_rfl)).to (by simp [wk, wkL]; decide)
theorem of_5_ok  : Ret Tryz.prog 96 ([.int .i8 5]) (.tup [.agg [.int .i8 (shapeM 5), .int .u8 (codeM 5), .int .i8 (numM 5)], .bool true]) := by
 exact (o96 (d := .tup [.agg [.int .i8 1, .int .u8 41, .int .i8 0], .bool true]) [.inl, tT, tT, tT, tF, tF, tT, .getA tab_XOf_0 15 3 ([.int .i8 1, .int .u8 41, .int .i8 0]) ⟨rfl, by decide⟩] (by kernel_rfl)).to (by simp [wk, wkL]; decide)
theorem of_6_ok  : Ret Tryz.prog 96 ([.int .i8 6]) (.tup [.agg [.int .i8 (shapeM 6), .int .u8 (codeM 6), .int .i8 (numM 6)], .bool true]) := by
 exact (o96 (d := .tup [.agg [.int .i8 1, .int .u8 49, .int .i8 0], .bool true]) [.inl, tT, tT, tT, tF, tF, tT, .getA tab_XOf_0 18 3 ([.int .i8 1, .int .u8 49, .int .i8 0]) ⟨rfl, by decide⟩] (by kernel_rfl)).to (by simp [wk, wkL]; decide)
theorem of_7_ok  : Ret Tryz.prog 96 ([.int .i8 7]) (.tup [.agg [.int .i8 (shapeM 7), .int .u8 (codeM 7), .int .i8 (numM 7)], .bool true]) := by
 exact (o96 (d := .tup [.agg [.int .i8 1, .int .u8 57, .int .i8 0], .bool true]) [.inl, tT, tT, tT, tF, tF, tT, .getA tab_XOf_0 21 3 ([.int .i8 1, .int .u8 57, .int .i8 0]) ⟨rfl, by decide⟩] (by kernel_rfl)).to (by simp [wk, wkL]; decide)
theorem of_8_ok  : Ret Tryz.prog 96 ([.int .i8 8]) (.tup [.agg [.int .i8 (shapeM 8), .int .u8 (codeM 8), .int .i8 (numM 8)], .bool true]) := by
 exact (o96 (d := .tup [.agg [.int .i8 1, .int .u8 133, .int .i8 0], .bool true]) [.inl, tT, tT, tT, tF, tF, tT, .getA tab_XOf_0 24 3 ([.int .i8 1, .int .u8 133, .int .i8 0]) ⟨rfl, by decide⟩] (by kernel_rfl)).to (by simp [wk, wkL]; decide)
theorem of_9_ok  : Ret Tryz.prog 96 ([.int .i8 9]) (.tup [.agg [.int .i8 (shapeM 9), .int .u8 (codeM 9), .int .i8 (numM 9)], .bool true]) := by
 exact (o96 (d := .tup [.agg [.int .i8 3, .int .u8 129, .int .i8 0], .bool true]) [.inl, tT, tT, tT, tF, tF, tT, .getA tab_XOf_0 27 3 ([.int .i8 3, .int .u8 129, .int .i8 0]) ⟨rfl, by decide⟩] (by kernel_rfl)).to (by simp [wk, wkL]; decide)
theorem of_10_ok  : Ret Tryz.prog 96 ([.int .i8 10]) (.tup [.agg [.int .i8 (shapeM 10), .int .u8 (codeM 10), .int .i8 (numM 10)], .bool true]) := by
 exact (o96 (d := .tup [.agg [.int .i8 3, .int .u8 129, .int .i8 1], .bool true]) [.inl, tT, tT, tT, tF, tF, tT, .getA tab_XOf_0 30 3 ([.int .i8 3, .int .u8 129, .int .i8 1]) ⟨rfl, by decide⟩] (by kernel_rfl)).to (by simp [wk, wkL]; decide)
theorem of_11_ok  : Ret Tryz.prog 96 ([.int .i8 11]) (.tup [.agg [.int .i8 (shapeM 11), .int .u8 (codeM 11), .int .i8 (numM 11)], .bool true]) := by
 exact (o96 (d := .tup [.agg [.int .i8 3, .int .u8 129, .int .i8 4], .bool true]) [.inl, tT, tT, tT, tF, tF, tT, .getA tab_XOf_0 33 3 ([.int .i8 3, .int .u8 129, .int .i8 4]) ⟨rfl, by decide⟩] (by kernel_rfl)).to (by simp [wk, wkL]; decide)
theorem of_12_ok  : Ret Tryz.prog 96 ([.int .i8 12]) (.tup [.agg [.int .i8 (shapeM 12), .int .u8 (codeM 12), .int .i8 (numM 12)], .bool true]) := by
 exact (o96 (d := .tup [.agg [.int .i8 3, .int .u8 129, .int .i8 5], .bool true]) [.inl, tT, tT, tT, tF, tF, tT, .getA tab_XOf_0 36 3 ([.int .i8 3, .int .u8 129, .int .i8 5]) ⟨rfl, by decide⟩] (by kernel_rfl)).to (by simp [wk, wkL]; decide)
theorem of_13_ok  : Ret Tryz.prog 96 ([.int .i8 13]) (.tup [.agg [.int .i8 (shapeM 13), .int .u8 (codeM 13), .int .i8 (numM 13)], .bool true]) := by
 exact (o96 (d := .tup [.agg [.int .i8 3, .int .u8 129, .int .i8 6], .bool true]) [.inl, tT, tT, tT, tF, tF, tT, .getA tab_XOf_0 39 3 ([.int .i8 3, .int .u8 129, .int .i8 6]) ⟨rfl, by decide⟩] (by kernel_rfl)).to (by simp [wk, wkL]; decide)
theorem of_14_ok  : Ret Tryz.prog 96 ([.int .i8 14]) (.tup [.agg [.int .i8 (shapeM 14), .int .u8 (codeM 14), .int .i8 (numM 14)], .bool true]) := by
 exact (o96 (d := .tup [.agg [.int .i8 3, .int .u8 129, .int .i8 7], .bool true]) [.inl, tT, tT, tT, tF, tF, tT, .getA tab_XOf_0 42 3 ([.int .i8 3, .int .u8 129, .int .i8 7]) ⟨rfl, by decide⟩] (by kernel_rfl)).to (by simp [wk, wkL]; decide)
theorem of_15_ok  : Ret Tryz.prog 96 ([.int .i8 15]) (.tup [.agg [.int .i8 (shapeM 15), .int .u8 (codeM 15), .int .i8 (numM 15)], .bool true]) := by
 exact (o96 (d := .tup [.agg [.int .i8 3, .int .u8 247, .int .i8 0], .bool true]) [.inl, tT, tT, tT, tF, tF, tT, .getA tab_XOf_0 45 3 ([.int .i8 3, .int .u8 247, .int .i8 0]) ⟨rfl, by decide⟩] (by kernel_rfl)).to (by simp [wk, wkL]; decide)
theorem of_16_ok  : Ret Tryz.prog 96 ([.int .i8 16]) (.tup [.agg [.int .i8 (shapeM 16), .int .u8 (codeM 16), .int .i8 (numM 16)], .bool true]) := by
 exact (o96 (d := .tup [.agg [.int .i8 2, .int .u8 175, .int .i8 0], .bool true]) [.inl, tT, tT, tT, tF, tF, tT, .getA tab_XOf_0 48 3 ([.int .i8 2, .int .u8 175, .int .i8 0]) ⟨rfl, by decide⟩] (by kernel_rfl)).to (by simp [wk, wkL]; decide)
theorem of_17_ok  : Ret Tryz.prog 96 ([.int .i8 17]) (.tup [.agg [.int .i8 (shapeM 17), .int .u8 (codeM 17), .int .i8 (numM 17)], .bool true]) := by
 exact (o96 (d := .tup [.agg [.int .i8 4, .int .u8 193, .int .i8 4], .bool true]) [.inl, tT, tT, tT, tF, tF, tT, .getA tab_XOf_0 51 3 ([.int .i8 4, .int .u8 193, .int .i8 4]) ⟨rfl, by decide⟩] (by kernel_rfl)).to (by simp [wk, wkL]; decide)
theorem of_18_ok  : Ret Tryz.prog 96 ([.int .i8 18]) (.tup [.agg [.int .i8 (shapeM 18), .int .u8 (codeM 18), .int .i8 (numM 18)], .bool true]) := by
 exact (o96 (d := .tup [.agg [.int .i8 4, .int .u8 193, .int .i8 5], .bool true]) [.inl, tT, tT, tT, tF, tF, tT, .getA tab_XOf_0 54 3 ([.int .i8 4, .int .u8 193, .int .i8 5]) ⟨rfl, by decide⟩] (by kernel_rfl)).to (by simp [wk, wkL]; decide)
theorem of_19_ok  : Ret Tryz.prog 96 ([.int .i8 19]) (.tup [.agg [.int .i8 (shapeM 19), .int .u8 (codeM 19), .int .i8 (numM 19)], .bool true]) := by
 exact (o96 (d := .tup [.agg [.int .i8 4, .int .u8 193, .int .i8 7], .bool true]) [.inl, tT, tT, tT, tF, tF, tT, .getA tab_XOf_0 57 3 ([.int .i8 4, .int .u8 193, .int .i8 7]) ⟨rfl, by decide⟩] (by kernel_rfl)).to (by simp [wk, wkL]; decide)
theorem of_20_ok  : Ret Tryz.prog 96 ([.int .i8 20]) (.tup [.agg [.int .i8 (shapeM 20), .int .u8 (codeM 20), .int .i8 (numM 20)], .bool true]) := by
 exact (o96 (d := .tup [.agg [.int .i8 5, .int .u8 211, .int .i8 4], .bool true]) [.inl, tT, tT, tT, tF, tF, tT, .getA tab_XOf_0 60 3 ([.int .i8 5, .int .u8 211, .int .i8 4]) ⟨rfl, by decide⟩] (by kernel_rfl)).to (by simp [wk, wkL]; decide)
theorem of_21_ok  : Ret Tryz.prog 96 ([.int .i8 21]) (.tup [.agg [.int .i8 (shapeM 21), .int .u8 (codeM 21), .int .i8 (numM 21)], .bool true]) := by
 exact (o96 (d := .tup [.agg [.int .i8 5, .int .u8 211, .int .i8 5], .bool true]) [.inl, tT, tT, tT, tF, tF, tT, .getA tab_XOf_0 63 3 ([.int .i8 5, .int .u8 211, .int .i8 5]) ⟨rfl, by decide⟩] (by kernel_rfl)).to (by simp [wk, wkL]; decide)
theorem of_22_ok  : Ret Tryz.prog 96 ([.int .i8 22]) (.tup [.agg [.int .i8 (shapeM 22), .int .u8 (codeM 22), .int .i8 (numM 22)], .bool true]) := by
 exact (o96 (d := .tup [.agg [.int .i8 5, .int .u8 211, .int .i8 7], .bool true]) [.inl, tT, tT, tT, tF, tF, tT, .getA tab_XOf_0 66 3 ([.int .i8 5, .int .u8 211, .int .i8 7]) ⟨rfl, by decide⟩] (by kernel_rfl)).to (by simp [wk, wkL]; decide)
theorem of_23_ok  : Ret Tryz.prog 96 ([.int .i8 23]) (.tup [.agg [.int .i8 (shapeM 23), .int .u8 (codeM 23), .int .i8 (numM 23)], .bool true]) := by
 exact (o96 (d := .tup [.agg [.int .i8 5, .int .u8 247, .int .i8 3], .bool true]) [.inl, tT, tT, tT, tF, tF, tT, .getA tab_XOf_0 69 3 ([.int .i8 5, .int .u8 247, .int .i8 3]) ⟨rfl, by decide⟩] (by kernel_rfl)).to (by simp [wk, wkL]; decide)
theorem of_24_ok  : Ret Tryz.prog 96 ([.int .i8 24]) (.tup [.agg [.int .i8 (shapeM 24), .int .u8 (codeM 24), .int .i8 (numM 24)], .bool true]) := by
 exact (o96 (d := .tup [.agg [.int .i8 5, .int .u8 247, .int .i8 6], .bool true]) [.inl, tT, tT, tT, tF, tF, tT, .getA tab_XOf_0 72 3 ([.int .i8 5, .int .u8 247, .int .i8 6]) ⟨rfl, by decide⟩] (by kernel_rfl)).to (by simp [wk, wkL]; decide)
theorem of_25_ok  : Ret Tryz.prog 96 ([.int .i8 25]) (.tup [.agg [.int .i8 (shapeM 25), .int .u8 (codeM 25), .int .i8 (numM 25)], .bool true]) := by
 exact (o96 (d := .tup [.agg [.int .i8 6, .int .u8 64, .int .i8 0], .bool true]) [.inl, tT, tT, tT, tF, tF, tT, .getA tab_XOf_0 75 3 ([.int .i8 6, .int .u8 64, .int .i8 0]) ⟨rfl, by decide⟩] (by kernel_rfl)).to (by simp [wk, wkL]; decide)
theorem of_26_ok  : Ret Tryz.prog 96 ([.int .i8 26]) (.tup [.agg [.int .i8 (shapeM 26), .int .u8 (codeM 26), .int .i8 (numM 26)], .bool true]) := by
 exact (o96 (d := .tup [.agg [.int .i8 7, .int .u8 139, .int .i8 0], .bool true]) [.inl, tT, tT, tT, tF, tF, tT, .getA tab_XOf_0 78 3 ([.int .i8 7, .int .u8 139, .int .i8 0]) ⟨rfl, by decide⟩] (by kernel_rfl)).to (by simp [wk, wkL]; decide)
theorem of_27_ok  : Ret Tryz.prog 96 ([.int .i8 27]) (.tup [.agg [.int .i8 (shapeM 27), .int .u8 (codeM 27), .int .i8 (numM 27)], .bool true]) := by
 exact (o96 (d := .tup [.agg [.int .i8 8, .int .u8 137, .int .i8 0], .bool true]) [.inl, tT, tT, tT, tF, tF, tT, .getA tab_XOf_0 81 3 ([.int .i8 8, .int .u8 137, .int .i8 0]) ⟨rfl, by decide⟩] (by kernel_rfl)).to (by simp [wk, wkL]; decide)
theorem of_28_ok  : Ret Tryz.prog 96 ([.int .i8 28]) (.tup [.agg [.int .i8 (shapeM 28), .int .u8 (codeM 28), .int .i8 (numM 28)], .bool true]) := by
 exact (o96 (d := .tup [.agg [.int .i8 9, .int .u8 233, .int .i8 0], .bool true]) [.inl, tT, tT, tT, tF, tF, tT, .getA tab_XOf_0 84 3 ([.int .i8 9, .int .u8 233, .int .i8 0]) ⟨rfl, by decide⟩] (by kernel_rfl)).to (by simp [wk, wkL]; decide)
theorem of_29_ok  : Ret Tryz.prog 96 ([.int .i8 29]) (.tup [.agg [.int .i8 (shapeM 29), .int .u8 (codeM 29), .int .i8 (numM 29)], .bool true]) := by
 exact (o96 (d := .tup [.agg [.int .i8 10, .int .u8 128, .int .i8 0], .bool true]) [.inl, tT, tT, tT, tF, tF, tT, .getA tab_XOf_0 87 3 ([.int .i8 10, .int .u8 128, .int .i8 0]) ⟨rfl, by decide⟩] (by kernel_rfl)).to (by simp [wk, wkL]; decide)
theorem of_30_ok  : Ret Tryz.prog 96 ([.int .i8 30]) (.tup [.agg [.int .i8 (shapeM 30), .int .u8 (codeM 30), .int .i8 (numM 30)], .bool true]) := by
 exact (o96 (d := .tup [.agg [.int .i8 11, .int .u8 195, .int .i8 0], .bool true]) [.inl, tT, tT, tT, tF, tF, tT, .getA tab_XOf_0 90 3 ([.int .i8 11, .int .u8 195, .int .i8 0]) ⟨rfl, by decide⟩] (by kernel_rfl)).to (by simp [wk, wkL]; decide)
theorem of_31_ok  : Ret Tryz.prog 96 ([.int .i8 31]) (.tup [.agg [.int .i8 (shapeM 31), .int .u8 (codeM 31), .int .i8 (numM 31)], .bool true]) := by
 exact (o96 (d := .tup [.agg [.int .i8 11, .int .u8 5, .int .i8 0], .bool true]) [.inl, tT, tT, tT, tF, tF, tT, .getA tab_XOf_0 93 3 ([.int .i8 11, .int .u8 5, .int .i8 0]) ⟨rfl, by decide⟩] (by kernel_rfl)).to (by simp [wk, wkL]; decide)
theorem of_low_ok (op : Int) (h : op < 0) : Ret Tryz.prog 96 ([.int .i8 op]) (.tup [.agg [.int .i8 0, .int .u8 0, .int .i8 0], .bool false]) := by
 exact (o96 (d := .tup [.agg [.int .i8 0, .int .u8 0, .int .i8 0], .bool false]) ([.inl] ++ List.replicate 3 (tC (eF (decide_eq_true h))) ++ [tC (decide_eq_true h), tT]) (by kernel_rfl)).to (by simp [wk, wkL])
theorem of_high_ok (op : Int) (h : 32 ≤ op) (ho : op ≤ 127) : Ret Tryz.prog 96 ([.int .i8 op]) (.tup [.agg [.int .i8 0, .int .u8 0, .int .i8 0], .bool false]) := by
 exact (o96 (d := .tup [.agg [.int .i8 0, .int .u8 0, .int .i8 0], .bool false]) ([.inl] ++ List.replicate 3 (tC (eF (ltD 0 (decide_eq_false (Int.not_lt.2 h))))) ++ [tC (ltD 0 (decide_eq_false (Int.not_lt.2 h))), tC (leL 32 (by (simp only [sl2] at *; omega) : (decide (IntKind.wrap IntKind.i64 op < 32)) = false))]) (by kernel_rfl)).to (by simp [wk, wkL])
theorem reg_ok (n : Int) : Ret Tryz.prog 98 ([.int .i8 n]) (.bool (regM n)) := by
 rcases bft (decide (n < 0)) with h0 | h0
 ·exact (o98 (d := .bool false) [tC (eT (leL 0 h0)), tC (eT (leL 0 h0)), tC (leL 0 h0)] (by kernel_rfl)).to (by (try simp only [sl0, wk, wkL, wkO, eqCells, eqCell, regM, ccM, widthM, longM] at *); first | (simp [wk, wkL, wkO, eqCells, eqCell, regM, ccM, widthM, longM, *]; done) | (simp [wk, wkL, wkO, eqCells, eqCell, regM, ccM, widthM, longM, *]; omega) | (rw [Bool.eq_iff_iff]; simp [wk, wkL, wkO, eqCells, eqCell, regM, ccM, widthM, longM, *]; done) | (rw [Bool.eq_iff_iff]; simp [wk, wkL, wkO, eqCells, eqCell, regM, ccM, widthM, longM, *]; omega) | (rw [Bool.eq_iff_iff]; simp [wk, wkL, wkO, eqCells, eqCell, regM, ccM, widthM, longM, *]; grind) | (subst_vars; rw [Bool.eq_iff_iff]; simp; grind))
 exact (o98 (d := .bool (decide (n < 16))) [tC (eT (leL 0 h0)), tC (eT (leL 0 h0)), tC (leL 0 h0)] (by kernel_rfl)).to (by (try simp only [sl0, wk, wkL, wkO, eqCells, eqCell, regM, ccM, widthM, longM] at *); first | (simp [wk, wkL, wkO, eqCells, eqCell, regM, ccM, widthM, longM, *]; done) | (simp [wk, wkL, wkO, eqCells, eqCell, regM, ccM, widthM, longM, *]; omega) | (rw [Bool.eq_iff_iff]; simp [wk, wkL, wkO, eqCells, eqCell, regM, ccM, widthM, longM, *]; done) | (rw [Bool.eq_iff_iff]; simp [wk, wkL, wkO, eqCells, eqCell, regM, ccM, widthM, longM, *]; omega) | (rw [Bool.eq_iff_iff]; simp [wk, wkL, wkO, eqCells, eqCell, regM, ccM, widthM, longM, *]; grind) | (subst_vars; rw [Bool.eq_iff_iff]; simp; grind))
theorem cond_ok (n : Int) : Ret Tryz.prog 100 ([.int .i8 n]) (.bool (ccM n)) := by
 rcases bft (decide (n < 2)) with h0 | h0
 ·exact (o100 (d := .bool false) [tC (eT (leL 2 h0)), tC (eT (leL 2 h0)), tC (leL 2 h0), tT, tT, tT, tC (eT (leL 12 (ltU 12 h0))), tC (eT (leL 12 (ltU 12 h0))), tT, tC (leL 12 (ltU 12 h0)), tF] (by kernel_rfl)).to (by (try simp only [sl0, wk, wkL, wkO, eqCells, eqCell, regM, ccM, widthM, longM] at *); first | (simp [wk, wkL, wkO, eqCells, eqCell, regM, ccM, widthM, longM, *]; done) | (simp [wk, wkL, wkO, eqCells, eqCell, regM, ccM, widthM, longM, *]; omega) | (rw [Bool.eq_iff_iff]; simp [wk, wkL, wkO, eqCells, eqCell, regM, ccM, widthM, longM, *]; done) | (rw [Bool.eq_iff_iff]; simp [wk, wkL, wkO, eqCells, eqCell, regM, ccM, widthM, longM, *]; omega) | (rw [Bool.eq_iff_iff]; simp [wk, wkL, wkO, eqCells, eqCell, regM, ccM, widthM, longM, *]; grind) | (subst_vars; rw [Bool.eq_iff_iff]; simp; grind))
 let E1 : EL := [tC (eT (leL 2 h0)), tC (eT (leL 2 h0)), tC (leL 2 h0)]
 rcases bft (decide (n < 8)) with h1 | h1
 ·exact (o100 (d := .bool true) (E1 ++ List.replicate 4 (tC (eF (leC 7 h1))) ++ [tC (leC 7 h1)]) (by kernel_rfl)).to (by clear E1; (try simp only [sl0, wk, wkL, wkO, eqCells, eqCell, regM, ccM, widthM, longM] at *); first | (simp [wk, wkL, wkO, eqCells, eqCell, regM, ccM, widthM, longM, *]; done) | (simp [wk, wkL, wkO, eqCells, eqCell, regM, ccM, widthM, longM, *]; omega) | (rw [Bool.eq_iff_iff]; simp [wk, wkL, wkO, eqCells, eqCell, regM, ccM, widthM, longM, *]; done) | (rw [Bool.eq_iff_iff]; simp [wk, wkL, wkO, eqCells, eqCell, regM, ccM, widthM, longM, *]; omega) | (rw [Bool.eq_iff_iff]; simp [wk, wkL, wkO, eqCells, eqCell, regM, ccM, widthM, longM, *]; grind) | (subst_vars; rw [Bool.eq_iff_iff]; simp; grind))
 rcases bft (decide (n < 12)) with h2 | h2
 ·exact (o100 (d := .bool false) (E1 ++ List.replicate 3 (tC (eF (leC 7 h1))) ++ [tC (eT (leL 12 h2)), tC (eT (leL 12 h2)), tC (eF (leC 7 h1)), tC (leL 12 h2), tC (leC 7 h1)]) (by kernel_rfl)).to (by clear E1; (try simp only [sl0, wk, wkL, wkO, eqCells, eqCell, regM, ccM, widthM, longM] at *); first | (simp [wk, wkL, wkO, eqCells, eqCell, regM, ccM, widthM, longM, *]; done) | (simp [wk, wkL, wkO, eqCells, eqCell, regM, ccM, widthM, longM, *]; omega) | (rw [Bool.eq_iff_iff]; simp [wk, wkL, wkO, eqCells, eqCell, regM, ccM, widthM, longM, *]; done) | (rw [Bool.eq_iff_iff]; simp [wk, wkL, wkO, eqCells, eqCell, regM, ccM, widthM, longM, *]; omega) | (rw [Bool.eq_iff_iff]; simp [wk, wkL, wkO, eqCells, eqCell, regM, ccM, widthM, longM, *]; grind) | (subst_vars; rw [Bool.eq_iff_iff]; simp; grind))
 exact (o100 (d := .bool (decide (n ≤ 15))) (E1 ++ List.replicate 3 (tC (eF (leC 7 h1))) ++ [tC (eT (leL 12 h2)), tC (eT (leL 12 h2)), tC (eF (leC 7 h1)), tC (leL 12 h2), tC (leC 7 h1)]) (by kernel_rfl)).to (by clear E1; (try simp only [sl0, wk, wkL, wkO, eqCells, eqCell, regM, ccM, widthM, longM] at *); first | (simp [wk, wkL, wkO, eqCells, eqCell, regM, ccM, widthM, longM, *]; done) | (simp [wk, wkL, wkO, eqCells, eqCell, regM, ccM, widthM, longM, *]; omega) | (rw [Bool.eq_iff_iff]; simp [wk, wkL, wkO, eqCells, eqCell, regM, ccM, widthM, longM, *]; done) | (rw [Bool.eq_iff_iff]; simp [wk, wkL, wkO, eqCells, eqCell, regM, ccM, widthM, longM, *]; omega) | (rw [Bool.eq_iff_iff]; simp [wk, wkL, wkO, eqCells, eqCell, regM, ccM, widthM, longM, *]; grind) | (subst_vars; rw [Bool.eq_iff_iff]; simp; grind))
theorem within_ok (n a b : Int) : Ret Tryz.prog 99 ([.int .i64 n, .int .i64 a, .int .i64 b]) (.bool (decide (a ≤ n) && decide (n ≤ b))) := by
 rcases bft (decide (n ≥ a)) with h0 | h0
 ·exact (o99 (d := .bool (decide (n ≤ b))) [tC (eT h0), tC (eT h0), tC (eT h0), tC h0] (by kernel_rfl)).to (by (try simp only [sl0, wk, wkL, wkO, eqCells, eqCell, regM, ccM, widthM, longM] at *); (simp [wk, wkL, wkO, eqCells, eqCell, regM, ccM, widthM, longM, *]; done))
 exact (o99 (d := .bool false) [tC (eT h0), tC (eT h0), tC (eT h0), tC h0] (by kernel_rfl)).to (by (try simp only [sl0, wk, wkL, wkO, eqCells, eqCell, regM, ccM, widthM, longM] at *); (simp [wk, wkL, wkO, eqCells, eqCell, regM, ccM, widthM, longM, *]; done))
theorem width_ok (n : Int) : Ret Tryz.prog 101 ([.int .i8 n]) (.bool (widthM n)) := by
 by_cases h0 : n = 8
 ·subst h0
  exact (o101 (d := .bool true) [tT, tT] (by kernel_rfl)).to (by (try simp only [sl0, wk, wkL, wkO, eqCells, eqCell, regM, ccM, widthM, longM] at *); (simp [wk, wkL, wkO, eqCells, eqCell, regM, ccM, widthM, longM, *]; done))
 by_cases h1 : n = 16
 ·subst h1
  exact (o101 (d := .bool true) [tC (neOf h0), tT, tT] (by kernel_rfl)).to (by (try simp only [sl0, wk, wkL, wkO, eqCells, eqCell, regM, ccM, widthM, longM] at *); (simp [wk, wkL, wkO, eqCells, eqCell, regM, ccM, widthM, longM, *]; done))
 by_cases h2 : n = 32
 ·subst h2
  exact (o101 (d := .bool true) [tC (neOf h0), tC (neOf h1), tT, tT] (by kernel_rfl)).to (by (try simp only [sl0, wk, wkL, wkO, eqCells, eqCell, regM, ccM, widthM, longM] at *); (simp [wk, wkL, wkO, eqCells, eqCell, regM, ccM, widthM, longM, *]; done))
 by_cases h3 : n = 64
 ·subst h3
  exact (o101 (d := .bool true) [tC (neOf h0), tC (neOf h1), tC (neOf h2), tT] (by kernel_rfl)).to (by (try simp only [sl0, wk, wkL, wkO, eqCells, eqCell, regM, ccM, widthM, longM] at *); (simp [wk, wkL, wkO, eqCells, eqCell, regM, ccM, widthM, longM, *]; done))
 exact (o101 (d := .bool false) [tC (neOf h0), tC (neOf h1), tC (neOf h2), tC (neOf h3)] (by kernel_rfl)).to (by (try simp only [sl0, wk, wkL, wkO, eqCells, eqCell, regM, ccM, widthM, longM] at *); (simp [wk, wkL, wkO, eqCells, eqCell, regM, ccM, widthM, longM, *]; done))
theorem rwidth_ok (n : Int) : Ret Tryz.prog 117 ([.int .i8 n]) (.bool (widthM n)) := by
 by_cases h0 : n = 8
 ·subst h0
  exact (o117 (d := .bool true) [tF, tF, tT, tF, tF, tT, tF, tF, tT] (by kernel_rfl)).to (by (try simp only [sl0, wk, wkL, wkO, eqCells, eqCell, regM, ccM, widthM, longM] at *); first | (simp [wk, wkL, wkO, eqCells, eqCell, regM, ccM, widthM, longM, *]; done) | (simp [wk, wkL, wkO, eqCells, eqCell, regM, ccM, widthM, longM, *]; omega) | (rw [Bool.eq_iff_iff]; simp [wk, wkL, wkO, eqCells, eqCell, regM, ccM, widthM, longM, *]; done) | (rw [Bool.eq_iff_iff]; simp [wk, wkL, wkO, eqCells, eqCell, regM, ccM, widthM, longM, *]; omega) | (rw [Bool.eq_iff_iff]; simp [wk, wkL, wkO, eqCells, eqCell, regM, ccM, widthM, longM, *]; grind) | (subst_vars; rw [Bool.eq_iff_iff]; simp; grind))
 let E1 : EL := [tC (eF (neOf h0)), tC (eF (neOf h0)), tC (neOf h0)]
 by_cases h1 : n = 16
 ·subst h1
  exact (o117 (d := .bool true) (E1 ++ [tF, tF, tT, tF, tF, tT]) (by kernel_rfl)).to (by clear E1; (try simp only [sl0, wk, wkL, wkO, eqCells, eqCell, regM, ccM, widthM, longM] at *); first | (simp [wk, wkL, wkO, eqCells, eqCell, regM, ccM, widthM, longM, *]; done) | (simp [wk, wkL, wkO, eqCells, eqCell, regM, ccM, widthM, longM, *]; omega) | (rw [Bool.eq_iff_iff]; simp [wk, wkL, wkO, eqCells, eqCell, regM, ccM, widthM, longM, *]; done) | (rw [Bool.eq_iff_iff]; simp [wk, wkL, wkO, eqCells, eqCell, regM, ccM, widthM, longM, *]; omega) | (rw [Bool.eq_iff_iff]; simp [wk, wkL, wkO, eqCells, eqCell, regM, ccM, widthM, longM, *]; grind) | (subst_vars; rw [Bool.eq_iff_iff]; simp; grind))
 by_cases h2 : n = 32
 ·subst h2
  exact (o117 (d := .bool true) (E1 ++ [tC (eF (neOf h1)), tC (eF (neOf h1)), tC (neOf h1), tF, tF, tT]) (by kernel_rfl)).to (by clear E1; (try simp only [sl0, wk, wkL, wkO, eqCells, eqCell, regM, ccM, widthM, longM] at *); first | (simp [wk, wkL, wkO, eqCells, eqCell, regM, ccM, widthM, longM, *]; done) | (simp [wk, wkL, wkO, eqCells, eqCell, regM, ccM, widthM, longM, *]; omega) | (rw [Bool.eq_iff_iff]; simp [wk, wkL, wkO, eqCells, eqCell, regM, ccM, widthM, longM, *]; done) | (rw [Bool.eq_iff_iff]; simp [wk, wkL, wkO, eqCells, eqCell, regM, ccM, widthM, longM, *]; omega) | (rw [Bool.eq_iff_iff]; simp [wk, wkL, wkO, eqCells, eqCell, regM, ccM, widthM, longM, *]; grind) | (subst_vars; rw [Bool.eq_iff_iff]; simp; grind))
 exact (o117 (d := .bool (n == 64)) (E1 ++ [tC (eF (neOf h1)), tC (eF (neOf h1)), tC (neOf h1), tC (eF (neOf h2)), tC (eF (neOf h2)), tC (neOf h2)]) (by kernel_rfl)).to (by clear E1; (try simp only [sl0, wk, wkL, wkO, eqCells, eqCell, regM, ccM, widthM, longM] at *); first | (simp [wk, wkL, wkO, eqCells, eqCell, regM, ccM, widthM, longM, *]; done) | (simp [wk, wkL, wkO, eqCells, eqCell, regM, ccM, widthM, longM, *]; omega) | (rw [Bool.eq_iff_iff]; simp [wk, wkL, wkO, eqCells, eqCell, regM, ccM, widthM, longM, *]; done) | (rw [Bool.eq_iff_iff]; simp [wk, wkL, wkO, eqCells, eqCell, regM, ccM, widthM, longM, *]; omega) | (rw [Bool.eq_iff_iff]; simp [wk, wkL, wkO, eqCells, eqCell, regM, ccM, widthM, longM, *]; grind) | (subst_vars; rw [Bool.eq_iff_iff]; simp; grind))
theorem bareL_1_ok (op w dst src base disp imm cc : Int) : Ret Tryz.prog 97 ([xD op w dst src base disp imm cc, .int .i8 1]) (xD 0 0 0 0 base disp imm cc) := by
 let E1 : EL := [tT, tT, tT, tT, tF, tF, .flat _ _ flat_X]
 by_cases h0 : base = 0
 ·subst h0
  by_cases h1 : disp = 0
  ·subst h1
   by_cases h2 : imm = 0
   ·subst h2
    by_cases h3 : cc = 0
    ·subst h3
     exact (o97 (d := (xD 0 0 0 0 0 0 0 0)) (E1 ++ [tF]) (by kernel_rfl)).to (by clear E1; (simp [wk, wkL, ]; done))
    exact (o97 (d := (xD 0 0 0 0 0 0 0 cc)) (E1 ++ [tC (nt (andT rfl (andT rfl (andT rfl (andT rfl (andT rfl (andT rfl (andT rfl (andF (y := true) (neOf h3))))))))))]) (by kernel_rfl)).to (by clear E1; (simp [wk, wkL, h3]; done))
   exact (o97 (d := (xD 0 0 0 0 0 0 imm cc)) (E1 ++ [tC (nt (andT rfl (andT rfl (andT rfl (andT rfl (andT rfl (andT rfl (andF (y := eqCells [.int .i8 cc] [.int .i8 0]) (neOf h2)))))))))]) (by kernel_rfl)).to (by clear E1; (simp [wk, wkL, h2]; done))
  exact (o97 (d := (xD 0 0 0 0 0 disp imm cc)) (E1 ++ [tC (nt (andT rfl (andT rfl (andT rfl (andT rfl (andT rfl (andF (y := eqCells [.int .i64 imm, .int .i8 cc] [.int .i64 0, .int .i8 0]) (neOf h1))))))))]) (by kernel_rfl)).to (by clear E1; (simp [wk, wkL, h1]; done))
 exact (o97 (d := (xD 0 0 0 0 base disp imm cc)) (E1 ++ [tC (nt (andT rfl (andT rfl (andT rfl (andT rfl (andF (y := eqCells [.int .i64 disp, .int .i64 imm, .int .i8 cc] [.int .i64 0, .int .i64 0, .int .i8 0]) (neOf h0)))))))]) (by kernel_rfl)).to (by clear E1; (simp [wk, wkL, h0]; done))
theorem bareL_2_ok (op w dst src base disp imm cc : Int) : Ret Tryz.prog 97 ([xD op w dst src base disp imm cc, .int .i8 2]) (xD 0 0 0 0 base disp imm cc) := by
 let E1 : EL := [tF, tT, tT, tT, tT, tF, tF, .flat _ _ flat_X]
 by_cases h0 : base = 0
 ·subst h0
  by_cases h1 : disp = 0
  ·subst h1
   by_cases h2 : imm = 0
   ·subst h2
    by_cases h3 : cc = 0
    ·subst h3
     exact (o97 (d := (xD 0 0 0 0 0 0 0 0)) (E1 ++ [tF]) (by kernel_rfl)).to (by clear E1; (simp [wk, wkL, ]; done))
    exact (o97 (d := (xD 0 0 0 0 0 0 0 cc)) (E1 ++ [tC (nt (andT rfl (andT rfl (andT rfl (andT rfl (andT rfl (andT rfl (andT rfl (andF (y := true) (neOf h3))))))))))]) (by kernel_rfl)).to (by clear E1; (simp [wk, wkL, h3]; done))
   exact (o97 (d := (xD 0 0 0 0 0 0 imm cc)) (E1 ++ [tC (nt (andT rfl (andT rfl (andT rfl (andT rfl (andT rfl (andT rfl (andF (y := eqCells [.int .i8 cc] [.int .i8 0]) (neOf h2)))))))))]) (by kernel_rfl)).to (by clear E1; (simp [wk, wkL, h2]; done))
  exact (o97 (d := (xD 0 0 0 0 0 disp imm cc)) (E1 ++ [tC (nt (andT rfl (andT rfl (andT rfl (andT rfl (andT rfl (andF (y := eqCells [.int .i64 imm, .int .i8 cc] [.int .i64 0, .int .i8 0]) (neOf h1))))))))]) (by kernel_rfl)).to (by clear E1; (simp [wk, wkL, h1]; done))
 exact (o97 (d := (xD 0 0 0 0 base disp imm cc)) (E1 ++ [tC (nt (andT rfl (andT rfl (andT rfl (andT rfl (andF (y := eqCells [.int .i64 disp, .int .i64 imm, .int .i8 cc] [.int .i64 0, .int .i64 0, .int .i8 0]) (neOf h0)))))))]) (by kernel_rfl)).to (by clear E1; (simp [wk, wkL, h0]; done))
theorem bareL_3_ok (op w dst src base disp imm cc : Int) : Ret Tryz.prog 97 ([xD op w dst src base disp imm cc, .int .i8 3]) (xD 0 0 0 src base disp 0 cc) := by
 let E1 : EL := [tF, tF, tF, tT, tT, tT, tT, tF, tF, .flat _ _ flat_X]
 by_cases h0 : src = 0
 ·subst h0
  by_cases h1 : base = 0
  ·subst h1
   by_cases h2 : disp = 0
   ·subst h2
    by_cases h3 : cc = 0
    ·subst h3
     exact (o97 (d := (xD 0 0 0 0 0 0 0 0)) (E1 ++ [tF]) (by kernel_rfl)).to (by clear E1; (simp [wk, wkL, ]; done))
    exact (o97 (d := (xD 0 0 0 0 0 0 0 cc)) (E1 ++ [tC (nt (andT rfl (andT rfl (andT rfl (andT rfl (andT rfl (andT rfl (andT rfl (andF (y := true) (neOf h3))))))))))]) (by kernel_rfl)).to (by clear E1; (simp [wk, wkL, h3]; done))
   exact (o97 (d := (xD 0 0 0 0 0 disp 0 cc)) (E1 ++ [tC (nt (andT rfl (andT rfl (andT rfl (andT rfl (andT rfl (andF (y := eqCells [.int .i64 0, .int .i8 cc] [.int .i64 0, .int .i8 0]) (neOf h2))))))))]) (by kernel_rfl)).to (by clear E1; (simp [wk, wkL, h2]; done))
  exact (o97 (d := (xD 0 0 0 0 base disp 0 cc)) (E1 ++ [tC (nt (andT rfl (andT rfl (andT rfl (andT rfl (andF (y := eqCells [.int .i64 disp, .int .i64 0, .int .i8 cc] [.int .i64 0, .int .i64 0, .int .i8 0]) (neOf h1)))))))]) (by kernel_rfl)).to (by clear E1; (simp [wk, wkL, h1]; done))
 exact (o97 (d := (xD 0 0 0 src base disp 0 cc)) (E1 ++ [tC (nt (andT rfl (andT rfl (andT rfl (andF (y := eqCells [.int .i8 base, .int .i64 disp, .int .i64 0, .int .i8 cc] [.int .i8 0, .int .i64 0, .int .i64 0, .int .i8 0]) (neOf h0))))))]) (by kernel_rfl)).to (by clear E1; (simp [wk, wkL, h0]; done))
theorem bareL_4_ok (op w dst src base disp imm cc : Int) : Ret Tryz.prog 97 ([xD op w dst src base disp imm cc, .int .i8 4]) (xD 0 0 0 src base disp 0 cc) := by
 let E1 : EL := [tF, tF, tF, tF, tT, tT, tT, tF, tF, .flat _ _ flat_X]
 by_cases h0 : src = 0
 ·subst h0
  by_cases h1 : base = 0
  ·subst h1
   by_cases h2 : disp = 0
   ·subst h2
    by_cases h3 : cc = 0
    ·subst h3
     exact (o97 (d := (xD 0 0 0 0 0 0 0 0)) (E1 ++ [tF]) (by kernel_rfl)).to (by clear E1; (simp [wk, wkL, ]; done))
    exact (o97 (d := (xD 0 0 0 0 0 0 0 cc)) (E1 ++ [tC (nt (andT rfl (andT rfl (andT rfl (andT rfl (andT rfl (andT rfl (andT rfl (andF (y := true) (neOf h3))))))))))]) (by kernel_rfl)).to (by clear E1; (simp [wk, wkL, h3]; done))
   exact (o97 (d := (xD 0 0 0 0 0 disp 0 cc)) (E1 ++ [tC (nt (andT rfl (andT rfl (andT rfl (andT rfl (andT rfl (andF (y := eqCells [.int .i64 0, .int .i8 cc] [.int .i64 0, .int .i8 0]) (neOf h2))))))))]) (by kernel_rfl)).to (by clear E1; (simp [wk, wkL, h2]; done))
  exact (o97 (d := (xD 0 0 0 0 base disp 0 cc)) (E1 ++ [tC (nt (andT rfl (andT rfl (andT rfl (andT rfl (andF (y := eqCells [.int .i64 disp, .int .i64 0, .int .i8 cc] [.int .i64 0, .int .i64 0, .int .i8 0]) (neOf h1)))))))]) (by kernel_rfl)).to (by clear E1; (simp [wk, wkL, h1]; done))
 exact (o97 (d := (xD 0 0 0 src base disp 0 cc)) (E1 ++ [tC (nt (andT rfl (andT rfl (andT rfl (andF (y := eqCells [.int .i8 base, .int .i64 disp, .int .i64 0, .int .i8 cc] [.int .i8 0, .int .i64 0, .int .i64 0, .int .i8 0]) (neOf h0))))))]) (by kernel_rfl)).to (by clear E1; (simp [wk, wkL, h0]; done))
theorem bareL_5_ok (op w dst src base disp imm cc : Int) : Ret Tryz.prog 97 ([xD op w dst src base disp imm cc, .int .i8 5]) (xD 0 0 0 src base disp imm cc) := by
 let E1 : EL := [tF, tF, tF, tF, tF, tT, tT, tT, tF, tF, .flat _ _ flat_X]
 by_cases h0 : src = 0
 ·subst h0
  by_cases h1 : base = 0
  ·subst h1
   by_cases h2 : disp = 0
   ·subst h2
    by_cases h3 : imm = 0
    ·subst h3
     by_cases h4 : cc = 0
     ·subst h4
      exact (o97 (d := (xD 0 0 0 0 0 0 0 0)) (E1 ++ [tF]) (by kernel_rfl)).to (by clear E1; (simp [wk, wkL, ]; done))
     exact (o97 (d := (xD 0 0 0 0 0 0 0 cc)) (E1 ++ [tC (nt (andT rfl (andT rfl (andT rfl (andT rfl (andT rfl (andT rfl (andT rfl (andF (y := true) (neOf h4))))))))))]) (by kernel_rfl)).to (by clear E1; (simp [wk, wkL, h4]; done))
    exact (o97 (d := (xD 0 0 0 0 0 0 imm cc)) (E1 ++ [tC (nt (andT rfl (andT rfl (andT rfl (andT rfl (andT rfl (andT rfl (andF (y := eqCells [.int .i8 cc] [.int .i8 0]) (neOf h3)))))))))]) (by kernel_rfl)).to (by clear E1; (simp [wk, wkL, h3]; done))
   exact (o97 (d := (xD 0 0 0 0 0 disp imm cc)) (E1 ++ [tC (nt (andT rfl (andT rfl (andT rfl (andT rfl (andT rfl (andF (y := eqCells [.int .i64 imm, .int .i8 cc] [.int .i64 0, .int .i8 0]) (neOf h2))))))))]) (by kernel_rfl)).to (by clear E1; (simp [wk, wkL, h2]; done))
  exact (o97 (d := (xD 0 0 0 0 base disp imm cc)) (E1 ++ [tC (nt (andT rfl (andT rfl (andT rfl (andT rfl (andF (y := eqCells [.int .i64 disp, .int .i64 imm, .int .i8 cc] [.int .i64 0, .int .i64 0, .int .i8 0]) (neOf h1)))))))]) (by kernel_rfl)).to (by clear E1; (simp [wk, wkL, h1]; done))
 exact (o97 (d := (xD 0 0 0 src base disp imm cc)) (E1 ++ [tC (nt (andT rfl (andT rfl (andT rfl (andF (y := eqCells [.int .i8 base, .int .i64 disp, .int .i64 imm, .int .i8 cc] [.int .i8 0, .int .i64 0, .int .i64 0, .int .i8 0]) (neOf h0))))))]) (by kernel_rfl)).to (by clear E1; (simp [wk, wkL, h0]; done))
theorem bareL_6_ok (op w dst src base disp imm cc : Int) : Ret Tryz.prog 97 ([xD op w dst src base disp imm cc, .int .i8 6]) (xD 0 0 0 0 base disp imm 0) := by
 let E1 : EL := [tF, tF, tT, tF, tF, tT, tT, .flat _ _ flat_X]
 by_cases h0 : base = 0
 ·subst h0
  by_cases h1 : disp = 0
  ·subst h1
   by_cases h2 : imm = 0
   ·subst h2
    exact (o97 (d := (xD 0 0 0 0 0 0 0 0)) (E1 ++ [tF]) (by kernel_rfl)).to (by clear E1; (simp [wk, wkL, ]; done))
   exact (o97 (d := (xD 0 0 0 0 0 0 imm 0)) (E1 ++ [tC (nt (andT rfl (andT rfl (andT rfl (andT rfl (andT rfl (andT rfl (andF (y := true) (neOf h2)))))))))]) (by kernel_rfl)).to (by clear E1; (simp [wk, wkL, h2]; done))
  exact (o97 (d := (xD 0 0 0 0 0 disp imm 0)) (E1 ++ [tC (nt (andT rfl (andT rfl (andT rfl (andT rfl (andT rfl (andF (y := eqCells [.int .i64 imm, .int .i8 0] [.int .i64 0, .int .i8 0]) (neOf h1))))))))]) (by kernel_rfl)).to (by clear E1; (simp [wk, wkL, h1]; done))
 exact (o97 (d := (xD 0 0 0 0 base disp imm 0)) (E1 ++ [tC (nt (andT rfl (andT rfl (andT rfl (andT rfl (andF (y := eqCells [.int .i64 disp, .int .i64 imm, .int .i8 0] [.int .i64 0, .int .i64 0, .int .i8 0]) (neOf h0)))))))]) (by kernel_rfl)).to (by clear E1; (simp [wk, wkL, h0]; done))
theorem bareL_7_ok (op w dst src base disp imm cc : Int) : Ret Tryz.prog 97 ([xD op w dst src base disp imm cc, .int .i8 7]) (xD 0 0 0 src 0 0 imm cc) := by
 let E1 : EL := [tF, tF, tF, tF, tF, tF, tT, tT, tT, tF, tF, .flat _ _ flat_X]
 by_cases h0 : src = 0
 ·subst h0
  by_cases h1 : imm = 0
  ·subst h1
   by_cases h2 : cc = 0
   ·subst h2
    exact (o97 (d := (xD 0 0 0 0 0 0 0 0)) (E1 ++ [tF]) (by kernel_rfl)).to (by clear E1; (simp [wk, wkL, ]; done))
   exact (o97 (d := (xD 0 0 0 0 0 0 0 cc)) (E1 ++ [tC (nt (andT rfl (andT rfl (andT rfl (andT rfl (andT rfl (andT rfl (andT rfl (andF (y := true) (neOf h2))))))))))]) (by kernel_rfl)).to (by clear E1; (simp [wk, wkL, h2]; done))
  exact (o97 (d := (xD 0 0 0 0 0 0 imm cc)) (E1 ++ [tC (nt (andT rfl (andT rfl (andT rfl (andT rfl (andT rfl (andT rfl (andF (y := eqCells [.int .i8 cc] [.int .i8 0]) (neOf h1)))))))))]) (by kernel_rfl)).to (by clear E1; (simp [wk, wkL, h1]; done))
 exact (o97 (d := (xD 0 0 0 src 0 0 imm cc)) (E1 ++ [tC (nt (andT rfl (andT rfl (andT rfl (andF (y := eqCells [.int .i8 0, .int .i64 0, .int .i64 imm, .int .i8 cc] [.int .i8 0, .int .i64 0, .int .i64 0, .int .i8 0]) (neOf h0))))))]) (by kernel_rfl)).to (by clear E1; (simp [wk, wkL, h0]; done))
theorem bareL_8_ok (op w dst src base disp imm cc : Int) : Ret Tryz.prog 97 ([xD op w dst src base disp imm cc, .int .i8 8]) (xD 0 0 dst 0 0 0 imm cc) := by
 let E1 : EL := [tF, tF, tF, tF, tF, tF, tF, tT, tT, tT, tF, tF, .flat _ _ flat_X]
 by_cases h0 : dst = 0
 ·subst h0
  by_cases h1 : imm = 0
  ·subst h1
   by_cases h2 : cc = 0
   ·subst h2
    exact (o97 (d := (xD 0 0 0 0 0 0 0 0)) (E1 ++ [tF]) (by kernel_rfl)).to (by clear E1; (simp [wk, wkL, ]; done))
   exact (o97 (d := (xD 0 0 0 0 0 0 0 cc)) (E1 ++ [tC (nt (andT rfl (andT rfl (andT rfl (andT rfl (andT rfl (andT rfl (andT rfl (andF (y := true) (neOf h2))))))))))]) (by kernel_rfl)).to (by clear E1; (simp [wk, wkL, h2]; done))
  exact (o97 (d := (xD 0 0 0 0 0 0 imm cc)) (E1 ++ [tC (nt (andT rfl (andT rfl (andT rfl (andT rfl (andT rfl (andT rfl (andF (y := eqCells [.int .i8 cc] [.int .i8 0]) (neOf h1)))))))))]) (by kernel_rfl)).to (by clear E1; (simp [wk, wkL, h1]; done))
 exact (o97 (d := (xD 0 0 dst 0 0 0 imm cc)) (E1 ++ [tC (nt (andT rfl (andT rfl (andF (y := eqCells [.int .i8 0, .int .i8 0, .int .i64 0, .int .i64 imm, .int .i8 cc] [.int .i8 0, .int .i8 0, .int .i64 0, .int .i64 0, .int .i8 0]) (neOf h0)))))]) (by kernel_rfl)).to (by clear E1; (simp [wk, wkL, h0]; done))
theorem bareL_9_ok (op w dst src base disp imm cc : Int) : Ret Tryz.prog 97 ([xD op w dst src base disp imm cc, .int .i8 9]) (xD 0 0 dst src base disp 0 cc) := by
 let E1 : EL := (List.replicate 8 tF ++ [tT, tT, tT, tT, tF, tF, .flat _ _ flat_X])
 by_cases h0 : dst = 0
 ·subst h0
  by_cases h1 : src = 0
  ·subst h1
   by_cases h2 : base = 0
   ·subst h2
    by_cases h3 : disp = 0
    ·subst h3
     by_cases h4 : cc = 0
     ·subst h4
      exact (o97 (d := (xD 0 0 0 0 0 0 0 0)) (E1 ++ [tF]) (by kernel_rfl)).to (by clear E1; (simp [wk, wkL, ]; done))
     exact (o97 (d := (xD 0 0 0 0 0 0 0 cc)) (E1 ++ [tC (nt (andT rfl (andT rfl (andT rfl (andT rfl (andT rfl (andT rfl (andT rfl (andF (y := true) (neOf h4))))))))))]) (by kernel_rfl)).to (by clear E1; (simp [wk, wkL, h4]; done))
    exact (o97 (d := (xD 0 0 0 0 0 disp 0 cc)) (E1 ++ [tC (nt (andT rfl (andT rfl (andT rfl (andT rfl (andT rfl (andF (y := eqCells [.int .i64 0, .int .i8 cc] [.int .i64 0, .int .i8 0]) (neOf h3))))))))]) (by kernel_rfl)).to (by clear E1; (simp [wk, wkL, h3]; done))
   exact (o97 (d := (xD 0 0 0 0 base disp 0 cc)) (E1 ++ [tC (nt (andT rfl (andT rfl (andT rfl (andT rfl (andF (y := eqCells [.int .i64 disp, .int .i64 0, .int .i8 cc] [.int .i64 0, .int .i64 0, .int .i8 0]) (neOf h2)))))))]) (by kernel_rfl)).to (by clear E1; (simp [wk, wkL, h2]; done))
  exact (o97 (d := (xD 0 0 0 src base disp 0 cc)) (E1 ++ [tC (nt (andT rfl (andT rfl (andT rfl (andF (y := eqCells [.int .i8 base, .int .i64 disp, .int .i64 0, .int .i8 cc] [.int .i8 0, .int .i64 0, .int .i64 0, .int .i8 0]) (neOf h1))))))]) (by kernel_rfl)).to (by clear E1; (simp [wk, wkL, h1]; done))
 exact (o97 (d := (xD 0 0 dst src base disp 0 cc)) (E1 ++ [tC (nt (andT rfl (andT rfl (andF (y := eqCells [.int .i8 src, .int .i8 base, .int .i64 disp, .int .i64 0, .int .i8 cc] [.int .i8 0, .int .i8 0, .int .i64 0, .int .i64 0, .int .i8 0]) (neOf h0)))))]) (by kernel_rfl)).to (by clear E1; (simp [wk, wkL, h0]; done))
theorem bareL_10_ok (op w dst src base disp imm cc : Int) : Ret Tryz.prog 97 ([xD op w dst src base disp imm cc, .int .i8 10]) (xD 0 0 dst src base disp 0 0) := by
 let E1 : EL := (List.replicate 9 tF ++ [tT, tT, tT, tF, tT, .flat _ _ flat_X])
 by_cases h0 : dst = 0
 ·subst h0
  by_cases h1 : src = 0
  ·subst h1
   by_cases h2 : base = 0
   ·subst h2
    by_cases h3 : disp = 0
    ·subst h3
     exact (o97 (d := (xD 0 0 0 0 0 0 0 0)) (E1 ++ [tF]) (by kernel_rfl)).to (by clear E1; (simp [wk, wkL, ]; done))
    exact (o97 (d := (xD 0 0 0 0 0 disp 0 0)) (E1 ++ [tC (nt (andT rfl (andT rfl (andT rfl (andT rfl (andT rfl (andF (y := true) (neOf h3))))))))]) (by kernel_rfl)).to (by clear E1; (simp [wk, wkL, h3]; done))
   exact (o97 (d := (xD 0 0 0 0 base disp 0 0)) (E1 ++ [tC (nt (andT rfl (andT rfl (andT rfl (andT rfl (andF (y := eqCells [.int .i64 disp, .int .i64 0, .int .i8 0] [.int .i64 0, .int .i64 0, .int .i8 0]) (neOf h2)))))))]) (by kernel_rfl)).to (by clear E1; (simp [wk, wkL, h2]; done))
  exact (o97 (d := (xD 0 0 0 src base disp 0 0)) (E1 ++ [tC (nt (andT rfl (andT rfl (andT rfl (andF (y := eqCells [.int .i8 base, .int .i64 disp, .int .i64 0, .int .i8 0] [.int .i8 0, .int .i64 0, .int .i64 0, .int .i8 0]) (neOf h1))))))]) (by kernel_rfl)).to (by clear E1; (simp [wk, wkL, h1]; done))
 exact (o97 (d := (xD 0 0 dst src base disp 0 0)) (E1 ++ [tC (nt (andT rfl (andT rfl (andF (y := eqCells [.int .i8 src, .int .i8 base, .int .i64 disp, .int .i64 0, .int .i8 0] [.int .i8 0, .int .i8 0, .int .i64 0, .int .i64 0, .int .i8 0]) (neOf h0)))))]) (by kernel_rfl)).to (by clear E1; (simp [wk, wkL, h0]; done))
theorem bareL_11_ok (op w dst src base disp imm cc : Int) : Ret Tryz.prog 97 ([xD op w dst src base disp imm cc, .int .i8 11]) (xD 0 w dst src base disp imm cc) := by
 let E1 : EL := (List.replicate 10 tF ++ [tT, tT, tF, tF, .flat _ _ flat_X])
 by_cases h0 : w = 0
 ·subst h0
  by_cases h1 : dst = 0
  ·subst h1
   by_cases h2 : src = 0
   ·subst h2
    by_cases h3 : base = 0
    ·subst h3
     by_cases h4 : disp = 0
     ·subst h4
      by_cases h5 : imm = 0
      ·subst h5
       by_cases h6 : cc = 0
       ·subst h6
        exact (o97 (d := (xD 0 0 0 0 0 0 0 0)) (E1 ++ [tF]) (by kernel_rfl)).to (by clear E1; (simp [wk, wkL, ]; done))
       exact (o97 (d := (xD 0 0 0 0 0 0 0 cc)) (E1 ++ [tC (nt (andT rfl (andT rfl (andT rfl (andT rfl (andT rfl (andT rfl (andT rfl (andF (y := true) (neOf h6))))))))))]) (by kernel_rfl)).to (by clear E1; (simp [wk, wkL, h6]; done))
      exact (o97 (d := (xD 0 0 0 0 0 0 imm cc)) (E1 ++ [tC (nt (andT rfl (andT rfl (andT rfl (andT rfl (andT rfl (andT rfl (andF (y := eqCells [.int .i8 cc] [.int .i8 0]) (neOf h5)))))))))]) (by kernel_rfl)).to (by clear E1; (simp [wk, wkL, h5]; done))
     exact (o97 (d := (xD 0 0 0 0 0 disp imm cc)) (E1 ++ [tC (nt (andT rfl (andT rfl (andT rfl (andT rfl (andT rfl (andF (y := eqCells [.int .i64 imm, .int .i8 cc] [.int .i64 0, .int .i8 0]) (neOf h4))))))))]) (by kernel_rfl)).to (by clear E1; (simp [wk, wkL, h4]; done))
    exact (o97 (d := (xD 0 0 0 0 base disp imm cc)) (E1 ++ [tC (nt (andT rfl (andT rfl (andT rfl (andT rfl (andF (y := eqCells [.int .i64 disp, .int .i64 imm, .int .i8 cc] [.int .i64 0, .int .i64 0, .int .i8 0]) (neOf h3)))))))]) (by kernel_rfl)).to (by clear E1; (simp [wk, wkL, h3]; done))
   exact (o97 (d := (xD 0 0 0 src base disp imm cc)) (E1 ++ [tC (nt (andT rfl (andT rfl (andT rfl (andF (y := eqCells [.int .i8 base, .int .i64 disp, .int .i64 imm, .int .i8 cc] [.int .i8 0, .int .i64 0, .int .i64 0, .int .i8 0]) (neOf h2))))))]) (by kernel_rfl)).to (by clear E1; (simp [wk, wkL, h2]; done))
  exact (o97 (d := (xD 0 0 dst src base disp imm cc)) (E1 ++ [tC (nt (andT rfl (andT rfl (andF (y := eqCells [.int .i8 src, .int .i8 base, .int .i64 disp, .int .i64 imm, .int .i8 cc] [.int .i8 0, .int .i8 0, .int .i64 0, .int .i64 0, .int .i8 0]) (neOf h1)))))]) (by kernel_rfl)).to (by clear E1; (simp [wk, wkL, h1]; done))
 exact (o97 (d := (xD 0 w dst src base disp imm cc)) (E1 ++ [tC (nt (andT rfl (andF (y := eqCells [.int .i8 dst, .int .i8 src, .int .i8 base, .int .i64 disp, .int .i64 imm, .int .i8 cc] [.int .i8 0, .int .i8 0, .int .i8 0, .int .i64 0, .int .i64 0, .int .i8 0]) (neOf h0))))]) (by kernel_rfl)).to (by clear E1; (simp [wk, wkL, h0]; done))
end Go.Proofs.YtojgmjfcfpclbaaGreat

namespace Go.Proofs.YtojgmjfcfpclbaaGreat
open Go Go.Ev
set_option maxRecDepth 100000
set_option maxHeartbeats 8000000
theorem rlong01_ok (w : Int) : Ret Tryz.prog 88 ([.int .i8 w]) (.bool (longM w)) := by
 by_cases h0 : w = 32
 ·subst h0
  exact (o88 (d := .bool true) [tF, tF, tT] (by kernel_rfl)).to (by simp only [wk, D.bool.injEq, longM]; first | rfl | (rw [Bool.eq_iff_iff]; simp []; try omega))
 exact (o88 (d := .bool (w == 64)) [tC (eF (neOf h0)), tC (eF (neOf h0)), tC (neOf h0)] (by kernel_rfl)).to (by simp only [wk, D.bool.injEq, longM]; first | rfl | (rw [Bool.eq_iff_iff]; simp [h0]; try omega))
theorem rcut_8_ok (v : Int) : Ret Tryz.prog 64 ([.int .u64 v, .int .i8 8]) (.int .u64 (cutM v 8)) := by
 have c0 := @rwidth_ok 8
 exact (o64 (d := .int .u64 (IntKind.wrap IntKind.u64 (↑(BitVec.toNat (BitVec.ofInt (64 : Nat) v &&& BitVec.ofInt (64 : Nat) 255)) : Int))) [.ret _ _ _ c0, tT, tT, tF, tF, tT] (by kernel_rfl)).to (by first | rfl | (simp only [wk, D.int.injEq, true_and, and8u, show cutM v 8 = v % 256 from rfl]; rw [w_u64]; omega))
theorem rcut_16_ok (v : Int) : Ret Tryz.prog 64 ([.int .u64 v, .int .i8 16]) (.int .u64 (cutM v 16)) := by
 have c0 := @rwidth_ok 16
 exact (o64 (d := .int .u64 (IntKind.wrap IntKind.u64 (↑(BitVec.toNat (BitVec.ofInt (64 : Nat) v &&& BitVec.ofInt (64 : Nat) 65535)) : Int))) [.ret _ _ _ c0, tT, tT, tF, tF, tT] (by kernel_rfl)).to (by first | rfl | (simp only [wk, D.int.injEq, true_and, and16u, show cutM v 16 = v % 65536 from rfl]; rw [w_u64]; omega))
theorem rcut_32_ok (v : Int) : Ret Tryz.prog 64 ([.int .u64 v, .int .i8 32]) (.int .u64 (cutM v 32)) := by
 have c0 := @rwidth_ok 32
 exact (o64 (d := .int .u64 (IntKind.wrap IntKind.u64 (↑(BitVec.toNat (BitVec.ofInt (64 : Nat) v &&& BitVec.ofInt (64 : Nat) 4294967295)) : Int))) [.ret _ _ _ c0, tT, tT, tF, tF, tT] (by kernel_rfl)).to (by first | rfl | (simp only [wk, D.int.injEq, true_and, and32, show cutM v 32 = v % 4294967296 from rfl]; rw [w_u64]; omega))
theorem rcut_64_ok (v : Int) : Ret Tryz.prog 64 ([.int .u64 v, .int .i8 64]) (.int .u64 (cutM v 64)) := by
 have c0 := @rwidth_ok 64
 exact (o64 (d := .int .u64 v) [.ret _ _ _ c0, tT, tT, tF, tT] (by kernel_rfl)).to (by rfl)
end Go.Proofs.YtojgmjfcfpclbaaGreat

namespace Go.Proofs.YtojgmjfcfpclbaaGreat
open Go Go.Ev
theorem rcut_ok (v w : Int) (hw : widthM w = true) : Ret Tryz.prog 64 [.int .u64 v, .int .i8 w] (.int .u64 (cutM v w)) := by
  rcases width_cases hw with rfl | rfl | rfl | rfl
  · exact rcut_8_ok v
  · exact rcut_16_ok v
  · exact rcut_32_ok v
  · exact rcut_64_ok v
theorem rcut_l_ok (v w : Int) (hw : longM w = true) : Ret Tryz.prog 64 [.int .u64 v, .int .i8 w] (.int .u64 (cutM v w)) :=
  rcut_ok v w (by rcases long_cases hw with rfl | rfl <;> rfl)
end Go.Proofs.YtojgmjfcfpclbaaGreat

namespace Go.Proofs.YtojgmjfcfpclbaaGreat
open Go Go.Ev
set_option maxRecDepth 100000
set_option maxHeartbeats 8000000
theorem rdo_3z_ok (w a b : Int) (hw : longM w = true) (hb : 0 ≤ cutM b w) (hq : decide (cutM b w < 1) = true) : Ret Tryz.prog 42 ([.int .i8 3, .int .i8 w, .int .u64 a, .int .u64 b]) (.tup [.int .u64 (doM 3 w a b), .int .i64 0]) := by
 have c0 := @rlong01_ok w
 rw [show (longM w) = true from hw] at c0
 have c1 := @rcut_l_ok a w hw
 have c2 := @rcut_l_ok b w hw
 have c3 := @rcut_l_ok 0 w hw
 exact (o42 (d := .tup [.int .u64 (cutM 0 w), .int .i64 0]) [tT, tT, tF, tT, tT, .ret _ _ _ c0, tT, tF, tF, .ret _ _ _ c1, .ret _ _ _ c2, tF, tF, tF, tT, tC (ltL 0 hq), .ret _ _ _ c3] (by kernel_rfl)).to (by (have e : cutM b w = 0 := by rw [decide_eq_true_eq] at hq; omega); simp only [wk, wkL, and_true, doM, opM, D.int.injEq, true_and]; simp [e, u64])
theorem rdo_3p_ok (w a b : Int) (hw : longM w = true) (hb : 0 ≤ cutM b w) (hq : decide (cutM b w < 1) = false) : Ret Tryz.prog 42 ([.int .i8 3, .int .i8 w, .int .u64 a, .int .u64 b]) (.tup [.int .u64 (doM 3 w a b), .int .i64 0]) := by
 have c0 := @rlong01_ok w
 rw [show (longM w) = true from hw] at c0
 have c1 := @rcut_l_ok a w hw
 have c2 := @rcut_l_ok b w hw
 have c3 := @rcut_l_ok (IntKind.wrap IntKind.u64 (Int.tdiv (cutM a w) (cutM b w))) w hw
 exact (o42 (d := .tup [.int .u64 (cutM (IntKind.wrap IntKind.u64 (Int.tdiv (cutM a w) (cutM b w))) w), .int .i64 0]) [tT, tT, tF, tT, tT, .ret _ _ _ c0, tT, tF, tF, .ret _ _ _ c1, .ret _ _ _ c2, tF, tF, tF, tT, tC (ltL 0 hq), tC (v := true) (neD (eqG 0 hq)), .ret _ _ _ c3] (by kernel_rfl)).to (by (have e : ¬ cutM b w = 0 := by rw [decide_eq_false_iff_not] at hq; omega); simp only [wk, wkL, and_true, doM, opM, D.int.injEq, true_and]; simp [e, u64])
theorem rdo_9z_ok (w a b : Int) (hw : longM w = true) (hb : 0 ≤ cutM b w) (hq : decide (cutM b w < 1) = true) : Ret Tryz.prog 42 ([.int .i8 9, .int .i8 w, .int .u64 a, .int .u64 b]) (.tup [.int .u64 (doM 9 w a b), .int .i64 0]) := by
 have c0 := @rlong01_ok w
 rw [show (longM w) = true from hw] at c0
 have c1 := @rcut_l_ok a w hw
 have c2 := @rcut_l_ok b w hw
 have c3 := @rcut_l_ok (cutM a w) w hw
 exact (o42 (d := .tup [.int .u64 (cutM (cutM a w) w), .int .i64 0]) [tT, tT, tF, tT, tT, .ret _ _ _ c0, tT, tF, tF, .ret _ _ _ c1, .ret _ _ _ c2, tF, tF, tF, tF, tT, tC (ltL 0 hq), .ret _ _ _ c3] (by kernel_rfl)).to (by (have e : cutM b w = 0 := by rw [decide_eq_true_eq] at hq; omega); simp only [wk, wkL, and_true, doM, opM, D.int.injEq, true_and]; simp [e, u64])
theorem rdo_9p_ok (w a b : Int) (hw : longM w = true) (hb : 0 ≤ cutM b w) (hq : decide (cutM b w < 1) = false) : Ret Tryz.prog 42 ([.int .i8 9, .int .i8 w, .int .u64 a, .int .u64 b]) (.tup [.int .u64 (doM 9 w a b), .int .i64 0]) := by
 have c0 := @rlong01_ok w
 rw [show (longM w) = true from hw] at c0
 have c1 := @rcut_l_ok a w hw
 have c2 := @rcut_l_ok b w hw
 have c3 := @rcut_l_ok (Int.tmod (cutM a w) (cutM b w)) w hw
 exact (o42 (d := .tup [.int .u64 (cutM (Int.tmod (cutM a w) (cutM b w)) w), .int .i64 0]) [tT, tT, tF, tT, tT, .ret _ _ _ c0, tT, tF, tF, .ret _ _ _ c1, .ret _ _ _ c2, tF, tF, tF, tF, tT, tC (ltL 0 hq), tC (v := true) (neD (eqG 0 hq)), .ret _ _ _ c3] (by kernel_rfl)).to (by (have e : ¬ cutM b w = 0 := by rw [decide_eq_false_iff_not] at hq; omega); simp only [wk, wkL, and_true, doM, opM, D.int.injEq, true_and]; simp [e, u64])
end Go.Proofs.YtojgmjfcfpclbaaGreat

namespace Go.Proofs.YtojgmjfcfpclbaaGreat
open Go Go.Ev
set_option maxRecDepth 100000
set_option maxHeartbeats 8000000
theorem rdo_0_ok (w a b : Int) (hw : longM w = true) : Ret Tryz.prog 42 ([.int .i8 0, .int .i8 w, .int .u64 a, .int .u64 b]) (.tup [.int .u64 (doM 0 w a b), .int .i64 0]) := by
 have c0 := @rlong01_ok w
 rw [show (longM w) = true from hw] at c0
 have c1 := @rcut_l_ok a w hw
 have c2 := @rcut_l_ok b w hw
 have c3 := @rcut_l_ok (IntKind.wrap IntKind.u64 (cutM a w + cutM b w)) w hw
 exact (o42 (d := .tup [.int .u64 (cutM (IntKind.wrap IntKind.u64 (cutM a w + cutM b w)) w), .int .i64 0]) [tT, tT, tF, tT, tT, .ret _ _ _ c0, tT, tF, tF, .ret _ _ _ c1, .ret _ _ _ c2, tT, .ret _ _ _ c3] (by kernel_rfl)).to (by ((simp only [wk, wkL, and_true]; repeat' (first | rfl | exact True.intro | apply And.intro)); done))
theorem rdo_1_ok (w a b : Int) (hw : longM w = true) : Ret Tryz.prog 42 ([.int .i8 1, .int .i8 w, .int .u64 a, .int .u64 b]) (.tup [.int .u64 (doM 1 w a b), .int .i64 0]) := by
 have c0 := @rlong01_ok w
 rw [show (longM w) = true from hw] at c0
 have c1 := @rcut_l_ok a w hw
 have c2 := @rcut_l_ok b w hw
 have c3 := @rcut_l_ok (IntKind.wrap IntKind.u64 (cutM a w - cutM b w)) w hw
 exact (o42 (d := .tup [.int .u64 (cutM (IntKind.wrap IntKind.u64 (cutM a w - cutM b w)) w), .int .i64 0]) [tT, tT, tF, tT, tT, .ret _ _ _ c0, tT, tF, tF, .ret _ _ _ c1, .ret _ _ _ c2, tF, tT, .ret _ _ _ c3] (by kernel_rfl)).to (by ((simp only [wk, wkL, and_true]; repeat' (first | rfl | exact True.intro | apply And.intro)); done))
theorem rdo_2_ok (w a b : Int) (hw : longM w = true) : Ret Tryz.prog 42 ([.int .i8 2, .int .i8 w, .int .u64 a, .int .u64 b]) (.tup [.int .u64 (doM 2 w a b), .int .i64 0]) := by
 have c0 := @rlong01_ok w
 rw [show (longM w) = true from hw] at c0
 have c1 := @rcut_l_ok a w hw
 have c2 := @rcut_l_ok b w hw
 have c3 := @rcut_l_ok (IntKind.wrap IntKind.u64 (cutM a w * cutM b w)) w hw
 exact (o42 (d := .tup [.int .u64 (cutM (IntKind.wrap IntKind.u64 (cutM a w * cutM b w)) w), .int .i64 0]) [tT, tT, tF, tT, tT, .ret _ _ _ c0, tT, tF, tF, .ret _ _ _ c1, .ret _ _ _ c2, tF, tF, tT, .ret _ _ _ c3] (by kernel_rfl)).to (by ((simp only [wk, wkL, and_true]; repeat' (first | rfl | exact True.intro | apply And.intro)); done))
theorem rdo_4_ok (w a b : Int) (hw : longM w = true) : Ret Tryz.prog 42 ([.int .i8 4, .int .i8 w, .int .u64 a, .int .u64 b]) (.tup [.int .u64 (doM 4 w a b), .int .i64 0]) := by
 have c0 := @rlong01_ok w
 rw [show (longM w) = true from hw] at c0
 have c1 := @rcut_l_ok a w hw
 have c2 := @rcut_l_ok b w hw
 have c3 := @rcut_l_ok (IntKind.wrap IntKind.u64 (↑(BitVec.toNat (BitVec.ofInt (64 : Nat) (cutM a w) ||| BitVec.ofInt (64 : Nat) (cutM b w))) : Int)) w hw
 exact (o42 (d := .tup [.int .u64 (cutM (IntKind.wrap IntKind.u64 (↑(BitVec.toNat (BitVec.ofInt (64 : Nat) (cutM a w) ||| BitVec.ofInt (64 : Nat) (cutM b w))) : Int)) w), .int .i64 0]) [tT, tT, tF, tT, tT, .ret _ _ _ c0, tT, tF, tF, .ret _ _ _ c1, .ret _ _ _ c2, tF, tF, tF, tF, tF, tT, .ret _ _ _ c3] (by kernel_rfl)).to (by ((simp only [wk, wkL, and_true]; repeat' (first | rfl | exact True.intro | apply And.intro)); done))
theorem rdo_5_ok (w a b : Int) (hw : longM w = true) : Ret Tryz.prog 42 ([.int .i8 5, .int .i8 w, .int .u64 a, .int .u64 b]) (.tup [.int .u64 (doM 5 w a b), .int .i64 0]) := by
 have c0 := @rlong01_ok w
 rw [show (longM w) = true from hw] at c0
 have c1 := @rcut_l_ok a w hw
 have c2 := @rcut_l_ok b w hw
 have c3 := @rcut_l_ok (IntKind.wrap IntKind.u64 (↑(BitVec.toNat (BitVec.ofInt (64 : Nat) (cutM a w) &&& BitVec.ofInt (64 : Nat) (cutM b w))) : Int)) w hw
 exact (o42 (d := .tup [.int .u64 (cutM (IntKind.wrap IntKind.u64 (↑(BitVec.toNat (BitVec.ofInt (64 : Nat) (cutM a w) &&& BitVec.ofInt (64 : Nat) (cutM b w))) : Int)) w), .int .i64 0]) [tT, tT, tF, tT, tT, .ret _ _ _ c0, tT, tF, tF, .ret _ _ _ c1, .ret _ _ _ c2, tF, tF, tF, tF, tF, tF, tT, .ret _ _ _ c3] (by kernel_rfl)).to (by ((simp only [wk, wkL, and_true]; repeat' (first | rfl | exact True.intro | apply And.intro)); done))
theorem rdo_6_ok (w a b : Int) (hw : longM w = true) : Ret Tryz.prog 42 ([.int .i8 6, .int .i8 w, .int .u64 a, .int .u64 b]) (.tup [.int .u64 (doM 6 w a b), .int .i64 0]) := by
 have c0 := @rlong01_ok w
 rw [show (longM w) = true from hw] at c0
 have c1 := @rcut_l_ok a w hw
 have c2 := @rcut_l_ok b w hw
 have c3 := @rcut_l_ok (IntKind.wrap IntKind.u64 (cutM a w * 2 ^ min (Int.toNat (IntKind.wrap IntKind.u64 (↑(BitVec.toNat (BitVec.ofInt (64 : Nat) (cutM b w) &&& BitVec.ofInt (64 : Nat) (IntKind.wrap IntKind.u64 (IntKind.wrap IntKind.i8 (w - 1))))) : Int))) (64 : Nat))) w hw
 exact (o42 (d := .tup [.int .u64 (cutM (IntKind.wrap IntKind.u64 (cutM a w * 2 ^ min (Int.toNat (IntKind.wrap IntKind.u64 (↑(BitVec.toNat (BitVec.ofInt (64 : Nat) (cutM b w) &&& BitVec.ofInt (64 : Nat) (IntKind.wrap IntKind.u64 (IntKind.wrap IntKind.i8 (w - 1))))) : Int))) (64 : Nat))) w), .int .i64 0]) ([tT, tT, tF, tT, tT, .ret _ _ _ c0, tT, tF, tF, .ret _ _ _ c1, .ret _ _ _ c2] ++ List.replicate 8 tF ++ [tT, tT, .ret _ _ _ c3]) (by kernel_rfl)).to (by ((simp only [wk, wkL, and_true]; repeat' (first | rfl | exact True.intro | apply And.intro)); done))
theorem rdo_7_ok (w a b : Int) (hw : longM w = true) : Ret Tryz.prog 42 ([.int .i8 7, .int .i8 w, .int .u64 a, .int .u64 b]) (.tup [.int .u64 (doM 7 w a b), .int .i64 0]) := by
 have c0 := @rlong01_ok w
 rw [show (longM w) = true from hw] at c0
 have c1 := @rcut_l_ok a w hw
 have c2 := @rcut_l_ok b w hw
 have c3 := @rcut_l_ok (Int.fdiv (cutM a w) (2 ^ min (Int.toNat (IntKind.wrap IntKind.u64 (↑(BitVec.toNat (BitVec.ofInt (64 : Nat) (cutM b w) &&& BitVec.ofInt (64 : Nat) (IntKind.wrap IntKind.u64 (IntKind.wrap IntKind.i8 (w - 1))))) : Int))) (64 : Nat))) w hw
 exact (o42 (d := .tup [.int .u64 (cutM (Int.fdiv (cutM a w) (2 ^ min (Int.toNat (IntKind.wrap IntKind.u64 (↑(BitVec.toNat (BitVec.ofInt (64 : Nat) (cutM b w) &&& BitVec.ofInt (64 : Nat) (IntKind.wrap IntKind.u64 (IntKind.wrap IntKind.i8 (w - 1))))) : Int))) (64 : Nat))) w), .int .i64 0]) ([tT, tT, tF, tT, tT, .ret _ _ _ c0, tT, tF, tF, .ret _ _ _ c1, .ret _ _ _ c2] ++ List.replicate 9 tF ++ [tT, tT, .ret _ _ _ c3]) (by kernel_rfl)).to (by ((simp only [wk, wkL, and_true]; repeat' (first | rfl | exact True.intro | apply And.intro)); done))
theorem rdo_8_ok (w a b : Int) (hw : longM w = true) : Ret Tryz.prog 42 ([.int .i8 8, .int .i8 w, .int .u64 a, .int .u64 b]) (.tup [.int .u64 (doM 8 w a b), .int .i64 0]) := by
 have c0 := @rlong01_ok w
 rw [show (longM w) = true from hw] at c0
 have c1 := @rcut_l_ok a w hw
 have c2 := @rcut_l_ok b w hw
 have c3 := @rcut_l_ok (IntKind.wrap IntKind.u64 (0 - cutM a w)) w hw
 exact (o42 (d := .tup [.int .u64 (cutM (IntKind.wrap IntKind.u64 (0 - cutM a w)) w), .int .i64 0]) ([tT, tT, tF, tT, tT, .ret _ _ _ c0, tT, tF, tF, .ret _ _ _ c1, .ret _ _ _ c2] ++ List.replicate 11 tF ++ [tT, .ret _ _ _ c3]) (by kernel_rfl)).to (by ((simp only [wk, wkL, and_true]; repeat' (first | rfl | exact True.intro | apply And.intro)); done))
theorem rdo_10_ok (w a b : Int) (hw : longM w = true) : Ret Tryz.prog 42 ([.int .i8 10, .int .i8 w, .int .u64 a, .int .u64 b]) (.tup [.int .u64 (doM 10 w a b), .int .i64 0]) := by
 have c0 := @rlong01_ok w
 rw [show (longM w) = true from hw] at c0
 have c1 := @rcut_l_ok a w hw
 have c2 := @rcut_l_ok b w hw
 have c3 := @rcut_l_ok (IntKind.wrap IntKind.u64 (↑(BitVec.toNat (BitVec.ofInt (64 : Nat) (cutM a w) ^^^ BitVec.ofInt (64 : Nat) (cutM b w))) : Int)) w hw
 exact (o42 (d := .tup [.int .u64 (cutM (IntKind.wrap IntKind.u64 (↑(BitVec.toNat (BitVec.ofInt (64 : Nat) (cutM a w) ^^^ BitVec.ofInt (64 : Nat) (cutM b w))) : Int)) w), .int .i64 0]) [tT, tT, tF, tT, tT, .ret _ _ _ c0, tT, tF, tF, .ret _ _ _ c1, .ret _ _ _ c2, tF, tF, tF, tF, tF, tF, tF, tT, .ret _ _ _ c3] (by kernel_rfl)).to (by ((simp only [wk, wkL, and_true]; repeat' (first | rfl | exact True.intro | apply And.intro)); done))
theorem rdo_11_ok (w a b : Int) (hw : longM w = true) : Ret Tryz.prog 42 ([.int .i8 11, .int .i8 w, .int .u64 a, .int .u64 b]) (.tup [.int .u64 (doM 11 w a b), .int .i64 0]) := by
 have c0 := @rlong01_ok w
 rw [show (longM w) = true from hw] at c0
 have c1 := @rcut_l_ok a w hw
 have c2 := @rcut_l_ok b w hw
 have c3 := @rcut_l_ok (cutM b w) w hw
 exact (o42 (d := .tup [.int .u64 (cutM (cutM b w) w), .int .i64 0]) ([tT, tT, tF, tT, tT, .ret _ _ _ c0, tT, tF, tF, .ret _ _ _ c1, .ret _ _ _ c2] ++ List.replicate 12 tF ++ [tT, .ret _ _ _ c3]) (by kernel_rfl)).to (by ((simp only [wk, wkL, and_true]; repeat' (first | rfl | exact True.intro | apply And.intro)); done))
end Go.Proofs.YtojgmjfcfpclbaaGreat

namespace Go.Proofs.YtojgmjfcfpclbaaGreat
open Go Go.Ev
set_option maxRecDepth 100000
set_option maxHeartbeats 8000000
end Go.Proofs.YtojgmjfcfpclbaaGreat

namespace Go.Proofs.YtojgmjfcfpclbaaGreat
open Go Go.Ev
set_option maxRecDepth 100000
set_option maxHeartbeats 8000000
theorem rsign_32_ok (v : Int) : Ret Tryz.prog 89 ([.int .u64 v, .int .i8 32]) (.int .u64 (signM v 32)) := by
 have c0 := @rwidth_ok 32
 have c1 := @rcut_l_ok v 32 (rfl : true = true)
 by_cases h2 : IntKind.wrap IntKind.u64 (↑(BitVec.toNat (BitVec.ofInt (64 : Nat) (Int.fdiv (cutM v 32) 2147483648) &&& BitVec.ofInt (64 : Nat) 1)) : Int) = 1
 ·exact (o89 (d := .int .u64 (IntKind.wrap IntKind.u64 (cutM v 32 - 4294967296))) [.ret _ _ _ c0, tF, .ret _ _ _ c1, tT, tC (eT (eqI 1 true h2)), tC (eT (eqI 1 true h2)), tC (eqI 1 true h2), tT, tT] (by kernel_rfl)).to (by simp only [wk, D.int.injEq, true_and]; first | rfl | exact sign32_t' h2 | exact sign32_f' h2)
 exact (o89 (d := .int .u64 (cutM v 32)) [.ret _ _ _ c0, tF, .ret _ _ _ c1, tT, tC (eT (neOf h2)), tC (eT (neOf h2)), tC (neOf h2), tF] (by kernel_rfl)).to (by simp only [wk, D.int.injEq, true_and]; first | rfl | exact sign32_t' h2 | exact sign32_f' h2)
theorem rsign_64_ok (v : Int) : Ret Tryz.prog 89 ([.int .u64 v, .int .i8 64]) (.int .u64 (signM v 64)) := by
 have c0 := @rwidth_ok 64
 have c1 := @rcut_l_ok v 64 (rfl : true = true)
 by_cases h2 : IntKind.wrap IntKind.u64 (↑(BitVec.toNat (BitVec.ofInt (64 : Nat) (Int.fdiv (cutM v 64) 9223372036854775808) &&& BitVec.ofInt (64 : Nat) 1)) : Int) = 1
 ·exact (o89 (d := .int .u64 (cutM v 64)) [.ret _ _ _ c0, tF, .ret _ _ _ c1, tT, tC (eT (eqI 1 true h2)), tC (eT (eqI 1 true h2)), tC (eqI 1 true h2), tF] (by kernel_rfl)).to (by simp only [wk, D.int.injEq, true_and]; first | rfl | exact sign32_t' h2 | exact sign32_f' h2)
 exact (o89 (d := .int .u64 (cutM v 64)) [.ret _ _ _ c0, tF, .ret _ _ _ c1, tT, tC (eT (neOf h2)), tC (eT (neOf h2)), tC (neOf h2), tF] (by kernel_rfl)).to (by simp only [wk, D.int.injEq, true_and]; first | rfl | exact sign32_t' h2 | exact sign32_f' h2)
end Go.Proofs.YtojgmjfcfpclbaaGreat

namespace Go.Proofs.YtojgmjfcfpclbaaGreat
open Go Go.Ev
theorem rsign_l_ok (v w : Int) (hw : longM w = true) : Ret Tryz.prog 89 [.int .u64 v, .int .i8 w] (.int .u64 (signM v w)) := by
  rcases long_cases hw with rfl | rfl
  · exact rsign_32_ok v
  · exact rsign_64_ok v
end Go.Proofs.YtojgmjfcfpclbaaGreat

namespace Go.Proofs.YtojgmjfcfpclbaaGreat
open Go Go.Ev
theorem shape_none {op : Int} (h : op < 0 ∨ 32 ≤ op) : shapeM op = 0 ∧ codeM op = 0 ∧ numM op = 0 := by
  refine ⟨?_, ?_, ?_⟩
  · unfold shapeM; repeat (rw [if_neg (by omega)])
  · unfold codeM; repeat (rw [if_neg (by omega)])
  · unfold numM; repeat (rw [if_neg (by omega)])
theorem of_any_ok (op : Int) (ho : op ≤ 127) : Ret Tryz.prog 96 [.int .i8 op] (.tup [.agg [.int .i8 (shapeM op), .int .u8 (codeM op), .int .i8 (numM op)], .bool (decide (0 ≤ op ∧ op ≤ 31))]) := by
  by_cases h1 : op < 0
  · obtain ⟨e1, e2, e3⟩ := shape_none (.inl h1)
    rw [e1, e2, e3, decide_eq_false (by omega)]
    exact of_low_ok op h1
  · by_cases h2 : 32 ≤ op
    · obtain ⟨e1, e2, e3⟩ := shape_none (.inr h2)
      rw [e1, e2, e3, decide_eq_false (by omega)]
      exact of_high_ok op h2 ho
    · rcases (by omega : op = 0 ∨ op = 1 ∨ op = 2 ∨ op = 3 ∨ op = 4 ∨ op = 5 ∨ op = 6 ∨ op = 7 ∨ op = 8 ∨ op = 9 ∨ op = 10 ∨ op = 11 ∨ op = 12 ∨ op = 13 ∨ op = 14 ∨ op = 15 ∨ op = 16 ∨ op = 17 ∨ op = 18 ∨ op = 19 ∨ op = 20 ∨ op = 21 ∨ op = 22 ∨ op = 23 ∨ op = 24 ∨ op = 25 ∨ op = 26 ∨ op = 27 ∨ op = 28 ∨ op = 29 ∨ op = 30 ∨ op = 31) with rfl | rfl | rfl | rfl | rfl | rfl | rfl | rfl | rfl | rfl | rfl | rfl | rfl | rfl | rfl | rfl | rfl | rfl | rfl | rfl | rfl | rfl | rfl | rfl | rfl | rfl | rfl | rfl | rfl | rfl | rfl | rfl
      · exact of_0_ok
      · exact of_1_ok
      · exact of_2_ok
      · exact of_3_ok
      · exact of_4_ok
      · exact of_5_ok
      · exact of_6_ok
      · exact of_7_ok
      · exact of_8_ok
      · exact of_9_ok
      · exact of_10_ok
      · exact of_11_ok
      · exact of_12_ok
      · exact of_13_ok
      · exact of_14_ok
      · exact of_15_ok
      · exact of_16_ok
      · exact of_17_ok
      · exact of_18_ok
      · exact of_19_ok
      · exact of_20_ok
      · exact of_21_ok
      · exact of_22_ok
      · exact of_23_ok
      · exact of_24_ok
      · exact of_25_ok
      · exact of_26_ok
      · exact of_27_ok
      · exact of_28_ok
      · exact of_29_ok
      · exact of_30_ok
      · exact of_31_ok
theorem bare_1_ok (op w dst src base disp imm cc sh : Int) (h : (sh == 1) = true) : Ret Tryz.prog 97 [xD op w dst src base disp imm cc, .int .i8 sh] (xD 0 0 0 0 base disp imm cc) := by
  obtain rfl := eq_of_beq h
  exact bareL_1_ok op w dst src base disp imm cc
theorem bare_2_ok (op w dst src base disp imm cc sh : Int) (h : (sh == 2) = true) : Ret Tryz.prog 97 [xD op w dst src base disp imm cc, .int .i8 sh] (xD 0 0 0 0 base disp imm cc) := by
  obtain rfl := eq_of_beq h
  exact bareL_2_ok op w dst src base disp imm cc
theorem bare_3_ok (op w dst src base disp imm cc sh : Int) (h : (sh == 3) = true) : Ret Tryz.prog 97 [xD op w dst src base disp imm cc, .int .i8 sh] (xD 0 0 0 src base disp 0 cc) := by
  obtain rfl := eq_of_beq h
  exact bareL_3_ok op w dst src base disp imm cc
theorem bare_4_ok (op w dst src base disp imm cc sh : Int) (h : (sh == 4) = true) : Ret Tryz.prog 97 [xD op w dst src base disp imm cc, .int .i8 sh] (xD 0 0 0 src base disp 0 cc) := by
  obtain rfl := eq_of_beq h
  exact bareL_4_ok op w dst src base disp imm cc
theorem bare_5_ok (op w dst src base disp imm cc sh : Int) (h : (sh == 5) = true) : Ret Tryz.prog 97 [xD op w dst src base disp imm cc, .int .i8 sh] (xD 0 0 0 src base disp imm cc) := by
  obtain rfl := eq_of_beq h
  exact bareL_5_ok op w dst src base disp imm cc
theorem bare_6_ok (op w dst src base disp imm cc sh : Int) (h : (sh == 6) = true) : Ret Tryz.prog 97 [xD op w dst src base disp imm cc, .int .i8 sh] (xD 0 0 0 0 base disp imm 0) := by
  obtain rfl := eq_of_beq h
  exact bareL_6_ok op w dst src base disp imm cc
theorem bare_7_ok (op w dst src base disp imm cc sh : Int) (h : (sh == 7) = true) : Ret Tryz.prog 97 [xD op w dst src base disp imm cc, .int .i8 sh] (xD 0 0 0 src 0 0 imm cc) := by
  obtain rfl := eq_of_beq h
  exact bareL_7_ok op w dst src base disp imm cc
theorem bare_8_ok (op w dst src base disp imm cc sh : Int) (h : (sh == 8) = true) : Ret Tryz.prog 97 [xD op w dst src base disp imm cc, .int .i8 sh] (xD 0 0 dst 0 0 0 imm cc) := by
  obtain rfl := eq_of_beq h
  exact bareL_8_ok op w dst src base disp imm cc
theorem bare_9_ok (op w dst src base disp imm cc sh : Int) (h : (sh == 9) = true) : Ret Tryz.prog 97 [xD op w dst src base disp imm cc, .int .i8 sh] (xD 0 0 dst src base disp 0 cc) := by
  obtain rfl := eq_of_beq h
  exact bareL_9_ok op w dst src base disp imm cc
theorem bare_10_ok (op w dst src base disp imm cc sh : Int) (h : (sh == 10) = true) : Ret Tryz.prog 97 [xD op w dst src base disp imm cc, .int .i8 sh] (xD 0 0 dst src base disp 0 0) := by
  obtain rfl := eq_of_beq h
  exact bareL_10_ok op w dst src base disp imm cc
theorem bare_11_ok (op w dst src base disp imm cc sh : Int) (h : (sh == 11) = true) : Ret Tryz.prog 97 [xD op w dst src base disp imm cc, .int .i8 sh] (xD 0 w dst src base disp imm cc) := by
  obtain rfl := eq_of_beq h
  exact bareL_11_ok op w dst src base disp imm cc
end Go.Proofs.YtojgmjfcfpclbaaGreat

namespace Go.Proofs.YtojgmjfcfpclbaaGreat
open Go Go.Ev
set_option maxRecDepth 100000
set_option maxHeartbeats 8000000
theorem mayX_0_ok (op w dst src base disp imm cc : Int) (ho : op ≤ 127) (h : (shapeM op == 0) = true) (hin : decide (0 ≤ op ∧ op ≤ 31) = false) : Ret Tryz.prog 46 ([xD op w dst src base disp imm cc]) (.bool (mayX op w dst src base disp imm cc)) := by
 have c0 := @of_any_ok op ho
 rw [show (shapeM op) = 0 from (eq_of_beq h)] at c0
 generalize g2 : codeM op = r1 at c0
 generalize g4 : numM op = r3 at c0
 exact (o46 (d := .bool false) ([.ret _ _ _ c0] ++ List.replicate 6 (tC (eF (nt hin))) ++ [tC (nt hin), tF, tF, tF, tF, tT, tF, tF, tF, tF, tT, tF, tF, tF, tF, tT, tF, tF, tF, tF, tT, tF, tF, tF, tF, tT, tT]) (by kernel_rfl)).to (by (try simp only [sl0, wk, wkL, wkO, eqCells, eqCell, mayX, regM, mayS, longM, widthM, jumpM, ccM] at *); (simp [wk, wkL, wkO, eqCells, eqCell, mayX, regM, mayS, longM, widthM, jumpM, ccM, *]; done))
theorem mayX_1_ok (op w dst src base disp imm cc : Int) (ho : op ≤ 127) (h : (shapeM op == 1) = true) (hin : decide (0 ≤ op ∧ op ≤ 31) = true) : Ret Tryz.prog 46 ([xD op w dst src base disp imm cc]) (.bool (mayX op w dst src base disp imm cc)) := by
 have c0 := @of_any_ok op ho
 rw [show (shapeM op) = 1 from (eq_of_beq h)] at c0
 generalize g2 : codeM op = r1 at c0
 generalize g4 : numM op = r3 at c0
 have c5 := @bare_1_ok op w dst src base disp imm cc 1 (rfl : true = true)
 let E1 : EL := ([.ret _ _ _ c0] ++ List.replicate 4 (tC (eF (nt hin))) ++ [.ret _ _ _ c5, tC (eF (nt hin)), tC (eF (nt hin)), .flat _ _ flat_X, tC (nt hin)])
 rcases bft (eqCells [.int .i8 0, .int .i8 0, .int .i8 0, .int .i8 0, .int .i8 base, .int .i64 disp, .int .i64 imm, .int .i8 cc] [.int .i8 0, .int .i8 0, .int .i8 0, .int .i8 0, .int .i8 0, .int .i64 0, .int .i64 0, .int .i8 0]) with h6 | h6
 ·have c7 := @reg_ok dst
  generalize g9 : regM dst = r8 at c7
  let E2 : EL := E1 ++ List.replicate 3 (tC (eF (nt h6))) ++ [.ret _ _ _ c7, tC (eF (nt h6)), tC (nt h6)]
  cases r8
  ·exact (o46 (d := .bool false) (E2 ++ [tF, tF, tF, tF, tT, tF, tF, tF, tF, tT, tF, tF, tF, tF, tT, tF, tF, tF, tF, tT, tT]) (by kernel_rfl)).to (by clear E1 E2; (try simp only [sl0, wk, wkL, wkO, eqCells, eqCell, mayX, regM, mayS, longM, widthM, jumpM, ccM] at *); (simp [wk, wkL, wkO, eqCells, eqCell, mayX, regM, mayS, longM, widthM, jumpM, ccM, *]; done))
  have c10 := @reg_ok src
  generalize g12 : regM src = r11 at c10
  let E3 : EL := E2 ++ [tT, tT, tT, .ret _ _ _ c10, tT, tF]
  cases r11
  ·exact (o46 (d := .bool false) (E3 ++ [tF, tF, tF, tF, tT, tF, tF, tF, tF, tT, tF, tF, tF, tF, tT, tT]) (by kernel_rfl)).to (by clear E1 E2 E3; (try simp only [sl0, wk, wkL, wkO, eqCells, eqCell, mayX, regM, mayS, longM, widthM, jumpM, ccM] at *); (simp [wk, wkL, wkO, eqCells, eqCell, mayX, regM, mayS, longM, widthM, jumpM, ccM, *]; done))
  have c13 := @reg_ok base
  generalize g15 : regM base = r14 at c13
  let E4 : EL := E3 ++ [tT, tT, tT, .ret _ _ _ c13, tT, tF]
  cases r14
  ·exact (o46 (d := .bool false) (E4 ++ [tF, tF, tF, tF, tT, tF, tF, tF, tF, tT, tT]) (by kernel_rfl)).to (by clear E1 E2 E3 E4; (try simp only [sl0, wk, wkL, wkO, eqCells, eqCell, mayX, regM, mayS, longM, widthM, jumpM, ccM] at *); (simp [wk, wkL, wkO, eqCells, eqCell, mayX, regM, mayS, longM, widthM, jumpM, ccM, *]; done))
  have c16 := @within_ok disp (-2147483648) 2147483647
  let E5 : EL := E4 ++ [tT, tT, tT, .ret _ _ _ c16, tT, tF]
  rcases bft (decide (disp < (-2147483648))) with h17 | h17
  ·exact (o46 (d := .bool false) (E5 ++ List.replicate 4 (tC (eF (nt (andF (y := decide (disp ≤ 2147483647)) (leL (-2147483648) h17))))) ++ [tC (nt (andF (y := decide (disp ≤ 2147483647)) (leL (-2147483648) h17))), tT]) (by kernel_rfl)).to (by clear E1 E2 E3 E4 E5; (try simp only [sl0, wk, wkL, wkO, eqCells, eqCell, mayX, regM, mayS, longM, widthM, jumpM, ccM] at *); (simp [wk, wkL, wkO, eqCells, eqCell, mayX, regM, mayS, longM, widthM, jumpM, ccM, *]; omega))
  rcases bft (decide (disp < 2147483648)) with h18 | h18
  ·have c19 := @within_ok imm (-2147483648) 2147483647
   let E6 : EL := E5 ++ List.replicate 3 (tC (eF (nt (andT (leL (-2147483648) h17) (leC 2147483647 h18))))) ++ [.ret _ _ _ c19, tC (eF (nt (andT (leL (-2147483648) h17) (leC 2147483647 h18)))), tC (nt (andT (leL (-2147483648) h17) (leC 2147483647 h18)))]
   rcases bft (decide (imm < (-2147483648))) with h20 | h20
   ·exact (o46 (d := .bool false) (E6 ++ [tC (nt (andF (y := decide (imm ≤ 2147483647)) (leL (-2147483648) h20)))]) (by kernel_rfl)).to (by clear E1 E2 E3 E4 E5 E6; (try simp only [sl0, wk, wkL, wkO, eqCells, eqCell, mayX, regM, mayS, longM, widthM, jumpM, ccM] at *); (simp [wk, wkL, wkO, eqCells, eqCell, mayX, regM, mayS, longM, widthM, jumpM, ccM, *]; omega))
   rcases bft (decide (imm < 2147483648)) with h21 | h21
   ·let E7 : EL := E6 ++ [tC (nt (andT (leL (-2147483648) h20) (leC 2147483647 h21)))]
    by_cases h22 : w = 32
    ·subst h22
     exact (o46 (d := .bool true) (E7 ++ [tF, tF, tF, tT, tF, tF, tF, tF, tF, tT, tT, tT]) (by kernel_rfl)).to (by clear E1 E2 E3 E4 E5 E6 E7; (try simp only [sl0, wk, wkL, wkO, eqCells, eqCell, mayX, regM, mayS, longM, widthM, jumpM, ccM] at *); (rw [Bool.eq_iff_iff]; simp [wk, wkL, wkO, eqCells, eqCell, mayX, regM, mayS, longM, widthM, jumpM, ccM, *]; grind))
    let E8 : EL := E7 ++ List.replicate 3 (tC (eF (neOf h22))) ++ [tC (neOf h22)] ++ List.replicate 4 (tC (eF (neOf h22)))
    by_cases h23 : w = 8
    ·subst h23
     have c24 := @within_ok imm (-128) 127
     exact (o46 (d := .bool false) (E8 ++ [tT, tT, tT, .ret _ _ _ c24, tT, tT, tF, tT, tT]) (by kernel_rfl)).to (by clear E1 E2 E3 E4 E5 E6 E7 E8; (try simp only [sl0, wk, wkL, wkO, eqCells, eqCell, mayX, regM, mayS, longM, widthM, jumpM, ccM] at *); (simp [wk, wkL, wkO, eqCells, eqCell, mayX, regM, mayS, longM, widthM, jumpM, ccM, *]; done))
    exact (o46 (d := .bool (w == 64)) (E8 ++ List.replicate 3 (tC (eT (neOf h23))) ++ [tC (eF (neOf h22)), tC (neOf h23), tC (neOf h22), tT, tT]) (by kernel_rfl)).to (by clear E1 E2 E3 E4 E5 E6 E7 E8; (try simp only [sl0, wk, wkL, wkO, eqCells, eqCell, mayX, regM, mayS, longM, widthM, jumpM, ccM] at *); (rw [Bool.eq_iff_iff]; simp [wk, wkL, wkO, eqCells, eqCell, mayX, regM, mayS, longM, widthM, jumpM, ccM, *]; grind))
   exact (o46 (d := .bool false) (E6 ++ [tC (nt (andT (leL (-2147483648) h20) (leC 2147483647 h21)))]) (by kernel_rfl)).to (by clear E1 E2 E3 E4 E5 E6; (try simp only [sl0, wk, wkL, wkO, eqCells, eqCell, mayX, regM, mayS, longM, widthM, jumpM, ccM] at *); (simp [wk, wkL, wkO, eqCells, eqCell, mayX, regM, mayS, longM, widthM, jumpM, ccM, *]; omega))
  exact (o46 (d := .bool false) (E5 ++ List.replicate 4 (tC (eF (nt (andT (leL (-2147483648) h17) (leC 2147483647 h18))))) ++ [tC (nt (andT (leL (-2147483648) h17) (leC 2147483647 h18))), tT]) (by kernel_rfl)).to (by clear E1 E2 E3 E4 E5; (try simp only [sl0, wk, wkL, wkO, eqCells, eqCell, mayX, regM, mayS, longM, widthM, jumpM, ccM] at *); (simp [wk, wkL, wkO, eqCells, eqCell, mayX, regM, mayS, longM, widthM, jumpM, ccM, *]; omega))
 exact (o46 (d := .bool false) (E1 ++ List.replicate 4 (tC (eF (nt h6))) ++ [tC (nt h6), tF, tF, tF, tF, tT, tF, tF, tF, tF, tT, tF, tF, tF, tF, tT, tF, tF, tF, tF, tT, tT]) (by kernel_rfl)).to (by clear E1; (try simp only [sl0, wk, wkL, wkO, eqCells, eqCell, mayX, regM, mayS, longM, widthM, jumpM, ccM] at *); (rw [Bool.eq_iff_iff]; simp [wk, wkL, wkO, eqCells, eqCell, mayX, regM, mayS, longM, widthM, jumpM, ccM, *]; grind))
theorem mayX_2_ok (op w dst src base disp imm cc : Int) (ho : op ≤ 127) (h : (shapeM op == 2) = true) (hin : decide (0 ≤ op ∧ op ≤ 31) = true) : Ret Tryz.prog 46 ([xD op w dst src base disp imm cc]) (.bool (mayX op w dst src base disp imm cc)) := by
 have c0 := @of_any_ok op ho
 rw [show (shapeM op) = 2 from (eq_of_beq h)] at c0
 generalize g2 : codeM op = r1 at c0
 generalize g4 : numM op = r3 at c0
 have c5 := @bare_2_ok op w dst src base disp imm cc 2 (rfl : true = true)
 let E1 : EL := ([.ret _ _ _ c0] ++ List.replicate 4 (tC (eF (nt hin))) ++ [.ret _ _ _ c5, tC (eF (nt hin)), tC (eF (nt hin)), .flat _ _ flat_X, tC (nt hin)])
 rcases bft (eqCells [.int .i8 0, .int .i8 0, .int .i8 0, .int .i8 0, .int .i8 base, .int .i64 disp, .int .i64 imm, .int .i8 cc] [.int .i8 0, .int .i8 0, .int .i8 0, .int .i8 0, .int .i8 0, .int .i64 0, .int .i64 0, .int .i8 0]) with h6 | h6
 ·have c7 := @reg_ok dst
  generalize g9 : regM dst = r8 at c7
  let E2 : EL := E1 ++ List.replicate 3 (tC (eF (nt h6))) ++ [.ret _ _ _ c7, tC (eF (nt h6)), tC (nt h6)]
  cases r8
  ·exact (o46 (d := .bool false) (E2 ++ [tF, tF, tF, tF, tT, tF, tF, tF, tF, tT, tF, tF, tF, tF, tT, tF, tF, tF, tF, tT, tT]) (by kernel_rfl)).to (by clear E1 E2; (try simp only [sl0, wk, wkL, wkO, eqCells, eqCell, mayX, regM, mayS, longM, widthM, jumpM, ccM] at *); (simp [wk, wkL, wkO, eqCells, eqCell, mayX, regM, mayS, longM, widthM, jumpM, ccM, *]; done))
  have c10 := @reg_ok src
  generalize g12 : regM src = r11 at c10
  let E3 : EL := E2 ++ [tT, tT, tT, .ret _ _ _ c10, tT, tF]
  cases r11
  ·exact (o46 (d := .bool false) (E3 ++ [tF, tF, tF, tF, tT, tF, tF, tF, tF, tT, tF, tF, tF, tF, tT, tT]) (by kernel_rfl)).to (by clear E1 E2 E3; (try simp only [sl0, wk, wkL, wkO, eqCells, eqCell, mayX, regM, mayS, longM, widthM, jumpM, ccM] at *); (simp [wk, wkL, wkO, eqCells, eqCell, mayX, regM, mayS, longM, widthM, jumpM, ccM, *]; done))
  have c13 := @reg_ok base
  generalize g15 : regM base = r14 at c13
  let E4 : EL := E3 ++ [tT, tT, tT, .ret _ _ _ c13, tT, tF]
  cases r14
  ·exact (o46 (d := .bool false) (E4 ++ [tF, tF, tF, tF, tT, tF, tF, tF, tF, tT, tT]) (by kernel_rfl)).to (by clear E1 E2 E3 E4; (try simp only [sl0, wk, wkL, wkO, eqCells, eqCell, mayX, regM, mayS, longM, widthM, jumpM, ccM] at *); (simp [wk, wkL, wkO, eqCells, eqCell, mayX, regM, mayS, longM, widthM, jumpM, ccM, *]; done))
  have c16 := @within_ok disp (-2147483648) 2147483647
  let E5 : EL := E4 ++ [tT, tT, tT, .ret _ _ _ c16, tT, tF]
  rcases bft (decide (disp < (-2147483648))) with h17 | h17
  ·exact (o46 (d := .bool false) (E5 ++ List.replicate 4 (tC (eF (nt (andF (y := decide (disp ≤ 2147483647)) (leL (-2147483648) h17))))) ++ [tC (nt (andF (y := decide (disp ≤ 2147483647)) (leL (-2147483648) h17))), tT]) (by kernel_rfl)).to (by clear E1 E2 E3 E4 E5; (try simp only [sl0, wk, wkL, wkO, eqCells, eqCell, mayX, regM, mayS, longM, widthM, jumpM, ccM] at *); (simp [wk, wkL, wkO, eqCells, eqCell, mayX, regM, mayS, longM, widthM, jumpM, ccM, *]; omega))
  rcases bft (decide (disp < 2147483648)) with h18 | h18
  ·have c19 := @within_ok imm (-2147483648) 2147483647
   let E6 : EL := E5 ++ List.replicate 3 (tC (eF (nt (andT (leL (-2147483648) h17) (leC 2147483647 h18))))) ++ [.ret _ _ _ c19, tC (eF (nt (andT (leL (-2147483648) h17) (leC 2147483647 h18)))), tC (nt (andT (leL (-2147483648) h17) (leC 2147483647 h18)))]
   rcases bft (decide (imm < (-2147483648))) with h20 | h20
   ·exact (o46 (d := .bool false) (E6 ++ [tC (nt (andF (y := decide (imm ≤ 2147483647)) (leL (-2147483648) h20)))]) (by kernel_rfl)).to (by clear E1 E2 E3 E4 E5 E6; (try simp only [sl0, wk, wkL, wkO, eqCells, eqCell, mayX, regM, mayS, longM, widthM, jumpM, ccM] at *); (simp [wk, wkL, wkO, eqCells, eqCell, mayX, regM, mayS, longM, widthM, jumpM, ccM, *]; omega))
   rcases bft (decide (imm < 2147483648)) with h21 | h21
   ·let E7 : EL := E6 ++ [tC (nt (andT (leL (-2147483648) h20) (leC 2147483647 h21)))]
    by_cases h22 : w = 32
    ·subst h22
     exact (o46 (d := .bool true) (E7 ++ [tF, tF, tF, tT, tF, tF, tF, tF, tF, tT, tF, tT, tT]) (by kernel_rfl)).to (by clear E1 E2 E3 E4 E5 E6 E7; (try simp only [sl0, wk, wkL, wkO, eqCells, eqCell, mayX, regM, mayS, longM, widthM, jumpM, ccM] at *); (rw [Bool.eq_iff_iff]; simp [wk, wkL, wkO, eqCells, eqCell, mayX, regM, mayS, longM, widthM, jumpM, ccM, *]; grind))
    let E8 : EL := E7 ++ List.replicate 3 (tC (eF (neOf h22))) ++ [tC (neOf h22)] ++ List.replicate 4 (tC (eF (neOf h22)))
    by_cases h23 : w = 8
    ·subst h23
     have c24 := @within_ok imm (-128) 127
     exact (o46 (d := .bool false) (E8 ++ [tT, tT, tT, .ret _ _ _ c24, tT, tT, tF, tF, tT, tT]) (by kernel_rfl)).to (by clear E1 E2 E3 E4 E5 E6 E7 E8; (try simp only [sl0, wk, wkL, wkO, eqCells, eqCell, mayX, regM, mayS, longM, widthM, jumpM, ccM] at *); (simp [wk, wkL, wkO, eqCells, eqCell, mayX, regM, mayS, longM, widthM, jumpM, ccM, *]; done))
    exact (o46 (d := .bool (w == 64)) (E8 ++ List.replicate 3 (tC (eT (neOf h23))) ++ [tC (eF (neOf h22)), tC (neOf h23), tC (neOf h22), tF, tT, tT]) (by kernel_rfl)).to (by clear E1 E2 E3 E4 E5 E6 E7 E8; (try simp only [sl0, wk, wkL, wkO, eqCells, eqCell, mayX, regM, mayS, longM, widthM, jumpM, ccM] at *); (rw [Bool.eq_iff_iff]; simp [wk, wkL, wkO, eqCells, eqCell, mayX, regM, mayS, longM, widthM, jumpM, ccM, *]; grind))
   exact (o46 (d := .bool false) (E6 ++ [tC (nt (andT (leL (-2147483648) h20) (leC 2147483647 h21)))]) (by kernel_rfl)).to (by clear E1 E2 E3 E4 E5 E6; (try simp only [sl0, wk, wkL, wkO, eqCells, eqCell, mayX, regM, mayS, longM, widthM, jumpM, ccM] at *); (simp [wk, wkL, wkO, eqCells, eqCell, mayX, regM, mayS, longM, widthM, jumpM, ccM, *]; omega))
  exact (o46 (d := .bool false) (E5 ++ List.replicate 4 (tC (eF (nt (andT (leL (-2147483648) h17) (leC 2147483647 h18))))) ++ [tC (nt (andT (leL (-2147483648) h17) (leC 2147483647 h18))), tT]) (by kernel_rfl)).to (by clear E1 E2 E3 E4 E5; (try simp only [sl0, wk, wkL, wkO, eqCells, eqCell, mayX, regM, mayS, longM, widthM, jumpM, ccM] at *); (simp [wk, wkL, wkO, eqCells, eqCell, mayX, regM, mayS, longM, widthM, jumpM, ccM, *]; omega))
 exact (o46 (d := .bool false) (E1 ++ List.replicate 4 (tC (eF (nt h6))) ++ [tC (nt h6), tF, tF, tF, tF, tT, tF, tF, tF, tF, tT, tF, tF, tF, tF, tT, tF, tF, tF, tF, tT, tT]) (by kernel_rfl)).to (by clear E1; (try simp only [sl0, wk, wkL, wkO, eqCells, eqCell, mayX, regM, mayS, longM, widthM, jumpM, ccM] at *); (rw [Bool.eq_iff_iff]; simp [wk, wkL, wkO, eqCells, eqCell, mayX, regM, mayS, longM, widthM, jumpM, ccM, *]; grind))
end Go.Proofs.YtojgmjfcfpclbaaGreat
