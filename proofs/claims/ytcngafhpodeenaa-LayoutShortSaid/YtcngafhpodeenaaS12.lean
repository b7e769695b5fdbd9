/- Contracts and plain laws that a statement's proof leans on (texts merged: XS2, XRW, I0, I1H, LB1A, LM3, LM3A, LB2, LB2A, LB3). -/
import Derived.Test.YtcngafhpodeenaaS05
import Derived.Test.YtcngafhpodeenaaS11
set_option linter.unusedVariables false
set_option linter.unusedSimpArgs false
namespace Go.Proofs.Ytcngafhpodeenaa
open Go Go.Ev
set_option maxRecDepth 100000
set_option maxHeartbeats 8000000
def SpXS20 (k0_ : Int) : Prop := ∀ (w dst src base disp imm cc : Int) (d0 : 0 ≤ dst) (d1 : dst ≤ 15) (s0 : 0 ≤ src) (s1 : src ≤ 15) (b0 : 0 ≤ base) (b1 : base ≤ 15) (hm : mayX k0_ w dst src base disp imm cc = true), Ret Try.prog 165 ([xD k0_ w dst src base disp imm cc]) (.int .i64 (readsX k0_ dst src base))
theorem reads_0_ok : SpXS20 0 := by
 intro w dst src base disp imm cc d0 d1 s0 s1 b0 b1 hm
 have c0 := @mayX_ok 0 w dst src base disp imm cc (by decide)
 rw [hm] at c0
 have c1 := @of_any_ok 0 (by decide)
 have c2 := @set1_ok src s0 s1
 exact (o165 (d := .int .i64 (sh8 src)) [.ret _ _ _ c0, tF, .ret _ _ _ c1, tT, tT, tT, .ret _ _ _ c2] (by kernel_rfl)).to (by rfl)
theorem reads_1_ok : SpXS20 1 := by
 intro w dst src base disp imm cc d0 d1 s0 s1 b0 b1 hm
 have c0 := @mayX_ok 1 w dst src base disp imm cc (by decide)
 rw [hm] at c0
 have c1 := @of_any_ok 1 (by decide)
 exact (o165 (d := .int .i64 0) [.ret _ _ _ c0, tF, .ret _ _ _ c1, tF, tF, tF, tT, tT, tT] (by kernel_rfl)).to (by rfl)
theorem reads_2_ok : SpXS20 2 := by
 intro w dst src base disp imm cc d0 d1 s0 s1 b0 b1 hm
 have c0 := @mayX_ok 2 w dst src base disp imm cc (by decide)
 rw [hm] at c0
 have c1 := @of_any_ok 2 (by decide)
 have c2 := @set2_ok dst d0 d1 src s0 s1
 exact (o165 (d := .int .i64 (or64 (sh8 dst) (sh8 src))) [.ret _ _ _ c0, tF, .ret _ _ _ c1, tT, tT, tF, .ret _ _ _ c2] (by kernel_rfl)).to (by rfl)
theorem reads_3_ok : SpXS20 3 := by
 intro w dst src base disp imm cc d0 d1 s0 s1 b0 b1 hm
 have c0 := @mayX_ok 3 w dst src base disp imm cc (by decide)
 rw [hm] at c0
 have c1 := @of_any_ok 3 (by decide)
 have c2 := @set2_ok dst d0 d1 src s0 s1
 exact (o165 (d := .int .i64 (or64 (sh8 dst) (sh8 src))) [.ret _ _ _ c0, tF, .ret _ _ _ c1, tT, tT, tF, .ret _ _ _ c2] (by kernel_rfl)).to (by rfl)
theorem reads_4_ok : SpXS20 4 := by
 intro w dst src base disp imm cc d0 d1 s0 s1 b0 b1 hm
 have c0 := @mayX_ok 4 w dst src base disp imm cc (by decide)
 rw [hm] at c0
 have c1 := @of_any_ok 4 (by decide)
 have c2 := @set2_ok dst d0 d1 src s0 s1
 exact (o165 (d := .int .i64 (or64 (sh8 dst) (sh8 src))) [.ret _ _ _ c0, tF, .ret _ _ _ c1, tT, tT, tF, .ret _ _ _ c2] (by kernel_rfl)).to (by rfl)
theorem reads_5_ok : SpXS20 5 := by
 intro w dst src base disp imm cc d0 d1 s0 s1 b0 b1 hm
 have c0 := @mayX_ok 5 w dst src base disp imm cc (by decide)
 rw [hm] at c0
 have c1 := @of_any_ok 5 (by decide)
 have c2 := @set2_ok dst d0 d1 src s0 s1
 exact (o165 (d := .int .i64 (or64 (sh8 dst) (sh8 src))) [.ret _ _ _ c0, tF, .ret _ _ _ c1, tT, tT, tF, .ret _ _ _ c2] (by kernel_rfl)).to (by rfl)
theorem reads_6_ok : SpXS20 6 := by
 intro w dst src base disp imm cc d0 d1 s0 s1 b0 b1 hm
 have c0 := @mayX_ok 6 w dst src base disp imm cc (by decide)
 rw [hm] at c0
 have c1 := @of_any_ok 6 (by decide)
 have c2 := @set2_ok dst d0 d1 src s0 s1
 exact (o165 (d := .int .i64 (or64 (sh8 dst) (sh8 src))) [.ret _ _ _ c0, tF, .ret _ _ _ c1, tT, tT, tF, .ret _ _ _ c2] (by kernel_rfl)).to (by rfl)
theorem reads_7_ok : SpXS20 7 := by
 intro w dst src base disp imm cc d0 d1 s0 s1 b0 b1 hm
 have c0 := @mayX_ok 7 w dst src base disp imm cc (by decide)
 rw [hm] at c0
 have c1 := @of_any_ok 7 (by decide)
 have c2 := @set2_ok dst d0 d1 src s0 s1
 exact (o165 (d := .int .i64 (or64 (sh8 dst) (sh8 src))) [.ret _ _ _ c0, tF, .ret _ _ _ c1, tT, tT, tF, .ret _ _ _ c2] (by kernel_rfl)).to (by rfl)
theorem reads_8_ok : SpXS20 8 := by
 intro w dst src base disp imm cc d0 d1 s0 s1 b0 b1 hm
 have c0 := @mayX_ok 8 w dst src base disp imm cc (by decide)
 rw [hm] at c0
 have c1 := @of_any_ok 8 (by decide)
 have c2 := @set2_ok dst d0 d1 src s0 s1
 exact (o165 (d := .int .i64 (or64 (sh8 dst) (sh8 src))) [.ret _ _ _ c0, tF, .ret _ _ _ c1, tT, tT, tF, .ret _ _ _ c2] (by kernel_rfl)).to (by rfl)
theorem reads_9_ok : SpXS20 9 := by
 intro w dst src base disp imm cc d0 d1 s0 s1 b0 b1 hm
 have c0 := @mayX_ok 9 w dst src base disp imm cc (by decide)
 rw [hm] at c0
 have c1 := @of_any_ok 9 (by decide)
 have c2 := @set1_ok dst d0 d1
 exact (o165 (d := .int .i64 (sh8 dst)) [.ret _ _ _ c0, tF, .ret _ _ _ c1, tF, tF, tF, tT, tT, tF, .ret _ _ _ c2] (by kernel_rfl)).to (by rfl)
theorem reads_10_ok : SpXS20 10 := by
 intro w dst src base disp imm cc d0 d1 s0 s1 b0 b1 hm
 have c0 := @mayX_ok 10 w dst src base disp imm cc (by decide)
 rw [hm] at c0
 have c1 := @of_any_ok 10 (by decide)
 have c2 := @set1_ok dst d0 d1
 exact (o165 (d := .int .i64 (sh8 dst)) [.ret _ _ _ c0, tF, .ret _ _ _ c1, tF, tF, tF, tT, tT, tF, .ret _ _ _ c2] (by kernel_rfl)).to (by rfl)
theorem reads_11_ok : SpXS20 11 := by
 intro w dst src base disp imm cc d0 d1 s0 s1 b0 b1 hm
 have c0 := @mayX_ok 11 w dst src base disp imm cc (by decide)
 rw [hm] at c0
 have c1 := @of_any_ok 11 (by decide)
 have c2 := @set1_ok dst d0 d1
 exact (o165 (d := .int .i64 (sh8 dst)) [.ret _ _ _ c0, tF, .ret _ _ _ c1, tF, tF, tF, tT, tT, tF, .ret _ _ _ c2] (by kernel_rfl)).to (by rfl)
theorem reads_12_ok : SpXS20 12 := by
 intro w dst src base disp imm cc d0 d1 s0 s1 b0 b1 hm
 have c0 := @mayX_ok 12 w dst src base disp imm cc (by decide)
 rw [hm] at c0
 have c1 := @of_any_ok 12 (by decide)
 have c2 := @set1_ok dst d0 d1
 exact (o165 (d := .int .i64 (sh8 dst)) [.ret _ _ _ c0, tF, .ret _ _ _ c1, tF, tF, tF, tT, tT, tF, .ret _ _ _ c2] (by kernel_rfl)).to (by rfl)
theorem reads_13_ok : SpXS20 13 := by
 intro w dst src base disp imm cc d0 d1 s0 s1 b0 b1 hm
 have c0 := @mayX_ok 13 w dst src base disp imm cc (by decide)
 rw [hm] at c0
 have c1 := @of_any_ok 13 (by decide)
 have c2 := @set1_ok dst d0 d1
 exact (o165 (d := .int .i64 (sh8 dst)) [.ret _ _ _ c0, tF, .ret _ _ _ c1, tF, tF, tF, tT, tT, tF, .ret _ _ _ c2] (by kernel_rfl)).to (by rfl)
theorem reads_14_ok : SpXS20 14 := by
 intro w dst src base disp imm cc d0 d1 s0 s1 b0 b1 hm
 have c0 := @mayX_ok 14 w dst src base disp imm cc (by decide)
 rw [hm] at c0
 have c1 := @of_any_ok 14 (by decide)
 have c2 := @set1_ok dst d0 d1
 exact (o165 (d := .int .i64 (sh8 dst)) [.ret _ _ _ c0, tF, .ret _ _ _ c1, tF, tF, tF, tT, tT, tF, .ret _ _ _ c2] (by kernel_rfl)).to (by rfl)
theorem reads_15_ok : SpXS20 15 := by
 intro w dst src base disp imm cc d0 d1 s0 s1 b0 b1 hm
 have c0 := @mayX_ok 15 w dst src base disp imm cc (by decide)
 rw [hm] at c0
 have c1 := @of_any_ok 15 (by decide)
 have c2 := @set1_ok dst d0 d1
 exact (o165 (d := .int .i64 (sh8 dst)) [.ret _ _ _ c0, tF, .ret _ _ _ c1, tF, tF, tF, tT, tT, tF, .ret _ _ _ c2] (by kernel_rfl)).to (by rfl)
theorem reads_16_ok : SpXS20 16 := by
 intro w dst src base disp imm cc d0 d1 s0 s1 b0 b1 hm
 have c0 := @mayX_ok 16 w dst src base disp imm cc (by decide)
 rw [hm] at c0
 have c1 := @of_any_ok 16 (by decide)
 have c2 := @set2_ok dst d0 d1 src s0 s1
 exact (o165 (d := .int .i64 (or64 (sh8 dst) (sh8 src))) [.ret _ _ _ c0, tF, .ret _ _ _ c1, tF, tT, tT, tF, .ret _ _ _ c2] (by kernel_rfl)).to (by rfl)
theorem reads_17_ok : SpXS20 17 := by
 intro w dst src base disp imm cc d0 d1 s0 s1 b0 b1 hm
 have c0 := @mayX_ok 17 w dst src base disp imm cc (by decide)
 rw [hm] at c0
 have c1 := @of_any_ok 17 (by decide)
 have c2 := @set1_ok dst d0 d1
 exact (o165 (d := .int .i64 (sh8 dst)) [.ret _ _ _ c0, tF, .ret _ _ _ c1, tF, tF, tF, tF, tT, tF, .ret _ _ _ c2] (by kernel_rfl)).to (by rfl)
theorem reads_18_ok : SpXS20 18 := by
 intro w dst src base disp imm cc d0 d1 s0 s1 b0 b1 hm
 have c0 := @mayX_ok 18 w dst src base disp imm cc (by decide)
 rw [hm] at c0
 have c1 := @of_any_ok 18 (by decide)
 have c2 := @set1_ok dst d0 d1
 exact (o165 (d := .int .i64 (sh8 dst)) [.ret _ _ _ c0, tF, .ret _ _ _ c1, tF, tF, tF, tF, tT, tF, .ret _ _ _ c2] (by kernel_rfl)).to (by rfl)
theorem reads_19_ok : SpXS20 19 := by
 intro w dst src base disp imm cc d0 d1 s0 s1 b0 b1 hm
 have c0 := @mayX_ok 19 w dst src base disp imm cc (by decide)
 rw [hm] at c0
 have c1 := @of_any_ok 19 (by decide)
 have c2 := @set1_ok dst d0 d1
 exact (o165 (d := .int .i64 (sh8 dst)) [.ret _ _ _ c0, tF, .ret _ _ _ c1, tF, tF, tF, tF, tT, tF, .ret _ _ _ c2] (by kernel_rfl)).to (by rfl)
theorem reads_20_ok : SpXS20 20 := by
 intro w dst src base disp imm cc d0 d1 s0 s1 b0 b1 hm
 have c0 := @mayX_ok 20 w dst src base disp imm cc (by decide)
 rw [hm] at c0
 have c1 := @of_any_ok 20 (by decide)
 have c2 := @set2_ok dst d0 d1 1 (by decide) (by decide)
 exact (o165 (d := .int .i64 (or64 (sh8 dst) 2)) [.ret _ _ _ c0, tF, .ret _ _ _ c1, tF, tF, tF, tF, tF, tT, tF, tF, .ret _ _ _ c2] (by kernel_rfl)).to (by rfl)
theorem reads_21_ok : SpXS20 21 := by
 intro w dst src base disp imm cc d0 d1 s0 s1 b0 b1 hm
 have c0 := @mayX_ok 21 w dst src base disp imm cc (by decide)
 rw [hm] at c0
 have c1 := @of_any_ok 21 (by decide)
 have c2 := @set2_ok dst d0 d1 1 (by decide) (by decide)
 exact (o165 (d := .int .i64 (or64 (sh8 dst) 2)) [.ret _ _ _ c0, tF, .ret _ _ _ c1, tF, tF, tF, tF, tF, tT, tF, tF, .ret _ _ _ c2] (by kernel_rfl)).to (by rfl)
theorem reads_22_ok : SpXS20 22 := by
 intro w dst src base disp imm cc d0 d1 s0 s1 b0 b1 hm
 have c0 := @mayX_ok 22 w dst src base disp imm cc (by decide)
 rw [hm] at c0
 have c1 := @of_any_ok 22 (by decide)
 have c2 := @set2_ok dst d0 d1 1 (by decide) (by decide)
 exact (o165 (d := .int .i64 (or64 (sh8 dst) 2)) [.ret _ _ _ c0, tF, .ret _ _ _ c1, tF, tF, tF, tF, tF, tT, tF, tF, .ret _ _ _ c2] (by kernel_rfl)).to (by rfl)
theorem reads_23_ok : SpXS20 23 := by
 intro w dst src base disp imm cc d0 d1 s0 s1 b0 b1 hm
 have c0 := @mayX_ok 23 w dst src base disp imm cc (by decide)
 rw [hm] at c0
 have c1 := @of_any_ok 23 (by decide)
 have c2 := @set1_ok dst d0 d1
 exact (o165 (d := .int .i64 (sh8 dst)) [.ret _ _ _ c0, tF, .ret _ _ _ c1, tF, tF, tF, tF, tF, tT, tT, .ret _ _ _ c2] (by kernel_rfl)).to (by rfl)
theorem reads_24_ok : SpXS20 24 := by
 intro w dst src base disp imm cc d0 d1 s0 s1 b0 b1 hm
 have c0 := @mayX_ok 24 w dst src base disp imm cc (by decide)
 rw [hm] at c0
 have c1 := @of_any_ok 24 (by decide)
 have c2 := @set3_ok dst d0 d1
 exact (o165 (d := .int .i64 (or64 (or64 (sh8 dst) 1) 4)) [.ret _ _ _ c0, tF, .ret _ _ _ c1, tF, tF, tF, tF, tF, tT, tF, tT, .ret _ _ _ c2] (by kernel_rfl)).to (by rfl)
theorem reads_25_ok : SpXS20 25 := by
 intro w dst src base disp imm cc d0 d1 s0 s1 b0 b1 hm
 have c0 := @mayX_ok 25 w dst src base disp imm cc (by decide)
 rw [hm] at c0
 have c1 := @of_any_ok 25 (by decide)
 have c2 := @set2_ok dst d0 d1 src s0 s1
 exact (o165 (d := .int .i64 (or64 (sh8 dst) (sh8 src))) [.ret _ _ _ c0, tF, .ret _ _ _ c1, tF, tF, tT, tF, .ret _ _ _ c2] (by kernel_rfl)).to (by rfl)
theorem reads_26_ok : SpXS20 26 := by
 intro w dst src base disp imm cc d0 d1 s0 s1 b0 b1 hm
 have c0 := @mayX_ok 26 w dst src base disp imm cc (by decide)
 rw [hm] at c0
 have c1 := @of_any_ok 26 (by decide)
 have c2 := @set1_ok base b0 b1
 exact (o165 (d := .int .i64 (sh8 base)) [.ret _ _ _ c0, tF, .ret _ _ _ c1, tF, tF, tF, tF, tF, tF, tT, .ret _ _ _ c2] (by kernel_rfl)).to (by rfl)
theorem reads_27_ok : SpXS20 27 := by
 intro w dst src base disp imm cc d0 d1 s0 s1 b0 b1 hm
 have c0 := @mayX_ok 27 w dst src base disp imm cc (by decide)
 rw [hm] at c0
 have c1 := @of_any_ok 27 (by decide)
 have c2 := @set2_ok base b0 b1 src s0 s1
 exact (o165 (d := .int .i64 (or64 (sh8 base) (sh8 src))) [.ret _ _ _ c0, tF, .ret _ _ _ c1, tF, tF, tF, tF, tF, tF, tF, tT, .ret _ _ _ c2] (by kernel_rfl)).to (by rfl)
theorem reads_28_ok : SpXS20 28 := by
 intro w dst src base disp imm cc d0 d1 s0 s1 b0 b1 hm
 have c0 := @mayX_ok 28 w dst src base disp imm cc (by decide)
 rw [hm] at c0
 have c1 := @of_any_ok 28 (by decide)
 exact (o165 (d := .int .i64 0) ([.ret _ _ _ c0, tF, .ret _ _ _ c1] ++ List.replicate 9 tF) (by kernel_rfl)).to (by rfl)
theorem reads_29_ok : SpXS20 29 := by
 intro w dst src base disp imm cc d0 d1 s0 s1 b0 b1 hm
 have c0 := @mayX_ok 29 w dst src base disp imm cc (by decide)
 rw [hm] at c0
 have c1 := @of_any_ok 29 (by decide)
 exact (o165 (d := .int .i64 0) ([.ret _ _ _ c0, tF, .ret _ _ _ c1] ++ List.replicate 9 tF) (by kernel_rfl)).to (by rfl)
theorem reads_30_ok : SpXS20 30 := by
 intro w dst src base disp imm cc d0 d1 s0 s1 b0 b1 hm
 have c0 := @mayX_ok 30 w dst src base disp imm cc (by decide)
 rw [hm] at c0
 have c1 := @of_any_ok 30 (by decide)
 have c2 := @set2_ok 4 (by decide) (by decide) 0 (by decide) (by decide)
 exact (o165 (d := .int .i64 17) ([.ret _ _ _ c0, tF, .ret _ _ _ c1] ++ List.replicate 8 tF ++ [tT, tT, .ret _ _ _ c2]) (by kernel_rfl)).to (by rfl)
theorem reads_31_ok : SpXS20 31 := by
 intro w dst src base disp imm cc d0 d1 s0 s1 b0 b1 hm
 have c0 := @mayX_ok 31 w dst src base disp imm cc (by decide)
 rw [hm] at c0
 have c1 := @of_any_ok 31 (by decide)
 exact (o165 (d := .int .i64 1477) ([.ret _ _ _ c0, tF, .ret _ _ _ c1] ++ List.replicate 8 tF ++ [tT, tF, .inl, .go 64, tT, tT, .get ([.int .i8 0, .int .i8 7, .int .i8 6, .int .i8 2, .int .i8 10, .int .i8 8]) 0 (.int .i8 0) rfl, tT, tT, tT, .get ([.int .i8 0, .int .i8 7, .int .i8 6, .int .i8 2, .int .i8 10, .int .i8 8]) 1 (.int .i8 7) rfl, tT, tT, tT, .get ([.int .i8 0, .int .i8 7, .int .i8 6, .int .i8 2, .int .i8 10, .int .i8 8]) 2 (.int .i8 6) rfl, tT, tT, tT, .get ([.int .i8 0, .int .i8 7, .int .i8 6, .int .i8 2, .int .i8 10, .int .i8 8]) 3 (.int .i8 2) rfl, tT, tT, tT, .get ([.int .i8 0, .int .i8 7, .int .i8 6, .int .i8 2, .int .i8 10, .int .i8 8]) 4 (.int .i8 10) rfl, tT, tT, tT, .get ([.int .i8 0, .int .i8 7, .int .i8 6, .int .i8 2, .int .i8 10, .int .i8 8]) 5 (.int .i8 8) rfl, tT, tF]) (by kernel_rfl)).to (by rfl)
theorem reads_no_ok (op w dst src base disp imm cc : Int) (ho : op ≤ 127) (hm : mayX op w dst src base disp imm cc = false) : Ret Try.prog 165 ([xD op w dst src base disp imm cc]) (.int .i64 0) := by
 have c0 := @mayX_ok op w dst src base disp imm cc ho
 rw [hm] at c0
 exact (o165 (d := .int .i64 0) [.ret _ _ _ c0, tT] (by kernel_rfl)).to (by simp [wk])
def SpXS21 (k0_ : Int) : Prop := ∀ (w dst src base disp imm cc : Int) (d0 : 0 ≤ dst) (d1 : dst ≤ 15) (s0 : 0 ≤ src) (s1 : src ≤ 15) (b0 : 0 ≤ base) (b1 : base ≤ 15) (hm : mayX k0_ w dst src base disp imm cc = true), Ret Try.prog 166 ([xD k0_ w dst src base disp imm cc]) (.int .i64 (writesX k0_ dst))
theorem writes_0_ok : SpXS21 0 := by
 intro w dst src base disp imm cc d0 d1 s0 s1 b0 b1 hm
 have c0 := @mayX_ok 0 w dst src base disp imm cc (by decide)
 rw [hm] at c0
 have c1 := @set1_ok dst d0 d1
 exact (o166 (d := .int .i64 (sh8 dst)) ([.ret _ _ _ c0] ++ List.replicate 11 tF ++ [.ret _ _ _ c1]) (by kernel_rfl)).to (by rfl)
theorem writes_1_ok : SpXS21 1 := by
 intro w dst src base disp imm cc d0 d1 s0 s1 b0 b1 hm
 have c0 := @mayX_ok 1 w dst src base disp imm cc (by decide)
 rw [hm] at c0
 have c1 := @set1_ok dst d0 d1
 exact (o166 (d := .int .i64 (sh8 dst)) ([.ret _ _ _ c0] ++ List.replicate 11 tF ++ [.ret _ _ _ c1]) (by kernel_rfl)).to (by rfl)
theorem writes_2_ok : SpXS21 2 := by
 intro w dst src base disp imm cc d0 d1 s0 s1 b0 b1 hm
 have c0 := @mayX_ok 2 w dst src base disp imm cc (by decide)
 rw [hm] at c0
 have c1 := @set1_ok dst d0 d1
 exact (o166 (d := .int .i64 (sh8 dst)) ([.ret _ _ _ c0] ++ List.replicate 11 tF ++ [.ret _ _ _ c1]) (by kernel_rfl)).to (by rfl)
theorem writes_3_ok : SpXS21 3 := by
 intro w dst src base disp imm cc d0 d1 s0 s1 b0 b1 hm
 have c0 := @mayX_ok 3 w dst src base disp imm cc (by decide)
 rw [hm] at c0
 have c1 := @set1_ok dst d0 d1
 exact (o166 (d := .int .i64 (sh8 dst)) ([.ret _ _ _ c0] ++ List.replicate 11 tF ++ [.ret _ _ _ c1]) (by kernel_rfl)).to (by rfl)
theorem writes_4_ok : SpXS21 4 := by
 intro w dst src base disp imm cc d0 d1 s0 s1 b0 b1 hm
 have c0 := @mayX_ok 4 w dst src base disp imm cc (by decide)
 rw [hm] at c0
 have c1 := @set1_ok dst d0 d1
 exact (o166 (d := .int .i64 (sh8 dst)) ([.ret _ _ _ c0] ++ List.replicate 11 tF ++ [.ret _ _ _ c1]) (by kernel_rfl)).to (by rfl)
theorem writes_5_ok : SpXS21 5 := by
 intro w dst src base disp imm cc d0 d1 s0 s1 b0 b1 hm
 have c0 := @mayX_ok 5 w dst src base disp imm cc (by decide)
 rw [hm] at c0
 have c1 := @set1_ok dst d0 d1
 exact (o166 (d := .int .i64 (sh8 dst)) ([.ret _ _ _ c0] ++ List.replicate 11 tF ++ [.ret _ _ _ c1]) (by kernel_rfl)).to (by rfl)
theorem writes_6_ok : SpXS21 6 := by
 intro w dst src base disp imm cc d0 d1 s0 s1 b0 b1 hm
 have c0 := @mayX_ok 6 w dst src base disp imm cc (by decide)
 rw [hm] at c0
 have c1 := @set1_ok dst d0 d1
 exact (o166 (d := .int .i64 (sh8 dst)) ([.ret _ _ _ c0] ++ List.replicate 11 tF ++ [.ret _ _ _ c1]) (by kernel_rfl)).to (by rfl)
theorem writes_7_ok : SpXS21 7 := by
 intro w dst src base disp imm cc d0 d1 s0 s1 b0 b1 hm
 have c0 := @mayX_ok 7 w dst src base disp imm cc (by decide)
 rw [hm] at c0
 exact (o166 (d := .int .i64 0) [.ret _ _ _ c0, tF, tT, tT] (by kernel_rfl)).to (by rfl)
theorem writes_8_ok : SpXS21 8 := by
 intro w dst src base disp imm cc d0 d1 s0 s1 b0 b1 hm
 have c0 := @mayX_ok 8 w dst src base disp imm cc (by decide)
 rw [hm] at c0
 exact (o166 (d := .int .i64 0) [.ret _ _ _ c0, tF, tF, tT, tT] (by kernel_rfl)).to (by rfl)
theorem writes_9_ok : SpXS21 9 := by
 intro w dst src base disp imm cc d0 d1 s0 s1 b0 b1 hm
 have c0 := @mayX_ok 9 w dst src base disp imm cc (by decide)
 rw [hm] at c0
 have c1 := @set1_ok dst d0 d1
 exact (o166 (d := .int .i64 (sh8 dst)) ([.ret _ _ _ c0] ++ List.replicate 11 tF ++ [.ret _ _ _ c1]) (by kernel_rfl)).to (by rfl)
theorem writes_10_ok : SpXS21 10 := by
 intro w dst src base disp imm cc d0 d1 s0 s1 b0 b1 hm
 have c0 := @mayX_ok 10 w dst src base disp imm cc (by decide)
 rw [hm] at c0
 have c1 := @set1_ok dst d0 d1
 exact (o166 (d := .int .i64 (sh8 dst)) ([.ret _ _ _ c0] ++ List.replicate 11 tF ++ [.ret _ _ _ c1]) (by kernel_rfl)).to (by rfl)
theorem writes_11_ok : SpXS21 11 := by
 intro w dst src base disp imm cc d0 d1 s0 s1 b0 b1 hm
 have c0 := @mayX_ok 11 w dst src base disp imm cc (by decide)
 rw [hm] at c0
 have c1 := @set1_ok dst d0 d1
 exact (o166 (d := .int .i64 (sh8 dst)) ([.ret _ _ _ c0] ++ List.replicate 11 tF ++ [.ret _ _ _ c1]) (by kernel_rfl)).to (by rfl)
theorem writes_12_ok : SpXS21 12 := by
 intro w dst src base disp imm cc d0 d1 s0 s1 b0 b1 hm
 have c0 := @mayX_ok 12 w dst src base disp imm cc (by decide)
 rw [hm] at c0
 have c1 := @set1_ok dst d0 d1
 exact (o166 (d := .int .i64 (sh8 dst)) ([.ret _ _ _ c0] ++ List.replicate 11 tF ++ [.ret _ _ _ c1]) (by kernel_rfl)).to (by rfl)
theorem writes_13_ok : SpXS21 13 := by
 intro w dst src base disp imm cc d0 d1 s0 s1 b0 b1 hm
 have c0 := @mayX_ok 13 w dst src base disp imm cc (by decide)
 rw [hm] at c0
 have c1 := @set1_ok dst d0 d1
 exact (o166 (d := .int .i64 (sh8 dst)) ([.ret _ _ _ c0] ++ List.replicate 11 tF ++ [.ret _ _ _ c1]) (by kernel_rfl)).to (by rfl)
theorem writes_14_ok : SpXS21 14 := by
 intro w dst src base disp imm cc d0 d1 s0 s1 b0 b1 hm
 have c0 := @mayX_ok 14 w dst src base disp imm cc (by decide)
 rw [hm] at c0
 exact (o166 (d := .int .i64 0) [.ret _ _ _ c0, tF, tF, tF, tT, tT] (by kernel_rfl)).to (by rfl)
theorem writes_15_ok : SpXS21 15 := by
 intro w dst src base disp imm cc d0 d1 s0 s1 b0 b1 hm
 have c0 := @mayX_ok 15 w dst src base disp imm cc (by decide)
 rw [hm] at c0
 exact (o166 (d := .int .i64 0) [.ret _ _ _ c0, tF, tF, tF, tF, tT, tT] (by kernel_rfl)).to (by rfl)
theorem writes_16_ok : SpXS21 16 := by
 intro w dst src base disp imm cc d0 d1 s0 s1 b0 b1 hm
 have c0 := @mayX_ok 16 w dst src base disp imm cc (by decide)
 rw [hm] at c0
 have c1 := @set1_ok dst d0 d1
 exact (o166 (d := .int .i64 (sh8 dst)) ([.ret _ _ _ c0] ++ List.replicate 11 tF ++ [.ret _ _ _ c1]) (by kernel_rfl)).to (by rfl)
theorem writes_17_ok : SpXS21 17 := by
 intro w dst src base disp imm cc d0 d1 s0 s1 b0 b1 hm
 have c0 := @mayX_ok 17 w dst src base disp imm cc (by decide)
 rw [hm] at c0
 have c1 := @set1_ok dst d0 d1
 exact (o166 (d := .int .i64 (sh8 dst)) ([.ret _ _ _ c0] ++ List.replicate 11 tF ++ [.ret _ _ _ c1]) (by kernel_rfl)).to (by rfl)
theorem writes_18_ok : SpXS21 18 := by
 intro w dst src base disp imm cc d0 d1 s0 s1 b0 b1 hm
 have c0 := @mayX_ok 18 w dst src base disp imm cc (by decide)
 rw [hm] at c0
 have c1 := @set1_ok dst d0 d1
 exact (o166 (d := .int .i64 (sh8 dst)) ([.ret _ _ _ c0] ++ List.replicate 11 tF ++ [.ret _ _ _ c1]) (by kernel_rfl)).to (by rfl)
theorem writes_19_ok : SpXS21 19 := by
 intro w dst src base disp imm cc d0 d1 s0 s1 b0 b1 hm
 have c0 := @mayX_ok 19 w dst src base disp imm cc (by decide)
 rw [hm] at c0
 have c1 := @set1_ok dst d0 d1
 exact (o166 (d := .int .i64 (sh8 dst)) ([.ret _ _ _ c0] ++ List.replicate 11 tF ++ [.ret _ _ _ c1]) (by kernel_rfl)).to (by rfl)
theorem writes_20_ok : SpXS21 20 := by
 intro w dst src base disp imm cc d0 d1 s0 s1 b0 b1 hm
 have c0 := @mayX_ok 20 w dst src base disp imm cc (by decide)
 rw [hm] at c0
 have c1 := @set1_ok dst d0 d1
 exact (o166 (d := .int .i64 (sh8 dst)) ([.ret _ _ _ c0] ++ List.replicate 11 tF ++ [.ret _ _ _ c1]) (by kernel_rfl)).to (by rfl)
theorem writes_21_ok : SpXS21 21 := by
 intro w dst src base disp imm cc d0 d1 s0 s1 b0 b1 hm
 have c0 := @mayX_ok 21 w dst src base disp imm cc (by decide)
 rw [hm] at c0
 have c1 := @set1_ok dst d0 d1
 exact (o166 (d := .int .i64 (sh8 dst)) ([.ret _ _ _ c0] ++ List.replicate 11 tF ++ [.ret _ _ _ c1]) (by kernel_rfl)).to (by rfl)
theorem writes_22_ok : SpXS21 22 := by
 intro w dst src base disp imm cc d0 d1 s0 s1 b0 b1 hm
 have c0 := @mayX_ok 22 w dst src base disp imm cc (by decide)
 rw [hm] at c0
 have c1 := @set1_ok dst d0 d1
 exact (o166 (d := .int .i64 (sh8 dst)) ([.ret _ _ _ c0] ++ List.replicate 11 tF ++ [.ret _ _ _ c1]) (by kernel_rfl)).to (by rfl)
theorem writes_23_ok : SpXS21 23 := by
 intro w dst src base disp imm cc d0 d1 s0 s1 b0 b1 hm
 have c0 := @mayX_ok 23 w dst src base disp imm cc (by decide)
 rw [hm] at c0
 have c1 := @set1_ok dst d0 d1
 exact (o166 (d := .int .i64 (sh8 dst)) ([.ret _ _ _ c0] ++ List.replicate 11 tF ++ [.ret _ _ _ c1]) (by kernel_rfl)).to (by rfl)
theorem writes_24_ok : SpXS21 24 := by
 intro w dst src base disp imm cc d0 d1 s0 s1 b0 b1 hm
 have c0 := @mayX_ok 24 w dst src base disp imm cc (by decide)
 rw [hm] at c0
 have c1 := @set2_ok 0 (by decide) (by decide) 2 (by decide) (by decide)
 exact (o166 (d := .int .i64 5) ([.ret _ _ _ c0] ++ List.replicate 8 tF ++ [tT, .ret _ _ _ c1]) (by kernel_rfl)).to (by rfl)
theorem writes_25_ok : SpXS21 25 := by
 intro w dst src base disp imm cc d0 d1 s0 s1 b0 b1 hm
 have c0 := @mayX_ok 25 w dst src base disp imm cc (by decide)
 rw [hm] at c0
 have c1 := @set1_ok dst d0 d1
 exact (o166 (d := .int .i64 (sh8 dst)) ([.ret _ _ _ c0] ++ List.replicate 11 tF ++ [.ret _ _ _ c1]) (by kernel_rfl)).to (by rfl)
theorem writes_26_ok : SpXS21 26 := by
 intro w dst src base disp imm cc d0 d1 s0 s1 b0 b1 hm
 have c0 := @mayX_ok 26 w dst src base disp imm cc (by decide)
 rw [hm] at c0
 have c1 := @set1_ok dst d0 d1
 exact (o166 (d := .int .i64 (sh8 dst)) ([.ret _ _ _ c0] ++ List.replicate 11 tF ++ [.ret _ _ _ c1]) (by kernel_rfl)).to (by rfl)
theorem writes_27_ok : SpXS21 27 := by
 intro w dst src base disp imm cc d0 d1 s0 s1 b0 b1 hm
 have c0 := @mayX_ok 27 w dst src base disp imm cc (by decide)
 rw [hm] at c0
 exact (o166 (d := .int .i64 0) [.ret _ _ _ c0, tF, tF, tF, tF, tF, tT, tT] (by kernel_rfl)).to (by rfl)
theorem writes_28_ok : SpXS21 28 := by
 intro w dst src base disp imm cc d0 d1 s0 s1 b0 b1 hm
 have c0 := @mayX_ok 28 w dst src base disp imm cc (by decide)
 rw [hm] at c0
 exact (o166 (d := .int .i64 0) [.ret _ _ _ c0, tF, tF, tF, tF, tF, tF, tT, tT] (by kernel_rfl)).to (by rfl)
theorem writes_29_ok : SpXS21 29 := by
 intro w dst src base disp imm cc d0 d1 s0 s1 b0 b1 hm
 have c0 := @mayX_ok 29 w dst src base disp imm cc (by decide)
 rw [hm] at c0
 exact (o166 (d := .int .i64 0) [.ret _ _ _ c0, tF, tF, tF, tF, tF, tF, tF, tT] (by kernel_rfl)).to (by rfl)
theorem writes_30_ok : SpXS21 30 := by
 intro w dst src base disp imm cc d0 d1 s0 s1 b0 b1 hm
 have c0 := @mayX_ok 30 w dst src base disp imm cc (by decide)
 rw [hm] at c0
 have c1 := @set1_ok 4 (by decide) (by decide)
 exact (o166 (d := .int .i64 16) ([.ret _ _ _ c0] ++ List.replicate 9 tF ++ [tT, .ret _ _ _ c1]) (by kernel_rfl)).to (by rfl)
theorem writes_31_ok : SpXS21 31 := by
 intro w dst src base disp imm cc d0 d1 s0 s1 b0 b1 hm
 have c0 := @mayX_ok 31 w dst src base disp imm cc (by decide)
 rw [hm] at c0
 exact (o166 (d := .int .i64 2051) ([.ret _ _ _ c0] ++ List.replicate 10 tF ++ [tT, .inl, .go 64, tT, tT, .get ([.int .i8 0, .int .i8 1, .int .i8 11]) 0 (.int .i8 0) rfl, tT, tT, tT, .get ([.int .i8 0, .int .i8 1, .int .i8 11]) 1 (.int .i8 1) rfl, tT, tT, tT, .get ([.int .i8 0, .int .i8 1, .int .i8 11]) 2 (.int .i8 11) rfl, tT, tF]) (by kernel_rfl)).to (by rfl)
theorem writes_no_ok (op w dst src base disp imm cc : Int) (ho : op ≤ 127) (hm : mayX op w dst src base disp imm cc = false) : Ret Try.prog 166 ([xD op w dst src base disp imm cc]) (.int .i64 0) := by
 have c0 := @mayX_ok op w dst src base disp imm cc ho
 rw [hm] at c0
 exact (o166 (d := .int .i64 0) [.ret _ _ _ c0, tT] (by kernel_rfl)).to (by simp [wk])
end Go.Proofs.Ytcngafhpodeenaa

namespace Go.Proofs.Ytcngafhpodeenaa
open Go Go.Ev
theorem mayX_sh {op w dst src base disp imm cc : Int} (h : mayX op w dst src base disp imm cc = true) : shapeM op ≠ 0 := by
 have hs := (mayX_parts h).2
 intro e
 rw [e] at hs
 simp [mayS] at hs
theorem reads_any_ok (op w dst src base disp imm cc : Int) (ho : op ≤ 127) : Ret Try.prog 165 [xD op w dst src base disp imm cc] (.int .i64 (readsXX op w dst src base disp imm cc)) := by
 unfold readsXX
 cases h : mayX op w dst src base disp imm cc
 ·simp only [Bool.false_eq_true, if_false]
  exact reads_no_ok op w dst src base disp imm cc ho h
 ·simp only [if_true]
  obtain ⟨⟨d0, d1, s0, s1, b0, b1, p0, p1, i0, i1⟩, hs⟩ := mayX_parts h
  have hsh := mayX_sh h
  clear hs
  rcases shape_ops hsh with rfl | rfl | rfl | rfl | rfl | rfl | rfl | rfl | rfl | rfl | rfl | rfl | rfl | rfl | rfl | rfl | rfl | rfl | rfl | rfl | rfl | rfl | rfl | rfl | rfl | rfl | rfl | rfl | rfl | rfl | rfl | rfl
  ·exact reads_0_ok _ _ _ _ _ _ _ d0 d1 s0 s1 b0 b1 h
  ·exact reads_1_ok _ _ _ _ _ _ _ d0 d1 s0 s1 b0 b1 h
  ·exact reads_2_ok _ _ _ _ _ _ _ d0 d1 s0 s1 b0 b1 h
  ·exact reads_3_ok _ _ _ _ _ _ _ d0 d1 s0 s1 b0 b1 h
  ·exact reads_4_ok _ _ _ _ _ _ _ d0 d1 s0 s1 b0 b1 h
  ·exact reads_5_ok _ _ _ _ _ _ _ d0 d1 s0 s1 b0 b1 h
  ·exact reads_6_ok _ _ _ _ _ _ _ d0 d1 s0 s1 b0 b1 h
  ·exact reads_7_ok _ _ _ _ _ _ _ d0 d1 s0 s1 b0 b1 h
  ·exact reads_8_ok _ _ _ _ _ _ _ d0 d1 s0 s1 b0 b1 h
  ·exact reads_9_ok _ _ _ _ _ _ _ d0 d1 s0 s1 b0 b1 h
  ·exact reads_10_ok _ _ _ _ _ _ _ d0 d1 s0 s1 b0 b1 h
  ·exact reads_11_ok _ _ _ _ _ _ _ d0 d1 s0 s1 b0 b1 h
  ·exact reads_12_ok _ _ _ _ _ _ _ d0 d1 s0 s1 b0 b1 h
  ·exact reads_13_ok _ _ _ _ _ _ _ d0 d1 s0 s1 b0 b1 h
  ·exact reads_14_ok _ _ _ _ _ _ _ d0 d1 s0 s1 b0 b1 h
  ·exact reads_15_ok _ _ _ _ _ _ _ d0 d1 s0 s1 b0 b1 h
  ·exact reads_16_ok _ _ _ _ _ _ _ d0 d1 s0 s1 b0 b1 h
  ·exact reads_17_ok _ _ _ _ _ _ _ d0 d1 s0 s1 b0 b1 h
  ·exact reads_18_ok _ _ _ _ _ _ _ d0 d1 s0 s1 b0 b1 h
  ·exact reads_19_ok _ _ _ _ _ _ _ d0 d1 s0 s1 b0 b1 h
  ·exact reads_20_ok _ _ _ _ _ _ _ d0 d1 s0 s1 b0 b1 h
  ·exact reads_21_ok _ _ _ _ _ _ _ d0 d1 s0 s1 b0 b1 h
  ·exact reads_22_ok _ _ _ _ _ _ _ d0 d1 s0 s1 b0 b1 h
  ·exact reads_23_ok _ _ _ _ _ _ _ d0 d1 s0 s1 b0 b1 h
  ·exact reads_24_ok _ _ _ _ _ _ _ d0 d1 s0 s1 b0 b1 h
  ·exact reads_25_ok _ _ _ _ _ _ _ d0 d1 s0 s1 b0 b1 h
  ·exact reads_26_ok _ _ _ _ _ _ _ d0 d1 s0 s1 b0 b1 h
  ·exact reads_27_ok _ _ _ _ _ _ _ d0 d1 s0 s1 b0 b1 h
  ·exact reads_28_ok _ _ _ _ _ _ _ d0 d1 s0 s1 b0 b1 h
  ·exact reads_29_ok _ _ _ _ _ _ _ d0 d1 s0 s1 b0 b1 h
  ·exact reads_30_ok _ _ _ _ _ _ _ d0 d1 s0 s1 b0 b1 h
  ·exact reads_31_ok _ _ _ _ _ _ _ d0 d1 s0 s1 b0 b1 h
theorem writes_any_ok (op w dst src base disp imm cc : Int) (ho : op ≤ 127) : Ret Try.prog 166 [xD op w dst src base disp imm cc] (.int .i64 (writesXX op w dst src base disp imm cc)) := by
 unfold writesXX
 cases h : mayX op w dst src base disp imm cc
 ·simp only [Bool.false_eq_true, if_false]
  exact writes_no_ok op w dst src base disp imm cc ho h
 ·simp only [if_true]
  obtain ⟨⟨d0, d1, s0, s1, b0, b1, p0, p1, i0, i1⟩, hs⟩ := mayX_parts h
  have hsh := mayX_sh h
  clear hs
  rcases shape_ops hsh with rfl | rfl | rfl | rfl | rfl | rfl | rfl | rfl | rfl | rfl | rfl | rfl | rfl | rfl | rfl | rfl | rfl | rfl | rfl | rfl | rfl | rfl | rfl | rfl | rfl | rfl | rfl | rfl | rfl | rfl | rfl | rfl
  ·exact writes_0_ok _ _ _ _ _ _ _ d0 d1 s0 s1 b0 b1 h
  ·exact writes_1_ok _ _ _ _ _ _ _ d0 d1 s0 s1 b0 b1 h
  ·exact writes_2_ok _ _ _ _ _ _ _ d0 d1 s0 s1 b0 b1 h
  ·exact writes_3_ok _ _ _ _ _ _ _ d0 d1 s0 s1 b0 b1 h
  ·exact writes_4_ok _ _ _ _ _ _ _ d0 d1 s0 s1 b0 b1 h
  ·exact writes_5_ok _ _ _ _ _ _ _ d0 d1 s0 s1 b0 b1 h
  ·exact writes_6_ok _ _ _ _ _ _ _ d0 d1 s0 s1 b0 b1 h
  ·exact writes_7_ok _ _ _ _ _ _ _ d0 d1 s0 s1 b0 b1 h
  ·exact writes_8_ok _ _ _ _ _ _ _ d0 d1 s0 s1 b0 b1 h
  ·exact writes_9_ok _ _ _ _ _ _ _ d0 d1 s0 s1 b0 b1 h
  ·exact writes_10_ok _ _ _ _ _ _ _ d0 d1 s0 s1 b0 b1 h
  ·exact writes_11_ok _ _ _ _ _ _ _ d0 d1 s0 s1 b0 b1 h
  ·exact writes_12_ok _ _ _ _ _ _ _ d0 d1 s0 s1 b0 b1 h
  ·exact writes_13_ok _ _ _ _ _ _ _ d0 d1 s0 s1 b0 b1 h
  ·exact writes_14_ok _ _ _ _ _ _ _ d0 d1 s0 s1 b0 b1 h
  ·exact writes_15_ok _ _ _ _ _ _ _ d0 d1 s0 s1 b0 b1 h
  ·exact writes_16_ok _ _ _ _ _ _ _ d0 d1 s0 s1 b0 b1 h
  ·exact writes_17_ok _ _ _ _ _ _ _ d0 d1 s0 s1 b0 b1 h
  ·exact writes_18_ok _ _ _ _ _ _ _ d0 d1 s0 s1 b0 b1 h
  ·exact writes_19_ok _ _ _ _ _ _ _ d0 d1 s0 s1 b0 b1 h
  ·exact writes_20_ok _ _ _ _ _ _ _ d0 d1 s0 s1 b0 b1 h
  ·exact writes_21_ok _ _ _ _ _ _ _ d0 d1 s0 s1 b0 b1 h
  ·exact writes_22_ok _ _ _ _ _ _ _ d0 d1 s0 s1 b0 b1 h
  ·exact writes_23_ok _ _ _ _ _ _ _ d0 d1 s0 s1 b0 b1 h
  ·exact writes_24_ok _ _ _ _ _ _ _ d0 d1 s0 s1 b0 b1 h
  ·exact writes_25_ok _ _ _ _ _ _ _ d0 d1 s0 s1 b0 b1 h
  ·exact writes_26_ok _ _ _ _ _ _ _ d0 d1 s0 s1 b0 b1 h
  ·exact writes_27_ok _ _ _ _ _ _ _ d0 d1 s0 s1 b0 b1 h
  ·exact writes_28_ok _ _ _ _ _ _ _ d0 d1 s0 s1 b0 b1 h
  ·exact writes_29_ok _ _ _ _ _ _ _ d0 d1 s0 s1 b0 b1 h
  ·exact writes_30_ok _ _ _ _ _ _ _ d0 d1 s0 s1 b0 b1 h
  ·exact writes_31_ok _ _ _ _ _ _ _ d0 d1 s0 s1 b0 b1 h
end Go.Proofs.Ytcngafhpodeenaa

namespace Go.Proofs.Ytcngafhpodeenaa
open Go Go.Ev
set_option maxRecDepth 100000
set_option maxHeartbeats 8000000
def tqI00 : List D := [.fn (.func 129) [] [], .fn (.func 126) [] [], .fn (.func 126) [] [], .fn (.func 132) [] [], .fn (.func 133) [] [.ptr false 2 0], .fn (.func 128) [] [], .fn (.func 134) [] []]
theorem those_ok  : Ret Try.prog 167 ([]) (.int .i64 2055) := by
 exact (o167 (d := .int .i64 2055) [.inl, .go 64, tT, tT, .get ([.int .i8 0, .int .i8 1, .int .i8 2, .int .i8 11]) 0 (.int .i8 0) rfl, tT, tT, tT, .get ([.int .i8 0, .int .i8 1, .int .i8 2, .int .i8 11]) 1 (.int .i8 1) rfl, tT, tT, tT, .get ([.int .i8 0, .int .i8 1, .int .i8 2, .int .i8 11]) 2 (.int .i8 2) rfl, tT, tT, tT, .get ([.int .i8 0, .int .i8 1, .int .i8 2, .int .i8 11]) 3 (.int .i8 11) rfl, tT, tF] (by kernel_rfl)).to (by rfl)
theorem phys_ok (n : Int) (hn : n ≤ 127) : Ret Try.prog 162 ([.int .i8 n]) (.bool (scrM n)) := by
 rcases bft (decide (n < 0)) with h0 | h0
 ·exact (o162 (d := .bool false) (List.replicate 5 (tC (eT (leL 0 h0))) ++ [tC (leL 0 h0)]) (by kernel_rfl)).to (by exact wk_bool (scr_neg h0))
 have c1 := @those_ok
 exact (o162 (d := .bool (IntKind.wrap IntKind.i64 (↑(BitVec.toNat (BitVec.ofInt (64 : Nat) (Int.fdiv 2055 (2 ^ min (Int.toNat n) (64 : Nat))) &&& BitVec.ofInt (64 : Nat) 1)) : Int) == 1)) [tC (eT (leL 0 h0)), .ret _ _ _ c1, tC (eT (leL 0 h0)), tC (eT (leL 0 h0)), tC (v := true) (leL 0 h0), tC (eT (leL 0 h0)), tC (eT (leL 0 h0)), tC (leL 0 h0)] (by kernel_rfl)).to (by exact wk_bool (scr_bit_eq h0 hn))
def SpI00 (k0_ : Int) : Prop := ∀ (op w dst src base disp imm cc reg phys num to : Int) (ho : op ≤ 127) (hc : cc ≤ 127) (hp : phys ≤ 127) (g0 : -128 ≤ reg) (g1 : reg ≤ 127), Ret Try.prog 74 ([irD k0_ op w dst src base disp imm cc reg phys num to]) (.bool (mayI k0_ op w dst src base disp imm cc reg phys num to))
theorem imay_0_ok : SpI00 0 := by
 intro op w dst src base disp imm cc reg phys num to ho hc hp g0 g1
 let E1 : EL := ([.inl, .inl] ++ List.replicate 9 tT ++ [.get ([D.fn (Fn.func 164) [] [], D.fn (Fn.func 161) [] [], D.fn (Fn.func 161) [] [], D.fn (Fn.func 168) [] [], D.fn (Fn.func 169) [] [D.ptr false 2 0], D.fn (Fn.func 163) [] [], D.fn (Fn.func 171) [] []]) 0 (D.fn (Fn.func 164) [] []) rfl, tT, .inl])
 rcases bft (mayX op w dst src base disp imm cc) with k0 | k0
 ·rcases bft (decide (op < 28)) with k1 | k1
  ·rcases bft (ownM op w dst src base disp imm cc) with k2 | k2
   ·have c3 := @reads_any_ok op w dst src base disp imm cc ho
    have c4 := @writes_any_ok op w dst src base disp imm cc ho
    have c5 := @mayX_ok op w dst src base disp imm cc ho
    have c6 := @those_ok
    exact (o74 (d := .bool (eqCells [.int .i8 0, .int .i8 0, .int .i8 0, .int .i8 0, .int .i8 0, .int .i8 0, .int .i64 0, .int .i64 0, .int .i8 0, .int .i8 reg, .int .i8 phys, .int .i64 num, .int .i64 to] [.int .i8 0, .int .i8 0, .int .i8 0, .int .i8 0, .int .i8 0, .int .i8 0, .int .i64 0, .int .i64 0, .int .i8 0, .int .i8 0, .int .i8 0, .int .i64 0, .int .i64 0])) (E1 ++ [.ret _ _ _ c3, .ret _ _ _ c4, .ret _ _ _ c5] ++ List.replicate 6 (tC (eT k0)) ++ [tC k0, tC (eT k1), tC (eT k1), .ret _ _ _ c6, tC (eT k1), tC (eT k1), tC k1, tT] ++ List.replicate 5 (tC (eT (eqI 0 true (eq_of_beq (@own_t op w dst src base disp imm cc k2))))) ++ [.flat _ _ flat_Ir, tC (eqI 0 true (eq_of_beq (@own_t op w dst src base disp imm cc k2)))]) (by kernel_rfl)).to (by clear E1; simp only [wk, D.bool.injEq, eq_irc, mayI_0, zeroX, k0, k1, k2, Bool.true_and, Bool.false_and, Bool.and_true, Bool.and_false]; rw [Bool.eq_iff_iff]; simp only [sl1, eq_irc] at *; done)
   have c7 := @reads_any_ok op w dst src base disp imm cc ho
   have c8 := @writes_any_ok op w dst src base disp imm cc ho
   have c9 := @mayX_ok op w dst src base disp imm cc ho
   have c10 := @those_ok
   exact (o74 (d := .bool false) (E1 ++ [.ret _ _ _ c7, .ret _ _ _ c8, .ret _ _ _ c9] ++ List.replicate 6 (tC (eT k0)) ++ [tC k0, tC (eT k1), tC (eT k1), .ret _ _ _ c10, tC (eT k1), tC (eT k1), tC k1, tT] ++ List.replicate 5 (tC (eT (@own_f op w dst src base disp imm cc k2))) ++ [tC (@own_f op w dst src base disp imm cc k2)]) (by kernel_rfl)).to (by simp only [wk, D.bool.injEq, eq_irc, mayI_0, zeroX, k0, k1, k2, Bool.true_and, Bool.false_and, Bool.and_true, Bool.and_false]; done)
  rcases bft (ownM op w dst src base disp imm cc) with k11 | k11
  ·have c12 := @reads_any_ok op w dst src base disp imm cc ho
   have c13 := @writes_any_ok op w dst src base disp imm cc ho
   have c14 := @mayX_ok op w dst src base disp imm cc ho
   exact (o74 (d := .bool false) (E1 ++ [.ret _ _ _ c12, .ret _ _ _ c13, .ret _ _ _ c14] ++ List.replicate 6 (tC (eT k0)) ++ [tC k0] ++ List.replicate 4 (tC (eT k1)) ++ [tC k1, tT, tF, tF, tF, tF, tF, tF]) (by kernel_rfl)).to (by simp only [wk, D.bool.injEq, eq_irc, mayI_0, zeroX, k0, k1, k11, Bool.true_and, Bool.false_and, Bool.and_true, Bool.and_false]; done)
  have c15 := @reads_any_ok op w dst src base disp imm cc ho
  have c16 := @writes_any_ok op w dst src base disp imm cc ho
  have c17 := @mayX_ok op w dst src base disp imm cc ho
  exact (o74 (d := .bool false) (E1 ++ [.ret _ _ _ c15, .ret _ _ _ c16, .ret _ _ _ c17] ++ List.replicate 6 (tC (eT k0)) ++ [tC k0] ++ List.replicate 4 (tC (eT k1)) ++ [tC k1, tT, tF, tF, tF, tF, tF, tF]) (by kernel_rfl)).to (by simp only [wk, D.bool.injEq, eq_irc, mayI_0, zeroX, k0, k1, k11, Bool.true_and, Bool.false_and, Bool.and_true, Bool.and_false]; done)
 rcases bft (decide (op < 28)) with k18 | k18
 ·rcases bft (ownM op w dst src base disp imm cc) with k19 | k19
  ·have c20 := @reads_any_ok op w dst src base disp imm cc ho
   have c21 := @writes_any_ok op w dst src base disp imm cc ho
   have c22 := @mayX_ok op w dst src base disp imm cc ho
   exact (o74 (d := .bool false) (E1 ++ [.ret _ _ _ c20, .ret _ _ _ c21, .ret _ _ _ c22] ++ List.replicate 6 (tC (eT k0)) ++ [tC k0, tF, tF, tF, tF, tF, tT, tF, tF, tF, tF, tF, tF]) (by kernel_rfl)).to (by simp only [wk, D.bool.injEq, eq_irc, mayI_0, zeroX, k0, k18, k19, Bool.true_and, Bool.false_and, Bool.and_true, Bool.and_false]; done)
  have c23 := @reads_any_ok op w dst src base disp imm cc ho
  have c24 := @writes_any_ok op w dst src base disp imm cc ho
  have c25 := @mayX_ok op w dst src base disp imm cc ho
  exact (o74 (d := .bool false) (E1 ++ [.ret _ _ _ c23, .ret _ _ _ c24, .ret _ _ _ c25] ++ List.replicate 6 (tC (eT k0)) ++ [tC k0, tF, tF, tF, tF, tF, tT, tF, tF, tF, tF, tF, tF]) (by kernel_rfl)).to (by simp only [wk, D.bool.injEq, eq_irc, mayI_0, zeroX, k0, k18, k19, Bool.true_and, Bool.false_and, Bool.and_true, Bool.and_false]; done)
 rcases bft (ownM op w dst src base disp imm cc) with k26 | k26
 ·have c27 := @reads_any_ok op w dst src base disp imm cc ho
  have c28 := @writes_any_ok op w dst src base disp imm cc ho
  have c29 := @mayX_ok op w dst src base disp imm cc ho
  exact (o74 (d := .bool false) (E1 ++ [.ret _ _ _ c27, .ret _ _ _ c28, .ret _ _ _ c29] ++ List.replicate 6 (tC (eT k0)) ++ [tC k0, tF, tF, tF, tF, tF, tT, tF, tF, tF, tF, tF, tF]) (by kernel_rfl)).to (by simp only [wk, D.bool.injEq, eq_irc, mayI_0, zeroX, k0, k18, k26, Bool.true_and, Bool.false_and, Bool.and_true, Bool.and_false]; done)
 have c30 := @reads_any_ok op w dst src base disp imm cc ho
 have c31 := @writes_any_ok op w dst src base disp imm cc ho
 have c32 := @mayX_ok op w dst src base disp imm cc ho
 exact (o74 (d := .bool false) (E1 ++ [.ret _ _ _ c30, .ret _ _ _ c31, .ret _ _ _ c32] ++ List.replicate 6 (tC (eT k0)) ++ [tC k0, tF, tF, tF, tF, tF, tT, tF, tF, tF, tF, tF, tF]) (by kernel_rfl)).to (by simp only [wk, D.bool.injEq, eq_irc, mayI_0, zeroX, k0, k18, k26, Bool.true_and, Bool.false_and, Bool.and_true, Bool.and_false]; done)
theorem imay_1_ok : SpI00 1 := by
 intro op w dst src base disp imm cc reg phys num to ho hc hp g0 g1
 let E1 : EL := ([.inl, .inl] ++ List.replicate 9 tT ++ [.get ([D.fn (Fn.func 164) [] [], D.fn (Fn.func 161) [] [], D.fn (Fn.func 161) [] [], D.fn (Fn.func 168) [] [], D.fn (Fn.func 169) [] [D.ptr false 2 0], D.fn (Fn.func 163) [] [], D.fn (Fn.func 171) [] []]) 1 (D.fn (Fn.func 161) [] []) rfl, tT, .inl, .inl])
 rcases bft (scrM phys) with k0 | k0
 ·rcases bft (decide (IntKind.wrap IntKind.i64 reg < 0)) with h1 | h1
  ·exact (o74 (d := .bool false) (E1 ++ List.replicate 3 (tC (eT (leL 0 h1))) ++ [tC (leL 0 h1), tF, tF, tF, tF, tF, tF, tT, tF, tF, tF, tF, tF, tF]) (by kernel_rfl)).to (by clear E1; simp only [wk, D.bool.injEq, eq_irc, mayI_1, zeroX, k0, h1, Bool.true_and, Bool.false_and, Bool.and_true, Bool.and_false]; rw [Bool.eq_iff_iff]; simp only [sl1, eq_irc] at *; omega)
  rcases bft (decide (IntKind.wrap IntKind.i64 reg < 11)) with h2 | h2
  ·have c3 := @phys_ok phys hp
   exact (o74 (d := .bool (eqCells [.int .i8 1, .int .i8 op, .int .i8 w, .int .i8 dst, .int .i8 src, .int .i8 base, .int .i64 disp, .int .i64 imm, .int .i8 cc, .int .i8 0, .int .i8 0, .int .i64 num, .int .i64 to] [.int .i8 1, .int .i8 0, .int .i8 0, .int .i8 0, .int .i8 0, .int .i8 0, .int .i64 0, .int .i64 0, .int .i8 0, .int .i8 0, .int .i8 0, .int .i64 0, .int .i64 0])) (E1 ++ List.replicate 3 (tC (eT (leL 0 h1))) ++ [tC (leL 0 h1)] ++ List.replicate 5 (tC (eT (leC 10 h2))) ++ [.ret _ _ _ c3, tC (leC 10 h2), tT] ++ List.replicate 5 (tC (eT k0)) ++ [.flat _ _ flat_Ir, tC k0]) (by kernel_rfl)).to (by clear E1; simp only [wk, D.bool.injEq, eq_irc, mayI_1, zeroX, k0, h1, h2, Bool.true_and, Bool.false_and, Bool.and_true, Bool.and_false]; rw [Bool.eq_iff_iff]; simp only [sl1, eq_irc] at *; omega)
  exact (o74 (d := .bool false) (E1 ++ List.replicate 3 (tC (eT (leL 0 h1))) ++ [tC (leL 0 h1)] ++ List.replicate 5 (tC (eT (leC 10 h2))) ++ [tC (leC 10 h2), tT, tF, tF, tF, tF, tF, tF]) (by kernel_rfl)).to (by clear E1; simp only [wk, D.bool.injEq, eq_irc, mayI_1, zeroX, k0, h1, h2, Bool.true_and, Bool.false_and, Bool.and_true, Bool.and_false]; rw [Bool.eq_iff_iff]; simp only [sl1, eq_irc] at *; omega)
 rcases bft (decide (IntKind.wrap IntKind.i64 reg < 0)) with h4 | h4
 ·exact (o74 (d := .bool false) (E1 ++ List.replicate 3 (tC (eT (leL 0 h4))) ++ [tC (leL 0 h4), tF, tF, tF, tF, tF, tF, tT, tF, tF, tF, tF, tF, tF]) (by kernel_rfl)).to (by simp only [wk, D.bool.injEq, eq_irc, mayI_1, zeroX, k0, h4, Bool.true_and, Bool.false_and, Bool.and_true, Bool.and_false]; done)
 rcases bft (decide (IntKind.wrap IntKind.i64 reg < 11)) with h5 | h5
 ·have c6 := @phys_ok phys hp
  exact (o74 (d := .bool false) (E1 ++ List.replicate 3 (tC (eT (leL 0 h4))) ++ [tC (leL 0 h4)] ++ List.replicate 5 (tC (eT (leC 10 h5))) ++ [.ret _ _ _ c6, tC (leC 10 h5), tT] ++ List.replicate 5 (tC (eT k0)) ++ [tC k0]) (by kernel_rfl)).to (by simp only [wk, D.bool.injEq, eq_irc, mayI_1, zeroX, k0, h4, h5, Bool.true_and, Bool.false_and, Bool.and_true, Bool.and_false]; done)
 exact (o74 (d := .bool false) (E1 ++ List.replicate 3 (tC (eT (leL 0 h4))) ++ [tC (leL 0 h4)] ++ List.replicate 5 (tC (eT (leC 10 h5))) ++ [tC (leC 10 h5), tT, tF, tF, tF, tF, tF, tF]) (by kernel_rfl)).to (by simp only [wk, D.bool.injEq, eq_irc, mayI_1, zeroX, k0, h4, h5, Bool.true_and, Bool.false_and, Bool.and_true, Bool.and_false]; done)
theorem imay_2_ok : SpI00 2 := by
 intro op w dst src base disp imm cc reg phys num to ho hc hp g0 g1
 let E1 : EL := ([.inl, .inl] ++ List.replicate 9 tT ++ [.get ([D.fn (Fn.func 164) [] [], D.fn (Fn.func 161) [] [], D.fn (Fn.func 161) [] [], D.fn (Fn.func 168) [] [], D.fn (Fn.func 169) [] [D.ptr false 2 0], D.fn (Fn.func 163) [] [], D.fn (Fn.func 171) [] []]) 2 (D.fn (Fn.func 161) [] []) rfl, tT, .inl, .inl])
 rcases bft (scrM phys) with k0 | k0
 ·rcases bft (decide (IntKind.wrap IntKind.i64 reg < 0)) with h1 | h1
  ·exact (o74 (d := .bool false) (E1 ++ List.replicate 3 (tC (eT (leL 0 h1))) ++ [tC (leL 0 h1), tF, tF, tF, tF, tF, tF, tT, tF, tF, tF, tF, tF, tF]) (by kernel_rfl)).to (by clear E1; simp only [wk, D.bool.injEq, eq_irc, mayI_2, zeroX, k0, h1, Bool.true_and, Bool.false_and, Bool.and_true, Bool.and_false]; rw [Bool.eq_iff_iff]; simp only [sl1, eq_irc] at *; omega)
  rcases bft (decide (IntKind.wrap IntKind.i64 reg < 11)) with h2 | h2
  ·have c3 := @phys_ok phys hp
   exact (o74 (d := .bool (eqCells [.int .i8 2, .int .i8 op, .int .i8 w, .int .i8 dst, .int .i8 src, .int .i8 base, .int .i64 disp, .int .i64 imm, .int .i8 cc, .int .i8 0, .int .i8 0, .int .i64 num, .int .i64 to] [.int .i8 2, .int .i8 0, .int .i8 0, .int .i8 0, .int .i8 0, .int .i8 0, .int .i64 0, .int .i64 0, .int .i8 0, .int .i8 0, .int .i8 0, .int .i64 0, .int .i64 0])) (E1 ++ List.replicate 3 (tC (eT (leL 0 h1))) ++ [tC (leL 0 h1)] ++ List.replicate 5 (tC (eT (leC 10 h2))) ++ [.ret _ _ _ c3, tC (leC 10 h2), tT] ++ List.replicate 5 (tC (eT k0)) ++ [.flat _ _ flat_Ir, tC k0]) (by kernel_rfl)).to (by clear E1; simp only [wk, D.bool.injEq, eq_irc, mayI_2, zeroX, k0, h1, h2, Bool.true_and, Bool.false_and, Bool.and_true, Bool.and_false]; rw [Bool.eq_iff_iff]; simp only [sl1, eq_irc] at *; omega)
  exact (o74 (d := .bool false) (E1 ++ List.replicate 3 (tC (eT (leL 0 h1))) ++ [tC (leL 0 h1)] ++ List.replicate 5 (tC (eT (leC 10 h2))) ++ [tC (leC 10 h2), tT, tF, tF, tF, tF, tF, tF]) (by kernel_rfl)).to (by clear E1; simp only [wk, D.bool.injEq, eq_irc, mayI_2, zeroX, k0, h1, h2, Bool.true_and, Bool.false_and, Bool.and_true, Bool.and_false]; rw [Bool.eq_iff_iff]; simp only [sl1, eq_irc] at *; omega)
 rcases bft (decide (IntKind.wrap IntKind.i64 reg < 0)) with h4 | h4
 ·exact (o74 (d := .bool false) (E1 ++ List.replicate 3 (tC (eT (leL 0 h4))) ++ [tC (leL 0 h4), tF, tF, tF, tF, tF, tF, tT, tF, tF, tF, tF, tF, tF]) (by kernel_rfl)).to (by simp only [wk, D.bool.injEq, eq_irc, mayI_2, zeroX, k0, h4, Bool.true_and, Bool.false_and, Bool.and_true, Bool.and_false]; done)
 rcases bft (decide (IntKind.wrap IntKind.i64 reg < 11)) with h5 | h5
 ·have c6 := @phys_ok phys hp
  exact (o74 (d := .bool false) (E1 ++ List.replicate 3 (tC (eT (leL 0 h4))) ++ [tC (leL 0 h4)] ++ List.replicate 5 (tC (eT (leC 10 h5))) ++ [.ret _ _ _ c6, tC (leC 10 h5), tT] ++ List.replicate 5 (tC (eT k0)) ++ [tC k0]) (by kernel_rfl)).to (by simp only [wk, D.bool.injEq, eq_irc, mayI_2, zeroX, k0, h4, h5, Bool.true_and, Bool.false_and, Bool.and_true, Bool.and_false]; done)
 exact (o74 (d := .bool false) (E1 ++ List.replicate 3 (tC (eT (leL 0 h4))) ++ [tC (leL 0 h4)] ++ List.replicate 5 (tC (eT (leC 10 h5))) ++ [tC (leC 10 h5), tT, tF, tF, tF, tF, tF, tF]) (by kernel_rfl)).to (by simp only [wk, D.bool.injEq, eq_irc, mayI_2, zeroX, k0, h4, h5, Bool.true_and, Bool.false_and, Bool.and_true, Bool.and_false]; done)
theorem imay_3_ok : SpI00 3 := by
 intro op w dst src base disp imm cc reg phys num to ho hc hp g0 g1
 let E1 : EL := ([.inl, .inl] ++ List.replicate 9 tT ++ [.get ([D.fn (Fn.func 164) [] [], D.fn (Fn.func 161) [] [], D.fn (Fn.func 161) [] [], D.fn (Fn.func 168) [] [], D.fn (Fn.func 169) [] [D.ptr false 2 0], D.fn (Fn.func 163) [] [], D.fn (Fn.func 171) [] []]) 3 (D.fn (Fn.func 168) [] []) rfl, tT, .inl, .inl])
 rcases bft (decide (num < 0)) with h0 | h0
 ·exact (o74 (d := .bool false) (E1 ++ List.replicate 3 (tC (eT (leL 0 h0))) ++ [tC (leL 0 h0), tT, tF, tF, tF, tF, tF, tF]) (by kernel_rfl)).to (by clear E1; simp only [wk, D.bool.injEq, eq_irc, mayI_3, zeroX, h0, Bool.true_and, Bool.false_and, Bool.and_true, Bool.and_false]; rw [Bool.eq_iff_iff]; simp only [sl1, eq_irc] at *; omega)
 rcases bft (decide (num < 16)) with h1 | h1
 ·exact (o74 (d := .bool (eqCells [.int .i8 3, .int .i8 op, .int .i8 w, .int .i8 dst, .int .i8 src, .int .i8 base, .int .i64 disp, .int .i64 imm, .int .i8 cc, .int .i8 reg, .int .i8 phys, .int .i64 0, .int .i64 to] [.int .i8 3, .int .i8 0, .int .i8 0, .int .i8 0, .int .i8 0, .int .i8 0, .int .i64 0, .int .i64 0, .int .i8 0, .int .i8 0, .int .i8 0, .int .i64 0, .int .i64 0])) (E1 ++ List.replicate 3 (tC (eT (leL 0 h0))) ++ [tC (leL 0 h0), tT] ++ List.replicate 5 (tC (eT (leC 15 h1))) ++ [.flat _ _ flat_Ir, tC (leC 15 h1)]) (by kernel_rfl)).to (by clear E1; simp only [wk, D.bool.injEq, eq_irc, mayI_3, zeroX, h0, h1, Bool.true_and, Bool.false_and, Bool.and_true, Bool.and_false]; rw [Bool.eq_iff_iff]; simp only [sl1, eq_irc] at *; omega)
 exact (o74 (d := .bool false) (E1 ++ List.replicate 3 (tC (eT (leL 0 h0))) ++ [tC (leL 0 h0), tT] ++ List.replicate 5 (tC (eT (leC 15 h1))) ++ [tC (leC 15 h1)]) (by kernel_rfl)).to (by clear E1; simp only [wk, D.bool.injEq, eq_irc, mayI_3, zeroX, h0, h1, Bool.true_and, Bool.false_and, Bool.and_true, Bool.and_false]; rw [Bool.eq_iff_iff]; simp only [sl1, eq_irc] at *; omega)
theorem imay_4_ok : SpI00 4 := by
 intro op w dst src base disp imm cc reg phys num to ho hc hp g0 g1
 let E1 : EL := ([.inl, .inl] ++ List.replicate 9 tT ++ [.get ([D.fn (Fn.func 164) [] [], D.fn (Fn.func 161) [] [], D.fn (Fn.func 161) [] [], D.fn (Fn.func 168) [] [], D.fn (Fn.func 169) [] [D.ptr false 2 0], D.fn (Fn.func 163) [] [], D.fn (Fn.func 171) [] []]) 4 (D.fn (Fn.func 169) [] [D.ptr false 2 0]) rfl, tT, .inl, .flat _ _ flat_X])
 rcases bft (eqCells [.int .i8 op, .int .i8 w, .int .i8 dst, .int .i8 src, .int .i8 base, .int .i64 disp, .int .i64 imm, .int .i8 cc] [.int .i8 29, .int .i8 0, .int .i8 0, .int .i8 0, .int .i8 0, .int .i64 0, .int .i64 0, .int .i8 cc]) with h0 | h0
 ·have c1 := @fmay_any_ok cc
  let E2 : EL := E1 ++ List.replicate 6 (tC (eT h0)) ++ [.ret _ _ _ c1, tC h0, .inl, .inl]
  rcases bft (decide (to < 0)) with h2 | h2
  ·exact (o74 (d := .bool false) (E2 ++ List.replicate 3 (tC (eT (leL 0 h2))) ++ [tC (leL 0 h2), tF, tF, tT, tF, tF, tF, tF, tF, tF]) (by kernel_rfl)).to (by clear E1 E2; simp only [wk, D.bool.injEq, eq_irc, mayI_4, zeroX, h0, h2, Bool.true_and, Bool.false_and, Bool.and_true, Bool.and_false]; first | done | rfl | (rw [Bool.eq_iff_iff]; simp only [sl1, eq_irc, eqCells, eqCell, beq_self_eq_true, Bool.and_eq_false_iff, Bool.and_true] at *; first | done | omega | (intro hh; omega) | (simp; done) | (intro hh; simp at hh; omega) | (constructor <;> intro hh <;> omega)))
  let E3 : EL := E2 ++ List.replicate 3 (tC (eT (leL 0 h2))) ++ [tC (leL 0 h2)]
  rcases bft (decide (to < 65)) with h3 | h3
  ·rcases bft (ccM cc) with h4 | h4
   ·exact (o74 (d := .bool (eqCells [.int .i8 4, .int .i8 0, .int .i8 0, .int .i8 0, .int .i8 0, .int .i8 0, .int .i64 0, .int .i64 0, .int .i8 0, .int .i8 reg, .int .i8 phys, .int .i64 num, .int .i64 0] [.int .i8 4, .int .i8 0, .int .i8 0, .int .i8 0, .int .i8 0, .int .i8 0, .int .i64 0, .int .i64 0, .int .i8 0, .int .i8 0, .int .i8 0, .int .i64 0, .int .i64 0])) (E3 ++ [tC (eT (leC 64 h3)), tC (leC 64 h3), tT] ++ List.replicate 5 (tC (eT h4)) ++ [.flat _ _ flat_Ir, tC h4]) (by kernel_rfl)).to (by clear E1 E2 E3; simp only [wk, D.bool.injEq, eq_irc, mayI_4, zeroX, h0, h2, h3, h4, Bool.true_and, Bool.false_and, Bool.and_true, Bool.and_false]; first | done | rfl | (rw [Bool.eq_iff_iff]; simp only [sl1, eq_irc, eqCells, eqCell, beq_self_eq_true, Bool.and_eq_false_iff, Bool.and_true] at *; first | done | omega | (intro hh; omega) | (simp; done) | (intro hh; simp at hh; omega) | (constructor <;> intro hh <;> omega)))
   exact (o74 (d := .bool false) (E3 ++ [tC (eT (leC 64 h3)), tC (leC 64 h3), tT] ++ List.replicate 5 (tC (eT h4)) ++ [tC h4]) (by kernel_rfl)).to (by clear E1 E2 E3; simp only [wk, D.bool.injEq, eq_irc, mayI_4, zeroX, h0, h2, h3, h4, Bool.true_and, Bool.false_and, Bool.and_true, Bool.and_false]; first | done | rfl | (rw [Bool.eq_iff_iff]; simp only [sl1, eq_irc, eqCells, eqCell, beq_self_eq_true, Bool.and_eq_false_iff, Bool.and_true] at *; first | done | omega | (intro hh; omega) | (simp; done) | (intro hh; simp at hh; omega) | (constructor <;> intro hh <;> omega)))
  exact (o74 (d := .bool false) (E3 ++ [tC (eT (leC 64 h3)), tC (leC 64 h3), tT, tF, tF, tF, tF, tF, tF]) (by kernel_rfl)).to (by clear E1 E2 E3; simp only [wk, D.bool.injEq, eq_irc, mayI_4, zeroX, h0, h2, h3, Bool.true_and, Bool.false_and, Bool.and_true, Bool.and_false]; first | done | rfl | (rw [Bool.eq_iff_iff]; simp only [sl1, eq_irc, eqCells, eqCell, beq_self_eq_true, Bool.and_eq_false_iff, Bool.and_true] at *; first | done | omega | (intro hh; omega) | (simp; done) | (intro hh; simp at hh; omega) | (constructor <;> intro hh <;> omega)))
 let E4 : EL := E1 ++ List.replicate 6 (tC (eT h0)) ++ [tC h0, .inl, .inl]
 rcases bft (decide (to < 0)) with h5 | h5
 ·exact (o74 (d := .bool false) (E4 ++ List.replicate 3 (tC (eT (leL 0 h5))) ++ [tC (leL 0 h5), tF, tF, tT, tF, tF, tF, tF, tF, tF]) (by kernel_rfl)).to (by clear E1 E4; simp only [wk, D.bool.injEq, eq_irc, mayI_4, zeroX, h0, h5, Bool.true_and, Bool.false_and, Bool.and_true, Bool.and_false]; first | done | rfl | (rw [Bool.eq_iff_iff]; simp only [sl1, eq_irc, eqCells, eqCell, beq_self_eq_true, Bool.and_eq_false_iff, Bool.and_true] at *; first | done | omega | (intro hh; omega) | (simp; done) | (intro hh; simp at hh; omega) | (constructor <;> intro hh <;> omega)))
 rcases bft (decide (to < 65)) with h6 | h6
 ·exact (o74 (d := .bool false) (E4 ++ List.replicate 3 (tC (eT (leL 0 h5))) ++ [tC (leL 0 h5), tC (eT (leC 64 h6)), tC (leC 64 h6), tT, tF, tF, tF, tF, tF, tF]) (by kernel_rfl)).to (by clear E1 E4; simp only [wk, D.bool.injEq, eq_irc, mayI_4, zeroX, h0, h5, h6, Bool.true_and, Bool.false_and, Bool.and_true, Bool.and_false]; first | done | rfl | (rw [Bool.eq_iff_iff]; simp only [sl1, eq_irc, eqCells, eqCell, beq_self_eq_true, Bool.and_eq_false_iff, Bool.and_true] at *; first | done | omega | (intro hh; omega) | (simp; done) | (intro hh; simp at hh; omega) | (constructor <;> intro hh <;> omega)))
 exact (o74 (d := .bool false) (E4 ++ List.replicate 3 (tC (eT (leL 0 h5))) ++ [tC (leL 0 h5), tC (eT (leC 64 h6)), tC (leC 64 h6), tT, tF, tF, tF, tF, tF, tF]) (by kernel_rfl)).to (by clear E1 E4; simp only [wk, D.bool.injEq, eq_irc, mayI_4, zeroX, h0, h5, h6, Bool.true_and, Bool.false_and, Bool.and_true, Bool.and_false]; first | done | rfl | (rw [Bool.eq_iff_iff]; simp only [sl1, eq_irc, eqCells, eqCell, beq_self_eq_true, Bool.and_eq_false_iff, Bool.and_true] at *; first | done | omega | (intro hh; omega) | (simp; done) | (intro hh; simp at hh; omega) | (constructor <;> intro hh <;> omega)))
theorem imay_5_ok : SpI00 5 := by
 intro op w dst src base disp imm cc reg phys num to ho hc hp g0 g1
 let E1 : EL := ([.inl, .inl] ++ List.replicate 9 tT ++ [.get ([D.fn (Fn.func 164) [] [], D.fn (Fn.func 161) [] [], D.fn (Fn.func 161) [] [], D.fn (Fn.func 168) [] [], D.fn (Fn.func 169) [] [D.ptr false 2 0], D.fn (Fn.func 163) [] [], D.fn (Fn.func 171) [] []]) 5 (D.fn (Fn.func 163) [] []) rfl, tT, .inl, .inl])
 rcases bft (decide (to < 0)) with h0 | h0
 ·exact (o74 (d := .bool false) (E1 ++ List.replicate 3 (tC (eT (leL 0 h0))) ++ [tC (leL 0 h0), tT, tF, tF, tF, tF, tF, tF]) (by kernel_rfl)).to (by clear E1; simp only [wk, D.bool.injEq, eq_irc, mayI_5, zeroX, h0, Bool.true_and, Bool.false_and, Bool.and_true, Bool.and_false]; rw [Bool.eq_iff_iff]; simp only [sl1, eq_irc] at *; omega)
 rcases bft (decide (to < 65)) with h1 | h1
 ·exact (o74 (d := .bool (eqCells [.int .i8 5, .int .i8 op, .int .i8 w, .int .i8 dst, .int .i8 src, .int .i8 base, .int .i64 disp, .int .i64 imm, .int .i8 cc, .int .i8 reg, .int .i8 phys, .int .i64 num, .int .i64 0] [.int .i8 5, .int .i8 0, .int .i8 0, .int .i8 0, .int .i8 0, .int .i8 0, .int .i64 0, .int .i64 0, .int .i8 0, .int .i8 0, .int .i8 0, .int .i64 0, .int .i64 0])) (E1 ++ List.replicate 3 (tC (eT (leL 0 h0))) ++ [tC (leL 0 h0), tT] ++ List.replicate 5 (tC (eT (leC 64 h1))) ++ [.flat _ _ flat_Ir, tC (leC 64 h1)]) (by kernel_rfl)).to (by clear E1; simp only [wk, D.bool.injEq, eq_irc, mayI_5, zeroX, h0, h1, Bool.true_and, Bool.false_and, Bool.and_true, Bool.and_false]; rw [Bool.eq_iff_iff]; simp only [sl1, eq_irc] at *; omega)
 exact (o74 (d := .bool false) (E1 ++ List.replicate 3 (tC (eT (leL 0 h0))) ++ [tC (leL 0 h0), tT] ++ List.replicate 5 (tC (eT (leC 64 h1))) ++ [tC (leC 64 h1)]) (by kernel_rfl)).to (by clear E1; simp only [wk, D.bool.injEq, eq_irc, mayI_5, zeroX, h0, h1, Bool.true_and, Bool.false_and, Bool.and_true, Bool.and_false]; rw [Bool.eq_iff_iff]; simp only [sl1, eq_irc] at *; omega)
theorem imay_6_ok : SpI00 6 := by
 intro op w dst src base disp imm cc reg phys num to ho hc hp g0 g1
 exact (o74 (d := .bool (eqCells [.int .i8 6, .int .i8 op, .int .i8 w, .int .i8 dst, .int .i8 src, .int .i8 base, .int .i64 disp, .int .i64 imm, .int .i8 cc, .int .i8 reg, .int .i8 phys, .int .i64 num, .int .i64 to] [.int .i8 6, .int .i8 0, .int .i8 0, .int .i8 0, .int .i8 0, .int .i8 0, .int .i64 0, .int .i64 0, .int .i8 0, .int .i8 0, .int .i8 0, .int .i64 0, .int .i64 0])) ([.inl, .inl] ++ List.replicate 9 tT ++ [.get ([D.fn (Fn.func 164) [] [], D.fn (Fn.func 161) [] [], D.fn (Fn.func 161) [] [], D.fn (Fn.func 168) [] [], D.fn (Fn.func 169) [] [D.ptr false 2 0], D.fn (Fn.func 163) [] [], D.fn (Fn.func 171) [] []]) 6 (D.fn (Fn.func 171) [] []) rfl, tT, .inl, tT, tT, tT, tT, tT, tT, .flat _ _ flat_Ir, tT]) (by kernel_rfl)).to (by simp only [wk, D.bool.injEq, eq_irc, mayI_6, zeroX, Bool.true_and, Bool.false_and, Bool.and_true, Bool.and_false]; rw [Bool.eq_iff_iff]; simp only [sl1, eq_irc] at *; omega)
theorem imay_lo_ok (kind op w dst src base disp imm cc reg phys num to : Int) (h : kind < 0) (h2 : -128 ≤ kind) : Ret Try.prog 74 ([irD kind op w dst src base disp imm cc reg phys num to]) (.bool false) := by
 exact (o74 (d := .bool false) ([.inl, .inl] ++ List.replicate 3 (tC (eT (leL 0 (by (simp only [sl2] at *; omega) : (decide (IntKind.wrap IntKind.i64 kind < 0)) = true)))) ++ [tC (leL 0 (by (simp only [sl2] at *; omega) : (decide (IntKind.wrap IntKind.i64 kind < 0)) = true))] ++ List.replicate 12 tF) (by kernel_rfl)).to (by simp [wk])
theorem imay_hi_ok (kind op w dst src base disp imm cc reg phys num to : Int) (h : 7 ≤ kind) (h2 : kind ≤ 127) : Ret Try.prog 74 ([irD kind op w dst src base disp imm cc reg phys num to]) (.bool false) := by
 exact (o74 (d := .bool false) ([.inl, .inl] ++ List.replicate 3 (tC (eT (leL 0 (by (simp only [sl2] at *; omega) : (decide (IntKind.wrap IntKind.i64 kind < 0)) = false)))) ++ [tC (leL 0 (by (simp only [sl2] at *; omega) : (decide (IntKind.wrap IntKind.i64 kind < 0)) = false))] ++ List.replicate 5 (tC (eT (leC 6 (by (simp only [sl2] at *; omega) : (decide (IntKind.wrap IntKind.i64 kind < 7)) = false)))) ++ [tC (leC 6 (by (simp only [sl2] at *; omega) : (decide (IntKind.wrap IntKind.i64 kind < 7)) = false)), tF, tF, tF, tF, tF, tF]) (by kernel_rfl)).to (by simp [wk])
end Go.Proofs.Ytcngafhpodeenaa

namespace Go.Proofs.Ytcngafhpodeenaa
open Go Go.Ev
theorem imay_c_ok (kind op w dst src base disp imm cc reg phys num to : Int) (a0 : -128 ≤ kind) (a1 : kind ≤ 127) (ho : op ≤ 127) (hc : cc ≤ 127) (hp : phys ≤ 127) (g0 : -128 ≤ reg) (g1 : reg ≤ 127) :
  Ret Try.prog 74 [irD kind op w dst src base disp imm cc reg phys num to] (.bool (mayI kind op w dst src base disp imm cc reg phys num to)) := by
 by_cases h : 0 ≤ kind ∧ kind ≤ 6
 ·have hk : kind = 0 ∨ kind = 1 ∨ kind = 2 ∨ kind = 3 ∨ kind = 4 ∨ kind = 5 ∨ kind = 6 := by omega
  rcases hk with rfl | rfl | rfl | rfl | rfl | rfl | rfl
  ·exact imay_0_ok _ _ _ _ _ _ _ _ _ _ _ _ ho hc hp g0 g1
  ·exact imay_1_ok _ _ _ _ _ _ _ _ _ _ _ _ ho hc hp g0 g1
  ·exact imay_2_ok _ _ _ _ _ _ _ _ _ _ _ _ ho hc hp g0 g1
  ·exact imay_3_ok _ _ _ _ _ _ _ _ _ _ _ _ ho hc hp g0 g1
  ·exact imay_4_ok _ _ _ _ _ _ _ _ _ _ _ _ ho hc hp g0 g1
  ·exact imay_5_ok _ _ _ _ _ _ _ _ _ _ _ _ ho hc hp g0 g1
  ·exact imay_6_ok _ _ _ _ _ _ _ _ _ _ _ _ ho hc hp g0 g1
 ·have e : mayI kind op w dst src base disp imm cc reg phys num to = false := by
   unfold mayI
   rw [if_neg (by omega), if_neg (by omega), if_neg (by omega), if_neg (by omega), if_neg (by omega), if_neg (by omega)]
  rw [e]
  by_cases h2 : kind < 0
  ·exact imay_lo_ok _ _ _ _ _ _ _ _ _ _ _ _ _ h2 a0
  ·exact imay_hi_ok _ _ _ _ _ _ _ _ _ _ _ _ _ (by omega) a1
end Go.Proofs.Ytcngafhpodeenaa

namespace Go.Proofs.Ytcngafhpodeenaa
open Go Go.Ev
set_option maxRecDepth 100000
theorem lmay_ok (s : IrS) (h : s.ok) (n : Int) : Ret Try.prog 124 [s.d, .int .i64 n] (.bool (mayL s n)) := by
 obtain ⟨kind, op, w, dst, src, base, disp, imm, cc, reg, phys, num, to⟩ := s
 obtain ⟨a0, a1, ho, hc, hp, g0, g1⟩ := h
 by_cases h0 : kind = 0
 ·subst h0
  have := lm_0_ok op w dst src base disp imm cc reg phys num to n _ (mayX_ok op w dst src base disp imm cc ho)
  unfold mayL
  rw [if_pos rfl]
  exact this
 ·by_cases h4 : kind = 4
  ·subst h4
   have := lm_4_ok op w dst src base disp imm cc reg phys num to n _ (imay_c_ok 4 op w dst src base disp imm cc reg phys num to a0 a1 ho hc hp g0 g1)
   unfold mayL
   rw [if_neg (show ¬ (4 : Int) = 0 by decide), if_pos (.inl rfl)]
   exact this
  ·by_cases h5 : kind = 5
   ·subst h5
    have := lm_5_ok op w dst src base disp imm cc reg phys num to n _ (imay_c_ok 5 op w dst src base disp imm cc reg phys num to a0 a1 ho hc hp g0 g1)
    unfold mayL
    rw [if_neg (show ¬ (5 : Int) = 0 by decide), if_pos (.inr rfl)]
    exact this
   ·have := lm_n_ok kind op w dst src base disp imm cc reg phys num to n h0 h4 h5
    unfold mayL
    rw [if_neg h0, if_neg (by intro h; rcases h with h | h; exact h4 h; exact h5 h)]
    exact this
abbrev bkT (l : List IrS) (b : Int) (i : Int) (p : List PaS) : List D := [.lst .no 13 (irL l), .int .i64 b, .undef, .undef, .lst (.tok 0 0) 10 (paL p), .undef, .undef, .lst .no 13 (irL l), .int .i64 ((irL l).length : Int), .int .i64 i, .undef, .undef, .undef, .undef, .undef, .undef, .undef, .undef, .undef, .undef, .undef, .undef, .undef, .undef, .undef, .undef, .undef, .undef, .undef, .undef, .undef, .undef, .undef, .undef, .undef, .undef, .undef, .undef, .undef, .undef, .undef, .undef, .undef, .undef, .undef, .undef, .undef, .undef, .undef, .undef, .undef, .undef, .undef, .undef, .undef, .undef, .undef, .undef, .undef, .undef, .undef, .undef, .undef]
abbrev bkU (p : List PaS) : List D := [.undef, .undef, .undef, .undef, .lst (.tok 0 0) 10 (paL p), .undef, .undef, .undef, .undef, .undef, .undef, .undef, .undef, .undef, .undef, .undef, .undef, .undef, .undef, .undef, .undef, .undef, .undef, .undef, .undef, .undef, .undef, .undef, .undef, .undef, .undef, .undef, .undef, .undef, .undef, .undef, .undef, .undef, .undef, .undef, .undef, .undef, .undef, .undef, .undef, .undef, .undef, .undef, .undef, .undef, .undef, .undef, .undef, .undef, .undef, .undef, .undef, .undef, .undef, .undef, .undef, .undef, .undef]
def blkOK (l : List IrS) : Prop := ∀ s ∈ l, s.kind = 0 ∨ s.kind = 4 ∨ s.kind = 5
theorem mayL_kind {s : IrS} {n : Int} (h : mayL s n = true) : s.kind = 0 ∨ s.kind = 4 ∨ s.kind = 5 := by
 unfold mayL at h
 split at h
 ·exact .inl (by assumption)
 ·split at h
  ·exact .inr (by assumption)
  ·cases h
theorem paL_snoc (p : List PaS) (x : PaS) : paL p ++ [x.d] = paL (p ++ [x]) := by simp [paL]
theorem bk_rounds (l : List IrS) (b : Int) (b0 : 0 ≤ b) (b1 : b ≤ 1000) (hk : blkOK l) (hl : l.length ≤ 100000) : ∀ (m i : Nat), i + m = l.length →
  Rounds Try.prog (loopB Try.f126 0) 0 (bkT l b i (blkG l.length b 0 (l.take i))) [.fam 0 10] (.exit 0) (bkU (blkP l b)) [.fam 0 10]
 | 0, i, hi => by
  have e : l.take i = l := List.take_of_length_le (by omega)
  rw [e]
  exact Rounds.last (bk_end l (blkG l.length b 0 l) b _ i (by omega) rfl (by rw [irL_len]; omega) (by rw [paL_len]; have := blkG_len l.length b l 0; omega) (by rw [irL_len]; omega)) (fun h => by cases h)
 | m + 1, i, hi => by
  have hlt : i < l.length := by omega
  have ih := bk_rounds l b b0 b1 hk hl m (i + 1) (by omega)
  have hs := hk l[i] (List.getElem_mem hlt)
  have hx := irL_get l i hlt
  have hw : IntKind.i64.wrap ((i : Int) + 1) = ((i + 1 : Nat) : Int) := by rw [w_i64]; omega
  have hb : IntKind.i64.wrap (b + 1) = b + 1 := by rw [w_i64]; omega
  have h1 : ((irL l).length : Int) ≤ 100000 := by rw [irL_len]; omega
  have h2 : ((paL (blkG l.length b 0 (l.take i))).length : Int) ≤ 100000 := by
   rw [paL_len]
   have := blkG_len l.length b (l.take i) 0
   rw [List.length_take] at this
   omega
  have h3 : (i : Int) < ((irL l).length : Int) := by rw [irL_len]; omega
  have e : blkG l.length b 0 (l.take (i + 1)) = blkG l.length b 0 (l.take i) ++ stepP l.length b i l[i] := by
   rw [List.take_succ_eq_append_getElem hlt, blkG_snoc, List.length_take, Nat.min_eq_left (by omega), Nat.zero_add]
  rw [e] at ih
  rcases hs with h0 | h4 | h5
  ·have := bk_x l (blkG l.length b 0 (l.take i)) b _ i (by omega) rfl h1 h2 h3 l[i] (by rw [Int.toNat_natCast]; exact hx) h0
   rw [hw, paL_snoc] at this
   rw [show stepP l.length b i l[i] = [inP l[i].x] by unfold stepP; rw [if_pos h0]] at ih
   exact Rounds.more this ih
  ·have := bk_j l (blkG l.length b 0 (l.take i)) b _ i (by omega) rfl h1 h2 h3 l[i] (by rw [Int.toNat_natCast]; exact hx) h4
   rw [hw, paL_snoc] at this
   rw [show stepP l.length b i l[i] = [jcP l[i].cc l[i].to] by unfold stepP; rw [if_neg (by omega), if_pos h4]] at ih
   exact Rounds.more this ih
  ·by_cases hg : i = 0
   ·have := bk_g0 l (blkG l.length b 0 (l.take i)) b _ i (by omega) rfl h1 h2 h3 l[i] (by rw [Int.toNat_natCast]; exact hx) h5 (by omega)
    rw [hw, paL_snoc] at this
    rw [show stepP l.length b i l[i] = [jmP l[i].to] by unfold stepP; rw [if_neg (by omega), if_neg (by omega), if_pos (.inl hg)]] at ih
    exact Rounds.more this ih
   ·by_cases hh : i + 1 < l.length
    ·have := bk_g1 l (blkG l.length b 0 (l.take i)) b _ i (by omega) rfl h1 h2 h3 l[i] (by rw [Int.toNat_natCast]; exact hx) h5 (by omega) (by rw [irL_len]; omega)
     rw [hw, paL_snoc] at this
     rw [show stepP l.length b i l[i] = [jmP l[i].to] by unfold stepP; rw [if_neg (by omega), if_neg (by omega), if_pos (.inr (.inl hh))]] at ih
     exact Rounds.more this ih
    ·by_cases ht : l[i].to = b + 1
     ·have := bk_s l (blkG l.length b 0 (l.take i)) b _ i (by omega) rfl h1 h2 h3 l[i] (by rw [Int.toNat_natCast]; exact hx) h5 (by omega) (by rw [irL_len]; omega) (by rw [hb]; exact ht)
      rw [hw] at this
      rw [show stepP l.length b i l[i] = [] by unfold stepP; rw [if_neg (by omega), if_neg (by omega), if_neg (by omega)], List.append_nil] at ih
      exact Rounds.more this ih
     ·have := bk_g2 l (blkG l.length b 0 (l.take i)) b _ i (by omega) rfl h1 h2 h3 l[i] (by rw [Int.toNat_natCast]; exact hx) h5 (by omega) (by rw [irL_len]; omega) (by rw [hb]; exact ht)
      rw [hw, paL_snoc] at this
      rw [show stepP l.length b i l[i] = [jmP l[i].to] by unfold stepP; rw [if_neg (by omega), if_neg (by omega), if_pos (.inr (.inr ht))]] at ih
      exact Rounds.more this ih
theorem bk_loop (l : List IrS) (b : Int) (b0 : 0 ≤ b) (b1 : b ≤ 1000) (hk : blkOK l) (hl : l.length ≤ 100000) : LoopRun Try.prog 0 (.loop (loopB Try.f126 0)) (bkT l b 0 []) [.fam 0 10] (.exit 0) (bkU (blkP l b)) [.fam 0 10] :=
 LoopRun.of_rounds (by decide) (bk_rounds l b b0 b1 hk hl l.length 0 (by omega))
theorem run_id {n0 : Nat} {c : Code} {t : List D} {s : List Ob} {ex : Ex} {t' : List D} {s' : List Ob} (h : LoopRun Try.prog n0 c t s ex t' s') : LoopRun Try.prog n0 c t s ex t' s' := h
end Go.Proofs.Ytcngafhpodeenaa

namespace Go.Proofs.Ytcngafhpodeenaa
open Go Go.Ev
set_option maxRecDepth 100000
set_option maxHeartbeats 8000000
theorem ll_yes_ok (b : List Int) (l : List XS) (hx : LoopRun Try.prog 0 (.loop (loopB Try.f32 0)) (llT b []) [.fam 0 8] (.exit 0) (llU l) [.fam 0 8])  : Ret Try.prog 32 ([.lst .no 1 (bD b)]) (.tup [.lst .no 8 (xsL l), .bool true]) := by
 have c0 := @run_id (nat_lit 0) _ ([.lst .no 1 (bD b), D.undef, .lst (Own.tok (0 : Nat) (0 : Nat)) (8 : Nat) [], D.undef, D.undef, D.undef, D.undef, D.undef, D.undef, D.undef, D.undef, D.undef, D.undef, D.undef, D.undef, D.undef, D.undef, D.undef, D.undef, D.undef, D.undef, D.undef, D.undef, D.undef, D.undef, D.undef]) ([Ob.fam (0 : Nat) (8 : Nat)]) _ _ _ hx
 exact (Ret.of_eval (d := .tup [.lst (.fresh 8) 8 (xsL l), .bool true]) mixed Try.func32 (by kernel_rfl) [.head ⟨[0], [], [(2, 8)]⟩ _ _ _ _ _ _ _ c0] (by kernel_rfl)).to (by first | (simp [wk, wkO]; done) | (simp [wk, wkL, wkO]; done) | exact ⟨⟨rfl, .inl rfl, trivial, .inr rfl⟩, rfl, trivial⟩)
theorem ll_no_ok (b : List Int) (hx : LoopRun Try.prog 0 (.loop (loopB Try.f32 0)) (llT b []) [.fam 0 8] .ret llV [])  : Ret Try.prog 32 ([.lst .no 1 (bD b)]) (.tup [.lst .tight 0 [], .bool false]) := by
 have c0 := @run_id (nat_lit 0) _ ([.lst .no 1 (bD b), D.undef, .lst (Own.tok (0 : Nat) (0 : Nat)) (8 : Nat) [], D.undef, D.undef, D.undef, D.undef, D.undef, D.undef, D.undef, D.undef, D.undef, D.undef, D.undef, D.undef, D.undef, D.undef, D.undef, D.undef, D.undef, D.undef, D.undef, D.undef, D.undef, D.undef, D.undef]) ([Ob.fam (0 : Nat) (8 : Nat)]) _ _ _ hx
 exact (Ret.of_eval (d := .tup [.lst .tight 0 [], .bool false]) mixed Try.func32 (by kernel_rfl) [.head ⟨[0], [], [(2, 8)]⟩ _ _ _ _ _ _ _ c0] (by kernel_rfl)).to (by first | (simp [wk, wkO]; done) | (simp [wk, wkL, wkO]; done) | exact ⟨⟨rfl, .inl rfl, trivial, .inr rfl⟩, rfl, trivial⟩)
end Go.Proofs.Ytcngafhpodeenaa

namespace Go.Proofs.Ytcngafhpodeenaa
open Go Go.Ev
def listD : Option (List XS) → D
  | none => .tup [.lst .tight 0 [], .bool false]
  | some l => .tup [.lst .no 8 (xsL l), .bool true]
theorem ll_any (b : List Int) (hb : isB b) (hn : b.length ≤ 40000) : Ret Try.prog 32 [.lst .no 1 (bD b)] (listD (listM (b.length + 1) b)) := by
 cases h : listM (b.length + 1) b with
 | none => exact ll_no_ok b (ll_loop_none hb hn h)
 | some l => exact ll_yes_ok b l (ll_loop_some hb hn h)
end Go.Proofs.Ytcngafhpodeenaa

namespace Go.Proofs.Ytcngafhpodeenaa
open Go Go.Ev
set_option maxRecDepth 100000
set_option maxHeartbeats 8000000
theorem blk_ok (l : List IrS) (b : Int) (p : List PaS) (hx : LoopRun Try.prog 0 (.loop (loopB Try.f126 0)) (bkT l b 0 []) [.fam 0 10] (.exit 0) (bkU p) [.fam 0 10])  : Ret Try.prog 126 ([.lst .no 13 (irL l), .int .i64 b]) (.lst .no 10 (paL p)) := by
 have c0 := @run_id (nat_lit 0) _ (((.lst .no 13 (irL l)) :: (.int .i64 b) :: (D.undef) :: (D.undef) :: (.lst (Own.tok (0 : Nat) (0 : Nat)) (10 : Nat) []) :: (D.undef) :: (D.undef) :: (.lst .no 13 (irL l)) :: (.int .i64 (↑(List.length (irL l)) : Int)) :: (.int .i64 0) :: (un 53))) ([Ob.fam (0 : Nat) (10 : Nat)]) _ _ _ hx
 exact (Ret.of_eval (d := .lst (.fresh 10) 10 (paL p)) mixed Try.func126 (by kernel_rfl) [.head ⟨[0, 1, 7, 8, 9], [], [(4, 10)]⟩ _ _ _ _ _ _ _ c0] (by kernel_rfl)).to (by first | (simp [wk, wkO]; done) | exact ⟨by simp, .inl rfl, trivial, .inr rfl⟩ | exact ⟨rfl, .inl rfl, trivial, .inr rfl⟩ | exact ⟨by simp, .inl rfl, rfl, .inr rfl⟩)
theorem pr_end (l : List (List IrS)) (pro : List XS) (p : List PaS) (n m k : Int) (k0 : 0 ≤ k) (hm0 : m = ((xsL pro).length : Int)) (hp : ((paL p).length : Int) ≤ 100000) (hml : m ≤ 100000) (h : m ≤ k)  : RoundRun Try.prog (loopB Try.f64 0) ⟨[1, 5, 7], [], [(4, 10)]⟩ 0 ((D.undef) :: (.lst .no 1 (rwL l)) :: (D.undef) :: (D.undef) :: (.lst (Own.tok (0 : Nat) (0 : Nat)) (10 : Nat) (paL p)) :: (.lst .tight 0 []) :: (D.undef) :: (.int .i64 n) :: (un 15 ++ (.lst .no 8 (xsL pro)) :: (.int .i64 m) :: (.int .i64 k) :: (un 62))) [Ob.fam (0 : Nat) (10 : Nat)] (Ex.exit (0 : Nat)) ((D.undef) :: (.lst .no 1 (rwL l)) :: (D.undef) :: (D.undef) :: (.lst (Own.tok (0 : Nat) (0 : Nat)) (10 : Nat) (paL p)) :: (.lst .tight 0 []) :: (D.undef) :: (.int .i64 n) :: (un 80)) ([Ob.fam (0 : Nat) (10 : Nat)]) := by
 exact RoundRun.of_eval mixed [tC (by ((try simp only [sL] at *); (try unfold big at *); omega) : (decide (k < m)) = false)] (by kernel_rfl)
theorem pr_in (l : List (List IrS)) (pro : List XS) (p : List PaS) (n m k : Int) (k0 : 0 ≤ k) (hm0 : m = ((xsL pro).length : Int)) (hp : ((paL p).length : Int) ≤ 100000) (hml : m ≤ 100000) (h : k < m) (x : XS) (hx : (xsL pro)[Int.toNat k]? = some (xsD x)) (j1 : x.op ≠ 28) (j2 : x.op ≠ 29) (hm : Ret Try.prog 56 [xsD x] (.bool true))  : RoundRun Try.prog (loopB Try.f64 0) ⟨[1, 5, 7, 23, 24, 25], [], [(4, 10)]⟩ 0 ((D.undef) :: (.lst .no 1 (rwL l)) :: (D.undef) :: (D.undef) :: (.lst (Own.tok (0 : Nat) (0 : Nat)) (10 : Nat) (paL p)) :: (.lst .tight 0 []) :: (D.undef) :: (.int .i64 n) :: (un 15 ++ (.lst .no 8 (xsL pro)) :: (.int .i64 m) :: (.int .i64 k) :: (un 62))) [Ob.fam (0 : Nat) (10 : Nat)] (Ex.norm) ((D.undef) :: (.lst .no 1 (rwL l)) :: (D.undef) :: (D.undef) :: (.lst (Own.tok (0 : Nat) (0 : Nat)) (10 : Nat) (paL p ++ [PaS.d (inP x)])) :: (.lst .tight 0 []) :: (D.undef) :: (.int .i64 n) :: (un 15 ++ (.lst .no 8 (xsL pro)) :: (.int .i64 m) :: (.int .i64 (IntKind.wrap IntKind.i64 (k + (1 : Int)))) :: (un 62))) ([.fam 0 10]) := by
 exact RoundRun.of_eval mixed [tC (by ((try simp only [sL] at *); (try unfold big at *); omega) : (decide (k < m)) = true), tC (v := true) (leL 0 (decide_eq_false (Int.not_lt.2 k0))), .get _ _ _ hx, .inl, tC (eF (by ((try simp only [sL] at *); (try unfold big at *); omega) : (XS.op x == (28 : Int)) = false)), tC (eF (by ((try simp only [sL] at *); (try unfold big at *); omega) : (XS.op x == (28 : Int)) = false)), tC (eF (by ((try simp only [sL] at *); (try unfold big at *); omega) : (XS.op x == (28 : Int)) = false)), tC (by ((try simp only [sL] at *); (try unfold big at *); omega) : (XS.op x == (28 : Int)) = false), tC (eF (by ((try simp only [sL] at *); (try unfold big at *); omega) : (XS.op x == (29 : Int)) = false)), tC (eF (by ((try simp only [sL] at *); (try unfold big at *); omega) : (XS.op x == (29 : Int)) = false)), .ret _ _ _ hm, tC (eF (by ((try simp only [sL] at *); (try unfold big at *); omega) : (XS.op x == (29 : Int)) = false)), tC (by ((try simp only [sL] at *); (try unfold big at *); omega) : (XS.op x == (29 : Int)) = false), tF, .len (List.length (paL p) + (1 : Nat)) ((2147483648 : Nat)) (by first | decide | omega | (simp; omega))] (by kernel_rfl)
theorem pr_j1 (l : List (List IrS)) (pro : List XS) (p : List PaS) (n m k : Int) (k0 : 0 ≤ k) (hm0 : m = ((xsL pro).length : Int)) (hp : ((paL p).length : Int) ≤ 100000) (hml : m ≤ 100000) (h : k < m) (x : XS) (hx : (xsL pro)[Int.toNat k]? = some (xsD x)) (j1 : x.op = 28)  : RoundRun Try.prog (loopB Try.f64 0) ⟨[4, 5, 6], [], []⟩ 0 ((D.undef) :: (.lst .no 1 (rwL l)) :: (D.undef) :: (D.undef) :: (.lst (Own.tok (0 : Nat) (0 : Nat)) (10 : Nat) (paL p)) :: (.lst .tight 0 []) :: (D.undef) :: (.int .i64 n) :: (un 15 ++ (.lst .no 8 (xsL pro)) :: (.int .i64 m) :: (.int .i64 k) :: (un 62))) [Ob.fam (0 : Nat) (10 : Nat)] (Ex.ret) (un 4 ++ (.lst .tight 0 []) :: (.lst .tight 0 []) :: (.int .i64 2) :: (un 81)) ([]) := by
 exact RoundRun.of_eval mixed [tC (by ((try simp only [sL] at *); (try unfold big at *); omega) : (decide (k < m)) = true), tC (v := true) (leL 0 (decide_eq_false (Int.not_lt.2 k0))), .get _ _ _ hx, .inl, tC (eF (eqI 28 true (by ((try simp only [sL] at *); (try unfold big at *); omega) : XS.op x = (28 : Int)))), tC (eF (eqI 28 true (by ((try simp only [sL] at *); (try unfold big at *); omega) : XS.op x = (28 : Int)))), tC (eF (eqI 28 true (by ((try simp only [sL] at *); (try unfold big at *); omega) : XS.op x = (28 : Int)))), tC (eqI 28 true (by ((try simp only [sL] at *); (try unfold big at *); omega) : XS.op x = (28 : Int))), tF, tF, tF, tT, tT] (by kernel_rfl)
theorem pr_j2 (l : List (List IrS)) (pro : List XS) (p : List PaS) (n m k : Int) (k0 : 0 ≤ k) (hm0 : m = ((xsL pro).length : Int)) (hp : ((paL p).length : Int) ≤ 100000) (hml : m ≤ 100000) (h : k < m) (x : XS) (hx : (xsL pro)[Int.toNat k]? = some (xsD x)) (j1 : x.op = 29)  : RoundRun Try.prog (loopB Try.f64 0) ⟨[4, 5, 6], [], []⟩ 0 ((D.undef) :: (.lst .no 1 (rwL l)) :: (D.undef) :: (D.undef) :: (.lst (Own.tok (0 : Nat) (0 : Nat)) (10 : Nat) (paL p)) :: (.lst .tight 0 []) :: (D.undef) :: (.int .i64 n) :: (un 15 ++ (.lst .no 8 (xsL pro)) :: (.int .i64 m) :: (.int .i64 k) :: (un 62))) [Ob.fam (0 : Nat) (10 : Nat)] (Ex.ret) (un 4 ++ (.lst .tight 0 []) :: (.lst .tight 0 []) :: (.int .i64 2) :: (un 81)) ([]) := by
 exact RoundRun.of_eval mixed [tC (by ((try simp only [sL] at *); (try unfold big at *); omega) : (decide (k < m)) = true), tC (v := true) (leL 0 (decide_eq_false (Int.not_lt.2 k0))), .get _ _ _ hx, .inl, tC (eF (by ((try simp only [sL] at *); (try unfold big at *); omega) : (XS.op x == (28 : Int)) = false)), tC (eF (by ((try simp only [sL] at *); (try unfold big at *); omega) : (XS.op x == (28 : Int)) = false)), tC (eF (by ((try simp only [sL] at *); (try unfold big at *); omega) : (XS.op x == (28 : Int)) = false)), tC (by ((try simp only [sL] at *); (try unfold big at *); omega) : (XS.op x == (28 : Int)) = false), tC (eF (eqI 29 true (by ((try simp only [sL] at *); (try unfold big at *); omega) : XS.op x = (29 : Int)))), tC (eF (eqI 29 true (by ((try simp only [sL] at *); (try unfold big at *); omega) : XS.op x = (29 : Int)))), tC (eF (eqI 29 true (by ((try simp only [sL] at *); (try unfold big at *); omega) : XS.op x = (29 : Int)))), tC (eqI 29 true (by ((try simp only [sL] at *); (try unfold big at *); omega) : XS.op x = (29 : Int))), tT] (by kernel_rfl)
theorem pr_m (l : List (List IrS)) (pro : List XS) (p : List PaS) (n m k : Int) (k0 : 0 ≤ k) (hm0 : m = ((xsL pro).length : Int)) (hp : ((paL p).length : Int) ≤ 100000) (hml : m ≤ 100000) (h : k < m) (x : XS) (hx : (xsL pro)[Int.toNat k]? = some (xsD x)) (j1 : x.op ≠ 28) (j2 : x.op ≠ 29) (hm : Ret Try.prog 56 [xsD x] (.bool false))  : RoundRun Try.prog (loopB Try.f64 0) ⟨[4, 5, 6], [], []⟩ 0 ((D.undef) :: (.lst .no 1 (rwL l)) :: (D.undef) :: (D.undef) :: (.lst (Own.tok (0 : Nat) (0 : Nat)) (10 : Nat) (paL p)) :: (.lst .tight 0 []) :: (D.undef) :: (.int .i64 n) :: (un 15 ++ (.lst .no 8 (xsL pro)) :: (.int .i64 m) :: (.int .i64 k) :: (un 62))) [Ob.fam (0 : Nat) (10 : Nat)] (Ex.ret) (un 4 ++ (.lst .tight 0 []) :: (.lst .tight 0 []) :: (.int .i64 2) :: (un 81)) ([]) := by
 exact RoundRun.of_eval mixed [tC (by ((try simp only [sL] at *); (try unfold big at *); omega) : (decide (k < m)) = true), tC (v := true) (leL 0 (decide_eq_false (Int.not_lt.2 k0))), .get _ _ _ hx, .inl, tC (eF (by ((try simp only [sL] at *); (try unfold big at *); omega) : (XS.op x == (28 : Int)) = false)), tC (eF (by ((try simp only [sL] at *); (try unfold big at *); omega) : (XS.op x == (28 : Int)) = false)), tC (eF (by ((try simp only [sL] at *); (try unfold big at *); omega) : (XS.op x == (28 : Int)) = false)), tC (by ((try simp only [sL] at *); (try unfold big at *); omega) : (XS.op x == (28 : Int)) = false), tC (eF (by ((try simp only [sL] at *); (try unfold big at *); omega) : (XS.op x == (29 : Int)) = false)), tC (eF (by ((try simp only [sL] at *); (try unfold big at *); omega) : (XS.op x == (29 : Int)) = false)), .ret _ _ _ hm, tC (eF (by ((try simp only [sL] at *); (try unfold big at *); omega) : (XS.op x == (29 : Int)) = false)), tC (by ((try simp only [sL] at *); (try unfold big at *); omega) : (XS.op x == (29 : Int)) = false), tT] (by kernel_rfl)
theorem ck_end (l : List (List IrS)) (r : List IrS) (p : List PaS) (q : List Int) (n c b m i : Int) (i0 : 0 ≤ i) (hm0 : m = ((irL r).length : Int)) (hml : m ≤ 100000) (h : m ≤ i)  : RoundRun Try.prog (loopB Try.f64 2) ⟨[1, 4, 5, 7, 10, 43, 44], [1, 2], []⟩ 3 ((D.undef) :: (.lst .no 1 (rwL l)) :: (D.undef) :: (D.undef) :: (.lst (Own.tok (1 : Nat) (0 : Nat)) (10 : Nat) (paL p)) :: (.lst (Own.tok (2 : Nat) (0 : Nat)) (1 : Nat) (intsD q)) :: (D.undef) :: (.int .i64 n) :: (D.undef) :: (D.undef) :: (.int .i64 b) :: (un 32 ++ (.int .i64 c) :: (.int .i64 b) :: (un 12 ++ (.lst .no 13 (irL r)) :: (.int .i64 m) :: (.int .i64 i) :: (un 28)))) [Ob.dead, Ob.fam (0 : Nat) (10 : Nat), Ob.fam (0 : Nat) (1 : Nat)] (Ex.exit (4 : Nat)) ((D.undef) :: (.lst .no 1 (rwL l)) :: (D.undef) :: (D.undef) :: (.lst (Own.tok (1 : Nat) (0 : Nat)) (10 : Nat) (paL p)) :: (.lst (Own.tok (2 : Nat) (0 : Nat)) (1 : Nat) (intsD q)) :: (D.undef) :: (.int .i64 n) :: (D.undef) :: (D.undef) :: (.int .i64 b) :: (un 32 ++ (.int .i64 c) :: (.int .i64 b) :: (un 43))) ([Ob.dead, Ob.fam (0 : Nat) (10 : Nat), Ob.fam (0 : Nat) (1 : Nat)]) := by
 exact RoundRun.of_eval mixed [tC (by ((try simp only [sL] at *); (try unfold big at *); omega) : (decide (i < m)) = false)] (by kernel_rfl)
theorem ck_in (l : List (List IrS)) (r : List IrS) (p : List PaS) (q : List Int) (n c b m i : Int) (i0 : 0 ≤ i) (hm0 : m = ((irL r).length : Int)) (hml : m ≤ 100000) (h : i < m) (s : IrS) (hx : (irL r)[Int.toNat i]? = some (IrS.d s)) (hm : Ret Try.prog 124 [IrS.d s, .int .i64 ((rwL l).length : Int)] (.bool true))  : RoundRun Try.prog (loopB Try.f64 2) ⟨[1, 4, 5, 7, 10, 43, 44, 57, 58, 59], [1, 2], []⟩ 3 ((D.undef) :: (.lst .no 1 (rwL l)) :: (D.undef) :: (D.undef) :: (.lst (Own.tok (1 : Nat) (0 : Nat)) (10 : Nat) (paL p)) :: (.lst (Own.tok (2 : Nat) (0 : Nat)) (1 : Nat) (intsD q)) :: (D.undef) :: (.int .i64 n) :: (D.undef) :: (D.undef) :: (.int .i64 b) :: (un 32 ++ (.int .i64 c) :: (.int .i64 b) :: (un 12 ++ (.lst .no 13 (irL r)) :: (.int .i64 m) :: (.int .i64 i) :: (un 28)))) [Ob.dead, Ob.fam (0 : Nat) (10 : Nat), Ob.fam (0 : Nat) (1 : Nat)] (Ex.norm) ((D.undef) :: (.lst .no 1 (rwL l)) :: (D.undef) :: (D.undef) :: (.lst (Own.tok (1 : Nat) (0 : Nat)) (10 : Nat) (paL p)) :: (.lst (Own.tok (2 : Nat) (0 : Nat)) (1 : Nat) (intsD q)) :: (D.undef) :: (.int .i64 n) :: (D.undef) :: (D.undef) :: (.int .i64 b) :: (un 32 ++ (.int .i64 c) :: (.int .i64 b) :: (un 12 ++ (.lst .no 13 (irL r)) :: (.int .i64 m) :: (.int .i64 (IntKind.wrap IntKind.i64 (i + (1 : Int)))) :: (un 28)))) ([.dead, .fam 0 10, .fam 0 1]) := by
 exact RoundRun.of_eval mixed [tC (by ((try simp only [sL] at *); (try unfold big at *); omega) : (decide (i < m)) = true), tC (v := true) (leL 0 (decide_eq_false (Int.not_lt.2 i0))), .get _ _ _ hx, .ret _ _ _ hm, tF] (by kernel_rfl)
theorem ck_bad (l : List (List IrS)) (r : List IrS) (p : List PaS) (q : List Int) (n c b m i : Int) (i0 : 0 ≤ i) (hm0 : m = ((irL r).length : Int)) (hml : m ≤ 100000) (h : i < m) (s : IrS) (hx : (irL r)[Int.toNat i]? = some (IrS.d s)) (hm : Ret Try.prog 124 [IrS.d s, .int .i64 ((rwL l).length : Int)] (.bool false))  : RoundRun Try.prog (loopB Try.f64 2) ⟨[4, 5, 6], [], []⟩ 3 ((D.undef) :: (.lst .no 1 (rwL l)) :: (D.undef) :: (D.undef) :: (.lst (Own.tok (1 : Nat) (0 : Nat)) (10 : Nat) (paL p)) :: (.lst (Own.tok (2 : Nat) (0 : Nat)) (1 : Nat) (intsD q)) :: (D.undef) :: (.int .i64 n) :: (D.undef) :: (D.undef) :: (.int .i64 b) :: (un 32 ++ (.int .i64 c) :: (.int .i64 b) :: (un 12 ++ (.lst .no 13 (irL r)) :: (.int .i64 m) :: (.int .i64 i) :: (un 28)))) [Ob.dead, Ob.fam (0 : Nat) (10 : Nat), Ob.fam (0 : Nat) (1 : Nat)] (Ex.ret) (un 4 ++ (.lst .tight 0 []) :: (.lst .tight 0 []) :: (.int .i64 2) :: (un 81)) ([Ob.dead, Ob.dead, Ob.dead]) := by
 exact RoundRun.of_eval mixed [tC (by ((try simp only [sL] at *); (try unfold big at *); omega) : (decide (i < m)) = true), tC (v := true) (leL 0 (decide_eq_false (Int.not_lt.2 i0))), .get _ _ _ hx, .ret _ _ _ hm, tT] (by kernel_rfl)
end Go.Proofs.Ytcngafhpodeenaa

namespace Go.Proofs.Ytcngafhpodeenaa
open Go Go.Ev
set_option maxRecDepth 100000
theorem blk_any (l : List IrS) (b : Int) (b0 : 0 ≤ b) (b1 : b ≤ 1000) (hk : blkOK l) (hl : l.length ≤ 100000) : Ret Try.prog 126 [.lst .no 13 (irL l), .int .i64 b] (.lst .no 10 (paL (blkP l b))) :=
 blk_ok l b _ (bk_loop l b b0 b1 hk hl)
abbrev prT (l : List (List IrS)) (pro : List XS) (p : List PaS) (n k : Int) : List D := [.undef, .lst .no 1 (rwL l), .undef, .undef, .lst (.tok 0 0) 10 (paL p), .lst .tight 0 [], .undef, .int .i64 n, .undef, .undef, .undef, .undef, .undef, .undef, .undef, .undef, .undef, .undef, .undef, .undef, .undef, .undef, .undef, .lst .no 8 (xsL pro), .int .i64 ((xsL pro).length : Int), .int .i64 k, .undef, .undef, .undef, .undef, .undef, .undef, .undef, .undef, .undef, .undef, .undef, .undef, .undef, .undef, .undef, .undef, .undef, .undef, .undef, .undef, .undef, .undef, .undef, .undef, .undef, .undef, .undef, .undef, .undef, .undef, .undef, .undef, .undef, .undef, .undef, .undef, .undef, .undef, .undef, .undef, .undef, .undef, .undef, .undef, .undef, .undef, .undef, .undef, .undef, .undef, .undef, .undef, .undef, .undef, .undef, .undef, .undef, .undef, .undef, .undef, .undef, .undef]
abbrev prU (l : List (List IrS)) (p : List PaS) (n : Int) : List D := [.undef, .lst .no 1 (rwL l), .undef, .undef, .lst (.tok 0 0) 10 (paL p), .lst .tight 0 [], .undef, .int .i64 n, .undef, .undef, .undef, .undef, .undef, .undef, .undef, .undef, .undef, .undef, .undef, .undef, .undef, .undef, .undef, .undef, .undef, .undef, .undef, .undef, .undef, .undef, .undef, .undef, .undef, .undef, .undef, .undef, .undef, .undef, .undef, .undef, .undef, .undef, .undef, .undef, .undef, .undef, .undef, .undef, .undef, .undef, .undef, .undef, .undef, .undef, .undef, .undef, .undef, .undef, .undef, .undef, .undef, .undef, .undef, .undef, .undef, .undef, .undef, .undef, .undef, .undef, .undef, .undef, .undef, .undef, .undef, .undef, .undef, .undef, .undef, .undef, .undef, .undef, .undef, .undef, .undef, .undef, .undef, .undef]
abbrev ckT (l : List (List IrS)) (r : List IrS) (p : List PaS) (q : List Int) (n c b m i : Int) : List D := [.undef, .lst .no 1 (rwL l), .undef, .undef, .lst (.tok 1 0) 10 (paL p), .lst (.tok 2 0) 1 (intsD q), .undef, .int .i64 n, .undef, .undef, .int .i64 b, .undef, .undef, .undef, .undef, .undef, .undef, .undef, .undef, .undef, .undef, .undef, .undef, .undef, .undef, .undef, .undef, .undef, .undef, .undef, .undef, .undef, .undef, .undef, .undef, .undef, .undef, .undef, .undef, .undef, .undef, .undef, .undef, .int .i64 c, .int .i64 b, .undef, .undef, .undef, .undef, .undef, .undef, .undef, .undef, .undef, .undef, .undef, .undef, .lst .no 13 (irL r), .int .i64 m, .int .i64 i, .undef, .undef, .undef, .undef, .undef, .undef, .undef, .undef, .undef, .undef, .undef, .undef, .undef, .undef, .undef, .undef, .undef, .undef, .undef, .undef, .undef, .undef, .undef, .undef, .undef, .undef, .undef, .undef]
abbrev ckU (l : List (List IrS)) (p : List PaS) (q : List Int) (n c b : Int) : List D := [.undef, .lst .no 1 (rwL l), .undef, .undef, .lst (.tok 1 0) 10 (paL p), .lst (.tok 2 0) 1 (intsD q), .undef, .int .i64 n, .undef, .undef, .int .i64 b, .undef, .undef, .undef, .undef, .undef, .undef, .undef, .undef, .undef, .undef, .undef, .undef, .undef, .undef, .undef, .undef, .undef, .undef, .undef, .undef, .undef, .undef, .undef, .undef, .undef, .undef, .undef, .undef, .undef, .undef, .undef, .undef, .int .i64 c, .int .i64 b, .undef, .undef, .undef, .undef, .undef, .undef, .undef, .undef, .undef, .undef, .undef, .undef, .undef, .undef, .undef, .undef, .undef, .undef, .undef, .undef, .undef, .undef, .undef, .undef, .undef, .undef, .undef, .undef, .undef, .undef, .undef, .undef, .undef, .undef, .undef, .undef, .undef, .undef, .undef, .undef, .undef, .undef, .undef]
abbrev ckE : List D := [.undef, .undef, .undef, .undef, .lst .tight 0 [], .lst .tight 0 [], .int .i64 2, .undef, .undef, .undef, .undef, .undef, .undef, .undef, .undef, .undef, .undef, .undef, .undef, .undef, .undef, .undef, .undef, .undef, .undef, .undef, .undef, .undef, .undef, .undef, .undef, .undef, .undef, .undef, .undef, .undef, .undef, .undef, .undef, .undef, .undef, .undef, .undef, .undef, .undef, .undef, .undef, .undef, .undef, .undef, .undef, .undef, .undef, .undef, .undef, .undef, .undef, .undef, .undef, .undef, .undef, .undef, .undef, .undef, .undef, .undef, .undef, .undef, .undef, .undef, .undef, .undef, .undef, .undef, .undef, .undef, .undef, .undef, .undef, .undef, .undef, .undef, .undef, .undef, .undef, .undef, .undef, .undef]
def proB (x : XS) : Bool := mayXS x && !decide (x.op = 28 ∨ x.op = 29)
theorem pr_rounds (l : List (List IrS)) (pro : List XS) (n : Int) (hx : AllX pro) (hl : pro.length ≤ 100000) (ho : ∀ x ∈ pro, proB x = true) : ∀ (m k : Nat), k + m = pro.length →
  Rounds Try.prog (loopB Try.f64 0) 0 (prT l pro ((pro.take k).map inP) n k) [.fam 0 10] (.exit 0) (prU l (pro.map inP) n) [.fam 0 10]
 | 0, k, hk => by
  have e : pro.take k = pro := List.take_of_length_le (by omega)
  rw [e]
  exact Rounds.last (pr_end l pro (pro.map inP) n _ k (by omega) rfl (by rw [paL_len, List.length_map]; omega) (by rw [xsL_len]; omega) (by rw [xsL_len]; omega)) (fun h => by cases h)
 | m + 1, k, hk => by
  have hlt : k < pro.length := by omega
  have ih := pr_rounds l pro n hx hl ho m (k + 1) (by omega)
  have hp := ho pro[k] (List.getElem_mem hlt)
  unfold proB at hp
  rw [Bool.and_eq_true] at hp
  obtain ⟨hm, hj⟩ := hp
  have hj' : ¬ (pro[k].op = 28 ∨ pro[k].op = 29) := by simpa using hj
  have hmy := mayX_ok pro[k].op pro[k].w pro[k].dst pro[k].src pro[k].base pro[k].disp pro[k].imm pro[k].cc (hx _ (List.getElem_mem hlt))
  rw [show mayX pro[k].op pro[k].w pro[k].dst pro[k].src pro[k].base pro[k].disp pro[k].imm pro[k].cc = true from hm] at hmy
  have := pr_in l pro ((pro.take k).map inP) n _ k (by omega) rfl (by rw [paL_len, List.length_map, List.length_take]; omega) (by rw [xsL_len]; omega) (by rw [xsL_len]; omega) pro[k] (by rw [Int.toNat_natCast]; exact xsL_get pro k hlt) (fun h => hj' (.inl h)) (fun h => hj' (.inr h)) hmy
  rw [paL_snoc, show IntKind.i64.wrap ((k : Int) + 1) = ((k + 1 : Nat) : Int) by rw [w_i64]; omega] at this
  rw [List.take_succ_eq_append_getElem hlt, List.map_append] at ih
  exact Rounds.more this ih
theorem pr_loop (l : List (List IrS)) (pro : List XS) (n : Int) (hx : AllX pro) (hl : pro.length ≤ 100000) (ho : ∀ x ∈ pro, proB x = true) : LoopRun Try.prog 0 (.loop (loopB Try.f64 0)) (prT l pro [] n 0) [.fam 0 10] (.exit 0) (prU l (pro.map inP) n) [.fam 0 10] :=
 LoopRun.of_rounds (by decide) (pr_rounds l pro n hx hl ho pro.length 0 (by omega))
theorem pr_roundsE (l : List (List IrS)) (pro : List XS) (n : Int) (hx : AllX pro) (hl : pro.length ≤ 100000) (ho : ¬ ∀ x ∈ pro, proB x = true) : ∀ (m k : Nat), k + m = pro.length → (∀ x ∈ pro.take k, proB x = true) →
  Rounds Try.prog (loopB Try.f64 0) 0 (prT l pro ((pro.take k).map inP) n k) [.fam 0 10] .ret ckE []
 | 0, k, hk, ha => by
  rw [List.take_of_length_le (show pro.length ≤ k by omega)] at ha
  exact absurd ha ho
 | m + 1, k, hk, ha => by
  have hlt : k < pro.length := by omega
  have h1 : ((paL ((pro.take k).map inP)).length : Int) ≤ 100000 := by rw [paL_len, List.length_map, List.length_take]; omega
  have h2 : (k : Int) < ((xsL pro).length : Int) := by rw [xsL_len]; omega
  have h3 : ((xsL pro).length : Int) ≤ 100000 := by rw [xsL_len]; omega
  have hg : (xsL pro)[Int.toNat (k : Int)]? = some (xsD pro[k]) := by rw [Int.toNat_natCast]; exact xsL_get pro k hlt
  by_cases j1 : pro[k].op = 28
  ·exact Rounds.last (pr_j1 l pro ((pro.take k).map inP) n _ k (by omega) rfl h1 h3 h2 pro[k] hg j1) (fun h => by cases h)
  ·by_cases j2 : pro[k].op = 29
   ·exact Rounds.last (pr_j2 l pro ((pro.take k).map inP) n _ k (by omega) rfl h1 h3 h2 pro[k] hg j2) (fun h => by cases h)
   ·have hmy := mayX_ok pro[k].op pro[k].w pro[k].dst pro[k].src pro[k].base pro[k].disp pro[k].imm pro[k].cc (hx _ (List.getElem_mem hlt))
    cases hm : mayXS pro[k] with
    | false =>
     rw [show mayX pro[k].op pro[k].w pro[k].dst pro[k].src pro[k].base pro[k].disp pro[k].imm pro[k].cc = false from hm] at hmy
     exact Rounds.last (pr_m l pro ((pro.take k).map inP) n _ k (by omega) rfl h1 h3 h2 pro[k] hg j1 j2 hmy) (fun h => by cases h)
    | true =>
     rw [show mayX pro[k].op pro[k].w pro[k].dst pro[k].src pro[k].base pro[k].disp pro[k].imm pro[k].cc = true from hm] at hmy
     have ih := pr_roundsE l pro n hx hl ho m (k + 1) (by omega) (by
      rw [List.take_succ_eq_append_getElem hlt]
      intro x hx'
      rcases List.mem_append.1 hx' with q | q
      ·exact ha x q
      ·rw [List.mem_singleton] at q
       subst q
       unfold proB
       rw [hm]
       simp [j1, j2])
     have := pr_in l pro ((pro.take k).map inP) n _ k (by omega) rfl h1 h3 h2 pro[k] hg j1 j2 hmy
     rw [paL_snoc, show IntKind.i64.wrap ((k : Int) + 1) = ((k + 1 : Nat) : Int) by rw [w_i64]; omega] at this
     rw [List.take_succ_eq_append_getElem hlt, List.map_append] at ih
     exact Rounds.more this ih
theorem pr_loopE (l : List (List IrS)) (pro : List XS) (n : Int) (hx : AllX pro) (hl : pro.length ≤ 100000) (ho : ¬ ∀ x ∈ pro, proB x = true) : LoopRun Try.prog 0 (.loop (loopB Try.f64 0)) (prT l pro [] n 0) [.fam 0 10] .ret ckE [] :=
 LoopRun.of_rounds (by decide) (pr_roundsE l pro n hx hl ho pro.length 0 (by omega) (by simp))
theorem ck_rounds (l : List (List IrS)) (r : List IrS) (p : List PaS) (q : List Int) (n c b : Int) (ho : AllOk r) (hl : r.length ≤ 100000) (hm : ∀ s ∈ r, mayL s (l.length : Int) = true) : ∀ (m i : Nat), i + m = r.length →
  Rounds Try.prog (loopB Try.f64 2) 3 (ckT l r p q n c b ((irL r).length : Int) i) [.dead, .fam 0 10, .fam 0 1] (.exit 4) (ckU l p q n c b) [.dead, .fam 0 10, .fam 0 1]
 | 0, i, hi => Rounds.last (ck_end l r p q n c b _ i (by omega) rfl (by rw [irL_len]; omega) (by rw [irL_len]; omega)) (fun h => by cases h)
 | m + 1, i, hi => by
  have hlt : i < r.length := by omega
  have ih := ck_rounds l r p q n c b ho hl hm m (i + 1) (by omega)
  have hmy := lmay_ok r[i] (ho _ (List.getElem_mem hlt)) ((rwL l).length : Int)
  rw [show mayL r[i] ((rwL l).length : Int) = true by rw [rwL_len]; exact hm _ (List.getElem_mem hlt)] at hmy
  have := ck_in l r p q n c b _ i (by omega) rfl (by rw [irL_len]; omega) (by rw [irL_len]; omega) r[i] (by rw [Int.toNat_natCast]; exact irL_get r i hlt) hmy
  rw [show IntKind.i64.wrap ((i : Int) + 1) = ((i + 1 : Nat) : Int) by rw [w_i64]; omega] at this
  exact Rounds.more this ih
theorem ck_loop (l : List (List IrS)) (r : List IrS) (p : List PaS) (q : List Int) (n c b : Int) (ho : AllOk r) (hl : r.length ≤ 100000) (hm : ∀ s ∈ r, mayL s (l.length : Int) = true) :
  LoopRun Try.prog 3 (.loop (loopB Try.f64 2)) (ckT l r p q n c b ((irL r).length : Int) 0) [.dead, .fam 0 10, .fam 0 1] (.exit 4) (ckU l p q n c b) [.dead, .fam 0 10, .fam 0 1] :=
 LoopRun.of_rounds (by decide) (ck_rounds l r p q n c b ho hl hm r.length 0 (by omega))
theorem ck_roundsE (l : List (List IrS)) (r : List IrS) (p : List PaS) (q : List Int) (n c b : Int) (ho : AllOk r) (hl : r.length ≤ 100000) (hm : ¬ ∀ s ∈ r, mayL s (l.length : Int) = true) : ∀ (m i : Nat), i + m = r.length → (∀ s ∈ r.take i, mayL s (l.length : Int) = true) →
  Rounds Try.prog (loopB Try.f64 2) 3 (ckT l r p q n c b ((irL r).length : Int) i) [.dead, .fam 0 10, .fam 0 1] .ret ckE [.dead, .dead, .dead]
 | 0, i, hi, ha => by
  rw [List.take_of_length_le (show r.length ≤ i by omega)] at ha
  exact absurd ha hm
 | m + 1, i, hi, ha => by
  have hlt : i < r.length := by omega
  have hmy := lmay_ok r[i] (ho _ (List.getElem_mem hlt)) ((rwL l).length : Int)
  have hg : (irL r)[Int.toNat (i : Int)]? = some (IrS.d r[i]) := by rw [Int.toNat_natCast]; exact irL_get r i hlt
  cases hq : mayL r[i] (l.length : Int) with
  | false =>
   rw [show mayL r[i] ((rwL l).length : Int) = false by rw [rwL_len]; exact hq] at hmy
   exact Rounds.last (ck_bad l r p q n c b _ i (by omega) rfl (by rw [irL_len]; omega) (by rw [irL_len]; omega) r[i] hg hmy) (fun h => by cases h)
  | true =>
   rw [show mayL r[i] ((rwL l).length : Int) = true by rw [rwL_len]; exact hq] at hmy
   have ih := ck_roundsE l r p q n c b ho hl hm m (i + 1) (by omega) (by
    rw [List.take_succ_eq_append_getElem hlt]
    intro x hx'
    rcases List.mem_append.1 hx' with q' | q'
    ·exact ha x q'
    ·rw [List.mem_singleton] at q'
     subst q'
     exact hq)
   have := ck_in l r p q n c b _ i (by omega) rfl (by rw [irL_len]; omega) (by rw [irL_len]; omega) r[i] hg hmy
   rw [show IntKind.i64.wrap ((i : Int) + 1) = ((i + 1 : Nat) : Int) by rw [w_i64]; omega] at this
   exact Rounds.more this ih
theorem ck_loopE (l : List (List IrS)) (r : List IrS) (p : List PaS) (q : List Int) (n c b : Int) (ho : AllOk r) (hl : r.length ≤ 100000) (hm : ¬ ∀ s ∈ r, mayL s (l.length : Int) = true) :
  LoopRun Try.prog 3 (.loop (loopB Try.f64 2)) (ckT l r p q n c b ((irL r).length : Int) 0) [.dead, .fam 0 10, .fam 0 1] .ret ckE [.dead, .dead, .dead] :=
 LoopRun.of_rounds (by decide) (ck_roundsE l r p q n c b ho hl hm r.length 0 (by omega) (by simp))
end Go.Proofs.Ytcngafhpodeenaa

namespace Go.Proofs.Ytcngafhpodeenaa
open Go Go.Ev
set_option maxRecDepth 100000
set_option maxHeartbeats 8000000
theorem pt_end (l : List (List IrS)) (p : List PaS) (q : List Int) (n c b : Int) (b0 : 0 ≤ b) (hc : c = ((rwL l).length : Int)) (hcl : c ≤ 1000) (hp : ((paL p).length : Int) ≤ 100000) (hq : ((intsD q).length : Int) ≤ 100000) (n0 : 0 ≤ n) (n1 : n ≤ 1000000) (h : c ≤ b)  : RoundRun Try.prog (loopB Try.f64 1) ⟨[7], [], [(4, 10), (5, 1)]⟩ 1 ((D.undef) :: (.lst .no 1 (rwL l)) :: (D.undef) :: (D.undef) :: (.lst (Own.tok (1 : Nat) (0 : Nat)) (10 : Nat) (paL p)) :: (.lst (Own.tok (2 : Nat) (0 : Nat)) (1 : Nat) (intsD q)) :: (D.undef) :: (.int .i64 n) :: (un 35 ++ (.int .i64 c) :: (.int .i64 b) :: (un 43))) [Ob.dead, Ob.fam (0 : Nat) (10 : Nat), Ob.fam (0 : Nat) (1 : Nat)] (Ex.exit (2 : Nat)) (un 4 ++ (.lst (Own.tok (1 : Nat) (0 : Nat)) (10 : Nat) (paL p)) :: (.lst (Own.tok (2 : Nat) (0 : Nat)) (1 : Nat) (intsD q)) :: (D.undef) :: (.int .i64 n) :: (un 80)) ([Ob.dead, Ob.fam (0 : Nat) (10 : Nat), Ob.fam (0 : Nat) (1 : Nat)]) := by
 exact RoundRun.of_eval mixed [tC (by ((try simp only [sL] at *); (try unfold big at *); omega) : (decide (b < c)) = false)] (by kernel_rfl)
theorem pt_bad (l : List (List IrS)) (p : List PaS) (q : List Int) (n c b : Int) (b0 : 0 ≤ b) (hc : c = ((rwL l).length : Int)) (hcl : c ≤ 1000) (hp : ((paL p).length : Int) ≤ 100000) (hq : ((intsD q).length : Int) ≤ 100000) (n0 : 0 ≤ n) (n1 : n ≤ 1000000) (h : b < c) (r : List IrS) (hx : (rwL l)[Int.toNat b]? = some (.lst .no 13 (irL r))) (hr : ((irL r).length : Int) ≤ 100000) (hlo : LoopRun Try.prog 3 (.loop (loopB Try.f64 2)) (ckT l r p q (IntKind.i64.wrap (n + ((irL r).length : Int))) c b ((irL r).length : Int) 0) [.dead, .fam 0 10, .fam 0 1] .ret ckE [.dead, .dead, .dead])  : RoundRun Try.prog (loopB Try.f64 1) ⟨[4, 5, 6], [], []⟩ 1 ((D.undef) :: (.lst .no 1 (rwL l)) :: (D.undef) :: (D.undef) :: (.lst (Own.tok (1 : Nat) (0 : Nat)) (10 : Nat) (paL p)) :: (.lst (Own.tok (2 : Nat) (0 : Nat)) (1 : Nat) (intsD q)) :: (D.undef) :: (.int .i64 n) :: (un 35 ++ (.int .i64 c) :: (.int .i64 b) :: (un 43))) [Ob.dead, Ob.fam (0 : Nat) (10 : Nat), Ob.fam (0 : Nat) (1 : Nat)] (Ex.ret) (un 4 ++ (.lst .tight 0 []) :: (.lst .tight 0 []) :: (.int .i64 2) :: (un 81)) ([Ob.dead]) := by
 have c0 := @run_id (nat_lit 3) _ (((D.undef) :: (.lst .no 1 (rwL l)) :: (D.undef) :: (D.undef) :: (.lst (Own.tok (1 : Nat) (0 : Nat)) (10 : Nat) (paL p)) :: (.lst (Own.tok (2 : Nat) (0 : Nat)) (1 : Nat) (intsD q)) :: (D.undef) :: (.int .i64 (IntKind.wrap IntKind.i64 (n + (↑(List.length (irL r)) : Int)))) :: (D.undef) :: (D.undef) :: (.int .i64 b) :: (un 32 ++ (.int .i64 c) :: (.int .i64 b) :: (un 12 ++ (.lst .no 13 (irL r)) :: (.int .i64 (↑(List.length (irL r)) : Int)) :: (.int .i64 0) :: (un 28))))) ([Ob.dead, Ob.fam (0 : Nat) (10 : Nat), Ob.fam (0 : Nat) (1 : Nat)]) _ _ _ hlo
 exact RoundRun.of_eval mixed [tC (by ((try simp only [sL] at *); (try unfold big at *); omega) : (decide (b < c)) = true), tC (v := true) (leL 0 (decide_eq_false (Int.not_lt.2 b0))), .get _ _ _ hx, tC (v := true) (leL 0 (decide_eq_false (Int.not_lt.2 b0))), .get _ _ _ hx, .head ⟨[1, 4, 5, 7, 10, 43, 44, 57, 58, 59], [1, 2], []⟩ _ _ _ _ _ _ _ c0] (by kernel_rfl)
theorem pt_in (l : List (List IrS)) (p : List PaS) (q : List Int) (n c b : Int) (b0 : 0 ≤ b) (hc : c = ((rwL l).length : Int)) (hcl : c ≤ 1000) (hp : ((paL p).length : Int) ≤ 100000) (hq : ((intsD q).length : Int) ≤ 100000) (n0 : 0 ≤ n) (n1 : n ≤ 1000000) (h : b < c) (r : List IrS) (hx : (rwL l)[Int.toNat b]? = some (.lst .no 13 (irL r))) (hr : ((irL r).length : Int) ≤ 100000) (hlo : LoopRun Try.prog 3 (.loop (loopB Try.f64 2)) (ckT l r p q (IntKind.i64.wrap (n + ((irL r).length : Int))) c b ((irL r).length : Int) 0) [.dead, .fam 0 10, .fam 0 1] (.exit 4) (ckU l p q (IntKind.i64.wrap (n + ((irL r).length : Int))) c b) [.dead, .fam 0 10, .fam 0 1]) (z : List PaS) (hz : ((paL z).length : Int) ≤ 100000) (hbk : Ret Try.prog 126 [.lst .no 13 (irL r), .int .i64 b] (.lst .no 10 (paL z)))  : RoundRun Try.prog (loopB Try.f64 1) ⟨[1, 7, 43, 44], [], [(4, 10), (5, 1)]⟩ 1 ((D.undef) :: (.lst .no 1 (rwL l)) :: (D.undef) :: (D.undef) :: (.lst (Own.tok (1 : Nat) (0 : Nat)) (10 : Nat) (paL p)) :: (.lst (Own.tok (2 : Nat) (0 : Nat)) (1 : Nat) (intsD q)) :: (D.undef) :: (.int .i64 n) :: (un 35 ++ (.int .i64 c) :: (.int .i64 b) :: (un 43))) [Ob.dead, Ob.fam (0 : Nat) (10 : Nat), Ob.fam (0 : Nat) (1 : Nat)] (Ex.norm) ((D.undef) :: (.lst .no 1 (rwL l)) :: (D.undef) :: (D.undef) :: (.lst (Own.tok (1 : Nat) (0 : Nat)) (10 : Nat) (paL p ++ paL z)) :: (.lst (Own.tok (2 : Nat) (0 : Nat)) (1 : Nat) (intsD q ++ [.int .i64 (↑(List.length (paL p)) : Int)])) :: (D.undef) :: (.int .i64 (IntKind.wrap IntKind.i64 (n + (↑(List.length (irL r)) : Int)))) :: (un 35 ++ (.int .i64 c) :: (.int .i64 (IntKind.wrap IntKind.i64 (b + (1 : Int)))) :: (un 43))) ([.dead, .fam 0 10, .fam 0 1]) := by
 have c0 := @run_id (nat_lit 3) _ (((D.undef) :: (.lst .no 1 (rwL l)) :: (D.undef) :: (D.undef) :: (.lst (Own.tok (1 : Nat) (0 : Nat)) (10 : Nat) (paL p)) :: (.lst (Own.tok (2 : Nat) (0 : Nat)) (1 : Nat) (intsD q)) :: (D.undef) :: (.int .i64 (IntKind.wrap IntKind.i64 (n + (↑(List.length (irL r)) : Int)))) :: (D.undef) :: (D.undef) :: (.int .i64 b) :: (un 32 ++ (.int .i64 c) :: (.int .i64 b) :: (un 12 ++ (.lst .no 13 (irL r)) :: (.int .i64 (↑(List.length (irL r)) : Int)) :: (.int .i64 0) :: (un 28))))) ([Ob.dead, Ob.fam (0 : Nat) (10 : Nat), Ob.fam (0 : Nat) (1 : Nat)]) _ _ _ hlo
 generalize g2 : IntKind.wrap IntKind.i64 (n + (↑(List.length (irL r)) : Int)) = r1 at c0
 exact RoundRun.of_eval mixed ([tC (by ((try simp only [sL] at *); (try unfold big at *); omega) : (decide (b < c)) = true), tC (v := true) (leL 0 (decide_eq_false (Int.not_lt.2 b0))), .get _ _ _ hx, tC (v := true) (leL 0 (decide_eq_false (Int.not_lt.2 b0))), .get _ _ _ hx, .head ⟨[1, 4, 5, 7, 10, 43, 44, 57, 58, 59], [1, 2], []⟩ _ _ _ _ _ _ _ c0, .len (List.length (intsD q) + (1 : Nat)) ((2147483648 : Nat)) (by first | decide | omega | (simp; omega)), tC (v := true) (leL 0 (decide_eq_false (Int.not_lt.2 b0))), .get _ _ _ hx, .ret _ _ _ hbk, .inl, .go 64, tT, tT, .get ([.lst .no 10 (paL p), .lst .no 10 (paL z)]) 0 (.lst .no 10 (paL p)) rfl, .len ((0 : Nat) + List.length (paL p)) ((2147483648 : Nat)) (by first | decide | omega | (simp; omega))] ++ [tT, tT, .get ([.lst .no 10 (paL p), .lst .no 10 (paL z)]) 1 (.lst .no 10 (paL z)) rfl, .len (List.length (paL p) + List.length (paL z)) ((2147483648 : Nat)) (by first | decide | omega | (simp; omega)), tF]) (by kernel_rfl)
theorem pt_lastA (l : List (List IrS)) (p : List PaS) (q : List Int) (n c b : Int) (b0 : 0 ≤ b) (hc : c = ((rwL l).length : Int)) (hcl : c ≤ 1000) (hp : ((paL p).length : Int) ≤ 100000) (hq : ((intsD q).length : Int) ≤ 100000) (n0 : 0 ≤ n) (n1 : n ≤ 1000000) (h : b < c) (r : List IrS) (hx : (rwL l)[Int.toNat b]? = some (.lst .no 13 (irL r))) (hr : ((irL r).length : Int) ≤ 100000) (hlo : LoopRun Try.prog 3 (.loop (loopB Try.f64 2)) (ckT l r p q (IntKind.i64.wrap (n + ((irL r).length : Int))) c b ((irL r).length : Int) 0) [.dead, .fam 0 10, .fam 0 1] (.exit 4) (ckU l p q (IntKind.i64.wrap (n + ((irL r).length : Int))) c b) [.dead, .fam 0 10, .fam 0 1]) (z : List PaS) (hz : ((paL z).length : Int) ≤ 100000) (hbk : Ret Try.prog 126 [.lst .no 13 (irL r), .int .i64 b] (.lst .no 10 (paL z))) (hp0 : Nat.blt 0 (paL p).length = true) (hc1 : cellsOfL (paL p) = some (paC p)) (hc2 : cellsOfL (paL z) = some (paC z)) (hbq : Nat.beq (paC p).length ((paL p).length * 10) = true)  : RoundRun Try.prog (loopB Try.f64 1) ⟨[1, 7, 43, 44], [], [(4, 10), (5, 1)]⟩ 1 ((D.undef) :: (.lst .no 1 (rwL l)) :: (D.undef) :: (D.undef) :: (.lst (Own.tok (1 : Nat) (0 : Nat)) (10 : Nat) (paL p)) :: (.lst (Own.tok (2 : Nat) (0 : Nat)) (1 : Nat) (intsD q)) :: (D.undef) :: (.int .i64 n) :: (un 35 ++ (.int .i64 c) :: (.int .i64 b) :: (un 43))) [Ob.dead, Ob.fam (0 : Nat) (10 : Nat), Ob.fam (0 : Nat) (1 : Nat)] (Ex.norm) ((D.undef) :: (.lst .no 1 (rwL l)) :: (D.undef) :: (D.undef) :: (D.slc (1 : Nat) (10 : Nat) (List.length (paL p) + List.length (paL z))) :: (.lst (Own.tok (2 : Nat) (0 : Nat)) (1 : Nat) (intsD q ++ [.int .i64 (↑(List.length (paL p)) : Int)])) :: (D.undef) :: (.int .i64 (IntKind.wrap IntKind.i64 (n + (↑(List.length (irL r)) : Int)))) :: (un 35 ++ (.int .i64 c) :: (.int .i64 (IntKind.wrap IntKind.i64 (b + (1 : Int)))) :: (un 43))) ([.dead, .box (List.map D.demote (paC p ++ paC z)), .fam 0 1]) := by
 have c0 := @run_id (nat_lit 3) _ (((D.undef) :: (.lst .no 1 (rwL l)) :: (D.undef) :: (D.undef) :: (.lst (Own.tok (1 : Nat) (0 : Nat)) (10 : Nat) (paL p)) :: (.lst (Own.tok (2 : Nat) (0 : Nat)) (1 : Nat) (intsD q)) :: (D.undef) :: (.int .i64 (IntKind.wrap IntKind.i64 (n + (↑(List.length (irL r)) : Int)))) :: (D.undef) :: (D.undef) :: (.int .i64 b) :: (un 32 ++ (.int .i64 c) :: (.int .i64 b) :: (un 12 ++ (.lst .no 13 (irL r)) :: (.int .i64 (↑(List.length (irL r)) : Int)) :: (.int .i64 0) :: (un 28))))) ([Ob.dead, Ob.fam (0 : Nat) (10 : Nat), Ob.fam (0 : Nat) (1 : Nat)]) _ _ _ hlo
 generalize g2 : IntKind.wrap IntKind.i64 (n + (↑(List.length (irL r)) : Int)) = r1 at c0
 exact RoundRun.of_eval mixed ([tC (by ((try simp only [sL] at *); (try unfold big at *); omega) : (decide (b < c)) = true), tC (v := true) (leL 0 (decide_eq_false (Int.not_lt.2 b0))), .get _ _ _ hx, tC (v := true) (leL 0 (decide_eq_false (Int.not_lt.2 b0))), .get _ _ _ hx, .head ⟨[1, 4, 5, 7, 10, 43, 44, 57, 58, 59], [1, 2], []⟩ _ _ _ _ _ _ _ c0, .len (List.length (intsD q) + (1 : Nat)) ((2147483648 : Nat)) (by first | decide | omega | (simp; omega)), tC (v := true) (leL 0 (decide_eq_false (Int.not_lt.2 b0))), .get _ _ _ hx, .ret _ _ _ hbk, .inl, .go 64, tT, tT, .get ([.lst .no 10 (paL p), .lst .no 10 (paL z)]) 0 (.lst .no 10 (paL p)) rfl, .go 0] ++ [.len (List.length (paL p)) ((2147483648 : Nat)) (by first | decide | omega | (simp; omega)), .cel _ _ hc1, tC (v := true) hp0, .raw, tT, tT, .get ([.lst .no 10 (paL p), .lst .no 10 (paL z)]) 1 (.lst .no 10 (paL z)) rfl, .len (List.length (paL p) + List.length (paL z)) ((2147483648 : Nat)) (by first | decide | omega | (simp; omega)), tC (v := true) hbq, .cel _ _ hc2, tF, .cl (paC p ++ paC z) (by exact paC_clean2 _ _)]) (by kernel_rfl)
theorem pt_lastB (l : List (List IrS)) (q : List Int) (n c b : Int) (b0 : 0 ≤ b) (hc : c = ((rwL l).length : Int)) (hcl : c ≤ 1000) (hq : ((intsD q).length : Int) ≤ 100000) (n0 : 0 ≤ n) (n1 : n ≤ 1000000) (h : b < c) (r : List IrS) (hx : (rwL l)[Int.toNat b]? = some (.lst .no 13 (irL r))) (hr : ((irL r).length : Int) ≤ 100000) (hlo : LoopRun Try.prog 3 (.loop (loopB Try.f64 2)) (ckT l r [] q (IntKind.i64.wrap (n + ((irL r).length : Int))) c b ((irL r).length : Int) 0) [.dead, .fam 0 10, .fam 0 1] (.exit 4) (ckU l [] q (IntKind.i64.wrap (n + ((irL r).length : Int))) c b) [.dead, .fam 0 10, .fam 0 1]) (z : List PaS) (hz : ((paL z).length : Int) ≤ 100000) (hbk : Ret Try.prog 126 [.lst .no 13 (irL r), .int .i64 b] (.lst .no 10 (paL z))) (hz0 : Nat.blt 0 (paL z).length = true) (hc2 : cellsOfL (paL z) = some (paC z))  : RoundRun Try.prog (loopB Try.f64 1) ⟨[1, 7, 43, 44], [], [(4, 10), (5, 1)]⟩ 1 ((D.undef) :: (.lst .no 1 (rwL l)) :: (D.undef) :: (D.undef) :: (.lst (Own.tok (1 : Nat) (0 : Nat)) (10 : Nat) []) :: (.lst (Own.tok (2 : Nat) (0 : Nat)) (1 : Nat) (intsD q)) :: (D.undef) :: (.int .i64 n) :: (un 35 ++ (.int .i64 c) :: (.int .i64 b) :: (un 43))) [Ob.dead, Ob.fam (0 : Nat) (10 : Nat), Ob.fam (0 : Nat) (1 : Nat)] (Ex.norm) ((D.undef) :: (.lst .no 1 (rwL l)) :: (D.undef) :: (D.undef) :: (D.slc (1 : Nat) (10 : Nat) (List.length (paL z))) :: (.lst (Own.tok (2 : Nat) (0 : Nat)) (1 : Nat) (intsD q ++ [.int .i64 0])) :: (D.undef) :: (.int .i64 (IntKind.wrap IntKind.i64 (n + (↑(List.length (irL r)) : Int)))) :: (un 35 ++ (.int .i64 c) :: (.int .i64 (IntKind.wrap IntKind.i64 (b + (1 : Int)))) :: (un 43))) ([.dead, .box (List.map D.demote (paC z)), .fam 0 1]) := by
 have c0 := @run_id (nat_lit 3) _ (((D.undef) :: (.lst .no 1 (rwL l)) :: (D.undef) :: (D.undef) :: (.lst (Own.tok (1 : Nat) (0 : Nat)) (10 : Nat) []) :: (.lst (Own.tok (2 : Nat) (0 : Nat)) (1 : Nat) (intsD q)) :: (D.undef) :: (.int .i64 (IntKind.wrap IntKind.i64 (n + (↑(List.length (irL r)) : Int)))) :: (D.undef) :: (D.undef) :: (.int .i64 b) :: (un 32 ++ (.int .i64 c) :: (.int .i64 b) :: (un 12 ++ (.lst .no 13 (irL r)) :: (.int .i64 (↑(List.length (irL r)) : Int)) :: (.int .i64 0) :: (un 28))))) ([Ob.dead, Ob.fam (0 : Nat) (10 : Nat), Ob.fam (0 : Nat) (1 : Nat)]) _ _ _ hlo
 generalize g2 : IntKind.wrap IntKind.i64 (n + (↑(List.length (irL r)) : Int)) = r1 at c0
 exact RoundRun.of_eval mixed ([tC (by ((try simp only [sL] at *); (try unfold big at *); omega) : (decide (b < c)) = true), tC (v := true) (leL 0 (decide_eq_false (Int.not_lt.2 b0))), .get _ _ _ hx, tC (v := true) (leL 0 (decide_eq_false (Int.not_lt.2 b0))), .get _ _ _ hx, .head ⟨[1, 4, 5, 7, 10, 43, 44, 57, 58, 59], [1, 2], []⟩ _ _ _ _ _ _ _ c0, .len (List.length (intsD q) + (1 : Nat)) ((2147483648 : Nat)) (by first | decide | omega | (simp; omega)), tC (v := true) (leL 0 (decide_eq_false (Int.not_lt.2 b0))), .get _ _ _ hx, .ret _ _ _ hbk, .inl, .go 64, tT, tT, .get ([.lst .no 10 [], .lst .no 10 (paL z)]) 0 (.lst .no 10 []) rfl, .go 1] ++ [.len ((0 : Nat)) ((2147483648 : Nat)) (by first | decide | omega | (simp; omega)), tT, tT, .get ([.lst .no 10 [], .lst .no 10 (paL z)]) 1 (.lst .no 10 (paL z)) rfl, .go 0, .len (List.length (paL z)) ((2147483648 : Nat)) (by first | decide | omega | (simp; omega)), .cel _ _ hc2, tC (v := true) hz0, .raw, tF, .cl (paC z) (by exact paC_clean _)]) (by kernel_rfl)
theorem pt_endS (l : List (List IrS)) (p : List PaS) (q : List Int) (n c b : Int) (b0 : 0 ≤ b) (hc : c = ((rwL l).length : Int)) (hcl : c ≤ 1000) (hp : ((paL p).length : Int) ≤ 100000) (hq : ((intsD q).length : Int) ≤ 100000) (n0 : 0 ≤ n) (n1 : n ≤ 1000000) (k : Nat) (h : c ≤ b)  : RoundRun Try.prog (loopB Try.f64 1) ⟨[7], [], [(4, 10), (5, 1)]⟩ 1 ((D.undef) :: (.lst .no 1 (rwL l)) :: (D.undef) :: (D.undef) :: (D.slc (1 : Nat) (10 : Nat) k) :: (.lst (Own.tok (2 : Nat) (0 : Nat)) (1 : Nat) (intsD q)) :: (D.undef) :: (.int .i64 n) :: (un 35 ++ (.int .i64 c) :: (.int .i64 b) :: (un 43))) [Ob.dead, Ob.box (paC p), Ob.fam (0 : Nat) (1 : Nat)] (Ex.exit (2 : Nat)) (un 4 ++ (D.slc (1 : Nat) (10 : Nat) k) :: (.lst (Own.tok (2 : Nat) (0 : Nat)) (1 : Nat) (intsD q)) :: (D.undef) :: (.int .i64 n) :: (un 80)) ([Ob.dead, Ob.box (List.map D.demote (paC p)), Ob.fam (0 : Nat) (1 : Nat)]) := by
 exact RoundRun.of_eval mixed [tC (by ((try simp only [sL] at *); (try unfold big at *); omega) : (decide (b < c)) = false), .cl (paC p) (by exact paC_clean _)] (by kernel_rfl)
end Go.Proofs.Ytcngafhpodeenaa
