/- Contracts: words cut to a width, operations on two words, flags. -/
import Derived.Test.YtkannibhndjgeaaBase
import Derived.Test.YtkannibhndjgeaaMdM
import Derived.Test.YtkannibhndjgeaaMdF2
namespace Go.Proofs.Ytkannibhndjgeaa
open Go Go.Ev
set_option maxRecDepth 100000
set_option maxHeartbeats 8000000
set_option linter.unusedVariables false
set_option linter.unusedSimpArgs false
theorem cut_ok (v w : Int) : Ret Try.prog 10 ([.int .u64 v, .int .i8 w]) (.int .u64 (cutM v w)) := by
  by_cases h0 : w = 8
  · subst h0
    exact (Ret.of_eval (d := .int .u64 (IntKind.wrap IntKind.u64 (IntKind.wrap IntKind.u8 v))) mixed Try.func10 (by kernel_rfl) [tT] (by kernel_rfl)).to (by simp [wk, cutM, w_u8, w_u16, w_u32, w_u64, ]; try omega)
  · skip
    by_cases h1 : w = 16
    · subst h1
      exact (Ret.of_eval (d := .int .u64 (IntKind.wrap IntKind.u64 (IntKind.wrap IntKind.u16 v))) mixed Try.func10 (by kernel_rfl) [tC (neOf h0), tT] (by kernel_rfl)).to (by simp [wk, cutM, w_u8, w_u16, w_u32, w_u64, h0]; try omega)
    · skip
      by_cases h2 : w = 32
      · subst h2
        exact (Ret.of_eval (d := .int .u64 (IntKind.wrap IntKind.u64 (IntKind.wrap IntKind.u32 v))) mixed Try.func10 (by kernel_rfl) [tC (neOf h0), tC (neOf h1), tT] (by kernel_rfl)).to (by simp [wk, cutM, w_u8, w_u16, w_u32, w_u64, h0, h1]; try omega)
      · skip
        exact (Ret.of_eval (d := .int .u64 v) mixed Try.func10 (by kernel_rfl) [tC (neOf h0), tC (neOf h1), tC (neOf h2)] (by kernel_rfl)).to (by simp [wk, cutM, w_u8, w_u16, w_u32, w_u64, h0, h1, h2]; try omega)

theorem sign_ok (v w : Int) : Ret Try.prog 60 ([.int .u64 v, .int .i8 w]) (.int .u64 (signM v w)) := by
  by_cases h0 : w = 8
  · subst h0
    exact (Ret.of_eval (d := .int .u64 (IntKind.wrap IntKind.u64 (IntKind.wrap IntKind.i64 (IntKind.wrap IntKind.i8 v)))) mixed Try.func60 (by kernel_rfl) [tT] (by kernel_rfl)).to (by simp [wk, signM, u64, sign_a, sign_b, sign_c, ])
  · skip
    by_cases h1 : w = 16
    · subst h1
      exact (Ret.of_eval (d := .int .u64 (IntKind.wrap IntKind.u64 (IntKind.wrap IntKind.i64 (IntKind.wrap IntKind.i16 v)))) mixed Try.func60 (by kernel_rfl) [tC (neOf h0), tT] (by kernel_rfl)).to (by simp [wk, signM, u64, sign_a, sign_b, sign_c, h0])
    · skip
      by_cases h2 : w = 32
      · subst h2
        exact (Ret.of_eval (d := .int .u64 (IntKind.wrap IntKind.u64 (IntKind.wrap IntKind.i64 (IntKind.wrap IntKind.i32 v)))) mixed Try.func60 (by kernel_rfl) [tC (neOf h0), tC (neOf h1), tT] (by kernel_rfl)).to (by simp [wk, signM, u64, sign_a, sign_b, sign_c, h0, h1])
      · skip
        exact (Ret.of_eval (d := .int .u64 v) mixed Try.func60 (by kernel_rfl) [tC (neOf h0), tC (neOf h1), tC (neOf h2)] (by kernel_rfl)).to (by simp [wk, signM, u64, sign_a, sign_b, sign_c, h0, h1, h2])

theorem blong_ok (w : Int) : Ret Try.prog 34 ([.int .i8 w]) (.bool (longM w)) := by
  by_cases h0 : w = 32
  · subst h0
    exact (Ret.of_eval (d := .bool true) mixed Try.func34 (by kernel_rfl) [tF, tF, tT] (by kernel_rfl)).to (by simp only [wk, D.bool.injEq, longM]; rfl)
  · skip
    exact (Ret.of_eval (d := .bool (w == (64 : Int))) mixed Try.func34 (by kernel_rfl) [tC (eF (neOf h0)), tC (eF (neOf h0)), tC (neOf h0)] (by kernel_rfl)).to (by simp only [wk, D.bool.injEq, longM]; (rw [Bool.eq_iff_iff]; simp [h0]; try omega))

theorem bwidth_ok (n : Int) : Ret Try.prog 33 ([.int .i8 n]) (.bool (widthM n)) := by
  by_cases h0 : n = 8
  · subst h0
    exact (Ret.of_eval (d := .bool true) mixed Try.func33 (by kernel_rfl) [tT, tT] (by kernel_rfl)).to (by simp only [wk, D.bool.injEq, widthM]; rfl)
  · skip
    by_cases h1 : n = 16
    · subst h1
      exact (Ret.of_eval (d := .bool true) mixed Try.func33 (by kernel_rfl) [tC (neOf h0), tT, tT] (by kernel_rfl)).to (by simp only [wk, D.bool.injEq, widthM]; rfl)
    · skip
      by_cases h2 : n = 32
      · subst h2
        exact (Ret.of_eval (d := .bool true) mixed Try.func33 (by kernel_rfl) [tC (neOf h0), tC (neOf h1), tT, tT] (by kernel_rfl)).to (by simp only [wk, D.bool.injEq, widthM]; rfl)
      · skip
        by_cases h3 : n = 64
        · subst h3
          exact (Ret.of_eval (d := .bool true) mixed Try.func33 (by kernel_rfl) [tC (neOf h0), tC (neOf h1), tC (neOf h2), tT] (by kernel_rfl)).to (by simp only [wk, D.bool.injEq, widthM]; rfl)
        · skip
          exact (Ret.of_eval (d := .bool false) mixed Try.func33 (by kernel_rfl) [tC (neOf h0), tC (neOf h1), tC (neOf h2), tC (neOf h3)] (by kernel_rfl)).to (by simp only [wk, D.bool.injEq, widthM]; (rw [Bool.eq_iff_iff]; simp [h0, h1, h2, h3]; try omega))

theorem bdo_0_ok (w a b : Int) (hw : longM w = true) : Ret Try.prog 11 ([.int .i8 0, .int .i8 w, .int .u64 a, .int .u64 b]) (.tup [.int .u64 (doM 0 w a b), .int .i64 0]) := by
  have c0 := @blong_ok (w)
  rw [show (longM w) = true from hw] at c0
  have c1 := @cut_ok (a) (w)
  have c2 := @cut_ok (b) (w)
  have c3 := @cut_ok (IntKind.wrap IntKind.u64 (cutM a w + cutM b w)) (w)
  exact (Ret.of_eval (d := .tup [.int .u64 (cutM (IntKind.wrap IntKind.u64 (cutM a w + cutM b w)) w), .int .i64 0]) mixed Try.func11 (by kernel_rfl) [tT, tT, tF, tT, tT, .ret _ _ _ c0, tT, tF, tF, .ret _ _ _ c1, .ret _ _ _ c2, .inl, tT, .get ([D.fn (Fn.func (47 : Nat)) [] [], D.fn (Fn.func (48 : Nat)) [] [], D.fn (Fn.func (49 : Nat)) [] [], D.fn (Fn.func (50 : Nat)) [] [], D.fn (Fn.func (51 : Nat)) [] [], D.fn (Fn.func (52 : Nat)) [] [], D.fn (Fn.func (53 : Nat)) [] [], D.fn (Fn.func (54 : Nat)) [] [], D.fn (Fn.func (55 : Nat)) [] [], D.fn (Fn.func (56 : Nat)) [] [], D.fn (Fn.func (57 : Nat)) [] [], D.fn (Fn.func (58 : Nat)) [] [], D.fn (Fn.func (59 : Nat)) [] []]) 0 (D.fn (Fn.func (47 : Nat)) [] []) rfl, .inl, .ret _ _ _ c3] (by kernel_rfl)).to (by ((simp only [wk, wkL, and_true]; repeat' (first | rfl | exact True.intro | apply And.intro)); done))

theorem bdo_1_ok (w a b : Int) (hw : longM w = true) : Ret Try.prog 11 ([.int .i8 1, .int .i8 w, .int .u64 a, .int .u64 b]) (.tup [.int .u64 (doM 1 w a b), .int .i64 0]) := by
  have c0 := @blong_ok (w)
  rw [show (longM w) = true from hw] at c0
  have c1 := @cut_ok (a) (w)
  have c2 := @cut_ok (b) (w)
  have c3 := @cut_ok (IntKind.wrap IntKind.u64 (cutM a w - cutM b w)) (w)
  exact (Ret.of_eval (d := .tup [.int .u64 (cutM (IntKind.wrap IntKind.u64 (cutM a w - cutM b w)) w), .int .i64 0]) mixed Try.func11 (by kernel_rfl) [tT, tT, tF, tT, tT, .ret _ _ _ c0, tT, tF, tF, .ret _ _ _ c1, .ret _ _ _ c2, .inl, tT, .get ([D.fn (Fn.func (47 : Nat)) [] [], D.fn (Fn.func (48 : Nat)) [] [], D.fn (Fn.func (49 : Nat)) [] [], D.fn (Fn.func (50 : Nat)) [] [], D.fn (Fn.func (51 : Nat)) [] [], D.fn (Fn.func (52 : Nat)) [] [], D.fn (Fn.func (53 : Nat)) [] [], D.fn (Fn.func (54 : Nat)) [] [], D.fn (Fn.func (55 : Nat)) [] [], D.fn (Fn.func (56 : Nat)) [] [], D.fn (Fn.func (57 : Nat)) [] [], D.fn (Fn.func (58 : Nat)) [] [], D.fn (Fn.func (59 : Nat)) [] []]) 1 (D.fn (Fn.func (48 : Nat)) [] []) rfl, .inl, .ret _ _ _ c3] (by kernel_rfl)).to (by ((simp only [wk, wkL, and_true]; repeat' (first | rfl | exact True.intro | apply And.intro)); done))

theorem bdo_2_ok (w a b : Int) (hw : longM w = true) : Ret Try.prog 11 ([.int .i8 2, .int .i8 w, .int .u64 a, .int .u64 b]) (.tup [.int .u64 (doM 2 w a b), .int .i64 0]) := by
  have c0 := @blong_ok (w)
  rw [show (longM w) = true from hw] at c0
  have c1 := @cut_ok (a) (w)
  have c2 := @cut_ok (b) (w)
  have c3 := @cut_ok (IntKind.wrap IntKind.u64 (cutM a w * cutM b w)) (w)
  exact (Ret.of_eval (d := .tup [.int .u64 (cutM (IntKind.wrap IntKind.u64 (cutM a w * cutM b w)) w), .int .i64 0]) mixed Try.func11 (by kernel_rfl) [tT, tT, tF, tT, tT, .ret _ _ _ c0, tT, tF, tF, .ret _ _ _ c1, .ret _ _ _ c2, .inl, tT, .get ([D.fn (Fn.func (47 : Nat)) [] [], D.fn (Fn.func (48 : Nat)) [] [], D.fn (Fn.func (49 : Nat)) [] [], D.fn (Fn.func (50 : Nat)) [] [], D.fn (Fn.func (51 : Nat)) [] [], D.fn (Fn.func (52 : Nat)) [] [], D.fn (Fn.func (53 : Nat)) [] [], D.fn (Fn.func (54 : Nat)) [] [], D.fn (Fn.func (55 : Nat)) [] [], D.fn (Fn.func (56 : Nat)) [] [], D.fn (Fn.func (57 : Nat)) [] [], D.fn (Fn.func (58 : Nat)) [] [], D.fn (Fn.func (59 : Nat)) [] []]) 2 (D.fn (Fn.func (49 : Nat)) [] []) rfl, .inl, .ret _ _ _ c3] (by kernel_rfl)).to (by ((simp only [wk, wkL, and_true]; repeat' (first | rfl | exact True.intro | apply And.intro)); done))

theorem bdo_3_ok (w a b : Int) (hw : longM w = true) : Ret Try.prog 11 ([.int .i8 3, .int .i8 w, .int .u64 a, .int .u64 b]) (.tup [.int .u64 (doM 3 w a b), .int .i64 0]) := by
  have c0 := @blong_ok (w)
  rw [show (longM w) = true from hw] at c0
  have c1 := @cut_ok (a) (w)
  have c2 := @cut_ok (b) (w)
  by_cases h3 : cutM b w = 0
  · skip
    have c4 := @cut_ok ((0 : Int)) (w)
    exact (Ret.of_eval (d := .tup [.int .u64 (cutM (0 : Int) w), .int .i64 0]) mixed Try.func11 (by kernel_rfl) ([tT, tT, tF, tT, tT, .ret _ _ _ c0, tT, tF, tF, .ret _ _ _ c1, .ret _ _ _ c2, .inl, tT, .get ([D.fn (Fn.func (47 : Nat)) [] [], D.fn (Fn.func (48 : Nat)) [] [], D.fn (Fn.func (49 : Nat)) [] [], D.fn (Fn.func (50 : Nat)) [] [], D.fn (Fn.func (51 : Nat)) [] [], D.fn (Fn.func (52 : Nat)) [] [], D.fn (Fn.func (53 : Nat)) [] [], D.fn (Fn.func (54 : Nat)) [] [], D.fn (Fn.func (55 : Nat)) [] [], D.fn (Fn.func (56 : Nat)) [] [], D.fn (Fn.func (57 : Nat)) [] [], D.fn (Fn.func (58 : Nat)) [] [], D.fn (Fn.func (59 : Nat)) [] []]) 3 (D.fn (Fn.func (50 : Nat)) [] []) rfl, .inl, tC (eqI 0 true h3)] ++ [.ret _ _ _ c4]) (by kernel_rfl)).to (by (simp [wk, wkL, doM, opM, h3]; done))
  · skip
    have c5 := @cut_ok (IntKind.wrap IntKind.u64 (Int.tdiv (cutM a w) (cutM b w))) (w)
    exact (Ret.of_eval (d := .tup [.int .u64 (cutM (IntKind.wrap IntKind.u64 (Int.tdiv (cutM a w) (cutM b w))) w), .int .i64 0]) mixed Try.func11 (by kernel_rfl) ([tT, tT, tF, tT, tT, .ret _ _ _ c0, tT, tF, tF, .ret _ _ _ c1, .ret _ _ _ c2, .inl, tT, .get ([D.fn (Fn.func (47 : Nat)) [] [], D.fn (Fn.func (48 : Nat)) [] [], D.fn (Fn.func (49 : Nat)) [] [], D.fn (Fn.func (50 : Nat)) [] [], D.fn (Fn.func (51 : Nat)) [] [], D.fn (Fn.func (52 : Nat)) [] [], D.fn (Fn.func (53 : Nat)) [] [], D.fn (Fn.func (54 : Nat)) [] [], D.fn (Fn.func (55 : Nat)) [] [], D.fn (Fn.func (56 : Nat)) [] [], D.fn (Fn.func (57 : Nat)) [] [], D.fn (Fn.func (58 : Nat)) [] [], D.fn (Fn.func (59 : Nat)) [] []]) 3 (D.fn (Fn.func (50 : Nat)) [] []) rfl, .inl, tC (neOf h3)] ++ [tC (v := true) (neD (neOf h3)), .ret _ _ _ c5]) (by kernel_rfl)).to (by (simp [wk, wkL, doM, opM, u64, *]; done))

theorem bdo_4_ok (w a b : Int) (hw : longM w = true) : Ret Try.prog 11 ([.int .i8 4, .int .i8 w, .int .u64 a, .int .u64 b]) (.tup [.int .u64 (doM 4 w a b), .int .i64 0]) := by
  have c0 := @blong_ok (w)
  rw [show (longM w) = true from hw] at c0
  have c1 := @cut_ok (a) (w)
  have c2 := @cut_ok (b) (w)
  have c3 := @cut_ok (IntKind.wrap IntKind.u64 (↑(BitVec.toNat (BitVec.ofInt (64 : Nat) (cutM a w) ||| BitVec.ofInt (64 : Nat) (cutM b w))) : Int)) (w)
  exact (Ret.of_eval (d := .tup [.int .u64 (cutM (IntKind.wrap IntKind.u64 (↑(BitVec.toNat (BitVec.ofInt (64 : Nat) (cutM a w) ||| BitVec.ofInt (64 : Nat) (cutM b w))) : Int)) w), .int .i64 0]) mixed Try.func11 (by kernel_rfl) [tT, tT, tF, tT, tT, .ret _ _ _ c0, tT, tF, tF, .ret _ _ _ c1, .ret _ _ _ c2, .inl, tT, .get ([D.fn (Fn.func (47 : Nat)) [] [], D.fn (Fn.func (48 : Nat)) [] [], D.fn (Fn.func (49 : Nat)) [] [], D.fn (Fn.func (50 : Nat)) [] [], D.fn (Fn.func (51 : Nat)) [] [], D.fn (Fn.func (52 : Nat)) [] [], D.fn (Fn.func (53 : Nat)) [] [], D.fn (Fn.func (54 : Nat)) [] [], D.fn (Fn.func (55 : Nat)) [] [], D.fn (Fn.func (56 : Nat)) [] [], D.fn (Fn.func (57 : Nat)) [] [], D.fn (Fn.func (58 : Nat)) [] [], D.fn (Fn.func (59 : Nat)) [] []]) 4 (D.fn (Fn.func (51 : Nat)) [] []) rfl, .inl, .ret _ _ _ c3] (by kernel_rfl)).to (by ((simp only [wk, wkL, and_true]; repeat' (first | rfl | exact True.intro | apply And.intro)); done))

theorem bdo_5_ok (w a b : Int) (hw : longM w = true) : Ret Try.prog 11 ([.int .i8 5, .int .i8 w, .int .u64 a, .int .u64 b]) (.tup [.int .u64 (doM 5 w a b), .int .i64 0]) := by
  have c0 := @blong_ok (w)
  rw [show (longM w) = true from hw] at c0
  have c1 := @cut_ok (a) (w)
  have c2 := @cut_ok (b) (w)
  have c3 := @cut_ok (IntKind.wrap IntKind.u64 (↑(BitVec.toNat (BitVec.ofInt (64 : Nat) (cutM a w) &&& BitVec.ofInt (64 : Nat) (cutM b w))) : Int)) (w)
  exact (Ret.of_eval (d := .tup [.int .u64 (cutM (IntKind.wrap IntKind.u64 (↑(BitVec.toNat (BitVec.ofInt (64 : Nat) (cutM a w) &&& BitVec.ofInt (64 : Nat) (cutM b w))) : Int)) w), .int .i64 0]) mixed Try.func11 (by kernel_rfl) [tT, tT, tF, tT, tT, .ret _ _ _ c0, tT, tF, tF, .ret _ _ _ c1, .ret _ _ _ c2, .inl, tT, .get ([D.fn (Fn.func (47 : Nat)) [] [], D.fn (Fn.func (48 : Nat)) [] [], D.fn (Fn.func (49 : Nat)) [] [], D.fn (Fn.func (50 : Nat)) [] [], D.fn (Fn.func (51 : Nat)) [] [], D.fn (Fn.func (52 : Nat)) [] [], D.fn (Fn.func (53 : Nat)) [] [], D.fn (Fn.func (54 : Nat)) [] [], D.fn (Fn.func (55 : Nat)) [] [], D.fn (Fn.func (56 : Nat)) [] [], D.fn (Fn.func (57 : Nat)) [] [], D.fn (Fn.func (58 : Nat)) [] [], D.fn (Fn.func (59 : Nat)) [] []]) 5 (D.fn (Fn.func (52 : Nat)) [] []) rfl, .inl, .ret _ _ _ c3] (by kernel_rfl)).to (by ((simp only [wk, wkL, and_true]; repeat' (first | rfl | exact True.intro | apply And.intro)); done))

theorem bdo_6_ok (w a b : Int) (hw : longM w = true) : Ret Try.prog 11 ([.int .i8 6, .int .i8 w, .int .u64 a, .int .u64 b]) (.tup [.int .u64 (doM 6 w a b), .int .i64 0]) := by
  have c0 := @blong_ok (w)
  rw [show (longM w) = true from hw] at c0
  have c1 := @cut_ok (a) (w)
  have c2 := @cut_ok (b) (w)
  have c3 := @cut_ok (IntKind.wrap IntKind.u64 (cutM a w * (2 : Int) ^ min (Int.toNat (IntKind.wrap IntKind.u64 (↑(BitVec.toNat (BitVec.ofInt (64 : Nat) (cutM b w) &&& BitVec.ofInt (64 : Nat) (IntKind.wrap IntKind.u64 (IntKind.wrap IntKind.i8 (w - (1 : Int)))))) : Int))) (64 : Nat))) (w)
  exact (Ret.of_eval (d := .tup [.int .u64 (cutM (IntKind.wrap IntKind.u64 (cutM a w * (2 : Int) ^ min (Int.toNat (IntKind.wrap IntKind.u64 (↑(BitVec.toNat (BitVec.ofInt (64 : Nat) (cutM b w) &&& BitVec.ofInt (64 : Nat) (IntKind.wrap IntKind.u64 (IntKind.wrap IntKind.i8 (w - (1 : Int)))))) : Int))) (64 : Nat))) w), .int .i64 0]) mixed Try.func11 (by kernel_rfl) ([tT, tT, tF, tT, tT, .ret _ _ _ c0, tT, tF, tF, .ret _ _ _ c1, .ret _ _ _ c2, .inl, tT, .get ([D.fn (Fn.func (47 : Nat)) [] [], D.fn (Fn.func (48 : Nat)) [] [], D.fn (Fn.func (49 : Nat)) [] [], D.fn (Fn.func (50 : Nat)) [] [], D.fn (Fn.func (51 : Nat)) [] [], D.fn (Fn.func (52 : Nat)) [] [], D.fn (Fn.func (53 : Nat)) [] [], D.fn (Fn.func (54 : Nat)) [] [], D.fn (Fn.func (55 : Nat)) [] [], D.fn (Fn.func (56 : Nat)) [] [], D.fn (Fn.func (57 : Nat)) [] [], D.fn (Fn.func (58 : Nat)) [] [], D.fn (Fn.func (59 : Nat)) [] []]) 6 (D.fn (Fn.func (53 : Nat)) [] []) rfl, .inl, tT] ++ [.ret _ _ _ c3]) (by kernel_rfl)).to (by ((simp only [wk, wkL, and_true]; repeat' (first | rfl | exact True.intro | apply And.intro)); done))

theorem bdo_7_ok (w a b : Int) (hw : longM w = true) : Ret Try.prog 11 ([.int .i8 7, .int .i8 w, .int .u64 a, .int .u64 b]) (.tup [.int .u64 (doM 7 w a b), .int .i64 0]) := by
  have c0 := @blong_ok (w)
  rw [show (longM w) = true from hw] at c0
  have c1 := @cut_ok (a) (w)
  have c2 := @cut_ok (b) (w)
  have c3 := @cut_ok (Int.fdiv (cutM a w) ((2 : Int) ^ min (Int.toNat (IntKind.wrap IntKind.u64 (↑(BitVec.toNat (BitVec.ofInt (64 : Nat) (cutM b w) &&& BitVec.ofInt (64 : Nat) (IntKind.wrap IntKind.u64 (IntKind.wrap IntKind.i8 (w - (1 : Int)))))) : Int))) (64 : Nat))) (w)
  exact (Ret.of_eval (d := .tup [.int .u64 (cutM (Int.fdiv (cutM a w) ((2 : Int) ^ min (Int.toNat (IntKind.wrap IntKind.u64 (↑(BitVec.toNat (BitVec.ofInt (64 : Nat) (cutM b w) &&& BitVec.ofInt (64 : Nat) (IntKind.wrap IntKind.u64 (IntKind.wrap IntKind.i8 (w - (1 : Int)))))) : Int))) (64 : Nat))) w), .int .i64 0]) mixed Try.func11 (by kernel_rfl) ([tT, tT, tF, tT, tT, .ret _ _ _ c0, tT, tF, tF, .ret _ _ _ c1, .ret _ _ _ c2, .inl, tT, .get ([D.fn (Fn.func (47 : Nat)) [] [], D.fn (Fn.func (48 : Nat)) [] [], D.fn (Fn.func (49 : Nat)) [] [], D.fn (Fn.func (50 : Nat)) [] [], D.fn (Fn.func (51 : Nat)) [] [], D.fn (Fn.func (52 : Nat)) [] [], D.fn (Fn.func (53 : Nat)) [] [], D.fn (Fn.func (54 : Nat)) [] [], D.fn (Fn.func (55 : Nat)) [] [], D.fn (Fn.func (56 : Nat)) [] [], D.fn (Fn.func (57 : Nat)) [] [], D.fn (Fn.func (58 : Nat)) [] [], D.fn (Fn.func (59 : Nat)) [] []]) 7 (D.fn (Fn.func (54 : Nat)) [] []) rfl, .inl, tT] ++ [.ret _ _ _ c3]) (by kernel_rfl)).to (by ((simp only [wk, wkL, and_true]; repeat' (first | rfl | exact True.intro | apply And.intro)); done))

theorem bdo_8_ok (w a b : Int) (hw : longM w = true) : Ret Try.prog 11 ([.int .i8 8, .int .i8 w, .int .u64 a, .int .u64 b]) (.tup [.int .u64 (doM 8 w a b), .int .i64 0]) := by
  have c0 := @blong_ok (w)
  rw [show (longM w) = true from hw] at c0
  have c1 := @cut_ok (a) (w)
  have c2 := @cut_ok (b) (w)
  have c3 := @cut_ok (IntKind.wrap IntKind.u64 ((0 : Int) - cutM a w)) (w)
  exact (Ret.of_eval (d := .tup [.int .u64 (cutM (IntKind.wrap IntKind.u64 ((0 : Int) - cutM a w)) w), .int .i64 0]) mixed Try.func11 (by kernel_rfl) [tT, tT, tF, tT, tT, .ret _ _ _ c0, tT, tF, tF, .ret _ _ _ c1, .ret _ _ _ c2, .inl, tT, .get ([D.fn (Fn.func (47 : Nat)) [] [], D.fn (Fn.func (48 : Nat)) [] [], D.fn (Fn.func (49 : Nat)) [] [], D.fn (Fn.func (50 : Nat)) [] [], D.fn (Fn.func (51 : Nat)) [] [], D.fn (Fn.func (52 : Nat)) [] [], D.fn (Fn.func (53 : Nat)) [] [], D.fn (Fn.func (54 : Nat)) [] [], D.fn (Fn.func (55 : Nat)) [] [], D.fn (Fn.func (56 : Nat)) [] [], D.fn (Fn.func (57 : Nat)) [] [], D.fn (Fn.func (58 : Nat)) [] [], D.fn (Fn.func (59 : Nat)) [] []]) 8 (D.fn (Fn.func (55 : Nat)) [] []) rfl, .inl, .ret _ _ _ c3] (by kernel_rfl)).to (by ((simp only [wk, wkL, and_true]; repeat' (first | rfl | exact True.intro | apply And.intro)); done))

theorem bdo_9_ok (w a b : Int) (hw : longM w = true) : Ret Try.prog 11 ([.int .i8 9, .int .i8 w, .int .u64 a, .int .u64 b]) (.tup [.int .u64 (doM 9 w a b), .int .i64 0]) := by
  have c0 := @blong_ok (w)
  rw [show (longM w) = true from hw] at c0
  have c1 := @cut_ok (a) (w)
  have c2 := @cut_ok (b) (w)
  by_cases h3 : cutM b w = 0
  · skip
    have c4 := @cut_ok (cutM a w) (w)
    exact (Ret.of_eval (d := .tup [.int .u64 (cutM (cutM a w) w), .int .i64 0]) mixed Try.func11 (by kernel_rfl) ([tT, tT, tF, tT, tT, .ret _ _ _ c0, tT, tF, tF, .ret _ _ _ c1, .ret _ _ _ c2, .inl, tT, .get ([D.fn (Fn.func (47 : Nat)) [] [], D.fn (Fn.func (48 : Nat)) [] [], D.fn (Fn.func (49 : Nat)) [] [], D.fn (Fn.func (50 : Nat)) [] [], D.fn (Fn.func (51 : Nat)) [] [], D.fn (Fn.func (52 : Nat)) [] [], D.fn (Fn.func (53 : Nat)) [] [], D.fn (Fn.func (54 : Nat)) [] [], D.fn (Fn.func (55 : Nat)) [] [], D.fn (Fn.func (56 : Nat)) [] [], D.fn (Fn.func (57 : Nat)) [] [], D.fn (Fn.func (58 : Nat)) [] [], D.fn (Fn.func (59 : Nat)) [] []]) 9 (D.fn (Fn.func (56 : Nat)) [] []) rfl, .inl, tC (eqI 0 true h3)] ++ [.ret _ _ _ c4]) (by kernel_rfl)).to (by (simp [wk, wkL, doM, opM, h3]; done))
  · skip
    have c5 := @cut_ok (Int.tmod (cutM a w) (cutM b w)) (w)
    exact (Ret.of_eval (d := .tup [.int .u64 (cutM (Int.tmod (cutM a w) (cutM b w)) w), .int .i64 0]) mixed Try.func11 (by kernel_rfl) ([tT, tT, tF, tT, tT, .ret _ _ _ c0, tT, tF, tF, .ret _ _ _ c1, .ret _ _ _ c2, .inl, tT, .get ([D.fn (Fn.func (47 : Nat)) [] [], D.fn (Fn.func (48 : Nat)) [] [], D.fn (Fn.func (49 : Nat)) [] [], D.fn (Fn.func (50 : Nat)) [] [], D.fn (Fn.func (51 : Nat)) [] [], D.fn (Fn.func (52 : Nat)) [] [], D.fn (Fn.func (53 : Nat)) [] [], D.fn (Fn.func (54 : Nat)) [] [], D.fn (Fn.func (55 : Nat)) [] [], D.fn (Fn.func (56 : Nat)) [] [], D.fn (Fn.func (57 : Nat)) [] [], D.fn (Fn.func (58 : Nat)) [] [], D.fn (Fn.func (59 : Nat)) [] []]) 9 (D.fn (Fn.func (56 : Nat)) [] []) rfl, .inl, tC (neOf h3)] ++ [tC (v := true) (neD (neOf h3)), .ret _ _ _ c5]) (by kernel_rfl)).to (by (simp [wk, wkL, doM, opM, h3]; done))

theorem bdo_10_ok (w a b : Int) (hw : longM w = true) : Ret Try.prog 11 ([.int .i8 10, .int .i8 w, .int .u64 a, .int .u64 b]) (.tup [.int .u64 (doM 10 w a b), .int .i64 0]) := by
  have c0 := @blong_ok (w)
  rw [show (longM w) = true from hw] at c0
  have c1 := @cut_ok (a) (w)
  have c2 := @cut_ok (b) (w)
  have c3 := @cut_ok (IntKind.wrap IntKind.u64 (↑(BitVec.toNat (BitVec.ofInt (64 : Nat) (cutM a w) ^^^ BitVec.ofInt (64 : Nat) (cutM b w))) : Int)) (w)
  exact (Ret.of_eval (d := .tup [.int .u64 (cutM (IntKind.wrap IntKind.u64 (↑(BitVec.toNat (BitVec.ofInt (64 : Nat) (cutM a w) ^^^ BitVec.ofInt (64 : Nat) (cutM b w))) : Int)) w), .int .i64 0]) mixed Try.func11 (by kernel_rfl) [tT, tT, tF, tT, tT, .ret _ _ _ c0, tT, tF, tF, .ret _ _ _ c1, .ret _ _ _ c2, .inl, tT, .get ([D.fn (Fn.func (47 : Nat)) [] [], D.fn (Fn.func (48 : Nat)) [] [], D.fn (Fn.func (49 : Nat)) [] [], D.fn (Fn.func (50 : Nat)) [] [], D.fn (Fn.func (51 : Nat)) [] [], D.fn (Fn.func (52 : Nat)) [] [], D.fn (Fn.func (53 : Nat)) [] [], D.fn (Fn.func (54 : Nat)) [] [], D.fn (Fn.func (55 : Nat)) [] [], D.fn (Fn.func (56 : Nat)) [] [], D.fn (Fn.func (57 : Nat)) [] [], D.fn (Fn.func (58 : Nat)) [] [], D.fn (Fn.func (59 : Nat)) [] []]) 10 (D.fn (Fn.func (57 : Nat)) [] []) rfl, .inl, .ret _ _ _ c3] (by kernel_rfl)).to (by ((simp only [wk, wkL, and_true]; repeat' (first | rfl | exact True.intro | apply And.intro)); done))

theorem bdo_11_ok (w a b : Int) (hw : longM w = true) : Ret Try.prog 11 ([.int .i8 11, .int .i8 w, .int .u64 a, .int .u64 b]) (.tup [.int .u64 (doM 11 w a b), .int .i64 0]) := by
  have c0 := @blong_ok (w)
  rw [show (longM w) = true from hw] at c0
  have c1 := @cut_ok (a) (w)
  have c2 := @cut_ok (b) (w)
  have c3 := @cut_ok (cutM b w) (w)
  exact (Ret.of_eval (d := .tup [.int .u64 (cutM (cutM b w) w), .int .i64 0]) mixed Try.func11 (by kernel_rfl) [tT, tT, tF, tT, tT, .ret _ _ _ c0, tT, tF, tF, .ret _ _ _ c1, .ret _ _ _ c2, .inl, tT, .get ([D.fn (Fn.func (47 : Nat)) [] [], D.fn (Fn.func (48 : Nat)) [] [], D.fn (Fn.func (49 : Nat)) [] [], D.fn (Fn.func (50 : Nat)) [] [], D.fn (Fn.func (51 : Nat)) [] [], D.fn (Fn.func (52 : Nat)) [] [], D.fn (Fn.func (53 : Nat)) [] [], D.fn (Fn.func (54 : Nat)) [] [], D.fn (Fn.func (55 : Nat)) [] [], D.fn (Fn.func (56 : Nat)) [] [], D.fn (Fn.func (57 : Nat)) [] [], D.fn (Fn.func (58 : Nat)) [] [], D.fn (Fn.func (59 : Nat)) [] []]) 11 (D.fn (Fn.func (58 : Nat)) [] []) rfl, .inl, .ret _ _ _ c3] (by kernel_rfl)).to (by ((simp only [wk, wkL, and_true]; repeat' (first | rfl | exact True.intro | apply And.intro)); done))

theorem bdo_12_ok (w a b : Int) (hw : longM w = true) : Ret Try.prog 11 ([.int .i8 12, .int .i8 w, .int .u64 a, .int .u64 b]) (.tup [.int .u64 (doM 12 w a b), .int .i64 0]) := by
  have c0 := @blong_ok (w)
  rw [show (longM w) = true from hw] at c0
  have c1 := @cut_ok (a) (w)
  have c2 := @cut_ok (b) (w)
  have c3 := @sign_ok (cutM a w) (w)
  have c4 := @cut_ok (IntKind.wrap IntKind.u64 (Int.fdiv (IntKind.wrap IntKind.i64 (signM (cutM a w) w)) ((2 : Int) ^ min (Int.toNat (IntKind.wrap IntKind.u64 (↑(BitVec.toNat (BitVec.ofInt (64 : Nat) (cutM b w) &&& BitVec.ofInt (64 : Nat) (IntKind.wrap IntKind.u64 (IntKind.wrap IntKind.i8 (w - (1 : Int)))))) : Int))) (64 : Nat)))) (w)
  exact (Ret.of_eval (d := .tup [.int .u64 (cutM (IntKind.wrap IntKind.u64 (Int.fdiv (IntKind.wrap IntKind.i64 (signM (cutM a w) w)) ((2 : Int) ^ min (Int.toNat (IntKind.wrap IntKind.u64 (↑(BitVec.toNat (BitVec.ofInt (64 : Nat) (cutM b w) &&& BitVec.ofInt (64 : Nat) (IntKind.wrap IntKind.u64 (IntKind.wrap IntKind.i8 (w - (1 : Int)))))) : Int))) (64 : Nat)))) w), .int .i64 0]) mixed Try.func11 (by kernel_rfl) ([tT, tT, tF, tT, tT, .ret _ _ _ c0, tT, tF, tF, .ret _ _ _ c1, .ret _ _ _ c2, .inl, tT, .get ([D.fn (Fn.func (47 : Nat)) [] [], D.fn (Fn.func (48 : Nat)) [] [], D.fn (Fn.func (49 : Nat)) [] [], D.fn (Fn.func (50 : Nat)) [] [], D.fn (Fn.func (51 : Nat)) [] [], D.fn (Fn.func (52 : Nat)) [] [], D.fn (Fn.func (53 : Nat)) [] [], D.fn (Fn.func (54 : Nat)) [] [], D.fn (Fn.func (55 : Nat)) [] [], D.fn (Fn.func (56 : Nat)) [] [], D.fn (Fn.func (57 : Nat)) [] [], D.fn (Fn.func (58 : Nat)) [] [], D.fn (Fn.func (59 : Nat)) [] []]) 12 (D.fn (Fn.func (59 : Nat)) [] []) rfl, .inl, .ret _ _ _ c3] ++ [tT, .ret _ _ _ c4]) (by kernel_rfl)).to (by ((simp only [wk, wkL, and_true]; repeat' (first | rfl | exact True.intro | apply And.intro)); done))

theorem fnone_ok  : Ret Try.prog 39 ([]) (fD false false false false false) := by
  exact (Ret.of_eval (d := .agg [.bool false, .bool false, .bool false, .bool false, .bool false]) mixed Try.func39 (by kernel_rfl) [] (by kernel_rfl)).to (by ((simp only [wk, wkL, and_true]; repeat' (first | rfl | exact True.intro | apply And.intro)); done))

theorem fminus_ok (v w : Int) : Ret Try.prog 67 ([.int .u64 v, .int .i8 w]) (.bool (negM v w)) := by
  have c0 := @sign_ok (v) (w)
  exact (Ret.of_eval (d := .bool (decide (IntKind.wrap IntKind.i64 (signM v w) < (0 : Int)))) mixed Try.func67 (by kernel_rfl) [.ret _ _ _ c0] (by kernel_rfl)).to (by ((simp only [wk, wkL, and_true]; repeat' (first | rfl | exact True.intro | apply And.intro)); done))

theorem fof_ok (w v : Int) (hw : longM w = true) : Ret Try.prog 45 ([.int .i8 w, .int .u64 v]) (.tup [fD true false (cutM v w == 0) (negM v w) false, .int .i64 0]) := by
  by_cases h0 : w = 32
  · subst h0
    have c1 := @cut_ok (v) ((32 : Int))
    have c2 := @fminus_ok (v) ((32 : Int))
    exact (Ret.of_eval (d := .tup [.agg [.bool true, .bool false, .bool (cutM v (32 : Int) == (0 : Int)), .bool (negM v (32 : Int)), .bool false], .int .i64 0]) mixed Try.func45 (by kernel_rfl) [tF, tF, tF, tF, .ret _ _ _ c1, .ret _ _ _ c2] (by kernel_rfl)).to (by ((simp only [wk, wkL, and_true]; repeat' (first | rfl | exact True.intro | apply And.intro)); done))
  · skip
    by_cases h3 : w = 64
    · subst h3
      have c4 := @cut_ok (v) ((64 : Int))
      have c5 := @fminus_ok (v) ((64 : Int))
      exact (Ret.of_eval (d := .tup [.agg [.bool true, .bool false, .bool (cutM v (64 : Int) == (0 : Int)), .bool (negM v (64 : Int)), .bool false], .int .i64 0]) mixed Try.func45 (by kernel_rfl) [tC (eT (nt (neOf h0))), tC (eT (nt (neOf h0))), tC (nt (neOf h0)), tF, .ret _ _ _ c4, .ret _ _ _ c5] (by kernel_rfl)).to (by ((simp only [wk, wkL, and_true]; repeat' (first | rfl | exact True.intro | apply And.intro)); done))
    · skip
      exact (Ret.of_eval (d := .tup [.agg [.bool false, .bool false, .bool false, .bool false, .bool false], .int .i64 2]) mixed Try.func45 (by kernel_rfl) [tC (eT (nt (neOf h0))), tC (eT (nt (neOf h0))), tC (nt (neOf h0)), tC (nt (neOf h3))] (by kernel_rfl)).to (by (exfalso; simp [longM] at *; omega))

theorem fadd_ok (w a b : Int) (hw : longM w = true) : Ret Try.prog 43 ([.int .i8 w, .int .u64 a, .int .u64 b]) (.tup [fD true (addC w a b) (cutM (u64 (a + b)) w == 0) (negM (u64 (a + b)) w) (addO w a b), .int .i64 0]) := by
  have c0 := @fof_ok (w) (IntKind.wrap IntKind.u64 (a + b)) hw
  have c1 := @cut_ok (IntKind.wrap IntKind.u64 (a + b)) (w)
  have c2 := @cut_ok (a) (w)
  have c3 := @fminus_ok (IntKind.wrap IntKind.u64 (↑(BitVec.toNat (BitVec.ofInt (64 : Nat) (IntKind.wrap IntKind.u64 (↑(BitVec.toNat (BitVec.ofInt (64 : Nat) a ^^^ BitVec.ofInt (64 : Nat) (IntKind.wrap IntKind.u64 (a + b)))) : Int)) &&& BitVec.ofInt (64 : Nat) (IntKind.wrap IntKind.u64 (↑(BitVec.toNat (BitVec.ofInt (64 : Nat) b ^^^ BitVec.ofInt (64 : Nat) (IntKind.wrap IntKind.u64 (a + b)))) : Int)))) : Int)) (w)
  exact (Ret.of_eval (d := .tup [.agg [.bool true, .bool (decide (cutM (IntKind.wrap IntKind.u64 (a + b)) w < cutM a w)), .bool (cutM (IntKind.wrap IntKind.u64 (a + b)) w == (0 : Int)), .bool (negM (IntKind.wrap IntKind.u64 (a + b)) w), .bool (negM (IntKind.wrap IntKind.u64 (↑(BitVec.toNat (BitVec.ofInt (64 : Nat) (IntKind.wrap IntKind.u64 (↑(BitVec.toNat (BitVec.ofInt (64 : Nat) a ^^^ BitVec.ofInt (64 : Nat) (IntKind.wrap IntKind.u64 (a + b)))) : Int)) &&& BitVec.ofInt (64 : Nat) (IntKind.wrap IntKind.u64 (↑(BitVec.toNat (BitVec.ofInt (64 : Nat) b ^^^ BitVec.ofInt (64 : Nat) (IntKind.wrap IntKind.u64 (a + b)))) : Int)))) : Int)) w)], .int .i64 0]) mixed Try.func43 (by kernel_rfl) [.ret _ _ _ c0, tF, .ret _ _ _ c1, .ret _ _ _ c2, .ret _ _ _ c3] (by kernel_rfl)).to (by ((simp only [wk, wkL, and_true]; repeat' (first | rfl | exact True.intro | apply And.intro)); done))

theorem fsub_ok (w a b : Int) (hw : longM w = true) : Ret Try.prog 44 ([.int .i8 w, .int .u64 a, .int .u64 b]) (.tup [fD true (subC w a b) (cutM (u64 (a - b)) w == 0) (negM (u64 (a - b)) w) (subO w a b), .int .i64 0]) := by
  have c0 := @fof_ok (w) (IntKind.wrap IntKind.u64 (a - b)) hw
  have c1 := @cut_ok (a) (w)
  have c2 := @cut_ok (b) (w)
  have c3 := @fminus_ok (IntKind.wrap IntKind.u64 (↑(BitVec.toNat (BitVec.ofInt (64 : Nat) (IntKind.wrap IntKind.u64 (↑(BitVec.toNat (BitVec.ofInt (64 : Nat) a ^^^ BitVec.ofInt (64 : Nat) b)) : Int)) &&& BitVec.ofInt (64 : Nat) (IntKind.wrap IntKind.u64 (↑(BitVec.toNat (BitVec.ofInt (64 : Nat) a ^^^ BitVec.ofInt (64 : Nat) (IntKind.wrap IntKind.u64 (a - b)))) : Int)))) : Int)) (w)
  exact (Ret.of_eval (d := .tup [.agg [.bool true, .bool (decide (cutM a w < cutM b w)), .bool (cutM (IntKind.wrap IntKind.u64 (a - b)) w == (0 : Int)), .bool (negM (IntKind.wrap IntKind.u64 (a - b)) w), .bool (negM (IntKind.wrap IntKind.u64 (↑(BitVec.toNat (BitVec.ofInt (64 : Nat) (IntKind.wrap IntKind.u64 (↑(BitVec.toNat (BitVec.ofInt (64 : Nat) a ^^^ BitVec.ofInt (64 : Nat) b)) : Int)) &&& BitVec.ofInt (64 : Nat) (IntKind.wrap IntKind.u64 (↑(BitVec.toNat (BitVec.ofInt (64 : Nat) a ^^^ BitVec.ofInt (64 : Nat) (IntKind.wrap IntKind.u64 (a - b)))) : Int)))) : Int)) w)], .int .i64 0]) mixed Try.func44 (by kernel_rfl) [.ret _ _ _ c0, tF, .ret _ _ _ c1, .ret _ _ _ c2, .ret _ _ _ c3] (by kernel_rfl)).to (by ((simp only [wk, wkL, and_true]; repeat' (first | rfl | exact True.intro | apply And.intro)); done))

end Go.Proofs.Ytkannibhndjgeaa
