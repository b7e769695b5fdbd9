/- Contracts and plain laws that a statement's proof leans on (texts merged: E0, XOf, XOfA, XMay0, XMay1). -/
import Derived.Test.YtkpneibifdoecaaGreatH05
import Derived.Test.YtkpneibifdoecaaGreatH07
set_option linter.unusedVariables false
set_option linter.unusedSimpArgs false
set_option maxRecDepth 100000
set_option maxHeartbeats 8000000
namespace Go.Proofs.YtkpneibifdoecaaGreat
open Go Go.Ev
theorem cut_ok (v w : Int) : Ret Tryz.prog 72 ([.int .u64 v, .int .i8 w]) (.int .u64 (cutM v w)) := by
 by_cases h0 : w = 8
 ·subst h0
  exact (o72 (d := .int .u64 (IntKind.wrap IntKind.u64 (IntKind.wrap IntKind.u8 v))) [tT] (by kernel_rfl)).to (by simp [wk, cutM, w_u8, w_u16, w_u32, w_u64, ]; try omega)
 by_cases h1 : w = 16
 ·subst h1
  exact (o72 (d := .int .u64 (IntKind.wrap IntKind.u64 (IntKind.wrap IntKind.u16 v))) [tC (neOf h0), tT] (by kernel_rfl)).to (by simp [wk, cutM, w_u8, w_u16, w_u32, w_u64, h0]; try omega)
 by_cases h2 : w = 32
 ·subst h2
  exact (o72 (d := .int .u64 (IntKind.wrap IntKind.u64 (IntKind.wrap IntKind.u32 v))) [tC (neOf h0), tC (neOf h1), tT] (by kernel_rfl)).to (by simp [wk, cutM, w_u8, w_u16, w_u32, w_u64, h0, h1]; try omega)
 exact (o72 (d := .int .u64 v) [tC (neOf h0), tC (neOf h1), tC (neOf h2)] (by kernel_rfl)).to (by simp [wk, cutM, w_u8, w_u16, w_u32, w_u64, h0, h1, h2]; try omega)
theorem sign_ok (v w : Int) : Ret Tryz.prog 166 ([.int .u64 v, .int .i8 w]) (.int .u64 (signM v w)) := by
 by_cases h0 : w = 8
 ·subst h0
  exact (o166 (d := .int .u64 (IntKind.wrap IntKind.u64 (IntKind.i64.wrap (IntKind.wrap IntKind.i8 v)))) [tT] (by kernel_rfl)).to (by simp [wk, signM, u64, sign_a, sign_b, sign_c, ])
 by_cases h1 : w = 16
 ·subst h1
  exact (o166 (d := .int .u64 (IntKind.wrap IntKind.u64 (IntKind.i64.wrap (IntKind.wrap IntKind.i16 v)))) [tC (neOf h0), tT] (by kernel_rfl)).to (by simp [wk, signM, u64, sign_a, sign_b, sign_c, h0])
 by_cases h2 : w = 32
 ·subst h2
  exact (o166 (d := .int .u64 (IntKind.wrap IntKind.u64 (IntKind.i64.wrap (IntKind.wrap IntKind.i32 v)))) [tC (neOf h0), tC (neOf h1), tT] (by kernel_rfl)).to (by simp [wk, signM, u64, sign_a, sign_b, sign_c, h0, h1])
 exact (o166 (d := .int .u64 v) [tC (neOf h0), tC (neOf h1), tC (neOf h2)] (by kernel_rfl)).to (by simp [wk, signM, u64, sign_a, sign_b, sign_c, h0, h1, h2])
theorem blong_ok (w : Int) : Ret Tryz.prog 142 ([.int .i8 w]) (.bool (longM w)) := by
 by_cases h0 : w = 32
 ·subst h0
  exact (o142 (d := .bool true) [tF, tF, tT] (by kernel_rfl)).to (by simp only [wk, D.bool.injEq, longM]; first | rfl | (rw [Bool.eq_iff_iff]; simp []; try omega))
 exact (o142 (d := .bool (w == 64)) [tC (eF (neOf h0)), tC (eF (neOf h0)), tC (neOf h0)] (by kernel_rfl)).to (by simp only [wk, D.bool.injEq, longM]; first | rfl | (rw [Bool.eq_iff_iff]; simp [h0]; try omega))
def SpE00 (k0_ : Int) : Prop := ∀ (w a b : Int) (hw : longM w = true), Ret Tryz.prog 111 ([.int .i8 k0_, .int .i8 w, .int .u64 a, .int .u64 b]) (.tup [.int .u64 (doM k0_ w a b), .int .i64 0])
theorem bdo_0_ok : SpE00 0 := by
 intro w a b hw
 have c0 := @blong_ok w
 rw [show (longM w) = true from hw] at c0
 have c1 := @cut_ok a w
 have c2 := @cut_ok b w
 have c3 := @cut_ok (IntKind.wrap IntKind.u64 (cutM a w + cutM b w)) w
 exact (o111 (d := .tup [.int .u64 (cutM (IntKind.wrap IntKind.u64 (cutM a w + cutM b w)) w), .int .i64 0]) [tT, tT, tF, tT, tT, .ret _ _ _ c0, tT, tF, tF, .ret _ _ _ c1, .ret _ _ _ c2, .inl, tT, .get ([D.fn (Fn.func 153) [] [], D.fn (Fn.func 154) [] [], D.fn (Fn.func 155) [] [], D.fn (Fn.func 156) [] [], D.fn (Fn.func 157) [] [], D.fn (Fn.func 158) [] [], D.fn (Fn.func 159) [] [], D.fn (Fn.func 160) [] [], D.fn (Fn.func 161) [] [], D.fn (Fn.func 162) [] [], D.fn (Fn.func 163) [] [], D.fn (Fn.func 164) [] [], D.fn (Fn.func 165) [] []]) 0 (D.fn (Fn.func 153) [] []) rfl, .inl, .ret _ _ _ c3] (by kernel_rfl)).to (by first | ((simp only [wk, wkL, and_true]; repeat' (first | rfl | exact True.intro | apply And.intro)); done) | (simp [wk, wkL, doM, opM, ]; done) | (simp [wk, wkL, doM, opM, u64, *]; done))
theorem bdo_1_ok : SpE00 1 := by
 intro w a b hw
 have c0 := @blong_ok w
 rw [show (longM w) = true from hw] at c0
 have c1 := @cut_ok a w
 have c2 := @cut_ok b w
 have c3 := @cut_ok (IntKind.wrap IntKind.u64 (cutM a w - cutM b w)) w
 exact (o111 (d := .tup [.int .u64 (cutM (IntKind.wrap IntKind.u64 (cutM a w - cutM b w)) w), .int .i64 0]) [tT, tT, tF, tT, tT, .ret _ _ _ c0, tT, tF, tF, .ret _ _ _ c1, .ret _ _ _ c2, .inl, tT, .get ([D.fn (Fn.func 153) [] [], D.fn (Fn.func 154) [] [], D.fn (Fn.func 155) [] [], D.fn (Fn.func 156) [] [], D.fn (Fn.func 157) [] [], D.fn (Fn.func 158) [] [], D.fn (Fn.func 159) [] [], D.fn (Fn.func 160) [] [], D.fn (Fn.func 161) [] [], D.fn (Fn.func 162) [] [], D.fn (Fn.func 163) [] [], D.fn (Fn.func 164) [] [], D.fn (Fn.func 165) [] []]) 1 (D.fn (Fn.func 154) [] []) rfl, .inl, .ret _ _ _ c3] (by kernel_rfl)).to (by first | ((simp only [wk, wkL, and_true]; repeat' (first | rfl | exact True.intro | apply And.intro)); done) | (simp [wk, wkL, doM, opM, ]; done) | (simp [wk, wkL, doM, opM, u64, *]; done))
theorem bdo_2_ok : SpE00 2 := by
 intro w a b hw
 have c0 := @blong_ok w
 rw [show (longM w) = true from hw] at c0
 have c1 := @cut_ok a w
 have c2 := @cut_ok b w
 have c3 := @cut_ok (IntKind.wrap IntKind.u64 (cutM a w * cutM b w)) w
 exact (o111 (d := .tup [.int .u64 (cutM (IntKind.wrap IntKind.u64 (cutM a w * cutM b w)) w), .int .i64 0]) [tT, tT, tF, tT, tT, .ret _ _ _ c0, tT, tF, tF, .ret _ _ _ c1, .ret _ _ _ c2, .inl, tT, .get ([D.fn (Fn.func 153) [] [], D.fn (Fn.func 154) [] [], D.fn (Fn.func 155) [] [], D.fn (Fn.func 156) [] [], D.fn (Fn.func 157) [] [], D.fn (Fn.func 158) [] [], D.fn (Fn.func 159) [] [], D.fn (Fn.func 160) [] [], D.fn (Fn.func 161) [] [], D.fn (Fn.func 162) [] [], D.fn (Fn.func 163) [] [], D.fn (Fn.func 164) [] [], D.fn (Fn.func 165) [] []]) 2 (D.fn (Fn.func 155) [] []) rfl, .inl, .ret _ _ _ c3] (by kernel_rfl)).to (by first | ((simp only [wk, wkL, and_true]; repeat' (first | rfl | exact True.intro | apply And.intro)); done) | (simp [wk, wkL, doM, opM, ]; done) | (simp [wk, wkL, doM, opM, u64, *]; done))
theorem bdo_4_ok : SpE00 4 := by
 intro w a b hw
 have c0 := @blong_ok w
 rw [show (longM w) = true from hw] at c0
 have c1 := @cut_ok a w
 have c2 := @cut_ok b w
 have c3 := @cut_ok (IntKind.wrap IntKind.u64 (↑(BitVec.toNat (BitVec.ofInt (64 : Nat) (cutM a w) ||| BitVec.ofInt (64 : Nat) (cutM b w))) : Int)) w
 exact (o111 (d := .tup [.int .u64 (cutM (IntKind.wrap IntKind.u64 (↑(BitVec.toNat (BitVec.ofInt (64 : Nat) (cutM a w) ||| BitVec.ofInt (64 : Nat) (cutM b w))) : Int)) w), .int .i64 0]) [tT, tT, tF, tT, tT, .ret _ _ _ c0, tT, tF, tF, .ret _ _ _ c1, .ret _ _ _ c2, .inl, tT, .get ([D.fn (Fn.func 153) [] [], D.fn (Fn.func 154) [] [], D.fn (Fn.func 155) [] [], D.fn (Fn.func 156) [] [], D.fn (Fn.func 157) [] [], D.fn (Fn.func 158) [] [], D.fn (Fn.func 159) [] [], D.fn (Fn.func 160) [] [], D.fn (Fn.func 161) [] [], D.fn (Fn.func 162) [] [], D.fn (Fn.func 163) [] [], D.fn (Fn.func 164) [] [], D.fn (Fn.func 165) [] []]) 4 (D.fn (Fn.func 157) [] []) rfl, .inl, .ret _ _ _ c3] (by kernel_rfl)).to (by first | ((simp only [wk, wkL, and_true]; repeat' (first | rfl | exact True.intro | apply And.intro)); done) | (simp [wk, wkL, doM, opM, ]; done) | (simp [wk, wkL, doM, opM, u64, *]; done))
theorem bdo_5_ok : SpE00 5 := by
 intro w a b hw
 have c0 := @blong_ok w
 rw [show (longM w) = true from hw] at c0
 have c1 := @cut_ok a w
 have c2 := @cut_ok b w
 have c3 := @cut_ok (IntKind.wrap IntKind.u64 (↑(BitVec.toNat (BitVec.ofInt (64 : Nat) (cutM a w) &&& BitVec.ofInt (64 : Nat) (cutM b w))) : Int)) w
 exact (o111 (d := .tup [.int .u64 (cutM (IntKind.wrap IntKind.u64 (↑(BitVec.toNat (BitVec.ofInt (64 : Nat) (cutM a w) &&& BitVec.ofInt (64 : Nat) (cutM b w))) : Int)) w), .int .i64 0]) [tT, tT, tF, tT, tT, .ret _ _ _ c0, tT, tF, tF, .ret _ _ _ c1, .ret _ _ _ c2, .inl, tT, .get ([D.fn (Fn.func 153) [] [], D.fn (Fn.func 154) [] [], D.fn (Fn.func 155) [] [], D.fn (Fn.func 156) [] [], D.fn (Fn.func 157) [] [], D.fn (Fn.func 158) [] [], D.fn (Fn.func 159) [] [], D.fn (Fn.func 160) [] [], D.fn (Fn.func 161) [] [], D.fn (Fn.func 162) [] [], D.fn (Fn.func 163) [] [], D.fn (Fn.func 164) [] [], D.fn (Fn.func 165) [] []]) 5 (D.fn (Fn.func 158) [] []) rfl, .inl, .ret _ _ _ c3] (by kernel_rfl)).to (by first | ((simp only [wk, wkL, and_true]; repeat' (first | rfl | exact True.intro | apply And.intro)); done) | (simp [wk, wkL, doM, opM, ]; done) | (simp [wk, wkL, doM, opM, u64, *]; done))
theorem bdo_6_ok : SpE00 6 := by
 intro w a b hw
 have c0 := @blong_ok w
 rw [show (longM w) = true from hw] at c0
 have c1 := @cut_ok a w
 have c2 := @cut_ok b w
 have c3 := @cut_ok (IntKind.wrap IntKind.u64 (cutM a w * 2 ^ min (Int.toNat (IntKind.wrap IntKind.u64 (↑(BitVec.toNat (BitVec.ofInt (64 : Nat) (cutM b w) &&& BitVec.ofInt (64 : Nat) (IntKind.wrap IntKind.u64 (IntKind.wrap IntKind.i8 (w - 1))))) : Int))) (64 : Nat))) w
 exact (o111 (d := .tup [.int .u64 (cutM (IntKind.wrap IntKind.u64 (cutM a w * 2 ^ min (Int.toNat (IntKind.wrap IntKind.u64 (↑(BitVec.toNat (BitVec.ofInt (64 : Nat) (cutM b w) &&& BitVec.ofInt (64 : Nat) (IntKind.wrap IntKind.u64 (IntKind.wrap IntKind.i8 (w - 1))))) : Int))) (64 : Nat))) w), .int .i64 0]) [tT, tT, tF, tT, tT, .ret _ _ _ c0, tT, tF, tF, .ret _ _ _ c1, .ret _ _ _ c2, .inl, tT, .get ([D.fn (Fn.func 153) [] [], D.fn (Fn.func 154) [] [], D.fn (Fn.func 155) [] [], D.fn (Fn.func 156) [] [], D.fn (Fn.func 157) [] [], D.fn (Fn.func 158) [] [], D.fn (Fn.func 159) [] [], D.fn (Fn.func 160) [] [], D.fn (Fn.func 161) [] [], D.fn (Fn.func 162) [] [], D.fn (Fn.func 163) [] [], D.fn (Fn.func 164) [] [], D.fn (Fn.func 165) [] []]) 6 (D.fn (Fn.func 159) [] []) rfl, .inl, tT, .ret _ _ _ c3] (by kernel_rfl)).to (by first | ((simp only [wk, wkL, and_true]; repeat' (first | rfl | exact True.intro | apply And.intro)); done) | (simp [wk, wkL, doM, opM, ]; done) | (simp [wk, wkL, doM, opM, u64, *]; done))
theorem bdo_7_ok : SpE00 7 := by
 intro w a b hw
 have c0 := @blong_ok w
 rw [show (longM w) = true from hw] at c0
 have c1 := @cut_ok a w
 have c2 := @cut_ok b w
 have c3 := @cut_ok (Int.fdiv (cutM a w) (2 ^ min (Int.toNat (IntKind.wrap IntKind.u64 (↑(BitVec.toNat (BitVec.ofInt (64 : Nat) (cutM b w) &&& BitVec.ofInt (64 : Nat) (IntKind.wrap IntKind.u64 (IntKind.wrap IntKind.i8 (w - 1))))) : Int))) (64 : Nat))) w
 exact (o111 (d := .tup [.int .u64 (cutM (Int.fdiv (cutM a w) (2 ^ min (Int.toNat (IntKind.wrap IntKind.u64 (↑(BitVec.toNat (BitVec.ofInt (64 : Nat) (cutM b w) &&& BitVec.ofInt (64 : Nat) (IntKind.wrap IntKind.u64 (IntKind.wrap IntKind.i8 (w - 1))))) : Int))) (64 : Nat))) w), .int .i64 0]) [tT, tT, tF, tT, tT, .ret _ _ _ c0, tT, tF, tF, .ret _ _ _ c1, .ret _ _ _ c2, .inl, tT, .get ([D.fn (Fn.func 153) [] [], D.fn (Fn.func 154) [] [], D.fn (Fn.func 155) [] [], D.fn (Fn.func 156) [] [], D.fn (Fn.func 157) [] [], D.fn (Fn.func 158) [] [], D.fn (Fn.func 159) [] [], D.fn (Fn.func 160) [] [], D.fn (Fn.func 161) [] [], D.fn (Fn.func 162) [] [], D.fn (Fn.func 163) [] [], D.fn (Fn.func 164) [] [], D.fn (Fn.func 165) [] []]) 7 (D.fn (Fn.func 160) [] []) rfl, .inl, tT, .ret _ _ _ c3] (by kernel_rfl)).to (by first | ((simp only [wk, wkL, and_true]; repeat' (first | rfl | exact True.intro | apply And.intro)); done) | (simp [wk, wkL, doM, opM, ]; done) | (simp [wk, wkL, doM, opM, u64, *]; done))
theorem bdo_8_ok : SpE00 8 := by
 intro w a b hw
 have c0 := @blong_ok w
 rw [show (longM w) = true from hw] at c0
 have c1 := @cut_ok a w
 have c2 := @cut_ok b w
 have c3 := @cut_ok (IntKind.wrap IntKind.u64 (0 - cutM a w)) w
 exact (o111 (d := .tup [.int .u64 (cutM (IntKind.wrap IntKind.u64 (0 - cutM a w)) w), .int .i64 0]) [tT, tT, tF, tT, tT, .ret _ _ _ c0, tT, tF, tF, .ret _ _ _ c1, .ret _ _ _ c2, .inl, tT, .get ([D.fn (Fn.func 153) [] [], D.fn (Fn.func 154) [] [], D.fn (Fn.func 155) [] [], D.fn (Fn.func 156) [] [], D.fn (Fn.func 157) [] [], D.fn (Fn.func 158) [] [], D.fn (Fn.func 159) [] [], D.fn (Fn.func 160) [] [], D.fn (Fn.func 161) [] [], D.fn (Fn.func 162) [] [], D.fn (Fn.func 163) [] [], D.fn (Fn.func 164) [] [], D.fn (Fn.func 165) [] []]) 8 (D.fn (Fn.func 161) [] []) rfl, .inl, .ret _ _ _ c3] (by kernel_rfl)).to (by first | ((simp only [wk, wkL, and_true]; repeat' (first | rfl | exact True.intro | apply And.intro)); done) | (simp [wk, wkL, doM, opM, ]; done) | (simp [wk, wkL, doM, opM, u64, *]; done))
theorem bdo_10_ok : SpE00 10 := by
 intro w a b hw
 have c0 := @blong_ok w
 rw [show (longM w) = true from hw] at c0
 have c1 := @cut_ok a w
 have c2 := @cut_ok b w
 have c3 := @cut_ok (IntKind.wrap IntKind.u64 (↑(BitVec.toNat (BitVec.ofInt (64 : Nat) (cutM a w) ^^^ BitVec.ofInt (64 : Nat) (cutM b w))) : Int)) w
 exact (o111 (d := .tup [.int .u64 (cutM (IntKind.wrap IntKind.u64 (↑(BitVec.toNat (BitVec.ofInt (64 : Nat) (cutM a w) ^^^ BitVec.ofInt (64 : Nat) (cutM b w))) : Int)) w), .int .i64 0]) [tT, tT, tF, tT, tT, .ret _ _ _ c0, tT, tF, tF, .ret _ _ _ c1, .ret _ _ _ c2, .inl, tT, .get ([D.fn (Fn.func 153) [] [], D.fn (Fn.func 154) [] [], D.fn (Fn.func 155) [] [], D.fn (Fn.func 156) [] [], D.fn (Fn.func 157) [] [], D.fn (Fn.func 158) [] [], D.fn (Fn.func 159) [] [], D.fn (Fn.func 160) [] [], D.fn (Fn.func 161) [] [], D.fn (Fn.func 162) [] [], D.fn (Fn.func 163) [] [], D.fn (Fn.func 164) [] [], D.fn (Fn.func 165) [] []]) 10 (D.fn (Fn.func 163) [] []) rfl, .inl, .ret _ _ _ c3] (by kernel_rfl)).to (by first | ((simp only [wk, wkL, and_true]; repeat' (first | rfl | exact True.intro | apply And.intro)); done) | (simp [wk, wkL, doM, opM, ]; done) | (simp [wk, wkL, doM, opM, u64, *]; done))
theorem bdo_12_ok : SpE00 12 := by
 intro w a b hw
 have c0 := @blong_ok w
 rw [show (longM w) = true from hw] at c0
 have c1 := @cut_ok a w
 have c2 := @cut_ok b w
 have c3 := @sign_ok (cutM a w) w
 have c4 := @cut_ok (IntKind.wrap IntKind.u64 (Int.fdiv (IntKind.i64.wrap (signM (cutM a w) w)) (2 ^ min (Int.toNat (IntKind.wrap IntKind.u64 (↑(BitVec.toNat (BitVec.ofInt (64 : Nat) (cutM b w) &&& BitVec.ofInt (64 : Nat) (IntKind.wrap IntKind.u64 (IntKind.wrap IntKind.i8 (w - 1))))) : Int))) (64 : Nat)))) w
 exact (o111 (d := .tup [.int .u64 (cutM (IntKind.wrap IntKind.u64 (Int.fdiv (IntKind.i64.wrap (signM (cutM a w) w)) (2 ^ min (Int.toNat (IntKind.wrap IntKind.u64 (↑(BitVec.toNat (BitVec.ofInt (64 : Nat) (cutM b w) &&& BitVec.ofInt (64 : Nat) (IntKind.wrap IntKind.u64 (IntKind.wrap IntKind.i8 (w - 1))))) : Int))) (64 : Nat)))) w), .int .i64 0]) [tT, tT, tF, tT, tT, .ret _ _ _ c0, tT, tF, tF, .ret _ _ _ c1, .ret _ _ _ c2, .inl, tT, .get ([D.fn (Fn.func 153) [] [], D.fn (Fn.func 154) [] [], D.fn (Fn.func 155) [] [], D.fn (Fn.func 156) [] [], D.fn (Fn.func 157) [] [], D.fn (Fn.func 158) [] [], D.fn (Fn.func 159) [] [], D.fn (Fn.func 160) [] [], D.fn (Fn.func 161) [] [], D.fn (Fn.func 162) [] [], D.fn (Fn.func 163) [] [], D.fn (Fn.func 164) [] [], D.fn (Fn.func 165) [] []]) 12 (D.fn (Fn.func 165) [] []) rfl, .inl, .ret _ _ _ c3, tT, .ret _ _ _ c4] (by kernel_rfl)).to (by first | ((simp only [wk, wkL, and_true]; repeat' (first | rfl | exact True.intro | apply And.intro)); done) | (simp [wk, wkL, doM, opM, ]; done) | (simp [wk, wkL, doM, opM, u64, *]; done))
theorem fnone_ok  : Ret Tryz.prog 107 ([]) (fD false false false false false) := by
 exact (o107 (d := .agg [.bool false, .bool false, .bool false, .bool false, .bool false]) [] (by kernel_rfl)).to (by first | ((simp only [wk, wkL, and_true]; repeat' (first | rfl | exact True.intro | apply And.intro)); done) | (simp [wk, wkL, ]; done))
theorem fminus_ok (v w : Int) : Ret Tryz.prog 144 ([.int .u64 v, .int .i8 w]) (.bool (negM v w)) := by
 have c0 := @sign_ok v w
 exact (o144 (d := .bool (decide (IntKind.i64.wrap (signM v w) < 0))) [.ret _ _ _ c0] (by kernel_rfl)).to (by first | ((simp only [wk, wkL, and_true]; repeat' (first | rfl | exact True.intro | apply And.intro)); done) | (simp [wk, wkL, ]; done))
theorem fof_ok (w v : Int) (hw : longM w = true) : Ret Tryz.prog 114 ([.int .i8 w, .int .u64 v]) (.tup [fD true false (cutM v w == 0) (negM v w) false, .int .i64 0]) := by
 by_cases h0 : w = 32
 ·subst h0
  have c1 := @cut_ok v 32
  have c2 := @fminus_ok v 32
  exact (o114 (d := .tup [.agg [.bool true, .bool false, .bool (cutM v 32 == 0), .bool (negM v 32), .bool false], .int .i64 0]) [tF, tF, tF, tF, .ret _ _ _ c1, .ret _ _ _ c2] (by kernel_rfl)).to (by first | ((simp only [wk, wkL, and_true]; repeat' (first | rfl | exact True.intro | apply And.intro)); done) | (exfalso; simp [longM] at *; done) | (exfalso; simp [longM] at *; omega))
 by_cases h3 : w = 64
 ·subst h3
  have c4 := @cut_ok v 64
  have c5 := @fminus_ok v 64
  exact (o114 (d := .tup [.agg [.bool true, .bool false, .bool (cutM v 64 == 0), .bool (negM v 64), .bool false], .int .i64 0]) [tC (eT (nt (neOf h0))), tC (eT (nt (neOf h0))), tC (nt (neOf h0)), tF, .ret _ _ _ c4, .ret _ _ _ c5] (by kernel_rfl)).to (by first | ((simp only [wk, wkL, and_true]; repeat' (first | rfl | exact True.intro | apply And.intro)); done) | (exfalso; simp [longM] at *; done) | (exfalso; simp [longM] at *; omega))
 exact (o114 (d := .tup [.agg [.bool false, .bool false, .bool false, .bool false, .bool false], .int .i64 2]) [tC (eT (nt (neOf h0))), tC (eT (nt (neOf h0))), tC (nt (neOf h0)), tC (nt (neOf h3))] (by kernel_rfl)).to (by first | ((simp only [wk, wkL, and_true]; repeat' (first | rfl | exact True.intro | apply And.intro)); done) | (exfalso; simp [longM] at *; done) | (exfalso; simp [longM] at *; omega))
theorem fadd_ok (w a b : Int) (hw : longM w = true) : Ret Tryz.prog 112 ([.int .i8 w, .int .u64 a, .int .u64 b]) (.tup [fD true (addC w a b) (cutM (u64 (a + b)) w == 0) (negM (u64 (a + b)) w) (addO w a b), .int .i64 0]) := by
 have c0 := @fof_ok w (IntKind.wrap IntKind.u64 (a + b)) hw
 have c1 := @cut_ok (IntKind.wrap IntKind.u64 (a + b)) w
 have c2 := @cut_ok a w
 have c3 := @fminus_ok (IntKind.wrap IntKind.u64 (↑(BitVec.toNat (BitVec.ofInt (64 : Nat) (IntKind.wrap IntKind.u64 (↑(BitVec.toNat (BitVec.ofInt (64 : Nat) a ^^^ BitVec.ofInt (64 : Nat) (IntKind.wrap IntKind.u64 (a + b)))) : Int)) &&& BitVec.ofInt (64 : Nat) (IntKind.wrap IntKind.u64 (↑(BitVec.toNat (BitVec.ofInt (64 : Nat) b ^^^ BitVec.ofInt (64 : Nat) (IntKind.wrap IntKind.u64 (a + b)))) : Int)))) : Int)) w
 exact (o112 (d := .tup [.agg [.bool true, .bool (decide (cutM (IntKind.wrap IntKind.u64 (a + b)) w < cutM a w)), .bool (cutM (IntKind.wrap IntKind.u64 (a + b)) w == 0), .bool (negM (IntKind.wrap IntKind.u64 (a + b)) w), .bool (negM (IntKind.wrap IntKind.u64 (↑(BitVec.toNat (BitVec.ofInt (64 : Nat) (IntKind.wrap IntKind.u64 (↑(BitVec.toNat (BitVec.ofInt (64 : Nat) a ^^^ BitVec.ofInt (64 : Nat) (IntKind.wrap IntKind.u64 (a + b)))) : Int)) &&& BitVec.ofInt (64 : Nat) (IntKind.wrap IntKind.u64 (↑(BitVec.toNat (BitVec.ofInt (64 : Nat) b ^^^ BitVec.ofInt (64 : Nat) (IntKind.wrap IntKind.u64 (a + b)))) : Int)))) : Int)) w)], .int .i64 0]) [.ret _ _ _ c0, tF, .ret _ _ _ c1, .ret _ _ _ c2, .ret _ _ _ c3] (by kernel_rfl)).to (by first | ((simp only [wk, wkL, and_true]; repeat' (first | rfl | exact True.intro | apply And.intro)); done) | (simp [wk, wkL, ]; done))
theorem fsub_ok (w a b : Int) (hw : longM w = true) : Ret Tryz.prog 113 ([.int .i8 w, .int .u64 a, .int .u64 b]) (.tup [fD true (subC w a b) (cutM (u64 (a - b)) w == 0) (negM (u64 (a - b)) w) (subO w a b), .int .i64 0]) := by
 have c0 := @fof_ok w (IntKind.wrap IntKind.u64 (a - b)) hw
 have c1 := @cut_ok a w
 have c2 := @cut_ok b w
 have c3 := @fminus_ok (IntKind.wrap IntKind.u64 (↑(BitVec.toNat (BitVec.ofInt (64 : Nat) (IntKind.wrap IntKind.u64 (↑(BitVec.toNat (BitVec.ofInt (64 : Nat) a ^^^ BitVec.ofInt (64 : Nat) b)) : Int)) &&& BitVec.ofInt (64 : Nat) (IntKind.wrap IntKind.u64 (↑(BitVec.toNat (BitVec.ofInt (64 : Nat) a ^^^ BitVec.ofInt (64 : Nat) (IntKind.wrap IntKind.u64 (a - b)))) : Int)))) : Int)) w
 exact (o113 (d := .tup [.agg [.bool true, .bool (decide (cutM a w < cutM b w)), .bool (cutM (IntKind.wrap IntKind.u64 (a - b)) w == 0), .bool (negM (IntKind.wrap IntKind.u64 (a - b)) w), .bool (negM (IntKind.wrap IntKind.u64 (↑(BitVec.toNat (BitVec.ofInt (64 : Nat) (IntKind.wrap IntKind.u64 (↑(BitVec.toNat (BitVec.ofInt (64 : Nat) a ^^^ BitVec.ofInt (64 : Nat) b)) : Int)) &&& BitVec.ofInt (64 : Nat) (IntKind.wrap IntKind.u64 (↑(BitVec.toNat (BitVec.ofInt (64 : Nat) a ^^^ BitVec.ofInt (64 : Nat) (IntKind.wrap IntKind.u64 (a - b)))) : Int)))) : Int)) w)], .int .i64 0]) [.ret _ _ _ c0, tF, .ret _ _ _ c1, .ret _ _ _ c2, .ret _ _ _ c3] (by kernel_rfl)).to (by first | ((simp only [wk, wkL, and_true]; repeat' (first | rfl | exact True.intro | apply And.intro)); done) | (simp [wk, wkL, ]; done))
def tab_XOf_0 : List D := [.int .i8 1, .int .u8 137, .int .i8 0, .int .i8 3, .int .u8 199, .int .i8 0, .int .i8 1, .int .u8 1, .int .i8 0, .int .i8 1, .int .u8 9, .int .i8 0, .int .i8 1, .int .u8 33, .int .i8 0, .int .i8 1, .int .u8 41, .int .i8 0, .int .i8 1, .int .u8 49, .int .i8 0, .int .i8 1, .int .u8 57, .int .i8 0, .int .i8 1, .int .u8 133, .int .i8 0, .int .i8 3, .int .u8 129, .int .i8 0, .int .i8 3, .int .u8 129, .int .i8 1, .int .i8 3, .int .u8 129, .int .i8 4, .int .i8 3, .int .u8 129, .int .i8 5, .int .i8 3, .int .u8 129, .int .i8 6, .int .i8 3, .int .u8 129, .int .i8 7, .int .i8 3, .int .u8 247, .int .i8 0, .int .i8 2, .int .u8 175, .int .i8 0, .int .i8 4, .int .u8 193, .int .i8 4, .int .i8 4, .int .u8 193, .int .i8 5, .int .i8 4, .int .u8 193, .int .i8 7, .int .i8 5, .int .u8 211, .int .i8 4, .int .i8 5, .int .u8 211, .int .i8 5, .int .i8 5, .int .u8 211, .int .i8 7, .int .i8 5, .int .u8 247, .int .i8 3, .int .i8 5, .int .u8 247, .int .i8 6, .int .i8 6, .int .u8 64, .int .i8 0, .int .i8 7, .int .u8 139, .int .i8 0, .int .i8 8, .int .u8 137, .int .i8 0, .int .i8 9, .int .u8 233, .int .i8 0, .int .i8 10, .int .u8 128, .int .i8 0, .int .i8 11, .int .u8 195, .int .i8 0, .int .i8 11, .int .u8 5, .int .i8 0]
def SpXOf0 (k0_ : Int) : Prop := Ret Tryz.prog 99 ([.int .i8 k0_]) (.tup [.agg [.int .i8 (shapeM k0_), .int .u8 (codeM k0_), .int .i8 (numM k0_)], .bool true])
theorem of_0_ok : SpXOf0 0 := by
 exact (o99 (d := .tup [.agg [.int .i8 1, .int .u8 137, .int .i8 0], .bool true]) [.inl, tT, tT, tT, tF, tF, tT, .getA tab_XOf_0 0 3 ([.int .i8 1, .int .u8 137, .int .i8 0]) ⟨rfl, by decide⟩] (by kernel_rfl)).to (by simp [wk, wkL]; decide)
theorem of_1_ok : SpXOf0 1 := by
 exact (o99 (d := .tup [.agg [.int .i8 3, .int .u8 199, .int .i8 0], .bool true]) [.inl, tT, tT, tT, tF, tF, tT, .getA tab_XOf_0 3 3 ([.int .i8 3, .int .u8 199, .int .i8 0]) ⟨rfl, by decide⟩] (by kernel_rfl)).to (by simp [wk, wkL]; decide)
theorem of_2_ok : SpXOf0 2 := by
 exact (o99 (d := .tup [.agg [.int .i8 1, .int .u8 1, .int .i8 0], .bool true]) [.inl, tT, tT, tT, tF, tF, tT, .getA tab_XOf_0 6 3 ([.int .i8 1, .int .u8 1, .int .i8 0]) ⟨rfl, by decide⟩] (by kernel_rfl)).to (by simp [wk, wkL]; decide)
theorem of_3_ok : SpXOf0 3 := by
 exact (o99 (d := .tup [.agg [.int .i8 1, .int .u8 9, .int .i8 0], .bool true]) [.inl, tT, tT, tT, tF, tF, tT, .getA tab_XOf_0 9 3 ([.int .i8 1, .int .u8 9, .int .i8 0]) ⟨rfl, by decide⟩] (by kernel_rfl)).to (by simp [wk, wkL]; decide)
theorem of_4_ok : SpXOf0 4 := by
 exact (o99 (d := .tup [.agg [.int .i8 1, .int .u8 33, .int .i8 0], .bool true]) [.inl, tT, tT, tT, tF, tF, tT, .getA tab_XOf_0 12 3 ([.int .i8 1, .int .u8 33, .int .i8 0]) ⟨rfl, by decide⟩] (by kernel_rfl)).to (by simp [wk, wkL]; decide)
theorem of_5_ok : SpXOf0 5 := by
 exact (o99 (d := .tup [.agg [.int .i8 1, .int .u8 41, .int .i8 0], .bool true]) [.inl, tT, tT, tT, tF, tF, tT, .getA tab_XOf_0 15 3 ([.int .i8 1, .int .u8 41, .int .i8 0]) ⟨rfl, by decide⟩] (by kernel_rfl)).to (by simp [wk, wkL]; decide)
theorem of_6_ok : SpXOf0 6 := by
 exact (o99 (d := .tup [.agg [.int .i8 1, .int .u8 49, .int .i8 0], .bool true]) [.inl, tT, tT, tT, tF, tF, tT, .getA tab_XOf_0 18 3 ([.int .i8 1, .int .u8 49, .int .i8 0]) ⟨rfl, by decide⟩] (by kernel_rfl)).to (by simp [wk, wkL]; decide)
theorem of_7_ok : SpXOf0 7 := by
 exact (o99 (d := .tup [.agg [.int .i8 1, .int .u8 57, .int .i8 0], .bool true]) [.inl, tT, tT, tT, tF, tF, tT, .getA tab_XOf_0 21 3 ([.int .i8 1, .int .u8 57, .int .i8 0]) ⟨rfl, by decide⟩] (by kernel_rfl)).to (by simp [wk, wkL]; decide)
theorem of_8_ok : SpXOf0 8 := by
 exact (o99 (d := .tup [.agg [.int .i8 1, .int .u8 133, .int .i8 0], .bool true]) [.inl, tT, tT, tT, tF, tF, tT, .getA tab_XOf_0 24 3 ([.int .i8 1, .int .u8 133, .int .i8 0]) ⟨rfl, by decide⟩] (by kernel_rfl)).to (by simp [wk, wkL]; decide)
theorem of_9_ok : SpXOf0 9 := by
 exact (o99 (d := .tup [.agg [.int .i8 3, .int .u8 129, .int .i8 0], .bool true]) [.inl, tT, tT, tT, tF, tF, tT, .getA tab_XOf_0 27 3 ([.int .i8 3, .int .u8 129, .int .i8 0]) ⟨rfl, by decide⟩] (by kernel_rfl)).to (by simp [wk, wkL]; decide)
theorem of_10_ok : SpXOf0 10 := by
 exact (o99 (d := .tup [.agg [.int .i8 3, .int .u8 129, .int .i8 1], .bool true]) [.inl, tT, tT, tT, tF, tF, tT, .getA tab_XOf_0 30 3 ([.int .i8 3, .int .u8 129, .int .i8 1]) ⟨rfl, by decide⟩] (by kernel_rfl)).to (by simp [wk, wkL]; decide)
theorem of_11_ok : SpXOf0 11 := by
 exact (o99 (d := .tup [.agg [.int .i8 3, .int .u8 129, .int .i8 4], .bool true]) [.inl, tT, tT, tT, tF, tF, tT, .getA tab_XOf_0 33 3 ([.int .i8 3, .int .u8 129, .int .i8 4]) ⟨rfl, by decide⟩] (by kernel_rfl)).to (by simp [wk, wkL]; decide)
theorem of_12_ok : SpXOf0 12 := by
 exact (o99 (d := .tup [.agg [.int .i8 3, .int .u8 129, .int .i8 5], .bool true]) [.inl, tT, tT, tT, tF, tF, tT, .getA tab_XOf_0 36 3 ([.int .i8 3, .int .u8 129, .int .i8 5]) ⟨rfl, by decide⟩] (by kernel_rfl)).to (by simp [wk, wkL]; decide)
theorem of_13_ok : SpXOf0 13 := by
 exact (o99 (d := .tup [.agg [.int .i8 3, .int .u8 129, .int .i8 6], .bool true]) [.inl, tT, tT, tT, tF, tF, tT, .getA tab_XOf_0 39 3 ([.int .i8 3, .int .u8 129, .int .i8 6]) ⟨rfl, by decide⟩] (by kernel_rfl)).to (by simp [wk, wkL]; decide)
theorem of_14_ok : SpXOf0 14 := by
 exact (o99 (d := .tup [.agg [.int .i8 3, .int .u8 129, .int .i8 7], .bool true]) [.inl, tT, tT, tT, tF, tF, tT, .getA tab_XOf_0 42 3 ([.int .i8 3, .int .u8 129, .int .i8 7]) ⟨rfl, by decide⟩] (by kernel_rfl)).to (by simp [wk, wkL]; decide)
theorem of_15_ok : SpXOf0 15 := by
 exact (o99 (d := .tup [.agg [.int .i8 3, .int .u8 247, .int .i8 0], .bool true]) [.inl, tT, tT, tT, tF, tF, tT, .getA tab_XOf_0 45 3 ([.int .i8 3, .int .u8 247, .int .i8 0]) ⟨rfl, by decide⟩] (by kernel_rfl)).to (by simp [wk, wkL]; decide)
theorem of_16_ok : SpXOf0 16 := by
 exact (o99 (d := .tup [.agg [.int .i8 2, .int .u8 175, .int .i8 0], .bool true]) [.inl, tT, tT, tT, tF, tF, tT, .getA tab_XOf_0 48 3 ([.int .i8 2, .int .u8 175, .int .i8 0]) ⟨rfl, by decide⟩] (by kernel_rfl)).to (by simp [wk, wkL]; decide)
theorem of_17_ok : SpXOf0 17 := by
 exact (o99 (d := .tup [.agg [.int .i8 4, .int .u8 193, .int .i8 4], .bool true]) [.inl, tT, tT, tT, tF, tF, tT, .getA tab_XOf_0 51 3 ([.int .i8 4, .int .u8 193, .int .i8 4]) ⟨rfl, by decide⟩] (by kernel_rfl)).to (by simp [wk, wkL]; decide)
theorem of_18_ok : SpXOf0 18 := by
 exact (o99 (d := .tup [.agg [.int .i8 4, .int .u8 193, .int .i8 5], .bool true]) [.inl, tT, tT, tT, tF, tF, tT, .getA tab_XOf_0 54 3 ([.int .i8 4, .int .u8 193, .int .i8 5]) ⟨rfl, by decide⟩] (by kernel_rfl)).to (by simp [wk, wkL]; decide)
theorem of_19_ok : SpXOf0 19 := by
 exact (o99 (d := .tup [.agg [.int .i8 4, .int .u8 193, .int .i8 7], .bool true]) [.inl, tT, tT, tT, tF, tF, tT, .getA tab_XOf_0 57 3 ([.int .i8 4, .int .u8 193, .int .i8 7]) ⟨rfl, by decide⟩] (by kernel_rfl)).to (by simp [wk, wkL]; decide)
theorem of_20_ok : SpXOf0 20 := by
 exact (o99 (d := .tup [.agg [.int .i8 5, .int .u8 211, .int .i8 4], .bool true]) [.inl, tT, tT, tT, tF, tF, tT, .getA tab_XOf_0 60 3 ([.int .i8 5, .int .u8 211, .int .i8 4]) ⟨rfl, by decide⟩] (by kernel_rfl)).to (by simp [wk, wkL]; decide)
theorem of_21_ok : SpXOf0 21 := by
 exact (o99 (d := .tup [.agg [.int .i8 5, .int .u8 211, .int .i8 5], .bool true]) [.inl, tT, tT, tT, tF, tF, tT, .getA tab_XOf_0 63 3 ([.int .i8 5, .int .u8 211, .int .i8 5]) ⟨rfl, by decide⟩] (by kernel_rfl)).to (by simp [wk, wkL]; decide)
theorem of_22_ok : SpXOf0 22 := by
 exact (o99 (d := .tup [.agg [.int .i8 5, .int .u8 211, .int .i8 7], .bool true]) [.inl, tT, tT, tT, tF, tF, tT, .getA tab_XOf_0 66 3 ([.int .i8 5, .int .u8 211, .int .i8 7]) ⟨rfl, by decide⟩] (by kernel_rfl)).to (by simp [wk, wkL]; decide)
theorem of_23_ok : SpXOf0 23 := by
 exact (o99 (d := .tup [.agg [.int .i8 5, .int .u8 247, .int .i8 3], .bool true]) [.inl, tT, tT, tT, tF, tF, tT, .getA tab_XOf_0 69 3 ([.int .i8 5, .int .u8 247, .int .i8 3]) ⟨rfl, by decide⟩] (by kernel_rfl)).to (by simp [wk, wkL]; decide)
theorem of_24_ok : SpXOf0 24 := by
 exact (o99 (d := .tup [.agg [.int .i8 5, .int .u8 247, .int .i8 6], .bool true]) [.inl, tT, tT, tT, tF, tF, tT, .getA tab_XOf_0 72 3 ([.int .i8 5, .int .u8 247, .int .i8 6]) ⟨rfl, by decide⟩] (by kernel_rfl)).to (by simp [wk, wkL]; decide)
theorem of_25_ok : SpXOf0 25 := by
 exact (o99 (d := .tup [.agg [.int .i8 6, .int .u8 64, .int .i8 0], .bool true]) [.inl, tT, tT, tT, tF, tF, tT, .getA tab_XOf_0 75 3 ([.int .i8 6, .int .u8 64, .int .i8 0]) ⟨rfl, by decide⟩] (by kernel_rfl)).to (by simp [wk, wkL]; decide)
theorem of_26_ok : SpXOf0 26 := by
 exact (o99 (d := .tup [.agg [.int .i8 7, .int .u8 139, .int .i8 0], .bool true]) [.inl, tT, tT, tT, tF, tF, tT, .getA tab_XOf_0 78 3 ([.int .i8 7, .int .u8 139, .int .i8 0]) ⟨rfl, by decide⟩] (by kernel_rfl)).to (by simp [wk, wkL]; decide)
theorem of_27_ok : SpXOf0 27 := by
 exact (o99 (d := .tup [.agg [.int .i8 8, .int .u8 137, .int .i8 0], .bool true]) [.inl, tT, tT, tT, tF, tF, tT, .getA tab_XOf_0 81 3 ([.int .i8 8, .int .u8 137, .int .i8 0]) ⟨rfl, by decide⟩] (by kernel_rfl)).to (by simp [wk, wkL]; decide)
theorem of_28_ok : SpXOf0 28 := by
 exact (o99 (d := .tup [.agg [.int .i8 9, .int .u8 233, .int .i8 0], .bool true]) [.inl, tT, tT, tT, tF, tF, tT, .getA tab_XOf_0 84 3 ([.int .i8 9, .int .u8 233, .int .i8 0]) ⟨rfl, by decide⟩] (by kernel_rfl)).to (by simp [wk, wkL]; decide)
theorem of_29_ok : SpXOf0 29 := by
 exact (o99 (d := .tup [.agg [.int .i8 10, .int .u8 128, .int .i8 0], .bool true]) [.inl, tT, tT, tT, tF, tF, tT, .getA tab_XOf_0 87 3 ([.int .i8 10, .int .u8 128, .int .i8 0]) ⟨rfl, by decide⟩] (by kernel_rfl)).to (by simp [wk, wkL]; decide)
theorem of_30_ok : SpXOf0 30 := by
 exact (o99 (d := .tup [.agg [.int .i8 11, .int .u8 195, .int .i8 0], .bool true]) [.inl, tT, tT, tT, tF, tF, tT, .getA tab_XOf_0 90 3 ([.int .i8 11, .int .u8 195, .int .i8 0]) ⟨rfl, by decide⟩] (by kernel_rfl)).to (by simp [wk, wkL]; decide)
theorem of_31_ok : SpXOf0 31 := by
 exact (o99 (d := .tup [.agg [.int .i8 11, .int .u8 5, .int .i8 0], .bool true]) [.inl, tT, tT, tT, tF, tF, tT, .getA tab_XOf_0 93 3 ([.int .i8 11, .int .u8 5, .int .i8 0]) ⟨rfl, by decide⟩] (by kernel_rfl)).to (by simp [wk, wkL]; decide)
theorem of_low_ok (op : Int) (h : op < 0) : Ret Tryz.prog 99 ([.int .i8 op]) (.tup [.agg [.int .i8 0, .int .u8 0, .int .i8 0], .bool false]) := by
 exact (o99 (d := .tup [.agg [.int .i8 0, .int .u8 0, .int .i8 0], .bool false]) ([.inl] ++ List.replicate 3 (tC (eF (decide_eq_true h))) ++ [tC (decide_eq_true h), tT]) (by kernel_rfl)).to (by simp [wk, wkL])
theorem of_high_ok (op : Int) (h : 32 ≤ op) (ho : op ≤ 127) : Ret Tryz.prog 99 ([.int .i8 op]) (.tup [.agg [.int .i8 0, .int .u8 0, .int .i8 0], .bool false]) := by
 exact (o99 (d := .tup [.agg [.int .i8 0, .int .u8 0, .int .i8 0], .bool false]) ([.inl] ++ List.replicate 3 (tC (eF (ltD 0 (decide_eq_false (Int.not_lt.2 h))))) ++ [tC (ltD 0 (decide_eq_false (Int.not_lt.2 h))), tC (leL 32 (by (simp only [sl2] at *; omega) : (decide (IntKind.wrap IntKind.i64 op < 32)) = false))]) (by kernel_rfl)).to (by simp [wk, wkL])
theorem reg_ok (n : Int) : Ret Tryz.prog 101 ([.int .i8 n]) (.bool (regM n)) := by
 rcases bft (decide (n < 0)) with h0 | h0
 ·exact (o101 (d := .bool false) [tC (eT (leL 0 h0)), tC (eT (leL 0 h0)), tC (leL 0 h0)] (by kernel_rfl)).to (by (try simp only [sl0, wk, wkL, wkO, eqCells, eqCell, regM, ccM, widthM, longM] at *); first | (simp [wk, wkL, wkO, eqCells, eqCell, regM, ccM, widthM, longM, *]; done) | (simp [wk, wkL, wkO, eqCells, eqCell, regM, ccM, widthM, longM, *]; omega) | (rw [Bool.eq_iff_iff]; simp [wk, wkL, wkO, eqCells, eqCell, regM, ccM, widthM, longM, *]; done) | (rw [Bool.eq_iff_iff]; simp [wk, wkL, wkO, eqCells, eqCell, regM, ccM, widthM, longM, *]; omega) | (rw [Bool.eq_iff_iff]; simp [wk, wkL, wkO, eqCells, eqCell, regM, ccM, widthM, longM, *]; grind) | (subst_vars; rw [Bool.eq_iff_iff]; simp; grind))
 exact (o101 (d := .bool (decide (n < 16))) [tC (eT (leL 0 h0)), tC (eT (leL 0 h0)), tC (leL 0 h0)] (by kernel_rfl)).to (by (try simp only [sl0, wk, wkL, wkO, eqCells, eqCell, regM, ccM, widthM, longM] at *); first | (simp [wk, wkL, wkO, eqCells, eqCell, regM, ccM, widthM, longM, *]; done) | (simp [wk, wkL, wkO, eqCells, eqCell, regM, ccM, widthM, longM, *]; omega) | (rw [Bool.eq_iff_iff]; simp [wk, wkL, wkO, eqCells, eqCell, regM, ccM, widthM, longM, *]; done) | (rw [Bool.eq_iff_iff]; simp [wk, wkL, wkO, eqCells, eqCell, regM, ccM, widthM, longM, *]; omega) | (rw [Bool.eq_iff_iff]; simp [wk, wkL, wkO, eqCells, eqCell, regM, ccM, widthM, longM, *]; grind) | (subst_vars; rw [Bool.eq_iff_iff]; simp; grind))
theorem cond_ok (n : Int) : Ret Tryz.prog 103 ([.int .i8 n]) (.bool (ccM n)) := by
 rcases bft (decide (n < 2)) with h0 | h0
 ·exact (o103 (d := .bool false) [tC (eT (leL 2 h0)), tC (eT (leL 2 h0)), tC (leL 2 h0), tT, tT, tT, tC (eT (leL 12 (ltU 12 h0))), tC (eT (leL 12 (ltU 12 h0))), tT, tC (leL 12 (ltU 12 h0)), tF] (by kernel_rfl)).to (by (try simp only [sl0, wk, wkL, wkO, eqCells, eqCell, regM, ccM, widthM, longM] at *); first | (simp [wk, wkL, wkO, eqCells, eqCell, regM, ccM, widthM, longM, *]; done) | (simp [wk, wkL, wkO, eqCells, eqCell, regM, ccM, widthM, longM, *]; omega) | (rw [Bool.eq_iff_iff]; simp [wk, wkL, wkO, eqCells, eqCell, regM, ccM, widthM, longM, *]; done) | (rw [Bool.eq_iff_iff]; simp [wk, wkL, wkO, eqCells, eqCell, regM, ccM, widthM, longM, *]; omega) | (rw [Bool.eq_iff_iff]; simp [wk, wkL, wkO, eqCells, eqCell, regM, ccM, widthM, longM, *]; grind) | (subst_vars; rw [Bool.eq_iff_iff]; simp; grind))
 let E1 : EL := [tC (eT (leL 2 h0)), tC (eT (leL 2 h0)), tC (leL 2 h0)]
 rcases bft (decide (n < 8)) with h1 | h1
 ·exact (o103 (d := .bool true) (E1 ++ List.replicate 4 (tC (eF (leC 7 h1))) ++ [tC (leC 7 h1)]) (by kernel_rfl)).to (by clear E1; (try simp only [sl0, wk, wkL, wkO, eqCells, eqCell, regM, ccM, widthM, longM] at *); first | (simp [wk, wkL, wkO, eqCells, eqCell, regM, ccM, widthM, longM, *]; done) | (simp [wk, wkL, wkO, eqCells, eqCell, regM, ccM, widthM, longM, *]; omega) | (rw [Bool.eq_iff_iff]; simp [wk, wkL, wkO, eqCells, eqCell, regM, ccM, widthM, longM, *]; done) | (rw [Bool.eq_iff_iff]; simp [wk, wkL, wkO, eqCells, eqCell, regM, ccM, widthM, longM, *]; omega) | (rw [Bool.eq_iff_iff]; simp [wk, wkL, wkO, eqCells, eqCell, regM, ccM, widthM, longM, *]; grind) | (subst_vars; rw [Bool.eq_iff_iff]; simp; grind))
 rcases bft (decide (n < 12)) with h2 | h2
 ·exact (o103 (d := .bool false) (E1 ++ List.replicate 3 (tC (eF (leC 7 h1))) ++ [tC (eT (leL 12 h2)), tC (eT (leL 12 h2)), tC (eF (leC 7 h1)), tC (leL 12 h2), tC (leC 7 h1)]) (by kernel_rfl)).to (by clear E1; (try simp only [sl0, wk, wkL, wkO, eqCells, eqCell, regM, ccM, widthM, longM] at *); first | (simp [wk, wkL, wkO, eqCells, eqCell, regM, ccM, widthM, longM, *]; done) | (simp [wk, wkL, wkO, eqCells, eqCell, regM, ccM, widthM, longM, *]; omega) | (rw [Bool.eq_iff_iff]; simp [wk, wkL, wkO, eqCells, eqCell, regM, ccM, widthM, longM, *]; done) | (rw [Bool.eq_iff_iff]; simp [wk, wkL, wkO, eqCells, eqCell, regM, ccM, widthM, longM, *]; omega) | (rw [Bool.eq_iff_iff]; simp [wk, wkL, wkO, eqCells, eqCell, regM, ccM, widthM, longM, *]; grind) | (subst_vars; rw [Bool.eq_iff_iff]; simp; grind))
 exact (o103 (d := .bool (decide (n ≤ 15))) (E1 ++ List.replicate 3 (tC (eF (leC 7 h1))) ++ [tC (eT (leL 12 h2)), tC (eT (leL 12 h2)), tC (eF (leC 7 h1)), tC (leL 12 h2), tC (leC 7 h1)]) (by kernel_rfl)).to (by clear E1; (try simp only [sl0, wk, wkL, wkO, eqCells, eqCell, regM, ccM, widthM, longM] at *); first | (simp [wk, wkL, wkO, eqCells, eqCell, regM, ccM, widthM, longM, *]; done) | (simp [wk, wkL, wkO, eqCells, eqCell, regM, ccM, widthM, longM, *]; omega) | (rw [Bool.eq_iff_iff]; simp [wk, wkL, wkO, eqCells, eqCell, regM, ccM, widthM, longM, *]; done) | (rw [Bool.eq_iff_iff]; simp [wk, wkL, wkO, eqCells, eqCell, regM, ccM, widthM, longM, *]; omega) | (rw [Bool.eq_iff_iff]; simp [wk, wkL, wkO, eqCells, eqCell, regM, ccM, widthM, longM, *]; grind) | (subst_vars; rw [Bool.eq_iff_iff]; simp; grind))
theorem within_ok (n a b : Int) : Ret Tryz.prog 102 ([.int .i64 n, .int .i64 a, .int .i64 b]) (.bool (decide (a ≤ n) && decide (n ≤ b))) := by
 rcases bft (decide (n ≥ a)) with h0 | h0
 ·exact (o102 (d := .bool (decide (n ≤ b))) [tC (eT h0), tC (eT h0), tC (eT h0), tC h0] (by kernel_rfl)).to (by (try simp only [sl0, wk, wkL, wkO, eqCells, eqCell, regM, ccM, widthM, longM] at *); (simp [wk, wkL, wkO, eqCells, eqCell, regM, ccM, widthM, longM, *]; done))
 exact (o102 (d := .bool false) [tC (eT h0), tC (eT h0), tC (eT h0), tC h0] (by kernel_rfl)).to (by (try simp only [sl0, wk, wkL, wkO, eqCells, eqCell, regM, ccM, widthM, longM] at *); (simp [wk, wkL, wkO, eqCells, eqCell, regM, ccM, widthM, longM, *]; done))
theorem width_ok (n : Int) : Ret Tryz.prog 104 ([.int .i8 n]) (.bool (widthM n)) := by
 by_cases h0 : n = 8
 ·subst h0
  exact (o104 (d := .bool true) [tT, tT] (by kernel_rfl)).to (by (try simp only [sl0, wk, wkL, wkO, eqCells, eqCell, regM, ccM, widthM, longM] at *); (simp [wk, wkL, wkO, eqCells, eqCell, regM, ccM, widthM, longM, *]; done))
 by_cases h1 : n = 16
 ·subst h1
  exact (o104 (d := .bool true) [tC (neOf h0), tT, tT] (by kernel_rfl)).to (by (try simp only [sl0, wk, wkL, wkO, eqCells, eqCell, regM, ccM, widthM, longM] at *); (simp [wk, wkL, wkO, eqCells, eqCell, regM, ccM, widthM, longM, *]; done))
 by_cases h2 : n = 32
 ·subst h2
  exact (o104 (d := .bool true) [tC (neOf h0), tC (neOf h1), tT, tT] (by kernel_rfl)).to (by (try simp only [sl0, wk, wkL, wkO, eqCells, eqCell, regM, ccM, widthM, longM] at *); (simp [wk, wkL, wkO, eqCells, eqCell, regM, ccM, widthM, longM, *]; done))
 by_cases h3 : n = 64
 ·subst h3
  exact (o104 (d := .bool true) [tC (neOf h0), tC (neOf h1), tC (neOf h2), tT] (by kernel_rfl)).to (by (try simp only [sl0, wk, wkL, wkO, eqCells, eqCell, regM, ccM, widthM, longM] at *); (simp [wk, wkL, wkO, eqCells, eqCell, regM, ccM, widthM, longM, *]; done))
 exact (o104 (d := .bool false) [tC (neOf h0), tC (neOf h1), tC (neOf h2), tC (neOf h3)] (by kernel_rfl)).to (by (try simp only [sl0, wk, wkL, wkO, eqCells, eqCell, regM, ccM, widthM, longM] at *); (simp [wk, wkL, wkO, eqCells, eqCell, regM, ccM, widthM, longM, *]; done))
theorem bareL_1_ok (op w dst src base disp imm cc : Int) : Ret Tryz.prog 100 ([xD op w dst src base disp imm cc, .int .i8 1]) (xD 0 0 0 0 base disp imm cc) := by
 let E1 : EL := [tT, tT, tT, tT, tF, tF, .flat _ _ flat_X]
 by_cases h0 : base = 0
 ·subst h0
  by_cases h1 : disp = 0
  ·subst h1
   by_cases h2 : imm = 0
   ·subst h2
    by_cases h3 : cc = 0
    ·subst h3
     exact (o100 (d := (xD 0 0 0 0 0 0 0 0)) (E1 ++ [tF]) (by kernel_rfl)).to (by (simp [wk, wkL, ]; done))
    exact (o100 (d := (xD 0 0 0 0 0 0 0 cc)) (E1 ++ [tC (nt (andT rfl (andT rfl (andT rfl (andT rfl (andT rfl (andT rfl (andT rfl (andF (y := true) (neOf h3))))))))))]) (by kernel_rfl)).to (by (simp [wk, wkL, h3]; done))
   exact (o100 (d := (xD 0 0 0 0 0 0 imm cc)) (E1 ++ [tC (nt (andT rfl (andT rfl (andT rfl (andT rfl (andT rfl (andT rfl (andF (y := eqCells [.int .i8 cc] [.int .i8 0]) (neOf h2)))))))))]) (by kernel_rfl)).to (by (simp [wk, wkL, h2]; done))
  exact (o100 (d := (xD 0 0 0 0 0 disp imm cc)) (E1 ++ [tC (nt (andT rfl (andT rfl (andT rfl (andT rfl (andT rfl (andF (y := eqCells [.int .i64 imm, .int .i8 cc] [.int .i64 0, .int .i8 0]) (neOf h1))))))))]) (by kernel_rfl)).to (by (simp [wk, wkL, h1]; done))
 exact (o100 (d := (xD 0 0 0 0 base disp imm cc)) (E1 ++ [tC (nt (andT rfl (andT rfl (andT rfl (andT rfl (andF (y := eqCells [.int .i64 disp, .int .i64 imm, .int .i8 cc] [.int .i64 0, .int .i64 0, .int .i8 0]) (neOf h0)))))))]) (by kernel_rfl)).to (by (simp [wk, wkL, h0]; done))
theorem bareL_2_ok (op w dst src base disp imm cc : Int) : Ret Tryz.prog 100 ([xD op w dst src base disp imm cc, .int .i8 2]) (xD 0 0 0 0 base disp imm cc) := by
 let E1 : EL := [tF, tT, tT, tT, tT, tF, tF, .flat _ _ flat_X]
 by_cases h0 : base = 0
 ·subst h0
  by_cases h1 : disp = 0
  ·subst h1
   by_cases h2 : imm = 0
   ·subst h2
    by_cases h3 : cc = 0
    ·subst h3
     exact (o100 (d := (xD 0 0 0 0 0 0 0 0)) (E1 ++ [tF]) (by kernel_rfl)).to (by (simp [wk, wkL, ]; done))
    exact (o100 (d := (xD 0 0 0 0 0 0 0 cc)) (E1 ++ [tC (nt (andT rfl (andT rfl (andT rfl (andT rfl (andT rfl (andT rfl (andT rfl (andF (y := true) (neOf h3))))))))))]) (by kernel_rfl)).to (by (simp [wk, wkL, h3]; done))
   exact (o100 (d := (xD 0 0 0 0 0 0 imm cc)) (E1 ++ [tC (nt (andT rfl (andT rfl (andT rfl (andT rfl (andT rfl (andT rfl (andF (y := eqCells [.int .i8 cc] [.int .i8 0]) (neOf h2)))))))))]) (by kernel_rfl)).to (by (simp [wk, wkL, h2]; done))
  exact (o100 (d := (xD 0 0 0 0 0 disp imm cc)) (E1 ++ [tC (nt (andT rfl (andT rfl (andT rfl (andT rfl (andT rfl (andF (y := eqCells [.int .i64 imm, .int .i8 cc] [.int .i64 0, .int .i8 0]) (neOf h1))))))))]) (by kernel_rfl)).to (by (simp [wk, wkL, h1]; done))
 exact (o100 (d := (xD 0 0 0 0 base disp imm cc)) (E1 ++ [tC (nt (andT rfl (andT rfl (andT rfl (andT rfl (andF (y := eqCells [.int .i64 disp, .int .i64 imm, .int .i8 cc] [.int .i64 0, .int .i64 0, .int .i8 0]) (neOf h0)))))))]) (by kernel_rfl)).to (by (simp [wk, wkL, h0]; done))
theorem bareL_3_ok (op w dst src base disp imm cc : Int) : Ret Tryz.prog 100 ([xD op w dst src base disp imm cc, .int .i8 3]) (xD 0 0 0 src base disp 0 cc) := by
 let E1 : EL := [tF, tF, tF, tT, tT, tT, tT, tF, tF, .flat _ _ flat_X]
 by_cases h0 : src = 0
 ·subst h0
  by_cases h1 : base = 0
  ·subst h1
   by_cases h2 : disp = 0
   ·subst h2
    by_cases h3 : cc = 0
    ·subst h3
     exact (o100 (d := (xD 0 0 0 0 0 0 0 0)) (E1 ++ [tF]) (by kernel_rfl)).to (by (simp [wk, wkL, ]; done))
    exact (o100 (d := (xD 0 0 0 0 0 0 0 cc)) (E1 ++ [tC (nt (andT rfl (andT rfl (andT rfl (andT rfl (andT rfl (andT rfl (andT rfl (andF (y := true) (neOf h3))))))))))]) (by kernel_rfl)).to (by (simp [wk, wkL, h3]; done))
   exact (o100 (d := (xD 0 0 0 0 0 disp 0 cc)) (E1 ++ [tC (nt (andT rfl (andT rfl (andT rfl (andT rfl (andT rfl (andF (y := eqCells [.int .i64 0, .int .i8 cc] [.int .i64 0, .int .i8 0]) (neOf h2))))))))]) (by kernel_rfl)).to (by (simp [wk, wkL, h2]; done))
  exact (o100 (d := (xD 0 0 0 0 base disp 0 cc)) (E1 ++ [tC (nt (andT rfl (andT rfl (andT rfl (andT rfl (andF (y := eqCells [.int .i64 disp, .int .i64 0, .int .i8 cc] [.int .i64 0, .int .i64 0, .int .i8 0]) (neOf h1)))))))]) (by kernel_rfl)).to (by (simp [wk, wkL, h1]; done))
 exact (o100 (d := (xD 0 0 0 src base disp 0 cc)) (E1 ++ [tC (nt (andT rfl (andT rfl (andT rfl (andF (y := eqCells [.int .i8 base, .int .i64 disp, .int .i64 0, .int .i8 cc] [.int .i8 0, .int .i64 0, .int .i64 0, .int .i8 0]) (neOf h0))))))]) (by kernel_rfl)).to (by (simp [wk, wkL, h0]; done))
theorem bareL_4_ok (op w dst src base disp imm cc : Int) : Ret Tryz.prog 100 ([xD op w dst src base disp imm cc, .int .i8 4]) (xD 0 0 0 src base disp 0 cc) := by
 let E1 : EL := [tF, tF, tF, tF, tT, tT, tT, tF, tF, .flat _ _ flat_X]
 by_cases h0 : src = 0
 ·subst h0
  by_cases h1 : base = 0
  ·subst h1
   by_cases h2 : disp = 0
   ·subst h2
    by_cases h3 : cc = 0
    ·subst h3
     exact (o100 (d := (xD 0 0 0 0 0 0 0 0)) (E1 ++ [tF]) (by kernel_rfl)).to (by (simp [wk, wkL, ]; done))
    exact (o100 (d := (xD 0 0 0 0 0 0 0 cc)) (E1 ++ [tC (nt (andT rfl (andT rfl (andT rfl (andT rfl (andT rfl (andT rfl (andT rfl (andF (y := true) (neOf h3))))))))))]) (by kernel_rfl)).to (by (simp [wk, wkL, h3]; done))
   exact (o100 (d := (xD 0 0 0 0 0 disp 0 cc)) (E1 ++ [tC (nt (andT rfl (andT rfl (andT rfl (andT rfl (andT rfl (andF (y := eqCells [.int .i64 0, .int .i8 cc] [.int .i64 0, .int .i8 0]) (neOf h2))))))))]) (by kernel_rfl)).to (by (simp [wk, wkL, h2]; done))
  exact (o100 (d := (xD 0 0 0 0 base disp 0 cc)) (E1 ++ [tC (nt (andT rfl (andT rfl (andT rfl (andT rfl (andF (y := eqCells [.int .i64 disp, .int .i64 0, .int .i8 cc] [.int .i64 0, .int .i64 0, .int .i8 0]) (neOf h1)))))))]) (by kernel_rfl)).to (by (simp [wk, wkL, h1]; done))
 exact (o100 (d := (xD 0 0 0 src base disp 0 cc)) (E1 ++ [tC (nt (andT rfl (andT rfl (andT rfl (andF (y := eqCells [.int .i8 base, .int .i64 disp, .int .i64 0, .int .i8 cc] [.int .i8 0, .int .i64 0, .int .i64 0, .int .i8 0]) (neOf h0))))))]) (by kernel_rfl)).to (by (simp [wk, wkL, h0]; done))
theorem bareL_5_ok (op w dst src base disp imm cc : Int) : Ret Tryz.prog 100 ([xD op w dst src base disp imm cc, .int .i8 5]) (xD 0 0 0 src base disp imm cc) := by
 let E1 : EL := [tF, tF, tF, tF, tF, tT, tT, tT, tF, tF, .flat _ _ flat_X]
 by_cases h0 : src = 0
 ·subst h0
  by_cases h1 : base = 0
  ·subst h1
   by_cases h2 : disp = 0
   ·subst h2
    by_cases h3 : imm = 0
    ·subst h3
     by_cases h4 : cc = 0
     ·subst h4
      exact (o100 (d := (xD 0 0 0 0 0 0 0 0)) (E1 ++ [tF]) (by kernel_rfl)).to (by (simp [wk, wkL, ]; done))
     exact (o100 (d := (xD 0 0 0 0 0 0 0 cc)) (E1 ++ [tC (nt (andT rfl (andT rfl (andT rfl (andT rfl (andT rfl (andT rfl (andT rfl (andF (y := true) (neOf h4))))))))))]) (by kernel_rfl)).to (by (simp [wk, wkL, h4]; done))
    exact (o100 (d := (xD 0 0 0 0 0 0 imm cc)) (E1 ++ [tC (nt (andT rfl (andT rfl (andT rfl (andT rfl (andT rfl (andT rfl (andF (y := eqCells [.int .i8 cc] [.int .i8 0]) (neOf h3)))))))))]) (by kernel_rfl)).to (by (simp [wk, wkL, h3]; done))
   exact (o100 (d := (xD 0 0 0 0 0 disp imm cc)) (E1 ++ [tC (nt (andT rfl (andT rfl (andT rfl (andT rfl (andT rfl (andF (y := eqCells [.int .i64 imm, .int .i8 cc] [.int .i64 0, .int .i8 0]) (neOf h2))))))))]) (by kernel_rfl)).to (by (simp [wk, wkL, h2]; done))
  exact (o100 (d := (xD 0 0 0 0 base disp imm cc)) (E1 ++ [tC (nt (andT rfl (andT rfl (andT rfl (andT rfl (andF (y := eqCells [.int .i64 disp, .int .i64 imm, .int .i8 cc] [.int .i64 0, .int .i64 0, .int .i8 0]) (neOf h1)))))))]) (by kernel_rfl)).to (by (simp [wk, wkL, h1]; done))
 exact (o100 (d := (xD 0 0 0 src base disp imm cc)) (E1 ++ [tC (nt (andT rfl (andT rfl (andT rfl (andF (y := eqCells [.int .i8 base, .int .i64 disp, .int .i64 imm, .int .i8 cc] [.int .i8 0, .int .i64 0, .int .i64 0, .int .i8 0]) (neOf h0))))))]) (by kernel_rfl)).to (by (simp [wk, wkL, h0]; done))
theorem bareL_6_ok (op w dst src base disp imm cc : Int) : Ret Tryz.prog 100 ([xD op w dst src base disp imm cc, .int .i8 6]) (xD 0 0 0 0 base disp imm 0) := by
 let E1 : EL := [tF, tF, tT, tF, tF, tT, tT, .flat _ _ flat_X]
 by_cases h0 : base = 0
 ·subst h0
  by_cases h1 : disp = 0
  ·subst h1
   by_cases h2 : imm = 0
   ·subst h2
    exact (o100 (d := (xD 0 0 0 0 0 0 0 0)) (E1 ++ [tF]) (by kernel_rfl)).to (by (simp [wk, wkL, ]; done))
   exact (o100 (d := (xD 0 0 0 0 0 0 imm 0)) (E1 ++ [tC (nt (andT rfl (andT rfl (andT rfl (andT rfl (andT rfl (andT rfl (andF (y := true) (neOf h2)))))))))]) (by kernel_rfl)).to (by (simp [wk, wkL, h2]; done))
  exact (o100 (d := (xD 0 0 0 0 0 disp imm 0)) (E1 ++ [tC (nt (andT rfl (andT rfl (andT rfl (andT rfl (andT rfl (andF (y := eqCells [.int .i64 imm, .int .i8 0] [.int .i64 0, .int .i8 0]) (neOf h1))))))))]) (by kernel_rfl)).to (by (simp [wk, wkL, h1]; done))
 exact (o100 (d := (xD 0 0 0 0 base disp imm 0)) (E1 ++ [tC (nt (andT rfl (andT rfl (andT rfl (andT rfl (andF (y := eqCells [.int .i64 disp, .int .i64 imm, .int .i8 0] [.int .i64 0, .int .i64 0, .int .i8 0]) (neOf h0)))))))]) (by kernel_rfl)).to (by (simp [wk, wkL, h0]; done))
theorem bareL_7_ok (op w dst src base disp imm cc : Int) : Ret Tryz.prog 100 ([xD op w dst src base disp imm cc, .int .i8 7]) (xD 0 0 0 src 0 0 imm cc) := by
 let E1 : EL := [tF, tF, tF, tF, tF, tF, tT, tT, tT, tF, tF, .flat _ _ flat_X]
 by_cases h0 : src = 0
 ·subst h0
  by_cases h1 : imm = 0
  ·subst h1
   by_cases h2 : cc = 0
   ·subst h2
    exact (o100 (d := (xD 0 0 0 0 0 0 0 0)) (E1 ++ [tF]) (by kernel_rfl)).to (by (simp [wk, wkL, ]; done))
   exact (o100 (d := (xD 0 0 0 0 0 0 0 cc)) (E1 ++ [tC (nt (andT rfl (andT rfl (andT rfl (andT rfl (andT rfl (andT rfl (andT rfl (andF (y := true) (neOf h2))))))))))]) (by kernel_rfl)).to (by (simp [wk, wkL, h2]; done))
  exact (o100 (d := (xD 0 0 0 0 0 0 imm cc)) (E1 ++ [tC (nt (andT rfl (andT rfl (andT rfl (andT rfl (andT rfl (andT rfl (andF (y := eqCells [.int .i8 cc] [.int .i8 0]) (neOf h1)))))))))]) (by kernel_rfl)).to (by (simp [wk, wkL, h1]; done))
 exact (o100 (d := (xD 0 0 0 src 0 0 imm cc)) (E1 ++ [tC (nt (andT rfl (andT rfl (andT rfl (andF (y := eqCells [.int .i8 0, .int .i64 0, .int .i64 imm, .int .i8 cc] [.int .i8 0, .int .i64 0, .int .i64 0, .int .i8 0]) (neOf h0))))))]) (by kernel_rfl)).to (by (simp [wk, wkL, h0]; done))
theorem bareL_8_ok (op w dst src base disp imm cc : Int) : Ret Tryz.prog 100 ([xD op w dst src base disp imm cc, .int .i8 8]) (xD 0 0 dst 0 0 0 imm cc) := by
 let E1 : EL := [tF, tF, tF, tF, tF, tF, tF, tT, tT, tT, tF, tF, .flat _ _ flat_X]
 by_cases h0 : dst = 0
 ·subst h0
  by_cases h1 : imm = 0
  ·subst h1
   by_cases h2 : cc = 0
   ·subst h2
    exact (o100 (d := (xD 0 0 0 0 0 0 0 0)) (E1 ++ [tF]) (by kernel_rfl)).to (by (simp [wk, wkL, ]; done))
   exact (o100 (d := (xD 0 0 0 0 0 0 0 cc)) (E1 ++ [tC (nt (andT rfl (andT rfl (andT rfl (andT rfl (andT rfl (andT rfl (andT rfl (andF (y := true) (neOf h2))))))))))]) (by kernel_rfl)).to (by (simp [wk, wkL, h2]; done))
  exact (o100 (d := (xD 0 0 0 0 0 0 imm cc)) (E1 ++ [tC (nt (andT rfl (andT rfl (andT rfl (andT rfl (andT rfl (andT rfl (andF (y := eqCells [.int .i8 cc] [.int .i8 0]) (neOf h1)))))))))]) (by kernel_rfl)).to (by (simp [wk, wkL, h1]; done))
 exact (o100 (d := (xD 0 0 dst 0 0 0 imm cc)) (E1 ++ [tC (nt (andT rfl (andT rfl (andF (y := eqCells [.int .i8 0, .int .i8 0, .int .i64 0, .int .i64 imm, .int .i8 cc] [.int .i8 0, .int .i8 0, .int .i64 0, .int .i64 0, .int .i8 0]) (neOf h0)))))]) (by kernel_rfl)).to (by (simp [wk, wkL, h0]; done))
theorem bareL_9_ok (op w dst src base disp imm cc : Int) : Ret Tryz.prog 100 ([xD op w dst src base disp imm cc, .int .i8 9]) (xD 0 0 dst src base disp 0 cc) := by
 let E1 : EL := (List.replicate 8 tF ++ [tT, tT, tT, tT, tF, tF, .flat _ _ flat_X])
 by_cases h0 : dst = 0
 ·subst h0
  by_cases h1 : src = 0
  ·subst h1
   by_cases h2 : base = 0
   ·subst h2
    by_cases h3 : disp = 0
    ·subst h3
     by_cases h4 : cc = 0
     ·subst h4
      exact (o100 (d := (xD 0 0 0 0 0 0 0 0)) (E1 ++ [tF]) (by kernel_rfl)).to (by (simp [wk, wkL, ]; done))
     exact (o100 (d := (xD 0 0 0 0 0 0 0 cc)) (E1 ++ [tC (nt (andT rfl (andT rfl (andT rfl (andT rfl (andT rfl (andT rfl (andT rfl (andF (y := true) (neOf h4))))))))))]) (by kernel_rfl)).to (by (simp [wk, wkL, h4]; done))
    exact (o100 (d := (xD 0 0 0 0 0 disp 0 cc)) (E1 ++ [tC (nt (andT rfl (andT rfl (andT rfl (andT rfl (andT rfl (andF (y := eqCells [.int .i64 0, .int .i8 cc] [.int .i64 0, .int .i8 0]) (neOf h3))))))))]) (by kernel_rfl)).to (by (simp [wk, wkL, h3]; done))
   exact (o100 (d := (xD 0 0 0 0 base disp 0 cc)) (E1 ++ [tC (nt (andT rfl (andT rfl (andT rfl (andT rfl (andF (y := eqCells [.int .i64 disp, .int .i64 0, .int .i8 cc] [.int .i64 0, .int .i64 0, .int .i8 0]) (neOf h2)))))))]) (by kernel_rfl)).to (by (simp [wk, wkL, h2]; done))
  exact (o100 (d := (xD 0 0 0 src base disp 0 cc)) (E1 ++ [tC (nt (andT rfl (andT rfl (andT rfl (andF (y := eqCells [.int .i8 base, .int .i64 disp, .int .i64 0, .int .i8 cc] [.int .i8 0, .int .i64 0, .int .i64 0, .int .i8 0]) (neOf h1))))))]) (by kernel_rfl)).to (by (simp [wk, wkL, h1]; done))
 exact (o100 (d := (xD 0 0 dst src base disp 0 cc)) (E1 ++ [tC (nt (andT rfl (andT rfl (andF (y := eqCells [.int .i8 src, .int .i8 base, .int .i64 disp, .int .i64 0, .int .i8 cc] [.int .i8 0, .int .i8 0, .int .i64 0, .int .i64 0, .int .i8 0]) (neOf h0)))))]) (by kernel_rfl)).to (by (simp [wk, wkL, h0]; done))
theorem bareL_10_ok (op w dst src base disp imm cc : Int) : Ret Tryz.prog 100 ([xD op w dst src base disp imm cc, .int .i8 10]) (xD 0 0 dst src base disp 0 0) := by
 let E1 : EL := (List.replicate 9 tF ++ [tT, tT, tT, tF, tT, .flat _ _ flat_X])
 by_cases h0 : dst = 0
 ·subst h0
  by_cases h1 : src = 0
  ·subst h1
   by_cases h2 : base = 0
   ·subst h2
    by_cases h3 : disp = 0
    ·subst h3
     exact (o100 (d := (xD 0 0 0 0 0 0 0 0)) (E1 ++ [tF]) (by kernel_rfl)).to (by (simp [wk, wkL, ]; done))
    exact (o100 (d := (xD 0 0 0 0 0 disp 0 0)) (E1 ++ [tC (nt (andT rfl (andT rfl (andT rfl (andT rfl (andT rfl (andF (y := true) (neOf h3))))))))]) (by kernel_rfl)).to (by (simp [wk, wkL, h3]; done))
   exact (o100 (d := (xD 0 0 0 0 base disp 0 0)) (E1 ++ [tC (nt (andT rfl (andT rfl (andT rfl (andT rfl (andF (y := eqCells [.int .i64 disp, .int .i64 0, .int .i8 0] [.int .i64 0, .int .i64 0, .int .i8 0]) (neOf h2)))))))]) (by kernel_rfl)).to (by (simp [wk, wkL, h2]; done))
  exact (o100 (d := (xD 0 0 0 src base disp 0 0)) (E1 ++ [tC (nt (andT rfl (andT rfl (andT rfl (andF (y := eqCells [.int .i8 base, .int .i64 disp, .int .i64 0, .int .i8 0] [.int .i8 0, .int .i64 0, .int .i64 0, .int .i8 0]) (neOf h1))))))]) (by kernel_rfl)).to (by (simp [wk, wkL, h1]; done))
 exact (o100 (d := (xD 0 0 dst src base disp 0 0)) (E1 ++ [tC (nt (andT rfl (andT rfl (andF (y := eqCells [.int .i8 src, .int .i8 base, .int .i64 disp, .int .i64 0, .int .i8 0] [.int .i8 0, .int .i8 0, .int .i64 0, .int .i64 0, .int .i8 0]) (neOf h0)))))]) (by kernel_rfl)).to (by (simp [wk, wkL, h0]; done))
theorem bareL_11_ok (op w dst src base disp imm cc : Int) : Ret Tryz.prog 100 ([xD op w dst src base disp imm cc, .int .i8 11]) (xD 0 w dst src base disp imm cc) := by
 let E1 : EL := (List.replicate 10 tF ++ [tT, tT, tF, tF, .flat _ _ flat_X])
 by_cases h0 : w = 0
 ·subst h0
  by_cases h1 : dst = 0
  ·subst h1
   by_cases h2 : src = 0
   ·subst h2
    by_cases h3 : base = 0
    ·subst h3
     by_cases h4 : disp = 0
     ·subst h4
      by_cases h5 : imm = 0
      ·subst h5
       by_cases h6 : cc = 0
       ·subst h6
        exact (o100 (d := (xD 0 0 0 0 0 0 0 0)) (E1 ++ [tF]) (by kernel_rfl)).to (by (simp [wk, wkL, ]; done))
       exact (o100 (d := (xD 0 0 0 0 0 0 0 cc)) (E1 ++ [tC (nt (andT rfl (andT rfl (andT rfl (andT rfl (andT rfl (andT rfl (andT rfl (andF (y := true) (neOf h6))))))))))]) (by kernel_rfl)).to (by (simp [wk, wkL, h6]; done))
      exact (o100 (d := (xD 0 0 0 0 0 0 imm cc)) (E1 ++ [tC (nt (andT rfl (andT rfl (andT rfl (andT rfl (andT rfl (andT rfl (andF (y := eqCells [.int .i8 cc] [.int .i8 0]) (neOf h5)))))))))]) (by kernel_rfl)).to (by (simp [wk, wkL, h5]; done))
     exact (o100 (d := (xD 0 0 0 0 0 disp imm cc)) (E1 ++ [tC (nt (andT rfl (andT rfl (andT rfl (andT rfl (andT rfl (andF (y := eqCells [.int .i64 imm, .int .i8 cc] [.int .i64 0, .int .i8 0]) (neOf h4))))))))]) (by kernel_rfl)).to (by (simp [wk, wkL, h4]; done))
    exact (o100 (d := (xD 0 0 0 0 base disp imm cc)) (E1 ++ [tC (nt (andT rfl (andT rfl (andT rfl (andT rfl (andF (y := eqCells [.int .i64 disp, .int .i64 imm, .int .i8 cc] [.int .i64 0, .int .i64 0, .int .i8 0]) (neOf h3)))))))]) (by kernel_rfl)).to (by (simp [wk, wkL, h3]; done))
   exact (o100 (d := (xD 0 0 0 src base disp imm cc)) (E1 ++ [tC (nt (andT rfl (andT rfl (andT rfl (andF (y := eqCells [.int .i8 base, .int .i64 disp, .int .i64 imm, .int .i8 cc] [.int .i8 0, .int .i64 0, .int .i64 0, .int .i8 0]) (neOf h2))))))]) (by kernel_rfl)).to (by (simp [wk, wkL, h2]; done))
  exact (o100 (d := (xD 0 0 dst src base disp imm cc)) (E1 ++ [tC (nt (andT rfl (andT rfl (andF (y := eqCells [.int .i8 src, .int .i8 base, .int .i64 disp, .int .i64 imm, .int .i8 cc] [.int .i8 0, .int .i8 0, .int .i64 0, .int .i64 0, .int .i8 0]) (neOf h1)))))]) (by kernel_rfl)).to (by (simp [wk, wkL, h1]; done))
 exact (o100 (d := (xD 0 w dst src base disp imm cc)) (E1 ++ [tC (nt (andT rfl (andF (y := eqCells [.int .i8 dst, .int .i8 src, .int .i8 base, .int .i64 disp, .int .i64 imm, .int .i8 cc] [.int .i8 0, .int .i8 0, .int .i8 0, .int .i64 0, .int .i64 0, .int .i8 0]) (neOf h0))))]) (by kernel_rfl)).to (by (simp [wk, wkL, h0]; done))
theorem shape_none {op : Int} (h : op < 0 ∨ 32 ≤ op) : shapeM op = 0 ∧ codeM op = 0 ∧ numM op = 0 := by
 refine ⟨?_, ?_, ?_⟩
 ·unfold shapeM; repeat (rw [if_neg (by omega)])
 ·unfold codeM; repeat (rw [if_neg (by omega)])
 ·unfold numM; repeat (rw [if_neg (by omega)])
theorem of_any_ok (op : Int) (ho : op ≤ 127) : Ret Tryz.prog 99 [.int .i8 op] (.tup [.agg [.int .i8 (shapeM op), .int .u8 (codeM op), .int .i8 (numM op)], .bool (decide (0 ≤ op ∧ op ≤ 31))]) := by
 by_cases h1 : op < 0
 ·obtain ⟨e1, e2, e3⟩ := shape_none (.inl h1)
  rw [e1, e2, e3, decide_eq_false (by omega)]
  exact of_low_ok op h1
 ·by_cases h2 : 32 ≤ op
  ·obtain ⟨e1, e2, e3⟩ := shape_none (.inr h2)
   rw [e1, e2, e3, decide_eq_false (by omega)]
   exact of_high_ok op h2 ho
  ·rcases (by omega : op = 0 ∨ op = 1 ∨ op = 2 ∨ op = 3 ∨ op = 4 ∨ op = 5 ∨ op = 6 ∨ op = 7 ∨ op = 8 ∨ op = 9 ∨ op = 10 ∨ op = 11 ∨ op = 12 ∨ op = 13 ∨ op = 14 ∨ op = 15 ∨ op = 16 ∨ op = 17 ∨ op = 18 ∨ op = 19 ∨ op = 20 ∨ op = 21 ∨ op = 22 ∨ op = 23 ∨ op = 24 ∨ op = 25 ∨ op = 26 ∨ op = 27 ∨ op = 28 ∨ op = 29 ∨ op = 30 ∨ op = 31) with rfl | rfl | rfl | rfl | rfl | rfl | rfl | rfl | rfl | rfl | rfl | rfl | rfl | rfl | rfl | rfl | rfl | rfl | rfl | rfl | rfl | rfl | rfl | rfl | rfl | rfl | rfl | rfl | rfl | rfl | rfl | rfl
   ·exact of_0_ok
   ·exact of_1_ok
   ·exact of_2_ok
   ·exact of_3_ok
   ·exact of_4_ok
   ·exact of_5_ok
   ·exact of_6_ok
   ·exact of_7_ok
   ·exact of_8_ok
   ·exact of_9_ok
   ·exact of_10_ok
   ·exact of_11_ok
   ·exact of_12_ok
   ·exact of_13_ok
   ·exact of_14_ok
   ·exact of_15_ok
   ·exact of_16_ok
   ·exact of_17_ok
   ·exact of_18_ok
   ·exact of_19_ok
   ·exact of_20_ok
   ·exact of_21_ok
   ·exact of_22_ok
   ·exact of_23_ok
   ·exact of_24_ok
   ·exact of_25_ok
   ·exact of_26_ok
   ·exact of_27_ok
   ·exact of_28_ok
   ·exact of_29_ok
   ·exact of_30_ok
   ·exact of_31_ok
theorem bare_1_ok (op w dst src base disp imm cc sh : Int) (h : (sh == 1) = true) : Ret Tryz.prog 100 [xD op w dst src base disp imm cc, .int .i8 sh] (xD 0 0 0 0 base disp imm cc) := by
 obtain rfl := eq_of_beq h
 exact bareL_1_ok op w dst src base disp imm cc
theorem bare_2_ok (op w dst src base disp imm cc sh : Int) (h : (sh == 2) = true) : Ret Tryz.prog 100 [xD op w dst src base disp imm cc, .int .i8 sh] (xD 0 0 0 0 base disp imm cc) := by
 obtain rfl := eq_of_beq h
 exact bareL_2_ok op w dst src base disp imm cc
theorem bare_3_ok (op w dst src base disp imm cc sh : Int) (h : (sh == 3) = true) : Ret Tryz.prog 100 [xD op w dst src base disp imm cc, .int .i8 sh] (xD 0 0 0 src base disp 0 cc) := by
 obtain rfl := eq_of_beq h
 exact bareL_3_ok op w dst src base disp imm cc
theorem bare_4_ok (op w dst src base disp imm cc sh : Int) (h : (sh == 4) = true) : Ret Tryz.prog 100 [xD op w dst src base disp imm cc, .int .i8 sh] (xD 0 0 0 src base disp 0 cc) := by
 obtain rfl := eq_of_beq h
 exact bareL_4_ok op w dst src base disp imm cc
theorem bare_5_ok (op w dst src base disp imm cc sh : Int) (h : (sh == 5) = true) : Ret Tryz.prog 100 [xD op w dst src base disp imm cc, .int .i8 sh] (xD 0 0 0 src base disp imm cc) := by
 obtain rfl := eq_of_beq h
 exact bareL_5_ok op w dst src base disp imm cc
theorem bare_6_ok (op w dst src base disp imm cc sh : Int) (h : (sh == 6) = true) : Ret Tryz.prog 100 [xD op w dst src base disp imm cc, .int .i8 sh] (xD 0 0 0 0 base disp imm 0) := by
 obtain rfl := eq_of_beq h
 exact bareL_6_ok op w dst src base disp imm cc
theorem bare_7_ok (op w dst src base disp imm cc sh : Int) (h : (sh == 7) = true) : Ret Tryz.prog 100 [xD op w dst src base disp imm cc, .int .i8 sh] (xD 0 0 0 src 0 0 imm cc) := by
 obtain rfl := eq_of_beq h
 exact bareL_7_ok op w dst src base disp imm cc
theorem bare_8_ok (op w dst src base disp imm cc sh : Int) (h : (sh == 8) = true) : Ret Tryz.prog 100 [xD op w dst src base disp imm cc, .int .i8 sh] (xD 0 0 dst 0 0 0 imm cc) := by
 obtain rfl := eq_of_beq h
 exact bareL_8_ok op w dst src base disp imm cc
theorem bare_9_ok (op w dst src base disp imm cc sh : Int) (h : (sh == 9) = true) : Ret Tryz.prog 100 [xD op w dst src base disp imm cc, .int .i8 sh] (xD 0 0 dst src base disp 0 cc) := by
 obtain rfl := eq_of_beq h
 exact bareL_9_ok op w dst src base disp imm cc
theorem bare_10_ok (op w dst src base disp imm cc sh : Int) (h : (sh == 10) = true) : Ret Tryz.prog 100 [xD op w dst src base disp imm cc, .int .i8 sh] (xD 0 0 dst src base disp 0 0) := by
 obtain rfl := eq_of_beq h
 exact bareL_10_ok op w dst src base disp imm cc
theorem bare_11_ok (op w dst src base disp imm cc sh : Int) (h : (sh == 11) = true) : Ret Tryz.prog 100 [xD op w dst src base disp imm cc, .int .i8 sh] (xD 0 w dst src base disp imm cc) := by
 obtain rfl := eq_of_beq h
 exact bareL_11_ok op w dst src base disp imm cc
theorem mayX_0_ok (op w dst src base disp imm cc : Int) (ho : op ≤ 127) (h : (shapeM op == 0) = true) (hin : decide (0 ≤ op ∧ op ≤ 31) = false) : Ret Tryz.prog 71 ([xD op w dst src base disp imm cc]) (.bool (mayX op w dst src base disp imm cc)) := by
 have c0 := @of_any_ok op ho
 rw [show (shapeM op) = 0 from (eq_of_beq h)] at c0
 generalize g2 : codeM op = r1 at c0
 generalize g4 : numM op = r3 at c0
 exact (o71 (d := .bool false) ([.ret _ _ _ c0] ++ List.replicate 6 (tC (eF (nt hin))) ++ [tC (nt hin), tF, tF, tF, tF, tT, tF, tF, tF, tF, tT, tF, tF, tF, tF, tT, tF, tF, tF, tF, tT, tF, tF, tF, tF, tT, tT]) (by kernel_rfl)).to (by (try simp only [sl0, wk, wkL, wkO, eqCells, eqCell, mayX, regM, mayS, longM, widthM, jumpM, ccM] at *); (simp [wk, wkL, wkO, eqCells, eqCell, mayX, regM, mayS, longM, widthM, jumpM, ccM, *]; done))
theorem mayX_1_ok (op w dst src base disp imm cc : Int) (ho : op ≤ 127) (h : (shapeM op == 1) = true) (hin : decide (0 ≤ op ∧ op ≤ 31) = true) : Ret Tryz.prog 71 ([xD op w dst src base disp imm cc]) (.bool (mayX op w dst src base disp imm cc)) := by
 have c0 := @of_any_ok op ho
 rw [show (shapeM op) = 1 from (eq_of_beq h)] at c0
 generalize g2 : codeM op = r1 at c0
 generalize g4 : numM op = r3 at c0
 have c5 := @bare_1_ok op w dst src base disp imm cc 1 (rfl : true = true)
 let E1 : EL := ([.ret _ _ _ c0] ++ List.replicate 4 (tC (eF (nt hin))) ++ [.ret _ _ _ c5, tC (eF (nt hin)), tC (eF (nt hin)), .flat _ _ flat_X, tC (nt hin)])
 rcases bft (eqCells [.int .i8 0, .int .i8 0, .int .i8 0, .int .i8 0, .int .i8 base, .int .i64 disp, .int .i64 imm, .int .i8 cc] [.int .i8 0, .int .i8 0, .int .i8 0, .int .i8 0, .int .i8 0, .int .i64 0, .int .i64 0, .int .i8 0]) with h6 | h6
 ·have c7 := @reg_ok dst
  generalize g9 : regM dst = r8 at c7
  let E2 : EL := E1 ++ List.replicate 3 (tC (eF (nt h6))) ++ [.ret _ _ _ c7, tC (eF (nt h6)), tC (nt h6)]
  cases r8
  ·exact (o71 (d := .bool false) (E2 ++ [tF, tF, tF, tF, tT, tF, tF, tF, tF, tT, tF, tF, tF, tF, tT, tF, tF, tF, tF, tT, tT]) (by kernel_rfl)).to (by clear E1 E2; (try simp only [sl0, wk, wkL, wkO, eqCells, eqCell, mayX, regM, mayS, longM, widthM, jumpM, ccM] at *); (simp [wk, wkL, wkO, eqCells, eqCell, mayX, regM, mayS, longM, widthM, jumpM, ccM, *]; done))
  have c10 := @reg_ok src
  generalize g12 : regM src = r11 at c10
  let E3 : EL := E2 ++ [tT, tT, tT, .ret _ _ _ c10, tT, tF]
  cases r11
  ·exact (o71 (d := .bool false) (E3 ++ [tF, tF, tF, tF, tT, tF, tF, tF, tF, tT, tF, tF, tF, tF, tT, tT]) (by kernel_rfl)).to (by clear E1 E2 E3; (try simp only [sl0, wk, wkL, wkO, eqCells, eqCell, mayX, regM, mayS, longM, widthM, jumpM, ccM] at *); (simp [wk, wkL, wkO, eqCells, eqCell, mayX, regM, mayS, longM, widthM, jumpM, ccM, *]; done))
  have c13 := @reg_ok base
  generalize g15 : regM base = r14 at c13
  let E4 : EL := E3 ++ [tT, tT, tT, .ret _ _ _ c13, tT, tF]
  cases r14
  ·exact (o71 (d := .bool false) (E4 ++ [tF, tF, tF, tF, tT, tF, tF, tF, tF, tT, tT]) (by kernel_rfl)).to (by clear E1 E2 E3 E4; (try simp only [sl0, wk, wkL, wkO, eqCells, eqCell, mayX, regM, mayS, longM, widthM, jumpM, ccM] at *); (simp [wk, wkL, wkO, eqCells, eqCell, mayX, regM, mayS, longM, widthM, jumpM, ccM, *]; done))
  have c16 := @within_ok disp (-2147483648) 2147483647
  let E5 : EL := E4 ++ [tT, tT, tT, .ret _ _ _ c16, tT, tF]
  rcases bft (decide (disp < (-2147483648))) with h17 | h17
  ·exact (o71 (d := .bool false) (E5 ++ List.replicate 4 (tC (eF (nt (andF (y := decide (disp ≤ 2147483647)) (leL (-2147483648) h17))))) ++ [tC (nt (andF (y := decide (disp ≤ 2147483647)) (leL (-2147483648) h17))), tT]) (by kernel_rfl)).to (by clear E1 E2 E3 E4 E5; (try simp only [sl0, wk, wkL, wkO, eqCells, eqCell, mayX, regM, mayS, longM, widthM, jumpM, ccM] at *); (simp [wk, wkL, wkO, eqCells, eqCell, mayX, regM, mayS, longM, widthM, jumpM, ccM, *]; omega))
  rcases bft (decide (disp < 2147483648)) with h18 | h18
  ·have c19 := @within_ok imm (-2147483648) 2147483647
   let E6 : EL := E5 ++ List.replicate 3 (tC (eF (nt (andT (leL (-2147483648) h17) (leC 2147483647 h18))))) ++ [.ret _ _ _ c19, tC (eF (nt (andT (leL (-2147483648) h17) (leC 2147483647 h18)))), tC (nt (andT (leL (-2147483648) h17) (leC 2147483647 h18)))]
   rcases bft (decide (imm < (-2147483648))) with h20 | h20
   ·exact (o71 (d := .bool false) (E6 ++ [tC (nt (andF (y := decide (imm ≤ 2147483647)) (leL (-2147483648) h20)))]) (by kernel_rfl)).to (by clear E1 E2 E3 E4 E5 E6; (try simp only [sl0, wk, wkL, wkO, eqCells, eqCell, mayX, regM, mayS, longM, widthM, jumpM, ccM] at *); (simp [wk, wkL, wkO, eqCells, eqCell, mayX, regM, mayS, longM, widthM, jumpM, ccM, *]; omega))
   rcases bft (decide (imm < 2147483648)) with h21 | h21
   ·let E7 : EL := E6 ++ [tC (nt (andT (leL (-2147483648) h20) (leC 2147483647 h21)))]
    by_cases h22 : w = 32
    ·subst h22
     exact (o71 (d := .bool true) (E7 ++ [tF, tF, tF, tT, tF, tF, tF, tF, tF, tT, tT, tT]) (by kernel_rfl)).to (by clear E1 E2 E3 E4 E5 E6 E7; (try simp only [sl0, wk, wkL, wkO, eqCells, eqCell, mayX, regM, mayS, longM, widthM, jumpM, ccM] at *); (rw [Bool.eq_iff_iff]; simp [wk, wkL, wkO, eqCells, eqCell, mayX, regM, mayS, longM, widthM, jumpM, ccM, *]; grind))
    let E8 : EL := E7 ++ List.replicate 3 (tC (eF (neOf h22))) ++ [tC (neOf h22)] ++ List.replicate 4 (tC (eF (neOf h22)))
    by_cases h23 : w = 8
    ·subst h23
     have c24 := @within_ok imm (-128) 127
     exact (o71 (d := .bool false) (E8 ++ [tT, tT, tT, .ret _ _ _ c24, tT, tT, tF, tT, tT]) (by kernel_rfl)).to (by clear E1 E2 E3 E4 E5 E6 E7 E8; (try simp only [sl0, wk, wkL, wkO, eqCells, eqCell, mayX, regM, mayS, longM, widthM, jumpM, ccM] at *); (simp [wk, wkL, wkO, eqCells, eqCell, mayX, regM, mayS, longM, widthM, jumpM, ccM, *]; done))
    exact (o71 (d := .bool (w == 64)) (E8 ++ List.replicate 3 (tC (eT (neOf h23))) ++ [tC (eF (neOf h22)), tC (neOf h23), tC (neOf h22), tT, tT]) (by kernel_rfl)).to (by clear E1 E2 E3 E4 E5 E6 E7 E8; (try simp only [sl0, wk, wkL, wkO, eqCells, eqCell, mayX, regM, mayS, longM, widthM, jumpM, ccM] at *); (rw [Bool.eq_iff_iff]; simp [wk, wkL, wkO, eqCells, eqCell, mayX, regM, mayS, longM, widthM, jumpM, ccM, *]; grind))
   exact (o71 (d := .bool false) (E6 ++ [tC (nt (andT (leL (-2147483648) h20) (leC 2147483647 h21)))]) (by kernel_rfl)).to (by clear E1 E2 E3 E4 E5 E6; (try simp only [sl0, wk, wkL, wkO, eqCells, eqCell, mayX, regM, mayS, longM, widthM, jumpM, ccM] at *); (simp [wk, wkL, wkO, eqCells, eqCell, mayX, regM, mayS, longM, widthM, jumpM, ccM, *]; omega))
  exact (o71 (d := .bool false) (E5 ++ List.replicate 4 (tC (eF (nt (andT (leL (-2147483648) h17) (leC 2147483647 h18))))) ++ [tC (nt (andT (leL (-2147483648) h17) (leC 2147483647 h18))), tT]) (by kernel_rfl)).to (by clear E1 E2 E3 E4 E5; (try simp only [sl0, wk, wkL, wkO, eqCells, eqCell, mayX, regM, mayS, longM, widthM, jumpM, ccM] at *); (simp [wk, wkL, wkO, eqCells, eqCell, mayX, regM, mayS, longM, widthM, jumpM, ccM, *]; omega))
 exact (o71 (d := .bool false) (E1 ++ List.replicate 4 (tC (eF (nt h6))) ++ [tC (nt h6), tF, tF, tF, tF, tT, tF, tF, tF, tF, tT, tF, tF, tF, tF, tT, tF, tF, tF, tF, tT, tT]) (by kernel_rfl)).to (by clear E1; (try simp only [sl0, wk, wkL, wkO, eqCells, eqCell, mayX, regM, mayS, longM, widthM, jumpM, ccM] at *); (rw [Bool.eq_iff_iff]; simp [wk, wkL, wkO, eqCells, eqCell, mayX, regM, mayS, longM, widthM, jumpM, ccM, *]; grind))
theorem mayX_2_ok (op w dst src base disp imm cc : Int) (ho : op ≤ 127) (h : (shapeM op == 2) = true) (hin : decide (0 ≤ op ∧ op ≤ 31) = true) : Ret Tryz.prog 71 ([xD op w dst src base disp imm cc]) (.bool (mayX op w dst src base disp imm cc)) := by
 have c0 := @of_any_ok op ho
 rw [show (shapeM op) = 2 from (eq_of_beq h)] at c0
 generalize g2 : codeM op = r1 at c0
 generalize g4 : numM op = r3 at c0
 have c5 := @bare_2_ok op w dst src base disp imm cc 2 (rfl : true = true)
 let E1 : EL := ([.ret _ _ _ c0] ++ List.replicate 4 (tC (eF (nt hin))) ++ [.ret _ _ _ c5, tC (eF (nt hin)), tC (eF (nt hin)), .flat _ _ flat_X, tC (nt hin)])
 rcases bft (eqCells [.int .i8 0, .int .i8 0, .int .i8 0, .int .i8 0, .int .i8 base, .int .i64 disp, .int .i64 imm, .int .i8 cc] [.int .i8 0, .int .i8 0, .int .i8 0, .int .i8 0, .int .i8 0, .int .i64 0, .int .i64 0, .int .i8 0]) with h6 | h6
 ·have c7 := @reg_ok dst
  generalize g9 : regM dst = r8 at c7
  let E2 : EL := E1 ++ List.replicate 3 (tC (eF (nt h6))) ++ [.ret _ _ _ c7, tC (eF (nt h6)), tC (nt h6)]
  cases r8
  ·exact (o71 (d := .bool false) (E2 ++ [tF, tF, tF, tF, tT, tF, tF, tF, tF, tT, tF, tF, tF, tF, tT, tF, tF, tF, tF, tT, tT]) (by kernel_rfl)).to (by clear E1 E2; (try simp only [sl0, wk, wkL, wkO, eqCells, eqCell, mayX, regM, mayS, longM, widthM, jumpM, ccM] at *); (simp [wk, wkL, wkO, eqCells, eqCell, mayX, regM, mayS, longM, widthM, jumpM, ccM, *]; done))
  have c10 := @reg_ok src
  generalize g12 : regM src = r11 at c10
  let E3 : EL := E2 ++ [tT, tT, tT, .ret _ _ _ c10, tT, tF]
  cases r11
  ·exact (o71 (d := .bool false) (E3 ++ [tF, tF, tF, tF, tT, tF, tF, tF, tF, tT, tF, tF, tF, tF, tT, tT]) (by kernel_rfl)).to (by clear E1 E2 E3; (try simp only [sl0, wk, wkL, wkO, eqCells, eqCell, mayX, regM, mayS, longM, widthM, jumpM, ccM] at *); (simp [wk, wkL, wkO, eqCells, eqCell, mayX, regM, mayS, longM, widthM, jumpM, ccM, *]; done))
  have c13 := @reg_ok base
  generalize g15 : regM base = r14 at c13
  let E4 : EL := E3 ++ [tT, tT, tT, .ret _ _ _ c13, tT, tF]
  cases r14
  ·exact (o71 (d := .bool false) (E4 ++ [tF, tF, tF, tF, tT, tF, tF, tF, tF, tT, tT]) (by kernel_rfl)).to (by clear E1 E2 E3 E4; (try simp only [sl0, wk, wkL, wkO, eqCells, eqCell, mayX, regM, mayS, longM, widthM, jumpM, ccM] at *); (simp [wk, wkL, wkO, eqCells, eqCell, mayX, regM, mayS, longM, widthM, jumpM, ccM, *]; done))
  have c16 := @within_ok disp (-2147483648) 2147483647
  let E5 : EL := E4 ++ [tT, tT, tT, .ret _ _ _ c16, tT, tF]
  rcases bft (decide (disp < (-2147483648))) with h17 | h17
  ·exact (o71 (d := .bool false) (E5 ++ List.replicate 4 (tC (eF (nt (andF (y := decide (disp ≤ 2147483647)) (leL (-2147483648) h17))))) ++ [tC (nt (andF (y := decide (disp ≤ 2147483647)) (leL (-2147483648) h17))), tT]) (by kernel_rfl)).to (by clear E1 E2 E3 E4 E5; (try simp only [sl0, wk, wkL, wkO, eqCells, eqCell, mayX, regM, mayS, longM, widthM, jumpM, ccM] at *); (simp [wk, wkL, wkO, eqCells, eqCell, mayX, regM, mayS, longM, widthM, jumpM, ccM, *]; omega))
  rcases bft (decide (disp < 2147483648)) with h18 | h18
  ·have c19 := @within_ok imm (-2147483648) 2147483647
   let E6 : EL := E5 ++ List.replicate 3 (tC (eF (nt (andT (leL (-2147483648) h17) (leC 2147483647 h18))))) ++ [.ret _ _ _ c19, tC (eF (nt (andT (leL (-2147483648) h17) (leC 2147483647 h18)))), tC (nt (andT (leL (-2147483648) h17) (leC 2147483647 h18)))]
   rcases bft (decide (imm < (-2147483648))) with h20 | h20
   ·exact (o71 (d := .bool false) (E6 ++ [tC (nt (andF (y := decide (imm ≤ 2147483647)) (leL (-2147483648) h20)))]) (by kernel_rfl)).to (by clear E1 E2 E3 E4 E5 E6; (try simp only [sl0, wk, wkL, wkO, eqCells, eqCell, mayX, regM, mayS, longM, widthM, jumpM, ccM] at *); (simp [wk, wkL, wkO, eqCells, eqCell, mayX, regM, mayS, longM, widthM, jumpM, ccM, *]; omega))
   rcases bft (decide (imm < 2147483648)) with h21 | h21
   ·let E7 : EL := E6 ++ [tC (nt (andT (leL (-2147483648) h20) (leC 2147483647 h21)))]
    by_cases h22 : w = 32
    ·subst h22
     exact (o71 (d := .bool true) (E7 ++ [tF, tF, tF, tT, tF, tF, tF, tF, tF, tT, tF, tT, tT]) (by kernel_rfl)).to (by clear E1 E2 E3 E4 E5 E6 E7; (try simp only [sl0, wk, wkL, wkO, eqCells, eqCell, mayX, regM, mayS, longM, widthM, jumpM, ccM] at *); (rw [Bool.eq_iff_iff]; simp [wk, wkL, wkO, eqCells, eqCell, mayX, regM, mayS, longM, widthM, jumpM, ccM, *]; grind))
    let E8 : EL := E7 ++ List.replicate 3 (tC (eF (neOf h22))) ++ [tC (neOf h22)] ++ List.replicate 4 (tC (eF (neOf h22)))
    by_cases h23 : w = 8
    ·subst h23
     have c24 := @within_ok imm (-128) 127
     exact (o71 (d := .bool false) (E8 ++ [tT, tT, tT, .ret _ _ _ c24, tT, tT, tF, tF, tT, tT]) (by kernel_rfl)).to (by clear E1 E2 E3 E4 E5 E6 E7 E8; (try simp only [sl0, wk, wkL, wkO, eqCells, eqCell, mayX, regM, mayS, longM, widthM, jumpM, ccM] at *); (simp [wk, wkL, wkO, eqCells, eqCell, mayX, regM, mayS, longM, widthM, jumpM, ccM, *]; done))
    exact (o71 (d := .bool (w == 64)) (E8 ++ List.replicate 3 (tC (eT (neOf h23))) ++ [tC (eF (neOf h22)), tC (neOf h23), tC (neOf h22), tF, tT, tT]) (by kernel_rfl)).to (by clear E1 E2 E3 E4 E5 E6 E7 E8; (try simp only [sl0, wk, wkL, wkO, eqCells, eqCell, mayX, regM, mayS, longM, widthM, jumpM, ccM] at *); (rw [Bool.eq_iff_iff]; simp [wk, wkL, wkO, eqCells, eqCell, mayX, regM, mayS, longM, widthM, jumpM, ccM, *]; grind))
   exact (o71 (d := .bool false) (E6 ++ [tC (nt (andT (leL (-2147483648) h20) (leC 2147483647 h21)))]) (by kernel_rfl)).to (by clear E1 E2 E3 E4 E5 E6; (try simp only [sl0, wk, wkL, wkO, eqCells, eqCell, mayX, regM, mayS, longM, widthM, jumpM, ccM] at *); (simp [wk, wkL, wkO, eqCells, eqCell, mayX, regM, mayS, longM, widthM, jumpM, ccM, *]; omega))
  exact (o71 (d := .bool false) (E5 ++ List.replicate 4 (tC (eF (nt (andT (leL (-2147483648) h17) (leC 2147483647 h18))))) ++ [tC (nt (andT (leL (-2147483648) h17) (leC 2147483647 h18))), tT]) (by kernel_rfl)).to (by clear E1 E2 E3 E4 E5; (try simp only [sl0, wk, wkL, wkO, eqCells, eqCell, mayX, regM, mayS, longM, widthM, jumpM, ccM] at *); (simp [wk, wkL, wkO, eqCells, eqCell, mayX, regM, mayS, longM, widthM, jumpM, ccM, *]; omega))
 exact (o71 (d := .bool false) (E1 ++ List.replicate 4 (tC (eF (nt h6))) ++ [tC (nt h6), tF, tF, tF, tF, tT, tF, tF, tF, tF, tT, tF, tF, tF, tF, tT, tF, tF, tF, tF, tT, tT]) (by kernel_rfl)).to (by clear E1; (try simp only [sl0, wk, wkL, wkO, eqCells, eqCell, mayX, regM, mayS, longM, widthM, jumpM, ccM] at *); (rw [Bool.eq_iff_iff]; simp [wk, wkL, wkO, eqCells, eqCell, mayX, regM, mayS, longM, widthM, jumpM, ccM, *]; grind))
def SpXMay10 (k0_ : Int) : Prop := ∀ (op w dst src base disp imm cc : Int) (ho : op ≤ 127) (h : (shapeM op == k0_) = true) (hin : decide (0 ≤ op ∧ op ≤ 31) = true), Ret Tryz.prog 71 ([xD op w dst src base disp imm cc]) (.bool (mayX op w dst src base disp imm cc))
theorem mayX_3_ok : SpXMay10 3 := by
 intro op w dst src base disp imm cc ho h hin
 have c0 := @of_any_ok op ho
 rw [eq_of_beq h] at c0
 generalize g2 : codeM op = r1 at c0
 generalize g4 : numM op = r3 at c0
 have c5 := @bare_3_ok op w dst src base disp imm cc 3 (rfl : true = true)
 let E1 : EL := ([.ret _ _ _ c0] ++ List.replicate 4 (tC (eF (nt hin))) ++ [.ret _ _ _ c5, tC (eF (nt hin)), tC (eF (nt hin)), .flat _ _ flat_X, tC (nt hin)])
 rcases bft (eqCells [.int .i8 0, .int .i8 0, .int .i8 0, .int .i8 src, .int .i8 base, .int .i64 disp, .int .i64 0, .int .i8 cc] [.int .i8 0, .int .i8 0, .int .i8 0, .int .i8 0, .int .i8 0, .int .i64 0, .int .i64 0, .int .i8 0]) with h6 | h6
 ·have c7 := @reg_ok dst
  generalize g9 : regM dst = r8 at c7
  let E2 : EL := E1 ++ List.replicate 3 (tC (eF (nt h6))) ++ [.ret _ _ _ c7, tC (eF (nt h6)), tC (nt h6)]
  cases r8
  ·exact (o71 (d := .bool false) (E2 ++ [tF, tF, tF, tF, tT, tF, tF, tF, tF, tT, tF, tF, tF, tF, tT, tF, tF, tF, tF, tT, tT]) (by kernel_rfl)).to (by clear E1 E2; (try simp only [sl0, wk, wkL, wkO, eqCells, eqCell, mayX, regM, mayS, longM, widthM, jumpM, ccM] at *); (simp [wk, wkL, wkO, eqCells, eqCell, mayX, regM, mayS, longM, widthM, jumpM, ccM, *]; done))
  have c10 := @reg_ok src
  generalize g12 : regM src = r11 at c10
  let E3 : EL := E2 ++ [tT, tT, tT, .ret _ _ _ c10, tT, tF]
  cases r11
  ·exact (o71 (d := .bool false) (E3 ++ [tF, tF, tF, tF, tT, tF, tF, tF, tF, tT, tF, tF, tF, tF, tT, tT]) (by kernel_rfl)).to (by clear E1 E2 E3; (try simp only [sl0, wk, wkL, wkO, eqCells, eqCell, mayX, regM, mayS, longM, widthM, jumpM, ccM] at *); (simp [wk, wkL, wkO, eqCells, eqCell, mayX, regM, mayS, longM, widthM, jumpM, ccM, *]; done))
  have c13 := @reg_ok base
  generalize g15 : regM base = r14 at c13
  let E4 : EL := E3 ++ [tT, tT, tT, .ret _ _ _ c13, tT, tF]
  cases r14
  ·exact (o71 (d := .bool false) (E4 ++ [tF, tF, tF, tF, tT, tF, tF, tF, tF, tT, tT]) (by kernel_rfl)).to (by clear E1 E2 E3 E4; (try simp only [sl0, wk, wkL, wkO, eqCells, eqCell, mayX, regM, mayS, longM, widthM, jumpM, ccM] at *); (simp [wk, wkL, wkO, eqCells, eqCell, mayX, regM, mayS, longM, widthM, jumpM, ccM, *]; done))
  have c16 := @within_ok disp (-2147483648) 2147483647
  let E5 : EL := E4 ++ [tT, tT, tT, .ret _ _ _ c16, tT, tF]
  rcases bft (decide (disp < (-2147483648))) with h17 | h17
  ·exact (o71 (d := .bool false) (E5 ++ List.replicate 4 (tC (eF (nt (andF (y := decide (disp ≤ 2147483647)) (leL (-2147483648) h17))))) ++ [tC (nt (andF (y := decide (disp ≤ 2147483647)) (leL (-2147483648) h17))), tT]) (by kernel_rfl)).to (by clear E1 E2 E3 E4 E5; (try simp only [sl0, wk, wkL, wkO, eqCells, eqCell, mayX, regM, mayS, longM, widthM, jumpM, ccM] at *); (simp [wk, wkL, wkO, eqCells, eqCell, mayX, regM, mayS, longM, widthM, jumpM, ccM, *]; omega))
  rcases bft (decide (disp < 2147483648)) with h18 | h18
  ·have c19 := @within_ok imm (-2147483648) 2147483647
   let E6 : EL := E5 ++ List.replicate 3 (tC (eF (nt (andT (leL (-2147483648) h17) (leC 2147483647 h18))))) ++ [.ret _ _ _ c19, tC (eF (nt (andT (leL (-2147483648) h17) (leC 2147483647 h18)))), tC (nt (andT (leL (-2147483648) h17) (leC 2147483647 h18)))]
   rcases bft (decide (imm < (-2147483648))) with h20 | h20
   ·exact (o71 (d := .bool false) (E6 ++ [tC (nt (andF (y := decide (imm ≤ 2147483647)) (leL (-2147483648) h20)))]) (by kernel_rfl)).to (by clear E1 E2 E3 E4 E5 E6; (try simp only [sl0, wk, wkL, wkO, eqCells, eqCell, mayX, regM, mayS, longM, widthM, jumpM, ccM] at *); (simp [wk, wkL, wkO, eqCells, eqCell, mayX, regM, mayS, longM, widthM, jumpM, ccM, *]; omega))
   rcases bft (decide (imm < 2147483648)) with h21 | h21
   ·let E7 : EL := E6 ++ [tC (nt (andT (leL (-2147483648) h20) (leC 2147483647 h21)))]
    by_cases h22 : w = 32
    ·subst h22
     exact (o71 (d := .bool true) (E7 ++ [tF, tF, tF, tT, tF, tF, tF, tF, tF, tT, tF, tF, tT, tT]) (by kernel_rfl)).to (by clear E1 E2 E3 E4 E5 E6 E7; (try simp only [sl0, wk, wkL, wkO, eqCells, eqCell, mayX, regM, mayS, longM, widthM, jumpM, ccM] at *); (rw [Bool.eq_iff_iff]; simp [wk, wkL, wkO, eqCells, eqCell, mayX, regM, mayS, longM, widthM, jumpM, ccM, *]; grind))
    let E8 : EL := E7 ++ List.replicate 3 (tC (eF (neOf h22))) ++ [tC (neOf h22)] ++ List.replicate 4 (tC (eF (neOf h22)))
    by_cases h23 : w = 8
    ·subst h23
     have c24 := @within_ok imm (-128) 127
     exact (o71 (d := .bool false) (E8 ++ [tT, tT, tT, .ret _ _ _ c24, tT, tT, tF, tF, tF, tT, tT]) (by kernel_rfl)).to (by clear E1 E2 E3 E4 E5 E6 E7 E8; (try simp only [sl0, wk, wkL, wkO, eqCells, eqCell, mayX, regM, mayS, longM, widthM, jumpM, ccM] at *); (simp [wk, wkL, wkO, eqCells, eqCell, mayX, regM, mayS, longM, widthM, jumpM, ccM, *]; done))
    exact (o71 (d := .bool (w == 64)) (E8 ++ List.replicate 3 (tC (eT (neOf h23))) ++ [tC (eF (neOf h22)), tC (neOf h23), tC (neOf h22), tF, tF, tT, tT]) (by kernel_rfl)).to (by clear E1 E2 E3 E4 E5 E6 E7 E8; (try simp only [sl0, wk, wkL, wkO, eqCells, eqCell, mayX, regM, mayS, longM, widthM, jumpM, ccM] at *); (rw [Bool.eq_iff_iff]; simp [wk, wkL, wkO, eqCells, eqCell, mayX, regM, mayS, longM, widthM, jumpM, ccM, *]; grind))
   exact (o71 (d := .bool false) (E6 ++ [tC (nt (andT (leL (-2147483648) h20) (leC 2147483647 h21)))]) (by kernel_rfl)).to (by clear E1 E2 E3 E4 E5 E6; (try simp only [sl0, wk, wkL, wkO, eqCells, eqCell, mayX, regM, mayS, longM, widthM, jumpM, ccM] at *); (simp [wk, wkL, wkO, eqCells, eqCell, mayX, regM, mayS, longM, widthM, jumpM, ccM, *]; omega))
  exact (o71 (d := .bool false) (E5 ++ List.replicate 4 (tC (eF (nt (andT (leL (-2147483648) h17) (leC 2147483647 h18))))) ++ [tC (nt (andT (leL (-2147483648) h17) (leC 2147483647 h18))), tT]) (by kernel_rfl)).to (by clear E1 E2 E3 E4 E5; (try simp only [sl0, wk, wkL, wkO, eqCells, eqCell, mayX, regM, mayS, longM, widthM, jumpM, ccM] at *); (simp [wk, wkL, wkO, eqCells, eqCell, mayX, regM, mayS, longM, widthM, jumpM, ccM, *]; omega))
 exact (o71 (d := .bool false) (E1 ++ List.replicate 4 (tC (eF (nt h6))) ++ [tC (nt h6), tF, tF, tF, tF, tT, tF, tF, tF, tF, tT, tF, tF, tF, tF, tT, tF, tF, tF, tF, tT, tT]) (by kernel_rfl)).to (by clear E1; (try simp only [sl0, wk, wkL, wkO, eqCells, eqCell, mayX, regM, mayS, longM, widthM, jumpM, ccM] at *); (rw [Bool.eq_iff_iff]; simp [wk, wkL, wkO, eqCells, eqCell, mayX, regM, mayS, longM, widthM, jumpM, ccM, *]; grind))
theorem mayX_4_ok : SpXMay10 4 := by
 intro op w dst src base disp imm cc ho h hin
 have c0 := @of_any_ok op ho
 rw [eq_of_beq h] at c0
 generalize g2 : codeM op = r1 at c0
 generalize g4 : numM op = r3 at c0
 have c5 := @bare_4_ok op w dst src base disp imm cc 4 (rfl : true = true)
 let E1 : EL := ([.ret _ _ _ c0] ++ List.replicate 4 (tC (eF (nt hin))) ++ [.ret _ _ _ c5, tC (eF (nt hin)), tC (eF (nt hin)), .flat _ _ flat_X, tC (nt hin)])
 rcases bft (eqCells [.int .i8 0, .int .i8 0, .int .i8 0, .int .i8 src, .int .i8 base, .int .i64 disp, .int .i64 0, .int .i8 cc] [.int .i8 0, .int .i8 0, .int .i8 0, .int .i8 0, .int .i8 0, .int .i64 0, .int .i64 0, .int .i8 0]) with h6 | h6
 ·have c7 := @reg_ok dst
  generalize g9 : regM dst = r8 at c7
  let E2 : EL := E1 ++ List.replicate 3 (tC (eF (nt h6))) ++ [.ret _ _ _ c7, tC (eF (nt h6)), tC (nt h6)]
  cases r8
  ·exact (o71 (d := .bool false) (E2 ++ [tF, tF, tF, tF, tT, tF, tF, tF, tF, tT, tF, tF, tF, tF, tT, tF, tF, tF, tF, tT, tT]) (by kernel_rfl)).to (by clear E1 E2; (try simp only [sl0, wk, wkL, wkO, eqCells, eqCell, mayX, regM, mayS, longM, widthM, jumpM, ccM] at *); (simp [wk, wkL, wkO, eqCells, eqCell, mayX, regM, mayS, longM, widthM, jumpM, ccM, *]; done))
  have c10 := @reg_ok src
  generalize g12 : regM src = r11 at c10
  let E3 : EL := E2 ++ [tT, tT, tT, .ret _ _ _ c10, tT, tF]
  cases r11
  ·exact (o71 (d := .bool false) (E3 ++ [tF, tF, tF, tF, tT, tF, tF, tF, tF, tT, tF, tF, tF, tF, tT, tT]) (by kernel_rfl)).to (by clear E1 E2 E3; (try simp only [sl0, wk, wkL, wkO, eqCells, eqCell, mayX, regM, mayS, longM, widthM, jumpM, ccM] at *); (simp [wk, wkL, wkO, eqCells, eqCell, mayX, regM, mayS, longM, widthM, jumpM, ccM, *]; done))
  have c13 := @reg_ok base
  generalize g15 : regM base = r14 at c13
  let E4 : EL := E3 ++ [tT, tT, tT, .ret _ _ _ c13, tT, tF]
  cases r14
  ·exact (o71 (d := .bool false) (E4 ++ [tF, tF, tF, tF, tT, tF, tF, tF, tF, tT, tT]) (by kernel_rfl)).to (by clear E1 E2 E3 E4; (try simp only [sl0, wk, wkL, wkO, eqCells, eqCell, mayX, regM, mayS, longM, widthM, jumpM, ccM] at *); (simp [wk, wkL, wkO, eqCells, eqCell, mayX, regM, mayS, longM, widthM, jumpM, ccM, *]; done))
  have c16 := @within_ok disp (-2147483648) 2147483647
  let E5 : EL := E4 ++ [tT, tT, tT, .ret _ _ _ c16, tT, tF]
  rcases bft (decide (disp < (-2147483648))) with h17 | h17
  ·exact (o71 (d := .bool false) (E5 ++ List.replicate 4 (tC (eF (nt (andF (y := decide (disp ≤ 2147483647)) (leL (-2147483648) h17))))) ++ [tC (nt (andF (y := decide (disp ≤ 2147483647)) (leL (-2147483648) h17))), tT]) (by kernel_rfl)).to (by clear E1 E2 E3 E4 E5; (try simp only [sl0, wk, wkL, wkO, eqCells, eqCell, mayX, regM, mayS, longM, widthM, jumpM, ccM] at *); (simp [wk, wkL, wkO, eqCells, eqCell, mayX, regM, mayS, longM, widthM, jumpM, ccM, *]; omega))
  rcases bft (decide (disp < 2147483648)) with h18 | h18
  ·have c19 := @within_ok imm (-2147483648) 2147483647
   let E6 : EL := E5 ++ List.replicate 3 (tC (eF (nt (andT (leL (-2147483648) h17) (leC 2147483647 h18))))) ++ [.ret _ _ _ c19, tC (eF (nt (andT (leL (-2147483648) h17) (leC 2147483647 h18)))), tC (nt (andT (leL (-2147483648) h17) (leC 2147483647 h18)))]
   rcases bft (decide (imm < (-2147483648))) with h20 | h20
   ·exact (o71 (d := .bool false) (E6 ++ [tC (nt (andF (y := decide (imm ≤ 2147483647)) (leL (-2147483648) h20)))]) (by kernel_rfl)).to (by clear E1 E2 E3 E4 E5 E6; (try simp only [sl0, wk, wkL, wkO, eqCells, eqCell, mayX, regM, mayS, longM, widthM, jumpM, ccM] at *); (simp [wk, wkL, wkO, eqCells, eqCell, mayX, regM, mayS, longM, widthM, jumpM, ccM, *]; omega))
   rcases bft (decide (imm < 2147483648)) with h21 | h21
   ·let E7 : EL := E6 ++ [tC (nt (andT (leL (-2147483648) h20) (leC 2147483647 h21)))]
    by_cases h22 : w = 32
    ·subst h22
     have c23 := @within_ok imm 0 31
     exact (o71 (d := .bool (decide (0 ≤ imm) && decide (imm ≤ 31))) (E7 ++ [tF, tF, tF, tT, tF, tF, tF, tF, tF, tT, tF, tF, tF, tF] ++ List.replicate 8 tT ++ [.ret _ _ _ c23, tT]) (by kernel_rfl)).to (by clear E1 E2 E3 E4 E5 E6 E7; (try simp only [sl0, wk, wkL, wkO, eqCells, eqCell, mayX, regM, mayS, longM, widthM, jumpM, ccM] at *); (rw [Bool.eq_iff_iff]; simp [wk, wkL, wkO, eqCells, eqCell, mayX, regM, mayS, longM, widthM, jumpM, ccM, *]; grind))
    let E8 : EL := E7 ++ List.replicate 3 (tC (eF (neOf h22))) ++ [tC (neOf h22)] ++ List.replicate 4 (tC (eF (neOf h22)))
    by_cases h24 : w = 8
    ·subst h24
     have c25 := @within_ok imm (-128) 127
     exact (o71 (d := .bool false) (E8 ++ [tT, tT, tT, .ret _ _ _ c25, tT, tT, tF, tF, tF, tF, tF, tT] ++ List.replicate 8 tF) (by kernel_rfl)).to (by clear E1 E2 E3 E4 E5 E6 E7 E8; (try simp only [sl0, wk, wkL, wkO, eqCells, eqCell, mayX, regM, mayS, longM, widthM, jumpM, ccM] at *); (simp [wk, wkL, wkO, eqCells, eqCell, mayX, regM, mayS, longM, widthM, jumpM, ccM, *]; done))
    let E9 : EL := E8 ++ List.replicate 3 (tC (eT (neOf h24))) ++ [tC (eF (neOf h22)), tC (neOf h24), tC (neOf h22), tF, tF, tF, tF, tT]
    by_cases h26 : w = 64
    ·subst h26
     have c27 := @within_ok imm 0 63
     exact (o71 (d := .bool (decide (0 ≤ imm) && decide (imm ≤ 63))) (E9 ++ [tT, tT, tT, tT, tT, tT, tT, .ret _ _ _ c27, tT]) (by kernel_rfl)).to (by clear E1 E2 E3 E4 E5 E6 E7 E8 E9; (try simp only [sl0, wk, wkL, wkO, eqCells, eqCell, mayX, regM, mayS, longM, widthM, jumpM, ccM] at *); (rw [Bool.eq_iff_iff]; simp [wk, wkL, wkO, eqCells, eqCell, mayX, regM, mayS, longM, widthM, jumpM, ccM, *]; grind))
    exact (o71 (d := .bool false) (E9 ++ List.replicate 7 (tC (eT (neOf h26))) ++ [tC (neOf h26)]) (by kernel_rfl)).to (by clear E1 E2 E3 E4 E5 E6 E7 E8 E9; (try simp only [sl0, wk, wkL, wkO, eqCells, eqCell, mayX, regM, mayS, longM, widthM, jumpM, ccM] at *); (simp [wk, wkL, wkO, eqCells, eqCell, mayX, regM, mayS, longM, widthM, jumpM, ccM, *]; done))
   exact (o71 (d := .bool false) (E6 ++ [tC (nt (andT (leL (-2147483648) h20) (leC 2147483647 h21)))]) (by kernel_rfl)).to (by clear E1 E2 E3 E4 E5 E6; (try simp only [sl0, wk, wkL, wkO, eqCells, eqCell, mayX, regM, mayS, longM, widthM, jumpM, ccM] at *); (simp [wk, wkL, wkO, eqCells, eqCell, mayX, regM, mayS, longM, widthM, jumpM, ccM, *]; omega))
  exact (o71 (d := .bool false) (E5 ++ List.replicate 4 (tC (eF (nt (andT (leL (-2147483648) h17) (leC 2147483647 h18))))) ++ [tC (nt (andT (leL (-2147483648) h17) (leC 2147483647 h18))), tT]) (by kernel_rfl)).to (by clear E1 E2 E3 E4 E5; (try simp only [sl0, wk, wkL, wkO, eqCells, eqCell, mayX, regM, mayS, longM, widthM, jumpM, ccM] at *); (simp [wk, wkL, wkO, eqCells, eqCell, mayX, regM, mayS, longM, widthM, jumpM, ccM, *]; omega))
 exact (o71 (d := .bool false) (E1 ++ List.replicate 4 (tC (eF (nt h6))) ++ [tC (nt h6), tF, tF, tF, tF, tT, tF, tF, tF, tF, tT, tF, tF, tF, tF, tT, tF, tF, tF, tF, tT, tT]) (by kernel_rfl)).to (by clear E1; (try simp only [sl0, wk, wkL, wkO, eqCells, eqCell, mayX, regM, mayS, longM, widthM, jumpM, ccM] at *); (rw [Bool.eq_iff_iff]; simp [wk, wkL, wkO, eqCells, eqCell, mayX, regM, mayS, longM, widthM, jumpM, ccM, *]; grind))
theorem mayX_5_ok : SpXMay10 5 := by
 intro op w dst src base disp imm cc ho h hin
 have c0 := @of_any_ok op ho
 rw [eq_of_beq h] at c0
 generalize g2 : codeM op = r1 at c0
 generalize g4 : numM op = r3 at c0
 have c5 := @bare_5_ok op w dst src base disp imm cc 5 (rfl : true = true)
 let E1 : EL := ([.ret _ _ _ c0] ++ List.replicate 4 (tC (eF (nt hin))) ++ [.ret _ _ _ c5, tC (eF (nt hin)), tC (eF (nt hin)), .flat _ _ flat_X, tC (nt hin)])
 rcases bft (eqCells [.int .i8 0, .int .i8 0, .int .i8 0, .int .i8 src, .int .i8 base, .int .i64 disp, .int .i64 imm, .int .i8 cc] [.int .i8 0, .int .i8 0, .int .i8 0, .int .i8 0, .int .i8 0, .int .i64 0, .int .i64 0, .int .i8 0]) with h6 | h6
 ·have c7 := @reg_ok dst
  generalize g9 : regM dst = r8 at c7
  let E2 : EL := E1 ++ List.replicate 3 (tC (eF (nt h6))) ++ [.ret _ _ _ c7, tC (eF (nt h6)), tC (nt h6)]
  cases r8
  ·exact (o71 (d := .bool false) (E2 ++ [tF, tF, tF, tF, tT, tF, tF, tF, tF, tT, tF, tF, tF, tF, tT, tF, tF, tF, tF, tT, tT]) (by kernel_rfl)).to (by clear E1 E2; (try simp only [sl0, wk, wkL, wkO, eqCells, eqCell, mayX, regM, mayS, longM, widthM, jumpM, ccM] at *); (simp [wk, wkL, wkO, eqCells, eqCell, mayX, regM, mayS, longM, widthM, jumpM, ccM, *]; done))
  have c10 := @reg_ok src
  generalize g12 : regM src = r11 at c10
  let E3 : EL := E2 ++ [tT, tT, tT, .ret _ _ _ c10, tT, tF]
  cases r11
  ·exact (o71 (d := .bool false) (E3 ++ [tF, tF, tF, tF, tT, tF, tF, tF, tF, tT, tF, tF, tF, tF, tT, tT]) (by kernel_rfl)).to (by clear E1 E2 E3; (try simp only [sl0, wk, wkL, wkO, eqCells, eqCell, mayX, regM, mayS, longM, widthM, jumpM, ccM] at *); (simp [wk, wkL, wkO, eqCells, eqCell, mayX, regM, mayS, longM, widthM, jumpM, ccM, *]; done))
  have c13 := @reg_ok base
  generalize g15 : regM base = r14 at c13
  let E4 : EL := E3 ++ [tT, tT, tT, .ret _ _ _ c13, tT, tF]
  cases r14
  ·exact (o71 (d := .bool false) (E4 ++ [tF, tF, tF, tF, tT, tF, tF, tF, tF, tT, tT]) (by kernel_rfl)).to (by clear E1 E2 E3 E4; (try simp only [sl0, wk, wkL, wkO, eqCells, eqCell, mayX, regM, mayS, longM, widthM, jumpM, ccM] at *); (simp [wk, wkL, wkO, eqCells, eqCell, mayX, regM, mayS, longM, widthM, jumpM, ccM, *]; done))
  have c16 := @within_ok disp (-2147483648) 2147483647
  let E5 : EL := E4 ++ [tT, tT, tT, .ret _ _ _ c16, tT, tF]
  rcases bft (decide (disp < (-2147483648))) with h17 | h17
  ·exact (o71 (d := .bool false) (E5 ++ List.replicate 4 (tC (eF (nt (andF (y := decide (disp ≤ 2147483647)) (leL (-2147483648) h17))))) ++ [tC (nt (andF (y := decide (disp ≤ 2147483647)) (leL (-2147483648) h17))), tT]) (by kernel_rfl)).to (by clear E1 E2 E3 E4 E5; (try simp only [sl0, wk, wkL, wkO, eqCells, eqCell, mayX, regM, mayS, longM, widthM, jumpM, ccM] at *); (simp [wk, wkL, wkO, eqCells, eqCell, mayX, regM, mayS, longM, widthM, jumpM, ccM, *]; omega))
  rcases bft (decide (disp < 2147483648)) with h18 | h18
  ·have c19 := @within_ok imm (-2147483648) 2147483647
   let E6 : EL := E5 ++ List.replicate 3 (tC (eF (nt (andT (leL (-2147483648) h17) (leC 2147483647 h18))))) ++ [.ret _ _ _ c19, tC (eF (nt (andT (leL (-2147483648) h17) (leC 2147483647 h18)))), tC (nt (andT (leL (-2147483648) h17) (leC 2147483647 h18)))]
   rcases bft (decide (imm < (-2147483648))) with h20 | h20
   ·exact (o71 (d := .bool false) (E6 ++ [tC (nt (andF (y := decide (imm ≤ 2147483647)) (leL (-2147483648) h20)))]) (by kernel_rfl)).to (by clear E1 E2 E3 E4 E5 E6; (try simp only [sl0, wk, wkL, wkO, eqCells, eqCell, mayX, regM, mayS, longM, widthM, jumpM, ccM] at *); (simp [wk, wkL, wkO, eqCells, eqCell, mayX, regM, mayS, longM, widthM, jumpM, ccM, *]; omega))
   rcases bft (decide (imm < 2147483648)) with h21 | h21
   ·let E7 : EL := E6 ++ [tC (nt (andT (leL (-2147483648) h20) (leC 2147483647 h21)))]
    by_cases h22 : w = 32
    ·subst h22
     exact (o71 (d := .bool true) (E7 ++ [tF, tF, tF, tT, tF, tF, tF, tF, tF, tT, tF, tF, tF, tT]) (by kernel_rfl)).to (by clear E1 E2 E3 E4 E5 E6 E7; (try simp only [sl0, wk, wkL, wkO, eqCells, eqCell, mayX, regM, mayS, longM, widthM, jumpM, ccM] at *); (rw [Bool.eq_iff_iff]; simp [wk, wkL, wkO, eqCells, eqCell, mayX, regM, mayS, longM, widthM, jumpM, ccM, *]; grind))
    let E8 : EL := E7 ++ List.replicate 3 (tC (eF (neOf h22))) ++ [tC (neOf h22)] ++ List.replicate 4 (tC (eF (neOf h22)))
    by_cases h23 : w = 8
    ·subst h23
     have c24 := @within_ok imm (-128) 127
     exact (o71 (d := .bool false) (E8 ++ [tT, tT, tT, .ret _ _ _ c24, tT, tT, tF, tF, tF, tF, tT]) (by kernel_rfl)).to (by clear E1 E2 E3 E4 E5 E6 E7 E8; (try simp only [sl0, wk, wkL, wkO, eqCells, eqCell, mayX, regM, mayS, longM, widthM, jumpM, ccM] at *); (simp [wk, wkL, wkO, eqCells, eqCell, mayX, regM, mayS, longM, widthM, jumpM, ccM, *]; done))
    exact (o71 (d := .bool (w == 64)) (E8 ++ List.replicate 3 (tC (eT (neOf h23))) ++ [tC (eF (neOf h22)), tC (neOf h23), tC (neOf h22), tF, tF, tF, tT]) (by kernel_rfl)).to (by clear E1 E2 E3 E4 E5 E6 E7 E8; (try simp only [sl0, wk, wkL, wkO, eqCells, eqCell, mayX, regM, mayS, longM, widthM, jumpM, ccM] at *); (rw [Bool.eq_iff_iff]; simp [wk, wkL, wkO, eqCells, eqCell, mayX, regM, mayS, longM, widthM, jumpM, ccM, *]; grind))
   exact (o71 (d := .bool false) (E6 ++ [tC (nt (andT (leL (-2147483648) h20) (leC 2147483647 h21)))]) (by kernel_rfl)).to (by clear E1 E2 E3 E4 E5 E6; (try simp only [sl0, wk, wkL, wkO, eqCells, eqCell, mayX, regM, mayS, longM, widthM, jumpM, ccM] at *); (simp [wk, wkL, wkO, eqCells, eqCell, mayX, regM, mayS, longM, widthM, jumpM, ccM, *]; omega))
  exact (o71 (d := .bool false) (E5 ++ List.replicate 4 (tC (eF (nt (andT (leL (-2147483648) h17) (leC 2147483647 h18))))) ++ [tC (nt (andT (leL (-2147483648) h17) (leC 2147483647 h18))), tT]) (by kernel_rfl)).to (by clear E1 E2 E3 E4 E5; (try simp only [sl0, wk, wkL, wkO, eqCells, eqCell, mayX, regM, mayS, longM, widthM, jumpM, ccM] at *); (simp [wk, wkL, wkO, eqCells, eqCell, mayX, regM, mayS, longM, widthM, jumpM, ccM, *]; omega))
 exact (o71 (d := .bool false) (E1 ++ List.replicate 4 (tC (eF (nt h6))) ++ [tC (nt h6), tF, tF, tF, tF, tT, tF, tF, tF, tF, tT, tF, tF, tF, tF, tT, tF, tF, tF, tF, tT, tT]) (by kernel_rfl)).to (by clear E1; (try simp only [sl0, wk, wkL, wkO, eqCells, eqCell, mayX, regM, mayS, longM, widthM, jumpM, ccM] at *); (rw [Bool.eq_iff_iff]; simp [wk, wkL, wkO, eqCells, eqCell, mayX, regM, mayS, longM, widthM, jumpM, ccM, *]; grind))
end Go.Proofs.YtkpneibifdoecaaGreat
