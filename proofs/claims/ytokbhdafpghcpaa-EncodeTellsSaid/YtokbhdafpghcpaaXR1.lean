/- Contracts: prefixes and memory, by the document. -/
import Derived.Test.YtokbhdafpghcpaaXB1
namespace Go.Proofs.Ytokbhdafpghcpaa
open Go Go.Ev
set_option maxRecDepth 100000
set_option maxHeartbeats 8000000
set_option linter.unusedVariables false
set_option linter.unusedSimpArgs false
theorem rrex_ok (r m : Int) (r0 : 0 ≤ r) (r1 : r ≤ 15) (m0 : 0 ≤ m) (m1 : m ≤ 15) (wide al : Bool) (hn : needM wide r m al = true) : Ret Try.prog 35 ([.bool wide, .int .i8 r, .int .i8 m, .bool al]) (.lst .tight 1 [.int .u8 (rexB wide r m)]) := by
  cases wide
  · skip
    rcases Bool.eq_false_or_eq_true (decide (r < (8 : Int))) with h0 | h0
    · skip
      rcases Bool.eq_false_or_eq_true (decide (m < (8 : Int))) with h1 | h1
      · skip
        cases al
        · skip
          exact (Ret.of_eval (d := .lst .tight 0 []) mixed Try.func35 (by kernel_rfl) [tF, tC (ltL 7 h0), tC (ltL 7 h1), tT, tT, tT, tT] (by kernel_rfl)).to (by first | (simp [wk, wkL, wkO]; done) | (simp only [wk, wkL, wkO, D.int.injEq, D.lst.injEq, List.cons.injEq, true_and, and_true, w_u8, w_i64, rexB, true_or]; (try simp only [decide_eq_true_eq, decide_eq_false_iff_not, needM, Bool.or_eq_true, Bool.or_eq_false_iff] at *); first | omega | (simp; omega) | (exfalso; simp at *; omega)) | (exfalso; simp [needM] at *; done) | (exfalso; simp [needM] at *; omega))
        · skip
          exact (Ret.of_eval (d := .lst .tight 1 [.int .u8 64]) mixed Try.func35 (by kernel_rfl) [tF, tC (ltL 7 h0), tC (ltL 7 h1), tT, tT, tT, tF] (by kernel_rfl)).to (by first | (simp [wk, wkL, wkO]; done) | (simp only [wk, wkL, wkO, D.int.injEq, D.lst.injEq, List.cons.injEq, true_and, and_true, w_u8, w_i64, rexB, true_or]; (try simp only [decide_eq_true_eq, decide_eq_false_iff_not, needM, Bool.or_eq_true, Bool.or_eq_false_iff] at *); first | omega | (simp; omega) | (exfalso; simp at *; omega)) | (exfalso; simp [needM] at *; done) | (exfalso; simp [needM] at *; omega))
      · skip
        exact (Ret.of_eval (d := .lst .tight 1 [.int .u8 65]) mixed Try.func35 (by kernel_rfl) [tF, tC (ltL 7 h0), tC (ltL 7 h1), tF, tF, tF, tF] (by kernel_rfl)).to (by first | (simp [wk, wkL, wkO]; done) | (simp only [wk, wkL, wkO, D.int.injEq, D.lst.injEq, List.cons.injEq, true_and, and_true, w_u8, w_i64, rexB, true_or]; (try simp only [decide_eq_true_eq, decide_eq_false_iff_not, needM, Bool.or_eq_true, Bool.or_eq_false_iff] at *); first | omega | (simp; omega) | (exfalso; simp at *; omega)) | (exfalso; simp [needM] at *; done) | (exfalso; simp [needM] at *; omega))
    · skip
      rcases Bool.eq_false_or_eq_true (decide (m < (8 : Int))) with h2 | h2
      · skip
        exact (Ret.of_eval (d := .lst .tight 1 [.int .u8 68]) mixed Try.func35 (by kernel_rfl) [tF, tC (ltL 7 h0), tC (ltL 7 h2), tF, tF, tF, tF] (by kernel_rfl)).to (by first | (simp [wk, wkL, wkO]; done) | (simp only [wk, wkL, wkO, D.int.injEq, D.lst.injEq, List.cons.injEq, true_and, and_true, w_u8, w_i64, rexB, true_or]; (try simp only [decide_eq_true_eq, decide_eq_false_iff_not, needM, Bool.or_eq_true, Bool.or_eq_false_iff] at *); first | omega | (simp; omega) | (exfalso; simp at *; omega)) | (exfalso; simp [needM] at *; done) | (exfalso; simp [needM] at *; omega))
      · skip
        exact (Ret.of_eval (d := .lst .tight 1 [.int .u8 69]) mixed Try.func35 (by kernel_rfl) [tF, tC (ltL 7 h0), tC (ltL 7 h2), tF, tF, tF, tF] (by kernel_rfl)).to (by first | (simp [wk, wkL, wkO]; done) | (simp only [wk, wkL, wkO, D.int.injEq, D.lst.injEq, List.cons.injEq, true_and, and_true, w_u8, w_i64, rexB, true_or]; (try simp only [decide_eq_true_eq, decide_eq_false_iff_not, needM, Bool.or_eq_true, Bool.or_eq_false_iff] at *); first | omega | (simp; omega) | (exfalso; simp at *; omega)) | (exfalso; simp [needM] at *; done) | (exfalso; simp [needM] at *; omega))
  · skip
    rcases Bool.eq_false_or_eq_true (decide (r < (8 : Int))) with h3 | h3
    · skip
      rcases Bool.eq_false_or_eq_true (decide (m < (8 : Int))) with h4 | h4
      · skip
        exact (Ret.of_eval (d := .lst .tight 1 [.int .u8 72]) mixed Try.func35 (by kernel_rfl) [tT, tC (ltL 7 h3), tC (ltL 7 h4), tF, tF, tF, tF] (by kernel_rfl)).to (by first | (simp [wk, wkL, wkO]; done) | (simp only [wk, wkL, wkO, D.int.injEq, D.lst.injEq, List.cons.injEq, true_and, and_true, w_u8, w_i64, rexB, true_or]; (try simp only [decide_eq_true_eq, decide_eq_false_iff_not, needM, Bool.or_eq_true, Bool.or_eq_false_iff] at *); first | omega | (simp; omega) | (exfalso; simp at *; omega)) | (exfalso; simp [needM] at *; done) | (exfalso; simp [needM] at *; omega))
      · skip
        exact (Ret.of_eval (d := .lst .tight 1 [.int .u8 73]) mixed Try.func35 (by kernel_rfl) [tT, tC (ltL 7 h3), tC (ltL 7 h4), tF, tF, tF, tF] (by kernel_rfl)).to (by first | (simp [wk, wkL, wkO]; done) | (simp only [wk, wkL, wkO, D.int.injEq, D.lst.injEq, List.cons.injEq, true_and, and_true, w_u8, w_i64, rexB, true_or]; (try simp only [decide_eq_true_eq, decide_eq_false_iff_not, needM, Bool.or_eq_true, Bool.or_eq_false_iff] at *); first | omega | (simp; omega) | (exfalso; simp at *; omega)) | (exfalso; simp [needM] at *; done) | (exfalso; simp [needM] at *; omega))
    · skip
      rcases Bool.eq_false_or_eq_true (decide (m < (8 : Int))) with h5 | h5
      · skip
        exact (Ret.of_eval (d := .lst .tight 1 [.int .u8 76]) mixed Try.func35 (by kernel_rfl) [tT, tC (ltL 7 h3), tC (ltL 7 h5), tF, tF, tF, tF] (by kernel_rfl)).to (by first | (simp [wk, wkL, wkO]; done) | (simp only [wk, wkL, wkO, D.int.injEq, D.lst.injEq, List.cons.injEq, true_and, and_true, w_u8, w_i64, rexB, true_or]; (try simp only [decide_eq_true_eq, decide_eq_false_iff_not, needM, Bool.or_eq_true, Bool.or_eq_false_iff] at *); first | omega | (simp; omega) | (exfalso; simp at *; omega)) | (exfalso; simp [needM] at *; done) | (exfalso; simp [needM] at *; omega))
      · skip
        exact (Ret.of_eval (d := .lst .tight 1 [.int .u8 77]) mixed Try.func35 (by kernel_rfl) [tT, tC (ltL 7 h3), tC (ltL 7 h5), tF, tF, tF, tF] (by kernel_rfl)).to (by first | (simp [wk, wkL, wkO]; done) | (simp only [wk, wkL, wkO, D.int.injEq, D.lst.injEq, List.cons.injEq, true_and, and_true, w_u8, w_i64, rexB, true_or]; (try simp only [decide_eq_true_eq, decide_eq_false_iff_not, needM, Bool.or_eq_true, Bool.or_eq_false_iff] at *); first | omega | (simp; omega) | (exfalso; simp at *; omega)) | (exfalso; simp [needM] at *; done) | (exfalso; simp [needM] at *; omega))

theorem rrexn_ok (r m : Int) (r0 : 0 ≤ r) (r1 : r ≤ 15) (m0 : 0 ≤ m) (m1 : m ≤ 15) (wide al : Bool) (hn : needM wide r m al = false) : Ret Try.prog 35 ([.bool wide, .int .i8 r, .int .i8 m, .bool al]) (.lst .tight 1 []) := by
  cases wide
  · skip
    rcases Bool.eq_false_or_eq_true (decide (r < (8 : Int))) with h0 | h0
    · skip
      rcases Bool.eq_false_or_eq_true (decide (m < (8 : Int))) with h1 | h1
      · skip
        cases al
        · skip
          exact (Ret.of_eval (d := .lst .tight 0 []) mixed Try.func35 (by kernel_rfl) [tF, tC (ltL 7 h0), tC (ltL 7 h1), tT, tT, tT, tT] (by kernel_rfl)).to (by first | (simp [wk, wkL, wkO]; done) | (simp only [wk, wkL, wkO, D.int.injEq, D.lst.injEq, List.cons.injEq, true_and, and_true, w_u8, w_i64, rexB, true_or]; (try simp only [decide_eq_true_eq, decide_eq_false_iff_not, needM, Bool.or_eq_true, Bool.or_eq_false_iff] at *); first | omega | (simp; omega) | (exfalso; simp at *; omega)) | (exfalso; simp [needM] at *; done) | (exfalso; simp [needM] at *; omega))
        · skip
          exact (Ret.of_eval (d := .lst .tight 1 [.int .u8 64]) mixed Try.func35 (by kernel_rfl) [tF, tC (ltL 7 h0), tC (ltL 7 h1), tT, tT, tT, tF] (by kernel_rfl)).to (by first | (simp [wk, wkL, wkO]; done) | (simp only [wk, wkL, wkO, D.int.injEq, D.lst.injEq, List.cons.injEq, true_and, and_true, w_u8, w_i64, rexB, true_or]; (try simp only [decide_eq_true_eq, decide_eq_false_iff_not, needM, Bool.or_eq_true, Bool.or_eq_false_iff] at *); first | omega | (simp; omega) | (exfalso; simp at *; omega)) | (exfalso; simp [needM] at *; done) | (exfalso; simp [needM] at *; omega))
      · skip
        exact (Ret.of_eval (d := .lst .tight 1 [.int .u8 65]) mixed Try.func35 (by kernel_rfl) [tF, tC (ltL 7 h0), tC (ltL 7 h1), tF, tF, tF, tF] (by kernel_rfl)).to (by first | (simp [wk, wkL, wkO]; done) | (simp only [wk, wkL, wkO, D.int.injEq, D.lst.injEq, List.cons.injEq, true_and, and_true, w_u8, w_i64, rexB, true_or]; (try simp only [decide_eq_true_eq, decide_eq_false_iff_not, needM, Bool.or_eq_true, Bool.or_eq_false_iff] at *); first | omega | (simp; omega) | (exfalso; simp at *; omega)) | (exfalso; simp [needM] at *; done) | (exfalso; simp [needM] at *; omega))
    · skip
      rcases Bool.eq_false_or_eq_true (decide (m < (8 : Int))) with h2 | h2
      · skip
        exact (Ret.of_eval (d := .lst .tight 1 [.int .u8 68]) mixed Try.func35 (by kernel_rfl) [tF, tC (ltL 7 h0), tC (ltL 7 h2), tF, tF, tF, tF] (by kernel_rfl)).to (by first | (simp [wk, wkL, wkO]; done) | (simp only [wk, wkL, wkO, D.int.injEq, D.lst.injEq, List.cons.injEq, true_and, and_true, w_u8, w_i64, rexB, true_or]; (try simp only [decide_eq_true_eq, decide_eq_false_iff_not, needM, Bool.or_eq_true, Bool.or_eq_false_iff] at *); first | omega | (simp; omega) | (exfalso; simp at *; omega)) | (exfalso; simp [needM] at *; done) | (exfalso; simp [needM] at *; omega))
      · skip
        exact (Ret.of_eval (d := .lst .tight 1 [.int .u8 69]) mixed Try.func35 (by kernel_rfl) [tF, tC (ltL 7 h0), tC (ltL 7 h2), tF, tF, tF, tF] (by kernel_rfl)).to (by first | (simp [wk, wkL, wkO]; done) | (simp only [wk, wkL, wkO, D.int.injEq, D.lst.injEq, List.cons.injEq, true_and, and_true, w_u8, w_i64, rexB, true_or]; (try simp only [decide_eq_true_eq, decide_eq_false_iff_not, needM, Bool.or_eq_true, Bool.or_eq_false_iff] at *); first | omega | (simp; omega) | (exfalso; simp at *; omega)) | (exfalso; simp [needM] at *; done) | (exfalso; simp [needM] at *; omega))
  · skip
    rcases Bool.eq_false_or_eq_true (decide (r < (8 : Int))) with h3 | h3
    · skip
      rcases Bool.eq_false_or_eq_true (decide (m < (8 : Int))) with h4 | h4
      · skip
        exact (Ret.of_eval (d := .lst .tight 1 [.int .u8 72]) mixed Try.func35 (by kernel_rfl) [tT, tC (ltL 7 h3), tC (ltL 7 h4), tF, tF, tF, tF] (by kernel_rfl)).to (by first | (simp [wk, wkL, wkO]; done) | (simp only [wk, wkL, wkO, D.int.injEq, D.lst.injEq, List.cons.injEq, true_and, and_true, w_u8, w_i64, rexB, true_or]; (try simp only [decide_eq_true_eq, decide_eq_false_iff_not, needM, Bool.or_eq_true, Bool.or_eq_false_iff] at *); first | omega | (simp; omega) | (exfalso; simp at *; omega)) | (exfalso; simp [needM] at *; done) | (exfalso; simp [needM] at *; omega))
      · skip
        exact (Ret.of_eval (d := .lst .tight 1 [.int .u8 73]) mixed Try.func35 (by kernel_rfl) [tT, tC (ltL 7 h3), tC (ltL 7 h4), tF, tF, tF, tF] (by kernel_rfl)).to (by first | (simp [wk, wkL, wkO]; done) | (simp only [wk, wkL, wkO, D.int.injEq, D.lst.injEq, List.cons.injEq, true_and, and_true, w_u8, w_i64, rexB, true_or]; (try simp only [decide_eq_true_eq, decide_eq_false_iff_not, needM, Bool.or_eq_true, Bool.or_eq_false_iff] at *); first | omega | (simp; omega) | (exfalso; simp at *; omega)) | (exfalso; simp [needM] at *; done) | (exfalso; simp [needM] at *; omega))
    · skip
      rcases Bool.eq_false_or_eq_true (decide (m < (8 : Int))) with h5 | h5
      · skip
        exact (Ret.of_eval (d := .lst .tight 1 [.int .u8 76]) mixed Try.func35 (by kernel_rfl) [tT, tC (ltL 7 h3), tC (ltL 7 h5), tF, tF, tF, tF] (by kernel_rfl)).to (by first | (simp [wk, wkL, wkO]; done) | (simp only [wk, wkL, wkO, D.int.injEq, D.lst.injEq, List.cons.injEq, true_and, and_true, w_u8, w_i64, rexB, true_or]; (try simp only [decide_eq_true_eq, decide_eq_false_iff_not, needM, Bool.or_eq_true, Bool.or_eq_false_iff] at *); first | omega | (simp; omega) | (exfalso; simp at *; omega)) | (exfalso; simp [needM] at *; done) | (exfalso; simp [needM] at *; omega))
      · skip
        exact (Ret.of_eval (d := .lst .tight 1 [.int .u8 77]) mixed Try.func35 (by kernel_rfl) [tT, tC (ltL 7 h3), tC (ltL 7 h5), tF, tF, tF, tF] (by kernel_rfl)).to (by first | (simp [wk, wkL, wkO]; done) | (simp only [wk, wkL, wkO, D.int.injEq, D.lst.injEq, List.cons.injEq, true_and, and_true, w_u8, w_i64, rexB, true_or]; (try simp only [decide_eq_true_eq, decide_eq_false_iff_not, needM, Bool.or_eq_true, Bool.or_eq_false_iff] at *); first | omega | (simp; omega) | (exfalso; simp at *; omega)) | (exfalso; simp [needM] at *; done) | (exfalso; simp [needM] at *; omega))

theorem rmem4_ok (r b disp : Int) (r0 : 0 ≤ r) (r1 : r ≤ 15) (m0 : 0 ≤ b) (m1 : b ≤ 15) (h0 : -2147483648 ≤ disp) (h1 : disp ≤ 2147483647) (hb : decide (b % 8 = 4) = true) : Ret Try.prog 39 ([.int .i8 r, .int .i8 b, .int .i64 disp]) (.lst .no 1 [.int .u8 (128 + 8 * (r % 8) + b % 8), .int .u8 36, .int .u8 (disp % 256), .int .u8 (disp / 256 % 256), .int .u8 (disp / 65536 % 256), .int .u8 (disp / 16777216 % 256)]) := by
  have c0 := @rdir2_ok (disp)
  exact (Ret.of_eval (d := .lst (.fresh 1) 1 [.int .u8 (IntKind.wrap IntKind.u8 (IntKind.wrap IntKind.i64 (IntKind.wrap IntKind.i64 ((128 : Int) + IntKind.wrap IntKind.i64 ((8 : Int) * IntKind.wrap IntKind.i64 (IntKind.wrap IntKind.i8 (↑(BitVec.toNat (BitVec.ofInt (8 : Nat) r &&& BitVec.ofInt (8 : Nat) (7 : Int))) : Int)))) + IntKind.wrap IntKind.i64 (IntKind.wrap IntKind.i8 (↑(BitVec.toNat (BitVec.ofInt (8 : Nat) b &&& BitVec.ofInt (8 : Nat) (7 : Int))) : Int))))), .int .u8 36, .int .u8 (disp % (256 : Int)), .int .u8 (disp / (256 : Int) % (256 : Int)), .int .u8 (disp / (65536 : Int) % (256 : Int)), .int .u8 (disp / (16777216 : Int) % (256 : Int))]) mixed Try.func39 (by kernel_rfl) [tC (eqI 4 true (eq_of_beq (@sib_t (b) hb))), .len ((2 : Nat)) ((2147483648 : Nat)) (by first | decide | omega | (simp; omega)), .ret _ _ _ c0, .len ((6 : Nat)) ((2147483648 : Nat)) (by first | decide | omega | (simp; omega))] (by kernel_rfl)).to (by simp only [wk, wkL, wkO, D.int.injEq, D.lst.injEq, List.cons.injEq, true_and, and_true, and7, w_u8, w_i8, w_i64, w_u64, true_or]; first | done | omega | (simp; omega))

theorem rmemn_ok (r b disp : Int) (r0 : 0 ≤ r) (r1 : r ≤ 15) (m0 : 0 ≤ b) (m1 : b ≤ 15) (h0 : -2147483648 ≤ disp) (h1 : disp ≤ 2147483647) (hb : decide (b % 8 = 4) = false) : Ret Try.prog 39 ([.int .i8 r, .int .i8 b, .int .i64 disp]) (.lst .no 1 [.int .u8 (128 + 8 * (r % 8) + b % 8), .int .u8 (disp % 256), .int .u8 (disp / 256 % 256), .int .u8 (disp / 65536 % 256), .int .u8 (disp / 16777216 % 256)]) := by
  have c0 := @rdir2_ok (disp)
  exact (Ret.of_eval (d := .lst (.fresh 1) 1 [.int .u8 (IntKind.wrap IntKind.u8 (IntKind.wrap IntKind.i64 (IntKind.wrap IntKind.i64 ((128 : Int) + IntKind.wrap IntKind.i64 ((8 : Int) * IntKind.wrap IntKind.i64 (IntKind.wrap IntKind.i8 (↑(BitVec.toNat (BitVec.ofInt (8 : Nat) r &&& BitVec.ofInt (8 : Nat) (7 : Int))) : Int)))) + IntKind.wrap IntKind.i64 (IntKind.wrap IntKind.i8 (↑(BitVec.toNat (BitVec.ofInt (8 : Nat) b &&& BitVec.ofInt (8 : Nat) (7 : Int))) : Int))))), .int .u8 (disp % (256 : Int)), .int .u8 (disp / (256 : Int) % (256 : Int)), .int .u8 (disp / (65536 : Int) % (256 : Int)), .int .u8 (disp / (16777216 : Int) % (256 : Int))]) mixed Try.func39 (by kernel_rfl) [tC (@sib_f (b) hb), .ret _ _ _ c0, .len ((5 : Nat)) ((2147483648 : Nat)) (by first | decide | omega | (simp; omega))] (by kernel_rfl)).to (by simp only [wk, wkL, wkO, D.int.injEq, D.lst.injEq, List.cons.injEq, true_and, and_true, and7, w_u8, w_i8, w_i64, w_u64, true_or]; first | done | omega | (simp; omega))

end Go.Proofs.Ytokbhdafpghcpaa
