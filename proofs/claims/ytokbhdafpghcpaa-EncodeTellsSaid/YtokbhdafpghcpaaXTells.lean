/- Contract: EncodeTells returns true. -/
import Derived.Test.YtokbhdafpghcpaaXTells0
import Derived.Test.YtokbhdafpghcpaaXWake2
namespace Go.Proofs.Ytokbhdafpghcpaa
open Go Go.Ev
set_option maxRecDepth 100000
set_option maxHeartbeats 8000000
set_option linter.unusedVariables false
set_option linter.unusedSimpArgs false
theorem rlen_ok (op w dst src base disp imm cc : Int) (ho : op ≤ 127) : Ret Try.prog 15 ([xD op w dst src base disp imm cc]) (.int .i64 (lenX op w dst src base disp imm cc)) := by
  have c0 := @Proofs.Ytokbhdafpghcpaa.rbytes_any_ok (op) (w) (dst) (src) (base) (disp) (imm) (cc) ho
  exact (Ret.of_eval (d := D.int IntKind.i64 (↑(List.length (bytesL op w dst src base disp imm cc)) : Int)) mixed Try.func15 (by kernel_rfl) [.ret _ _ _ c0] (by kernel_rfl)).to (by simp [wk, lenX])

theorem tells_ok (op w dst src base disp imm cc : Int) (ho : op ≤ 127) : Ret Try.prog 5 ([xD op w dst src base disp imm cc]) (.bool true) := by
  have c0 := @Proofs.Ytokbhdafpghcpaa.bytes_any_ok (op) (w) (dst) (src) (base) (disp) (imm) (cc) ho
  have c1 := @Proofs.Ytokbhdafpghcpaa.rbytes_any_ok (op) (w) (dst) (src) (base) (disp) (imm) (cc) ho
  have c2 := @Proofs.Ytokbhdafpghcpaa.mayX_ok (op) (w) (dst) (src) (base) (disp) (imm) (cc) ho
  have c3 := @Proofs.Ytokbhdafpghcpaa.rmayX_ok (op) (w) (dst) (src) (base) (disp) (imm) (cc)
  have c4 := @Proofs.Ytokbhdafpghcpaa.xlen_ok (op) (w) (dst) (src) (base) (disp) (imm) (cc) ho
  have c5 := @Proofs.Ytokbhdafpghcpaa.rlen_ok (op) (w) (dst) (src) (base) (disp) (imm) (cc) ho
  have c6 := @Proofs.Ytokbhdafpghcpaa.reads_any_ok (op) (w) (dst) (src) (base) (disp) (imm) (cc) ho
  have c7 := @Proofs.Ytokbhdafpghcpaa.rreads_any_ok (op) (w) (dst) (src) (base) (disp) (imm) (cc) ho
  have c8 := @Proofs.Ytokbhdafpghcpaa.writes_any_ok (op) (w) (dst) (src) (base) (disp) (imm) (cc) ho
  have c9 := @Proofs.Ytokbhdafpghcpaa.rwrites_any_ok (op) (w) (dst) (src) (base) (disp) (imm) (cc) ho
  have c10 := @Proofs.Ytokbhdafpghcpaa.wakes13_ok
  exact (Ret.of_eval (d := D.bool true) mixed Try.func5 (by kernel_rfl) ([.ret _ _ _ c0, .ret _ _ _ c1, tC (v := true) (@bytesL_isByte (op) (w) (dst) (src) (base) (disp) (imm) (cc)), tC (v := true) (@bytesL_isByte (op) (w) (dst) (src) (base) (disp) (imm) (cc)), tC (eT (beq_self_eq_true (ByteArray.toList (strD (bytesL op w dst src base disp imm cc))))), tC (eT (beq_self_eq_true (ByteArray.toList (strD (bytesL op w dst src base disp imm cc))))), tC (eT (beq_self_eq_true (ByteArray.toList (strD (bytesL op w dst src base disp imm cc))))), tC (beq_self_eq_true (ByteArray.toList (strD (bytesL op w dst src base disp imm cc)))), tC (eT (beq_self_eq_true (bytesE op w dst src base disp imm cc))), tC (eT (beq_self_eq_true (bytesE op w dst src base disp imm cc))), .ret _ _ _ c2, tC (eT (beq_self_eq_true (bytesE op w dst src base disp imm cc))), tC (eT (beq_self_eq_true (bytesE op w dst src base disp imm cc))), .ret _ _ _ c3, tC (eT (beq_self_eq_true (bytesE op w dst src base disp imm cc))), tC (beq_self_eq_true (bytesE op w dst src base disp imm cc))] ++ [tC (eT (beq_self_eq_true (mayX op w dst src base disp imm cc))), tC (eT (beq_self_eq_true (mayX op w dst src base disp imm cc))), .ret _ _ _ c4, tC (eT (beq_self_eq_true (mayX op w dst src base disp imm cc))), tC (eT (beq_self_eq_true (mayX op w dst src base disp imm cc))), .ret _ _ _ c5, tC (eT (beq_self_eq_true (mayX op w dst src base disp imm cc))), tC (beq_self_eq_true (mayX op w dst src base disp imm cc)), tC (eT (beq_self_eq_true (lenX op w dst src base disp imm cc))), tC (eT (beq_self_eq_true (lenX op w dst src base disp imm cc))), .ret _ _ _ c6, tC (eT (beq_self_eq_true (lenX op w dst src base disp imm cc))), tC (eT (beq_self_eq_true (lenX op w dst src base disp imm cc))), .ret _ _ _ c7, tC (eT (beq_self_eq_true (lenX op w dst src base disp imm cc))), tC (beq_self_eq_true (lenX op w dst src base disp imm cc))] ++ [tC (eT (beq_self_eq_true (readsXX op w dst src base disp imm cc))), tC (eT (beq_self_eq_true (readsXX op w dst src base disp imm cc))), .ret _ _ _ c8, tC (eT (beq_self_eq_true (readsXX op w dst src base disp imm cc))), tC (eT (beq_self_eq_true (readsXX op w dst src base disp imm cc))), .ret _ _ _ c9, tC (eT (beq_self_eq_true (readsXX op w dst src base disp imm cc))), tC (beq_self_eq_true (readsXX op w dst src base disp imm cc)), tC (eT (beq_self_eq_true (writesXX op w dst src base disp imm cc))), .ret _ _ _ c10, tC (beq_self_eq_true (writesXX op w dst src base disp imm cc))]) (by kernel_rfl)).to (by simp [wk])

end Go.Proofs.Ytokbhdafpghcpaa
