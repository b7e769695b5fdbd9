/- EncodeApart, whatever the two instructions. -/
import Derived.Test.YtokbhdafpghcpaaXApart
namespace Go.Proofs.Ytokbhdafpghcpaa
open Go Go.Ev
set_option linter.unusedVariables false
set_option linter.unusedSimpArgs false

theorem has_i8 {n : Int} (h : IntKind.i8.has n) : -128 ≤ n ∧ n ≤ 127 := by
  simp [IntKind.has, IntKind.min, IntKind.max, IntKind.signed, IntKind.bits] at h
  omega
theorem apart_ok (op w dst src base disp imm cc : Int) (ho : op ≤ 127) (op' w' dst' src' base' disp' imm' cc' : Int) (ho' : op' ≤ 127) :
    Ret Try.prog 3 [xD op w dst src base disp imm cc, xD op' w' dst' src' base' disp' imm' cc'] (.bool true) := by
  cases he : eqCells [D.int .i8 op, D.int .i8 w, D.int .i8 dst, D.int .i8 src, D.int .i8 base, D.int .i64 disp, D.int .i64 imm, D.int .i8 cc] [D.int .i8 op', D.int .i8 w', D.int .i8 dst', D.int .i8 src', D.int .i8 base', D.int .i64 disp', D.int .i64 imm', D.int .i8 cc']
  · cases h : bytesE op w dst src base disp imm cc == 0
    · exact apart_no_ok _ _ _ _ _ _ _ _ ho _ _ _ _ _ _ _ _ ho' h he
    · cases h' : bytesE op' w' dst' src' base' disp' imm' cc' == 0
      · exact apart_no2_ok _ _ _ _ _ _ _ _ ho _ _ _ _ _ _ _ _ ho' h h' he
      · exact apart_yes_ok _ _ _ _ _ _ _ _ ho _ _ _ _ _ _ _ _ ho' h h' he
  · have he' := he
    simp [eqCells, eqCell] at he'
    obtain ⟨rfl, rfl, rfl, rfl, rfl, rfl, rfl, rfl⟩ := he'
    exact apart_same_ok _ _ _ _ _ _ _ _ ho he
end Go.Proofs.Ytokbhdafpghcpaa
