/- Contracts: steps' makers. -/
import Derived.Test.YteakhlhhmgpidaaBase
namespace Go.Proofs.Yteakhlhhmgpidaa
open Go Go.Ev
set_option maxRecDepth 100000
set_option maxHeartbeats 8000000
set_option linter.unusedVariables false
set_option linter.unusedSimpArgs false
theorem l_take_ok (phys reg : Int) : Ret Try.prog 55 ([.int .i8 phys, .int .i8 reg]) ((irD 1 0 0 0 0 0 0 0 0 reg phys 0 0)) := by
  exact (Ret.of_eval (d := (irD 1 0 0 0 0 0 0 0 0 reg phys 0 0)) mixed Try.func55 (by kernel_rfl) [] (by kernel_rfl)).to (by simp [wk, wkL, wkO])

theorem l_give_ok (reg phys : Int) : Ret Try.prog 71 ([.int .i8 reg, .int .i8 phys]) ((irD 2 0 0 0 0 0 0 0 0 reg phys 0 0)) := by
  exact (Ret.of_eval (d := (irD 2 0 0 0 0 0 0 0 0 reg phys 0 0)) mixed Try.func71 (by kernel_rfl) [] (by kernel_rfl)).to (by simp [wk, wkL, wkO])

theorem l_two_ok (op w dst src : Int) : Ret Try.prog 57 ([.int .i8 op, .int .i8 w, .int .i8 dst, .int .i8 src]) ((irD 0 op w dst src 0 0 0 0 0 0 0 0)) := by
  exact (Ret.of_eval (d := (irD 0 op w dst src 0 0 0 0 0 0 0 0)) mixed Try.func57 (by kernel_rfl) [] (by kernel_rfl)).to (by simp [wk, wkL, wkO])

theorem l_one_ok (op w dst : Int) : Ret Try.prog 89 ([.int .i8 op, .int .i8 w, .int .i8 dst]) ((irD 0 op w dst 0 0 0 0 0 0 0 0 0)) := by
  have c0 := Proofs.Yteakhlhhmgpidaa.l_two_ok (op) (w) (dst) ((0 : Int))
  exact (Ret.of_eval (d := (irD 0 op w dst 0 0 0 0 0 0 0 0 0)) mixed Try.func89 (by kernel_rfl) [.ret _ _ _ c0] (by kernel_rfl)).to (by simp [wk, wkL, wkO])

theorem l_num_ok (op w dst n : Int) : Ret Try.prog 56 ([.int .i8 op, .int .i8 w, .int .i8 dst, .int .i64 n]) ((irD 0 op w dst 0 0 0 n 0 0 0 0 0)) := by
  exact (Ret.of_eval (d := (irD 0 op w dst 0 0 0 n 0 0 0 0 0)) mixed Try.func56 (by kernel_rfl) [] (by kernel_rfl)).to (by simp [wk, wkL, wkO])

theorem l_goes_ok (n : Int) : Ret Try.prog 28 ([.int .i64 n]) ((irD 5 0 0 0 0 0 0 0 0 0 0 0 n)) := by
  exact (Ret.of_eval (d := (irD 5 0 0 0 0 0 0 0 0 0 0 0 n)) mixed Try.func28 (by kernel_rfl) [] (by kernel_rfl)).to (by simp [wk, wkL, wkO])

theorem l_steps_ok (l : List D) : Ret Try.prog 54 ([.lst .tight 13 l]) (D.lst Own.tight (13 : Nat) l) := by
  exact (Ret.of_eval (d := D.lst Own.tight (13 : Nat) l) mixed Try.func54 (by kernel_rfl) [] (by kernel_rfl)).to (by simp [wk, wkL, wkO])

theorem l_choose_ok (w dst : Int) : Ret Try.prog 103 ([.int .i8 w, .int .i8 dst]) (D.lst Own.tight (13 : Nat) [(irD 0 8 w 1 1 0 0 0 0 0 0 0 0), (irD 0 25 w dst 11 0 0 0 4 0 0 0 0)]) := by
  have c0 := Proofs.Yteakhlhhmgpidaa.l_two_ok ((25 : Int)) (w) (dst) ((11 : Int))
  have c1 := Proofs.Yteakhlhhmgpidaa.l_two_ok ((8 : Int)) (w) ((1 : Int)) ((1 : Int))
  have c2 := Proofs.Yteakhlhhmgpidaa.l_steps_ok ([(irD 0 8 w 1 1 0 0 0 0 0 0 0 0), (irD 0 25 w dst 11 0 0 0 4 0 0 0 0)])
  exact (Ret.of_eval (d := D.lst Own.tight (13 : Nat) [(irD 0 8 w 1 1 0 0 0 0 0 0 0 0), (irD 0 25 w dst 11 0 0 0 4 0 0 0 0)]) mixed Try.func103 (by kernel_rfl) [.ret _ _ _ c0, .ret _ _ _ c1, .ret _ _ _ c2] (by kernel_rfl)).to (by simp [wk, wkL, wkO])

theorem l_short32_ok (kind op size : Int) (byReg : Bool) (dst src off imm : Int) : Ret Try.prog 90 ([instD kind op 32 size byReg dst src off imm]) (D.lst Own.tight (13 : Nat) [(irD 0 0 32 0 0 0 0 0 0 0 0 0 0)]) := by
  have c0 := Proofs.Yteakhlhhmgpidaa.l_two_ok ((0 : Int)) ((32 : Int)) ((0 : Int)) ((0 : Int))
  have c1 := Proofs.Yteakhlhhmgpidaa.l_steps_ok ([(irD 0 0 32 0 0 0 0 0 0 0 0 0 0)])
  exact (Ret.of_eval (d := D.lst Own.tight (13 : Nat) [(irD 0 0 32 0 0 0 0 0 0 0 0 0 0)]) mixed Try.func90 (by kernel_rfl) [tT, .ret _ _ _ c0, .ret _ _ _ c1] (by kernel_rfl)).to (by simp [wk, wkL, wkO])

theorem l_short64_ok (kind op size : Int) (byReg : Bool) (dst src off imm : Int) : Ret Try.prog 90 ([instD kind op 64 size byReg dst src off imm]) (D.lst Own.tight (0 : Nat) []) := by
  exact (Ret.of_eval (d := D.lst Own.tight (0 : Nat) []) mixed Try.func90 (by kernel_rfl) [tF] (by kernel_rfl)).to (by simp [wk, wkL, wkO])

theorem r_take_ok (phys reg : Int) : Ret Try.prog 49 ([.int .i8 phys, .int .i8 reg]) ((irD 1 0 0 0 0 0 0 0 0 reg phys 0 0)) := by
  exact (Ret.of_eval (d := (irD 1 0 0 0 0 0 0 0 0 reg phys 0 0)) mixed Try.func49 (by kernel_rfl) [] (by kernel_rfl)).to (by simp [wk, wkL, wkO])

theorem r_give_ok (reg phys : Int) : Ret Try.prog 51 ([.int .i8 reg, .int .i8 phys]) ((irD 2 0 0 0 0 0 0 0 0 reg phys 0 0)) := by
  exact (Ret.of_eval (d := (irD 2 0 0 0 0 0 0 0 0 reg phys 0 0)) mixed Try.func51 (by kernel_rfl) [] (by kernel_rfl)).to (by simp [wk, wkL, wkO])

theorem r_x_ok (op w dst src base disp imm cc : Int) : Ret Try.prog 50 ([xD op w dst src base disp imm cc]) ((irD 0 op w dst src base disp imm cc 0 0 0 0)) := by
  exact (Ret.of_eval (d := (irD 0 op w dst src base disp imm cc 0 0 0 0)) mixed Try.func50 (by kernel_rfl) [] (by kernel_rfl)).to (by simp [wk, wkL, wkO])

theorem r_two_ok (op w dst src : Int) : Ret Try.prog 59 ([.int .i8 op, .int .i8 w, .int .i8 dst, .int .i8 src]) ((irD 0 op w dst src 0 0 0 0 0 0 0 0)) := by
  have c0 := Proofs.Yteakhlhhmgpidaa.r_x_ok (op) (w) (dst) (src) ((0 : Int)) ((0 : Int)) ((0 : Int)) ((0 : Int))
  exact (Ret.of_eval (d := (irD 0 op w dst src 0 0 0 0 0 0 0 0)) mixed Try.func59 (by kernel_rfl) [.ret _ _ _ c0] (by kernel_rfl)).to (by simp [wk, wkL, wkO])

theorem r_imm_ok (op w dst n : Int) : Ret Try.prog 52 ([.int .i8 op, .int .i8 w, .int .i8 dst, .int .i64 n]) ((irD 0 op w dst 0 0 0 n 0 0 0 0 0)) := by
  have c0 := Proofs.Yteakhlhhmgpidaa.r_x_ok (op) (w) (dst) ((0 : Int)) ((0 : Int)) ((0 : Int)) (n) ((0 : Int))
  exact (Ret.of_eval (d := (irD 0 op w dst 0 0 0 n 0 0 0 0 0)) mixed Try.func52 (by kernel_rfl) [.ret _ _ _ c0] (by kernel_rfl)).to (by simp [wk, wkL, wkO])

theorem r_goes_ok (n : Int) : Ret Try.prog 31 ([.int .i64 n]) ((irD 5 0 0 0 0 0 0 0 0 0 0 0 n)) := by
  exact (Ret.of_eval (d := (irD 5 0 0 0 0 0 0 0 0 0 0 0 n)) mixed Try.func31 (by kernel_rfl) [] (by kernel_rfl)).to (by simp [wk, wkL, wkO])

theorem r_choose_ok (w dst : Int) : Ret Try.prog 93 ([.int .i8 w, .int .i8 dst]) (D.lst Own.tight (13 : Nat) [(irD 0 8 w 1 1 0 0 0 0 0 0 0 0), (irD 0 25 w dst 11 0 0 0 4 0 0 0 0)]) := by
  have c0 := Proofs.Yteakhlhhmgpidaa.r_two_ok ((8 : Int)) (w) ((1 : Int)) ((1 : Int))
  have c1 := Proofs.Yteakhlhhmgpidaa.r_x_ok ((25 : Int)) (w) (dst) ((11 : Int)) ((0 : Int)) ((0 : Int)) ((0 : Int)) ((4 : Int))
  exact (Ret.of_eval (d := D.lst Own.tight (13 : Nat) [(irD 0 8 w 1 1 0 0 0 0 0 0 0 0), (irD 0 25 w dst 11 0 0 0 4 0 0 0 0)]) mixed Try.func93 (by kernel_rfl) [.ret _ _ _ c0, .ret _ _ _ c1] (by kernel_rfl)).to (by simp [wk, wkL, wkO])

end Go.Proofs.Yteakhlhhmgpidaa
