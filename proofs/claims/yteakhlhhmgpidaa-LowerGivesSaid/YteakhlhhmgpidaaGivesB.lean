/- A loop that gathers which registers steps give and take, from its rounds. -/
import Derived.Test.YteakhlhhmgpidaaGives0
import Derived.Test.YteakhlhhmgpidaaOne
import Derived.Test.YteakhlhhmgpidaaMdH
namespace Go.Proofs.Yteakhlhhmgpidaa
open Go Go.Ev
set_option linter.unusedVariables false
set_option linter.unusedSimpArgs false
set_option maxRecDepth 100000

theorem gives_rounds (ls : List IrS) (hb : ls.length ≤ 1099511627776) (xk xo xw xs : Int) (xb : Bool) (xd xr xf xi : Int) : ∀ (n k : Nat) (g t : Int), n + k = ls.length →
    Rounds Try.prog (loopB Try.f4 0) 3 [.undef, .ptr false 0 0, .undef, .lst .no 13 (ls.map IrS.d), .undef, .int .i64 g, .int .i64 t, .int .i64 (k : Int), .undef, .undef, .undef, .undef, .undef, .undef, .undef, .undef, .undef, .undef, .undef, .undef, .undef, .undef, .undef, .undef, .undef, .undef, .undef, .undef, .undef, .undef, .undef, .undef, .undef, .undef, .undef, .undef, .undef, .undef, .undef, .undef, .undef, .undef, .undef, .undef, .undef, .undef, .undef, .undef, .undef, .undef, .undef, .undef, .undef, .undef, .undef, .undef, .undef, .undef, .undef, .undef, .undef, .undef, .undef, .undef, .undef, .undef, .undef, .undef, .undef, .undef, .undef, .undef, .undef, .undef, .undef, .undef, .undef, .undef, .undef, .undef, .undef] [.box [.int .i8 xk, .int .i8 xo, .int .i8 xw, .int .i8 xs, .bool xb, .int .i8 xd, .int .i8 xr, .int .i64 xf, .int .i64 xi], .dead, .dead] (.exit 0)
      [.undef, .ptr false 0 0, .undef, .undef, .undef, .int .i64 (namesF 2 (ls.drop k) g), .int .i64 (namesF 1 (ls.drop k) t), .undef, .undef, .undef, .undef, .undef, .undef, .undef, .undef, .undef, .undef, .undef, .undef, .undef, .undef, .undef, .undef, .undef, .undef, .undef, .undef, .undef, .undef, .undef, .undef, .undef, .undef, .undef, .undef, .undef, .undef, .undef, .undef, .undef, .undef, .undef, .undef, .undef, .undef, .undef, .undef, .undef, .undef, .undef, .undef, .undef, .undef, .undef, .undef, .undef, .undef, .undef, .undef, .undef, .undef, .undef, .undef, .undef, .undef, .undef, .undef, .undef, .undef, .undef, .undef, .undef, .undef, .undef, .undef, .undef, .undef, .undef, .undef, .undef, .undef] [.box [.int .i8 xk, .int .i8 xo, .int .i8 xw, .int .i8 xs, .bool xb, .int .i8 xd, .int .i8 xr, .int .i64 xf, .int .i64 xi], .dead, .dead] := by
  intro n
  induction n with
  | zero =>
    intro k g t hk
    rw [List.drop_eq_nil_of_le (by omega)]
    exact Rounds.last (gives_done (ls.map IrS.d) k (by simpa using hb) g t xk xo xw xs xb xd xr xf xi (by simp; omega)) (by simp)
  | succ n ih =>
    intro k g t hk
    have hk' : k < ls.length := by omega
    have hx : ls[k]? = some ls[k] := by simp
    have hL : (ls.map IrS.d).length ≤ 1099511627776 := by simpa using hb
    have hK : k < (ls.map IrS.d).length := by simpa using hk'
    rw [List.drop_eq_getElem_cons hk']
    by_cases h2 : ls[k].kind = 2
    · have := ih (k + 1) (or64 g (sh8 (low4 ls[k].reg))) t (by omega)
      simp only [namesF, List.foldl_cons, h2, if_true] at this ⊢
      exact Rounds.more (gives_give (ls.map IrS.d) k hL g t xk xo xw xs xb xd xr xf xi hK _ _ _ _ _ _ _ _ _ _ _ _ _ (get_map hx) (by simpa using h2)) this
    · by_cases h1 : ls[k].kind = 1
      · have := ih (k + 1) g (or64 t (sh8 (low4 ls[k].reg))) (by omega)
        simp only [namesF, List.foldl_cons, h1, if_true] at this ⊢
        exact Rounds.more (gives_take (ls.map IrS.d) k hL g t xk xo xw xs xb xd xr xf xi hK _ _ _ _ _ _ _ _ _ _ _ _ _ (get_map hx) (by simpa using h1)) this
      · have := ih (k + 1) g t (by omega)
        simp only [namesF, List.foldl_cons, h1, h2, if_false] at this ⊢
        exact Rounds.more (gives_other (ls.map IrS.d) k hL g t xk xo xw xs xb xd xr xf xi hK _ _ _ _ _ _ _ _ _ _ _ _ _ (get_map hx) (by simpa using h2) (by simpa using h1)) this
theorem gives_run (kind op width size : Int) (byReg : Bool) (dst src off imm : Int) (xk xo xw xs : Int) (xb : Bool) (xd xr xf xi : Int) :
    LoopRun Try.prog 3 (.loop (loopB Try.f4 0)) [.undef, .ptr false 0 0, .undef, .lst .no 13 (oneL kind op width size byReg dst src off imm), .undef, .int .i64 0, .int .i64 0, .int .i64 0, .undef, .undef, .undef, .undef, .undef, .undef, .undef, .undef, .undef, .undef, .undef, .undef, .undef, .undef, .undef, .undef, .undef, .undef, .undef, .undef, .undef, .undef, .undef, .undef, .undef, .undef, .undef, .undef, .undef, .undef, .undef, .undef, .undef, .undef, .undef, .undef, .undef, .undef, .undef, .undef, .undef, .undef, .undef, .undef, .undef, .undef, .undef, .undef, .undef, .undef, .undef, .undef, .undef, .undef, .undef, .undef, .undef, .undef, .undef, .undef, .undef, .undef, .undef, .undef, .undef, .undef, .undef, .undef, .undef, .undef, .undef, .undef, .undef] [.box [.int .i8 xk, .int .i8 xo, .int .i8 xw, .int .i8 xs, .bool xb, .int .i8 xd, .int .i8 xr, .int .i64 xf, .int .i64 xi], .dead, .dead] (.exit 0)
      [.undef, .ptr false 0 0, .undef, .undef, .undef, .int .i64 (namesD 2 (oneL kind op width size byReg dst src off imm)), .int .i64 (namesD 1 (oneL kind op width size byReg dst src off imm)), .undef, .undef, .undef, .undef, .undef, .undef, .undef, .undef, .undef, .undef, .undef, .undef, .undef, .undef, .undef, .undef, .undef, .undef, .undef, .undef, .undef, .undef, .undef, .undef, .undef, .undef, .undef, .undef, .undef, .undef, .undef, .undef, .undef, .undef, .undef, .undef, .undef, .undef, .undef, .undef, .undef, .undef, .undef, .undef, .undef, .undef, .undef, .undef, .undef, .undef, .undef, .undef, .undef, .undef, .undef, .undef, .undef, .undef, .undef, .undef, .undef, .undef, .undef, .undef, .undef, .undef, .undef, .undef, .undef, .undef, .undef, .undef, .undef, .undef] [.box [.int .i8 xk, .int .i8 xo, .int .i8 xw, .int .i8 xs, .bool xb, .int .i8 xd, .int .i8 xr, .int .i64 xf, .int .i64 xi], .dead, .dead] := by
  have hl := one_len kind op width size byReg dst src off imm
  have h := gives_rounds ((oneL kind op width size byReg dst src off imm).map irOf) (by rw [List.length_map]; omega) xk xo xw xs xb xd xr xf xi _ 0 0 0 (Nat.add_zero _)
  have e : ((oneL kind op width size byReg dst src off imm).map irOf).map IrS.d = _ := one_ir kind op width size byReg dst src off imm
  rw [e] at h
  exact LoopRun.of_rounds (Nat.le_refl 3) h
/-- What an instruction's steps give is what is wanted; what they take is read. -/
theorem gives_law (kind op width size : Int) (byReg : Bool) (dst src off imm : Int) (h : oneOK kind op width size byReg dst src off imm = true) : namesD 2 (oneL kind op width size byReg dst src off imm) = wantM kind dst := by
  have h' := h
  simp only [oneOK, Bool.and_eq_true, Bool.not_eq_true', beq_eq_false_iff_ne] at h'
  rw [oneL, if_pos h, gives_want h'.1, if_neg (by omega)]
theorem takes_law (kind op width size : Int) (byReg : Bool) (dst src off imm : Int) (h : oneOK kind op width size byReg dst src off imm = true) : andNot64 (namesD 1 (oneL kind op width size byReg dst src off imm)) (readsM kind op byReg dst src imm) = 0 := by
  have h' := h
  simp only [oneOK, Bool.and_eq_true, Bool.not_eq_true', beq_eq_false_iff_ne] at h'
  rw [oneL, if_pos h]
  exact takes_reads h'.1 h'.2.1 h'.2.2
end Go.Proofs.Yteakhlhhmgpidaa
