/- Contracts and plain laws that a statement's proof leans on (texts merged: LS3, LS4). -/
import Derived.Test.YtcngafhpodeenaaS11
import Derived.Test.YtcngafhpodeenaaS14
set_option linter.unusedVariables false
set_option linter.unusedSimpArgs false
namespace Go.Proofs.Ytcngafhpodeenaa
open Go Go.Ev
set_option maxRecDepth 100000
set_option maxHeartbeats 8000000
theorem size_err_ok (pro : List XS) (l : List (List IrS)) (e : Int) (he : e ≠ 0) (hr : CallRun Try.prog 26 [.lst .no 8 (xsL pro), .lst .no 1 (rwL l)] [] (.tup [.lst .tight 0 [], .lst .tight 0 [], .int .i64 e]) [])  : Ret Try.prog 28 ([.lst .no 8 (xsL pro), .lst .no 1 (rwL l)]) (.tup [.int .i64 0, .int .i64 0, .int .i64 e]) := by
 exact (Ret.of_eval (d := .tup [.int .i64 0, .int .i64 0, .int .i64 e]) mixed Try.func28 (by kernel_rfl) [.callR _ _ _ _ _ (@cidRun_ok ([.lst .no 8 (xsL pro), .lst .no 1 (rwL l)]) ([]) _ _ hr), tC (nt (by ((try simp only [sL] at *); (try unfold big at *); omega) : (e == (0 : Int)) = false))] (by kernel_rfl)).to (by first | rfl | (simp [wk, wkL, wkO]; done))
theorem size_ok_ok (pro : List XS) (l : List (List IrS)) (c s q : List Int) (ps ps2 av : List D) (m : Nat) (a b : Int) (hm : m ≤ 2000) (hps : ∀ c ∈ ps2, c.clean = true) (hr : CallRun Try.prog 26 [.lst .no 8 (xsL pro), .lst .no 1 (rwL l)] [] (.tup [.lst .no 1 (bD c), .lst .no 1 (intsD s), .int .i64 0]) []) (hp : CallRun Try.prog 64 [.lst .no 8 (xsL pro), .lst .no 1 (rwL l)] [] (.tup [.slc 1 10 m, .lst (.tok 2 0) 1 (intsD q), .int .i64 0]) [.dead, .box ps, .fam 0 1]) (hx : CallRun Try.prog 65 [.slc 1 10 m, .lst (.tok 2 0) 1 (intsD q)] [.dead, .box ps, .fam 0 1] (.slc 4 1 (m + 1)) [.dead, .box ps2, .dead, .dead, .box av, .dead]) (h0 : LoopRun Try.prog 6 (.loop (loopB Try.f28 0)) (szT 0 0 m 0) (szS (List.map D.demote ps2)) (.exit 0) (szU a b) szE)  : Ret Try.prog 28 ([.lst .no 8 (xsL pro), .lst .no 1 (rwL l)]) (.tup [.int .i64 a, .int .i64 b, .int .i64 0]) := by
 have c0 := @run_id (nat_lit 6) _ ((un 4 ++ (.int .i64 0) :: (.int .i64 0) :: (un 29 ++ (D.slc (1 : Nat) (10 : Nat) m) :: (.int .i64 (↑m : Int)) :: (.int .i64 0) :: (un 24)))) ([Ob.dead, Ob.box (List.map D.demote ps2), Ob.dead, Ob.dead, Ob.dead, Ob.dead]) _ _ _ h0
 exact (Ret.of_eval (d := .tup [.int .i64 a, .int .i64 b, .int .i64 0]) mixed Try.func28 (by kernel_rfl) [.callR _ _ _ _ _ (@cidRun_ok ([.lst .no 8 (xsL pro), .lst .no 1 (rwL l)]) ([]) _ _ hr), tF, .callR _ _ _ _ _ (@cidParts_ok ([.lst .no 8 (xsL pro), .lst .no 1 (rwL l)]) ([]) _ _ hp), .callR _ _ _ _ _ (@cidRelax_ok ([D.slc (1 : Nat) (10 : Nat) m, .lst (Own.tok (2 : Nat) (0 : Nat)) (1 : Nat) (intsD q)]) ([Ob.dead, Ob.box ps, Ob.fam (0 : Nat) (1 : Nat)]) _ _ hx), .head ⟨[4, 5, 35, 36, 37], [1000001], []⟩ _ _ _ _ _ _ _ c0, .cl (ps2) (by first | exact clAll rfl | exact hps)] (by kernel_rfl)).to (by first | rfl | (simp [wk, wkL, wkO]; done))
theorem size_nil_ok (pro : List XS) (l : List (List IrS)) (c : List D) (s q : List Int) (sz : Nat) (hr : CallRun Try.prog 26 [.lst .no 8 (xsL pro), .lst .no 1 (rwL l)] [] (.tup [.lst .no sz c, .lst .no 1 (intsD s), .int .i64 0]) []) (hp : Ret Try.prog 64 [.lst .no 8 (xsL pro), .lst .no 1 (rwL l)] (.tup [.lst .no 10 [], .lst .no 1 (intsD q), .int .i64 0]))  : Ret Try.prog 28 ([.lst .no 8 (xsL pro), .lst .no 1 (rwL l)]) (.tup [.int .i64 0, .int .i64 0, .int .i64 0]) := by
 exact (Ret.of_eval (d := .tup [.int .i64 0, .int .i64 0, .int .i64 0]) mixed Try.func28 (by kernel_rfl) [.callR _ _ _ _ _ (@cidRun_ok ([.lst .no 8 (xsL pro), .lst .no 1 (rwL l)]) ([]) _ _ hr), tF, .ret _ _ _ hp, .inl, tT, .go 64, .inl, .go 64, tF, .go 64, tF, tT, .go 64, tF, .go 64, tF] (by kernel_rfl)).to (by first | rfl | (simp [wk, wkL, wkO]; done))
theorem ls_great_ok (pro : List XS) (l : List (List IrS)) (hG : Ret Try.prog 24 [.lst .no 8 (xsL pro), .lst .no 1 (rwL l)] (.bool true))  : Ret Try.prog 11 ([.lst .no 8 (xsL pro), .lst .no 1 (rwL l)]) (.bool true) := by
 have c0 := @wakes24_ok
 exact (Ret.of_eval (d := .bool true) mixed Try.func11 (by kernel_rfl) [.ret _ _ _ hG, tT, .ret _ _ _ c0] (by kernel_rfl)).to (by first | rfl | (simp [wk]; done))
theorem ls_bad_ok (pro : List XS) (l : List (List IrS)) (e : Int) (he : e ≠ 0) (hG : Ret Try.prog 24 [.lst .no 8 (xsL pro), .lst .no 1 (rwL l)] (.bool false)) (r1 : Ret Try.prog 26 [.lst .no 8 (xsL pro), .lst .no 1 (rwL l)] (.tup [.lst .tight 0 [], .lst .tight 0 [], .int .i64 e])) (r2 : Ret Try.prog 28 [.lst .no 8 (xsL pro), .lst .no 1 (rwL l)] (.tup [.int .i64 0, .int .i64 0, .int .i64 e]))  : Ret Try.prog 11 ([.lst .no 8 (xsL pro), .lst .no 1 (rwL l)]) (.bool true) := by
 have c0 := @wakes24_ok
 exact (Ret.of_eval (d := .bool true) mixed Try.func11 (by kernel_rfl) ([.ret _ _ _ hG, tF, .ret _ _ _ r1, .ret _ _ _ r2, .inl, .go 64, tF, tC (eF (nt (beq_self_eq_true (e)))), tC (eF (nt (beq_self_eq_true (e)))), tC (nt (beq_self_eq_true (e))), tC (eF (nt (by ((try simp only [sL] at *); (try unfold big at *); omega) : (e == (0 : Int)) = false))), tC (eF (nt (by ((try simp only [sL] at *); (try unfold big at *); omega) : (e == (0 : Int)) = false))), tC (nt (by ((try simp only [sL] at *); (try unfold big at *); omega) : (e == (0 : Int)) = false)), tT, tC (eT (beq_self_eq_true (e))), .ret _ _ _ c0] ++ [tC (beq_self_eq_true (e))]) (by kernel_rfl)).to (by first | rfl | (simp [wk]; done))
theorem ls_ok_ok (pro : List XS) (l : List (List IrS)) (c a : List Int) (sh nr n s k : Int) (z : List XS) (hn : n = ((bD c).length : Int)) (hs : s = sh) (hk : k = nr) (hG : Ret Try.prog 24 [.lst .no 8 (xsL pro), .lst .no 1 (rwL l)] (.bool false)) (r1 : Ret Try.prog 26 [.lst .no 8 (xsL pro), .lst .no 1 (rwL l)] (.tup [.lst .no 1 (bD c), .lst .no 1 (intsD a), .int .i64 0])) (r2 : Ret Try.prog 28 [.lst .no 8 (xsL pro), .lst .no 1 (rwL l)] (.tup [.int .i64 sh, .int .i64 nr, .int .i64 0])) (hl : Ret Try.prog 32 [.lst .no 1 (bD c)] (.tup [.lst .no 8 (xsL z), .bool true])) (h0 : LoopRun Try.prog 4 (.loop (loopB Try.f11 0)) (shT c z sh nr 0 0 0 0) [.dead, .dead, .dead, .dead] (.exit 0) (shU c sh nr n s k) [.dead, .dead, .dead, .dead])  : Ret Try.prog 11 ([.lst .no 8 (xsL pro), .lst .no 1 (rwL l)]) (.bool true) := by
 have c0 := @run_id (nat_lit 4) _ ((un 5 ++ (.lst .no 1 (bD c)) :: (D.undef) :: (D.undef) :: (.int .i64 sh) :: (.int .i64 nr) :: (D.undef) :: (.lst .no 8 (xsL z)) :: (D.undef) :: (.int .i64 0) :: (.int .i64 0) :: (.int .i64 0) :: (.int .i64 0) :: (un 100))) ([Ob.dead, Ob.dead, Ob.dead, Ob.dead]) _ _ _ h0
 have c1 := @wakes24_ok
 exact (Ret.of_eval (d := .bool true) mixed Try.func11 (by kernel_rfl) ([.ret _ _ _ hG, tF, .ret _ _ _ r1, .ret _ _ _ r2, .ret _ _ _ hl, tT, tT, tF, tT, tT, tF, tF, .head ⟨[5, 8, 9, 11, 13, 14, 15, 16], [], []⟩ _ _ _ _ _ _ _ c0, tC (eT (by ((try simp only [sL] at *); (try unfold big at *); omega) : (n == (↑(List.length (bD c)) : Int)) = true)), tC (eT (by ((try simp only [sL] at *); (try unfold big at *); omega) : (n == (↑(List.length (bD c)) : Int)) = true)), tC (eT (by ((try simp only [sL] at *); (try unfold big at *); omega) : (n == (↑(List.length (bD c)) : Int)) = true))] ++ [tC (by ((try simp only [sL] at *); (try unfold big at *); omega) : (n == (↑(List.length (bD c)) : Int)) = true), tC (eT (by ((try simp only [sL] at *); (try unfold big at *); omega) : (s == sh) = true)), tC (eT (by ((try simp only [sL] at *); (try unfold big at *); omega) : (s == sh) = true)), tC (eT (by ((try simp only [sL] at *); (try unfold big at *); omega) : (s == sh) = true)), tC (by ((try simp only [sL] at *); (try unfold big at *); omega) : (s == sh) = true), tC (eT (by ((try simp only [sL] at *); (try unfold big at *); omega) : (k == nr) = true)), .ret _ _ _ c1, tC (by ((try simp only [sL] at *); (try unfold big at *); omega) : (k == nr) = true)]) (by kernel_rfl)).to (by first | rfl | (simp [wk]; done))
end Go.Proofs.Ytcngafhpodeenaa

namespace Go.Proofs.Ytcngafhpodeenaa
open Go Go.Ev
set_option maxRecDepth 100000
def cntS : List PaS → Int
  | [] => 0
  | p :: r => (if p.j = true ∧ p.x.w = 8 then 1 else 0) + cntS r
def cntN : List PaS → Int
  | [] => 0
  | p :: r => (if p.j = true ∧ p.x.w ≠ 8 then 1 else 0) + cntN r
theorem cntS_snoc : ∀ (l : List PaS) (p : PaS), cntS (l ++ [p]) = cntS l + (if p.j = true ∧ p.x.w = 8 then 1 else 0)
 | [], p => by simp [cntS]
 | x :: r, p => by rw [List.cons_append, cntS, cntS, cntS_snoc r p]; omega
theorem cntN_snoc : ∀ (l : List PaS) (p : PaS), cntN (l ++ [p]) = cntN l + (if p.j = true ∧ p.x.w ≠ 8 then 1 else 0)
 | [], p => by simp [cntN]
 | x :: r, p => by rw [List.cons_append, cntN, cntN, cntN_snoc r p]; omega
theorem cntS_rng : ∀ l : List PaS, 0 ≤ cntS l ∧ cntS l ≤ l.length
 | [] => by simp [cntS]
 | x :: r => by have := cntS_rng r; rw [cntS, List.length_cons]; split <;> omega
theorem cntN_rng : ∀ l : List PaS, 0 ≤ cntN l ∧ cntN l ≤ l.length
 | [] => by simp [cntN]
 | x :: r => by have := cntN_rng r; rw [cntN, List.length_cons]; split <;> omega
theorem may_short {x : XS} (h : mayXS x = true) (ho : x.op = 28 ∨ x.op = 29) (hw : x.w = 8) : -128 ≤ x.imm ∧ x.imm ≤ 127 := by
 have e28 : shapeM 28 = 9 := by decide
 have e29 : shapeM 29 = 10 := by decide
 unfold mayXS at h
 rcases ho with ho | ho
 ·simp [mayX, mayS, regM, jumpM, ho, hw, e28] at h
  omega
 ·simp [mayX, mayS, regM, jumpM, ho, hw, e29] at h
  omega
theorem sz_rounds (fs : List PaS) (hm : fs.length ≤ 2000) : ∀ (j k : Nat), k + j = fs.length →
  Rounds Try.prog (loopB Try.f28 0) 6 (szT (cntS (fs.take k)) (cntN (fs.take k)) fs.length k) (szS (paC fs)) (.exit 0) (szU (cntS fs) (cntN fs)) szE
 | 0, k, hk => by
  rw [List.take_of_length_le (by omega)]
  have h1 := cntS_rng fs
  have h2 := cntN_rng fs
  exact Rounds.last (sz_end (paC fs) fs.length k (cntS fs) (cntN fs) (by omega) (by omega) (by omega) (by omega) (paC_clean _) hm (paC_demote _) (by omega)) (fun h => by cases h)
 | j + 1, k, hk => by
  have hlt : k < fs.length := by omega
  have ih := sz_rounds fs hm j (k + 1) (by omega)
  have h1 := cntS_rng (fs.take k)
  have h2 := cntN_rng (fs.take k)
  rw [List.length_take, Nat.min_eq_left (by omega)] at h1 h2
  have hsp : fs = fs.take k ++ fs[k] :: fs.drop (k + 1) := by rw [← List.drop_eq_getElem_cons hlt, List.take_append_drop]
  have hA : GetsA (paC fs) (k * 10) 10 [.int .i8 fs[k].x.op, .int .i8 fs[k].x.w, .int .i8 fs[k].x.dst, .int .i8 fs[k].x.src, .int .i8 fs[k].x.base, .int .i64 fs[k].x.disp, .int .i64 fs[k].x.imm, .int .i8 fs[k].x.cc, .bool fs[k].j, .int .i64 fs[k].to] := by
   have := paC_gets (fs.take k) (fs.drop (k + 1)) fs[k] 10 (by decide)
   rw [← hsp, List.length_take, Nat.min_eq_left (by omega)] at this
   exact this
  rw [List.take_succ_eq_append_getElem hlt, cntS_snoc, cntN_snoc] at ih
  cases hj : fs[k].j with
  | false =>
   rw [hj] at hA
   have := sz_0 (paC fs) fs.length k (cntS (fs.take k)) (cntN (fs.take k)) (by omega) (by omega) (by omega) (by omega) (paC_clean _) hm (paC_demote _) hlt fs[k].x fs[k].to hA
   rw [paC_demote, nxt (by omega)] at this
   rw [hj, if_neg (by simp), if_neg (by simp), Int.add_zero, Int.add_zero] at ih
   exact Rounds.more this ih
  | true =>
   rw [hj] at hA
   by_cases hw : fs[k].x.w = 8
   ·have := sz_s (paC fs) fs.length k (cntS (fs.take k)) (cntN (fs.take k)) (by omega) (by omega) (by omega) (by omega) (paC_clean _) hm (paC_demote _) hlt fs[k].x fs[k].to hA hw
    rw [paC_demote, nxt (by omega), show IntKind.i64.wrap (cntS (fs.take k) + 1) = cntS (fs.take k) + 1 by rw [w_i64]; omega] at this
    rw [hj, if_pos ⟨rfl, hw⟩, if_neg (by simp [hw]), Int.add_zero] at ih
    exact Rounds.more this ih
   ·have := sz_n (paC fs) fs.length k (cntS (fs.take k)) (cntN (fs.take k)) (by omega) (by omega) (by omega) (by omega) (paC_clean _) hm (paC_demote _) hlt fs[k].x fs[k].to hA hw
    rw [paC_demote, nxt (by omega), show IntKind.i64.wrap (cntN (fs.take k) + 1) = cntN (fs.take k) + 1 by rw [w_i64]; omega] at this
    rw [hj, if_neg (by simp [hw]), if_pos ⟨rfl, hw⟩, Int.add_zero] at ih
    exact Rounds.more this ih
theorem runC_any {pro : List XS} {l : List (List IrS)} (hb : BlkIn pro l) : CallRun Try.prog 26 [.lst .no 8 (xsL pro), .lst .no 1 (rwL l)] [] (runD pro l).demote [] := ret_toCall (run_any hb) rfl rfl []
theorem sizes_any {pro : List XS} {l : List (List IrS)} (hb : BlkIn pro l) : Ret Try.prog 28 [.lst .no 8 (xsL pro), .lst .no 1 (rwL l)]
  (if goodM pro l = true then (if pro.length + sumL l ≤ 2000 ∧ totF pro l ≤ 16384 then .tup [.int .i64 (cntS (finF pro l)), .int .i64 (cntN (finF pro l)), .int .i64 0] else .tup [.int .i64 0, .int .i64 0, .int .i64 3]) else .tup [.int .i64 0, .int .i64 0, .int .i64 2]) := by
 have hr := runC_any hb
 unfold runD at hr
 by_cases hg : goodM pro l = true
 case neg => rw [if_neg hg] at hr ⊢; exact size_err_ok pro l 2 (by decide) hr
 rw [if_pos hg] at hr ⊢
 by_cases hn : pro.length + sumL l ≤ 2000 ∧ totF pro l ≤ 16384
 case neg => rw [if_neg hn] at hr ⊢; exact size_err_ok pro l 3 (by decide) hr
 rw [if_pos hn] at hr ⊢
 have g := good_iff.1 hg
 have hbn := hb.n
 have hbb := hb.b
 have L1 : 1 ≤ ((rwL l).length : Int) := by rw [rwL_len]; have := g.l1; omega
 have L2 : ((rwL l).length : Int) ≤ 64 := by rw [rwL_len]; have := g.l64; omega
 have hpr := g.pro
 have hgb := g.blk
 have hpl := pr_loop l pro ((xsL pro).length : Int) hb.px (by omega) hpr
 have e0 : ptT l (pro.map inP) [] ((xsL pro).length : Int) 0 = ptT l (preP pro l 0) (preQ pro l 0) (preN pro l 0) ((0 : Nat) : Int) := by
  unfold preP preQ preN
  rw [xsL_len]
  simp [allP, begP, sumL]
 have hN : preN pro l l.length = ((pro.length + sumL l : Nat) : Int) := by unfold preN; rw [List.take_of_length_le (Nat.le_refl _)]
 have hS := fun hne : parF pro l ≠ [] => (by
  have hl := LoopRun.of_rounds (show 1 ≤ 3 by decide) (pt_roundsS hb hgb hne (l.length - 1) 0 (by have := g.l1; omega))
  rw [← e0] at hl
  exact hl : LoopRun Try.prog 1 (.loop (loopB Try.f64 1)) (ptT l (pro.map inP) [] ((xsL pro).length : Int) 0) ptS (.exit 2) (ptV (parF pro l).length (begF pro l) (preN pro l l.length)) (ptB (parF pro l)))
 have hL : LoopRun Try.prog 1 (.loop (loopB Try.f64 1)) (ptT l (pro.map inP) [] ((xsL pro).length : Int) 0) ptS (.exit 2) (ptU (parF pro l) (begF pro l) (preN pro l l.length)) ptS := by
  have hl := LoopRun.of_rounds (show 1 ≤ 3 by decide) (pt_roundsL hb hgb l.length 0 (by omega))
  rw [← e0] at hl
  exact hl
 have hml := parF_len hn.1
 obtain ⟨hpa, hjx⟩ := good_all g
 have hbg := good_beg pro l
 by_cases hne : parF pro l = []
 ·have hp := pa_L_ok pro l L1 L2 (pro.map inP) (parF pro l) (begF pro l) (preN pro l l.length) hpl hL (by rw [hN]; omega)
  rw [hne] at hp
  have hf : finF pro l = [] := by
   have := finF_len pro l
   rw [hne] at this
   exact List.length_eq_zero_iff.1 this
  rw [hf]
  exact size_nil_ok pro l _ _ (begF pro l) 1 hr hp
 ·have hp := pa_S_ok pro l L1 L2 (pro.map inP) (parF pro l) (begF pro l) (preN pro l l.length) hpl (hS hne) (by rw [hN]; omega)
  have hx := relax_any (parF pro l) hml l.length hpa (begF pro l) hbg
  have hfl := finF_len pro l
  have h0 := LoopRun.of_rounds (show 6 ≤ 6 by decide) (sz_rounds (finF pro l) (by omega) _ 0 (Nat.zero_add _))
  rw [hfl] at h0
  refine size_ok_ok pro l _ _ (begF pro l) _ _ _ (parF pro l).length _ _ hml (paC_clean _) hr hp hx ?_
  rw [paC_demote]
  exact h0
theorem fin_part {pro : List XS} {l : List (List IrS)} (h : Laid pro l) {k : Nat} (hk : k < (finF pro l).length) : ((finF pro l)[k].j = false → (finF pro l)[k].x.op ≠ 28 ∧ (finF pro l)[k].x.op ≠ 29) ∧ ((finF pro l)[k].j = true → (finF pro l)[k].x.op = 28 ∨ (finF pro l)[k].x.op = 29) ∧ mayXS (finF pro l)[k].x = true := by
 have hkp : k < (parF pro l).length := by rw [finF_len] at hk; exact hk
 obtain ⟨s1, _⟩ := (ld_facts h).2 k _ _ (List.getElem?_eq_getElem hkp) (List.getElem?_eq_getElem hk)
 have hj := (good_all h.g).2 _ (List.getElem_mem hkp)
 refine ⟨fun e => ?_, fun e => ?_, ld_may h _ (List.mem_map.2 ⟨_, List.getElem_mem hk, rfl⟩)⟩
 ·have e2 : (parF pro l)[k].j = false := by rw [← s1.j]; exact e
  rw [s1.no e2]
  exact (hj.no e2).2
 ·have e2 : (parF pro l)[k].j = true := by rw [← s1.j]; exact e
  rw [(s1.yes e2).1]
  rcases (hj.yes e2).1 with q | q
  ·exact .inl q.1
  ·exact .inr q.1
theorem len_part {x : XS} (hm : mayXS x = true) : Ret Try.prog 22 [xsD x] (.int .i64 ((bytesXS x).length : Int)) := by
 have ho := may_op hm
 simp only [ops32, List.mem_cons, List.not_mem_nil, or_false] at ho
 have := xlen_ok x.op x.w x.dst x.src x.base x.disp x.imm x.cc (by omega)
 have hm' : mayX x.op x.w x.dst x.src x.base x.disp x.imm x.cc = true := hm
 simp only [lenX, bytesL, hm', if_true] at this
 rw [len_bD] at this
 exact this
theorem sh_rounds {pro : List XS} {l : List (List IrS)} (h : Laid pro l) (sh nr : Int) : ∀ (j k : Nat), k + j = (finF pro l).length →
  Rounds Try.prog (loopB Try.f11 0) 4 (shT (codeF pro l) ((finF pro l).map PaS.x) sh nr (standF pro l k : Int) (cntS ((finF pro l).take k)) (cntN ((finF pro l).take k)) k) [.dead, .dead, .dead, .dead] (.exit 0) (shU (codeF pro l) sh nr ((codeF pro l).length : Int) (cntS (finF pro l)) (cntN (finF pro l))) [.dead, .dead, .dead, .dead]
 | 0, k, hk => by
  have hn := h.n
  have hfl : (finF pro l).length ≤ 2000 := by rw [finF_len]; exact parF_len hn
  have h1 := cntS_rng (finF pro l)
  have h2 := cntN_rng (finF pro l)
  have hs : standF pro l k = (codeF pro l).length := by
   unfold standF codeF
   rw [List.take_of_length_le (by omega)]
   rfl
  have hr := stand_rng h k
  rw [List.take_of_length_le (by omega), ← hs]
  exact Rounds.last (sh_e (codeF pro l) ((finF pro l).map PaS.x) sh nr (standF pro l k : Int) (cntS (finF pro l)) (cntN (finF pro l)) k (by omega) (by omega) (by omega) (by omega) (by omega) (by omega) (by omega) (by omega) (by rw [xsL_len, List.length_map]; omega)) (fun h => by cases h)
 | j + 1, k, hk => by
  have hlt : k < (finF pro l).length := by omega
  have ih := sh_rounds h sh nr j (k + 1) (by omega)
  have hn := h.n
  have hfl : (finF pro l).length ≤ 2000 := by rw [finF_len]; exact parF_len hn
  have h1 := cntS_rng ((finF pro l).take k)
  have h2 := cntN_rng ((finF pro l).take k)
  rw [List.length_take, Nat.min_eq_left (by omega)] at h1 h2
  have hr := stand_rng h k
  have hw := stand_w h (List.getElem?_eq_getElem hlt)
  obtain ⟨f1, f2, f3⟩ := fin_part h hlt
  have hu := bytes_len (finF pro l)[k].x
  have hx : (xsL ((finF pro l).map PaS.x))[Int.toNat (k : Int)]? = some (xsD (finF pro l)[k].x) := by
   rw [Int.toNat_natCast, xsL_get _ k (by rw [List.length_map]; exact hlt), List.getElem_map]
  have hh : (k : Int) < ((xsL ((finF pro l).map PaS.x)).length : Int) := by rw [xsL_len, List.length_map]; omega
  have hl := len_part f3
  rw [List.take_succ_eq_append_getElem hlt, cntS_snoc, cntN_snoc] at ih
  have wS : IntKind.i64.wrap (cntS ((finF pro l).take k) + 1) = cntS ((finF pro l).take k) + 1 := by rw [w_i64]; omega
  have wN : IntKind.i64.wrap (cntN ((finF pro l).take k) + 1) = cntN ((finF pro l).take k) + 1 := by rw [w_i64]; omega
  cases hj : (finF pro l)[k].j with
  | false =>
   obtain ⟨j1, j2⟩ := f1 hj
   have := sh_x (codeF pro l) ((finF pro l).map PaS.x) sh nr (standF pro l k : Int) (cntS ((finF pro l).take k)) (cntN ((finF pro l).take k)) k (by omega) (by omega) (by omega) (by omega) (by omega) (by omega) (by omega) (by omega) (finF pro l)[k].x ((bytesXS (finF pro l)[k].x).length : Int) (by omega) (by omega) hh hx hl j1 j2
   rw [hw, nxt (by omega)] at this
   rw [hj, if_neg (by simp), if_neg (by simp), Int.add_zero, Int.add_zero] at ih
   exact Rounds.more this ih
  | true =>
   have hop := f2 hj
   by_cases h8 : (finF pro l)[k].x.w = 8
   ·obtain ⟨m0, m1⟩ := may_short f3 hop h8
    rw [hj, if_pos ⟨rfl, h8⟩, if_neg (by simp [h8]), Int.add_zero] at ih
    rcases hop with ho | ho
    ·have := sh_as (codeF pro l) ((finF pro l).map PaS.x) sh nr (standF pro l k : Int) (cntS ((finF pro l).take k)) (cntN ((finF pro l).take k)) k (by omega) (by omega) (by omega) (by omega) (by omega) (by omega) (by omega) (by omega) (finF pro l)[k].x ((bytesXS (finF pro l)[k].x).length : Int) (by omega) (by omega) hh hx hl ho h8 m0 m1
     rw [hw, nxt (by omega), wS] at this
     exact Rounds.more this ih
    ·have := sh_bs (codeF pro l) ((finF pro l).map PaS.x) sh nr (standF pro l k : Int) (cntS ((finF pro l).take k)) (cntN ((finF pro l).take k)) k (by omega) (by omega) (by omega) (by omega) (by omega) (by omega) (by omega) (by omega) (finF pro l)[k].x ((bytesXS (finF pro l)[k].x).length : Int) (by omega) (by omega) hh hx hl ho h8 m0 m1
     rw [hw, nxt (by omega), wS] at this
     exact Rounds.more this ih
   ·rw [hj, if_neg (by simp [h8]), if_pos ⟨rfl, h8⟩, Int.add_zero] at ih
    rcases hop with ho | ho
    ·have := sh_an (codeF pro l) ((finF pro l).map PaS.x) sh nr (standF pro l k : Int) (cntS ((finF pro l).take k)) (cntN ((finF pro l).take k)) k (by omega) (by omega) (by omega) (by omega) (by omega) (by omega) (by omega) (by omega) (finF pro l)[k].x ((bytesXS (finF pro l)[k].x).length : Int) (by omega) (by omega) hh hx hl ho h8
     rw [hw, nxt (by omega), wN] at this
     exact Rounds.more this ih
    ·have := sh_bn (codeF pro l) ((finF pro l).map PaS.x) sh nr (standF pro l k : Int) (cntS ((finF pro l).take k)) (cntN ((finF pro l).take k)) k (by omega) (by omega) (by omega) (by omega) (by omega) (by omega) (by omega) (by omega) (finF pro l)[k].x ((bytesXS (finF pro l)[k].x).length : Int) (by omega) (by omega) hh hx hl ho h8
     rw [hw, nxt (by omega), wN] at this
     exact Rounds.more this ih
theorem short_any (pro : List XS) (l : List (List IrS)) (hx : AllX pro) (ho : ∀ r ∈ l, AllOk r) (hs : Sized pro l) : Ret Try.prog 11 [.lst .no 8 (xsL pro), .lst .no 1 (rwL l)] (.bool true) := by
 have hG := great_any hs
 cases hgr : (decide (2500 < sumG pro l) || decide (100 < ((rwL l).length : Int))) with
 | true => rw [hgr] at hG; exact ls_great_ok pro l hG
 | false =>
  rw [hgr] at hG
  have hb := not_great hx ho hgr
  have r1 := run_any hb
  have r2 := sizes_any hb
  unfold runD at r1
  by_cases g1 : goodM pro l = true
  ·rw [if_pos g1] at r1 r2
   by_cases n1 : pro.length + sumL l ≤ 2000 ∧ totF pro l ≤ 16384
   ·rw [if_pos n1] at r1 r2
    have h : Laid pro l := ⟨hb, good_iff.1 g1, n1.1⟩
    have hmy := ld_may h
    have hcl := codeF_len n1.1
    have hc : codeF pro l = catM ((finF pro l).map PaS.x) := rfl
    have hl := ll_any (codeF pro l) (by rw [hc]; exact catM_isB hmy) (by omega)
    have hcp := (catM_len ((finF pro l).map PaS.x)).1
    rw [hc, listM_cat _ _ hmy (by omega), ← hc] at hl
    have h0 := LoopRun.of_rounds (show 4 ≤ 4 by decide) (sh_rounds h (cntS (finF pro l)) (cntN (finF pro l)) (finF pro l).length 0 (by omega))
    exact ls_ok_ok pro l (codeF pro l) (startF pro l) _ _ _ _ _ _ (by rw [len_bD]) rfl rfl hG r1 r2 hl h0
   ·rw [if_neg n1] at r1 r2
    exact ls_bad_ok pro l 3 (by decide) hG r1 r2
  ·rw [if_neg g1] at r1 r2
   exact ls_bad_ok pro l 2 (by decide) hG r1 r2
end Go.Proofs.Ytcngafhpodeenaa
