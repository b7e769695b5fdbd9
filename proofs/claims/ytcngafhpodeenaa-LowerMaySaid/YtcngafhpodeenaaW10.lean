/- Contracts and plain laws that a statement's proof leans on (texts merged: KB4A, KB4, KB5A, KS2, StepsL, KSR, KSA). -/
import Derived.Test.YtcngafhpodeenaaW04
import Derived.Test.YtcngafhpodeenaaW08
import Derived.Test.YtcngafhpodeenaaW09
set_option linter.unusedVariables false
set_option linter.unusedSimpArgs false
namespace Go.Proofs.Ytcngafhpodeenaa
open Go Go.Ev
set_option maxRecDepth 100000
theorem rep_zero (n : Nat) : repD n [D.int .i64 0] = i64s (List.replicate n 0) := by
 rw [repD, i64s, List.map_replicate]
theorem rep_clean (n : Nat) : ∀ c ∈ repD n [D.int .i64 0], c.clean = true := by
 rw [rep_zero]
 exact i64s_clean _
abbrev ctT0 (l : List InstS) : List D := [.undef, .ptr false 0 0, .undef, .undef, .undef, .undef, .mapp 2, .undef, .undef, .undef, .undef, .slc 3 1 (Int.toNat ((isd l).length : Int)), .lst .tight 0 [], .undef, .undef, .undef, .undef, .undef, .undef, .undef, .undef, .undef, .undef, .undef, .undef, .undef, .undef, .undef, .undef, .undef, .undef, .undef, .undef, .undef, .undef, .undef, .undef, .undef, .undef, .undef, .undef, .undef, .undef, .undef, .undef, .undef, .undef, .undef, .undef, .undef, .undef, .undef, .undef, .undef, .undef, .undef, .undef, .undef, .undef, .undef, .undef, .undef, .int .i64 ((isd l).length : Int), .int .i64 0, .undef, .undef, .undef, .undef, .undef, .undef, .undef, .undef, .undef, .undef, .undef, .undef, .undef, .undef, .undef, .undef, .undef, .undef, .undef, .undef, .undef, .undef, .undef, .undef, .undef, .undef, .undef, .undef, .undef, .undef, .undef, .undef, .undef, .undef, .undef, .undef, .undef, .undef, .undef, .undef, .undef, .undef, .undef, .undef, .undef, .undef, .undef, .undef, .undef, .undef, .undef, .undef, .undef, .undef, .undef, .undef, .undef, .undef, .undef, .undef, .undef, .undef, .undef, .undef, .undef, .undef, .undef, .undef, .undef, .undef, .undef, .undef, .undef, .undef, .undef, .undef, .undef, .undef, .undef, .undef, .undef, .undef, .undef, .undef, .undef, .undef, .undef, .undef, .undef, .undef]
theorem ct_enter (l : List InstS) (hp : OkP l) (ctx : Int) : LoopRun Try.prog 4 (.loop (loopB Try.f34 1)) (ctT0 l) [.box [.int .i64 ctx, .lst .no 9 (isd l)], .dead, .mp .i64 (begE l l.length), .box (List.map D.demote (repD (Int.toNat ((isd l).length : Int)) [D.int .i64 0]))] (.exit 3) (ctU l (.slc 4 3 (cutP l l.length).length)) (ctS ctx l (ofU l l.length l.length) (cutP l l.length)) := by
 have e1 : ctT0 l = ctT l (.lst .tight 0 []) 0 := by simp only [ctT0, ctT, isd_len, Int.toNat_natCast]
 have e2 : List.map D.demote (repD (Int.toNat ((isd l).length : Int)) [D.int .i64 0]) = i64s (List.replicate l.length 0) := by rw [rep_zero, i64s_demote, isd_len, Int.toNat_natCast]
 rw [e1, e2]
 exact ct_loop l hp ctx
abbrev nxS0 (ctx : Int) (l : List InstS) : List Ob := [.box [.int .i64 ctx, .lst .no 9 (isd l)], .dead, .mp .i64 (begE l l.length), .box (List.map D.demote (i64s (ofU l l.length l.length))), .box (List.map D.demote (rowsC (cutP l l.length)))]
abbrev rowsP (l : List InstS) : List RowS := nextP l (cutP l l.length) (cutP l l.length).length
theorem nx_enter (l : List InstS) (hp : OkP l) (ctx : Int) : LoopRun Try.prog 5 (.loop (loopB Try.f34 2)) (nxT l (cutP l l.length).length 0) (nxS0 ctx l) (.exit 5) (nxU (cutP l l.length).length) [.dead, .dead, .dead, .dead, .box (rowsC (rowsP l))] := by
 have e : nxS0 ctx l = nxS ctx l (nextP l (cutP l l.length) 0) := by simp only [nxS0, nxS, i64s_demote, rowsC_demote, nextP]
 rw [e]
 exact LoopRun.of_rounds (Nat.le_refl _) (nx_rounds l hp ctx (cutP l l.length).length 0 (by omega))
end Go.Proofs.Ytcngafhpodeenaa

namespace Go.Proofs.Ytcngafhpodeenaa
open Go Go.Ev
set_option maxRecDepth 100000
set_option maxHeartbeats 8000000
theorem brun_no_ok (ctx : Int) (l : List InstS) (h100 : l.length ≤ 100) (he : ((checkM ctx l).2 == 0) = false)  : Ret Try.prog 34 ([.agg [.int .i64 ctx, .lst .no 9 (isd l)]]) (.tup [.lst .tight 0 [], .int .i64 (checkM ctx l).2]) := by
 have c0 := @check_ok (ctx) (l) h100
 exact (Ret.of_eval (d := .tup [.lst .tight 0 [], .int .i64 (Prod.snd (checkM ctx l))]) mixed Try.func34 (by kernel_rfl) [.ret _ _ _ c0, tC (nt he)] (by kernel_rfl)).to (by simp [wk, wkL, wkO])
theorem brun_ok (ctx : Int) (l : List InstS) (h100 : l.length ≤ 100) (hp : OkP l) (hn : ((isd l).length : Int) ≤ 64) (he : (checkM ctx l).2 = 0)  : CallRun Try.prog 34 ([.agg [.int .i64 ctx, .lst .no 9 (isd l)]]) ([]) (.tup [.slc 4 3 (cutP l l.length).length, .int .i64 0]) ([.dead, .dead, .dead, .dead, .box (rowsC (rowsP l))]) := by
 have c0 := @check_ok (ctx) (l) h100
 have c1 := @bg_loop (l) hp (ctx)
 have c2 := @ct_enter (l) hp (ctx)
 have c3 := @nx_enter (l) hp (ctx)
 exact (CallRun.of_eval (keep := [4]) (d := .tup [D.slc (4 : Nat) (3 : Nat) (List.length (cutP l (List.length l))), .int .i64 0]) (s' := [Ob.dead, Ob.dead, Ob.dead, Ob.dead, Ob.box (rowsC (rowsP l))]) mixed [.ret _ _ _ c0, tC (nt (eqI 0 true (by ((try simp only [List.length_append, List.length_cons, List.length_nil, List.length_set, List.length_replicate, w_i8, w_u8, w_i64, w_u64, decide_eq_true_eq, decide_eq_false_iff_not, beq_iff_eq, bne_iff_ne, beq_eq_false_iff_ne, bne_eq_false_iff_eq, Bool.not_eq_true', Bool.not_eq_false', Bool.and_eq_true, Bool.or_eq_true, and_true, true_and, eq_self] at *); (try unfold big at *); omega) : Prod.snd (checkM ctx l) = (0 : Int)))), .head ⟨[1, 6, 30, 31, 32], [0, 2], []⟩ _ _ _ _ _ _ _ c1, .tst (decide ((0 : Int) ≤ (↑(List.length (isd l)) : Int) ∧ (↑(List.length (isd l)) : Int) = (↑(List.length (isd l)) : Int) ∧ (↑(List.length (isd l)) : Int) ≤ (2147483648 : Int))) true (by ((try simp only [List.length_append, List.length_cons, List.length_nil, List.length_set, List.length_replicate, w_i8, w_u8, w_i64, w_u64, decide_eq_true_eq, decide_eq_false_iff_not, beq_iff_eq, bne_iff_ne, beq_eq_false_iff_ne, bne_eq_false_iff_eq, Bool.not_eq_true', Bool.not_eq_false', Bool.and_eq_true, Bool.or_eq_true, and_true, true_and, eq_self] at *); (try unfold big at *); omega)), .raw, .head ⟨[1, 6, 11, 12, 62, 63], [0, 2, 1000003], []⟩ _ _ _ _ _ _ _ c2, .cl (repD (Int.toNat (↑(List.length (isd l)) : Int)) [valD (Value.int IntKind.i64 (0 : Int))]) (by first | exact clAll rfl | exact i64s_clean _ | exact rowsC_clean _ | exact rep_clean _), .head ⟨[1, 11, 12, 91, 92], [0, 2, 1000003, 1000004], []⟩ _ _ _ _ _ _ _ c3, .cl (i64s (ofU l (List.length l) (List.length l))) (by first | exact clAll rfl | exact i64s_clean _ | exact rowsC_clean _ | exact rep_clean _), .cl (rowsC (cutP l (List.length l))) (by first | exact clAll rfl | exact i64s_clean _ | exact rowsC_clean _ | exact rep_clean _)] (by kernel_rfl)).cast (by rfl) (by rfl)
end Go.Proofs.Ytcngafhpodeenaa

namespace Go.Proofs.Ytcngafhpodeenaa
open Go Go.Ev
set_option maxRecDepth 100000
theorem rowsC_stor : ∀ rs : List RowS, ∀ c ∈ rowsC rs, storable c.demote = true
 | [], c, h => by simp [rowsC] at h
 | r :: t, c, h => by
  simp only [rowsC, List.mem_cons] at h
  rcases h with rfl | rfl | rfl | h
  ·rfl
  ·rfl
  ·cases r.nx <;> rfl
  ·exact rowsC_stor t c h
theorem blocks_ok (ctx : Int) (l : List InstS) (h100 : l.length ≤ 100) (he : (checkM ctx l).2 = 0) : Ret Try.prog 34 [.agg [.int .i64 ctx, .lst .no 9 (isd l)]] (.tup [.lst .no 3 ((rowsP l).map RowS.d), .int .i64 0]) := by
 have hp := check_OkP he
 have h := brun_ok ctx l h100 hp (by rw [isd_len]; have := hp.le; omega) he
 have hl : (rowsP l).length = (cutP l l.length).length := nextP_len ..
 have := Ret.of_frz h rfl (by rw [rowsC_len, hl]) (rowsC_clean _) (rowsC_stor _) (fun c hc => by simp at hc; subst hc; rfl)
 rw [rowsC_demote, ← hl, rows_rowsC] at this
 exact this
theorem blocks_no (ctx : Int) (l : List InstS) (h100 : l.length ≤ 100) (he : ¬ (checkM ctx l).2 = 0) : Ret Try.prog 34 [.agg [.int .i64 ctx, .lst .no 9 (isd l)]] (.tup [.lst .tight 0 [], .int .i64 (checkM ctx l).2]) :=
 brun_no_ok ctx l h100 (by simpa using he)
end Go.Proofs.Ytcngafhpodeenaa

namespace Go.Proofs.Ytcngafhpodeenaa
open Go Go.Ev
set_option maxRecDepth 100000
set_option maxHeartbeats 8000000
theorem li_end (l rs out xs row : List D) (ctx n b : Int) (k : Nat) (ns : List D) (h : (xs.length : Int) ≤ k)  : RoundRun Try.prog (loopB Try.f13 1) ⟨[1, 4, 5, 7, 20, 21], [0], [(2, 1), (6, 13)]⟩ 3 [uu, D.ptr false 0 0, .lst (Own.tok (3 : Nat) (0 : Nat)) (1 : Nat) out, uu, .lst .no 3 rs, .int .i64 b, .lst (Own.tok (4 : Nat) (0 : Nat)) (13 : Nat) row, .lst .no 1 ns, uu, uu, uu, uu, uu, uu, uu, uu, uu, uu, uu, uu, .int .i64 n, .int .i64 b, uu, uu, uu, uu, uu, uu, uu, uu, uu, uu, uu, uu, uu, uu, uu, uu, uu, uu, uu, .lst .no 9 xs, .int .i64 (↑(List.length xs) : Int), .int .i64 (↑k : Int), uu, uu, uu, uu, uu, uu, uu, uu, uu, uu, uu, uu, uu, uu, uu, uu, uu, uu, uu, uu, uu, uu, uu, uu, uu, uu, uu, uu, uu, uu, uu, uu, uu, uu, uu, uu, uu, uu, uu, uu, uu, uu, uu, uu, uu, uu, uu, uu, uu, uu, uu, uu, uu, uu, uu, uu, uu, uu, uu, uu] [Ob.box [.int .i64 ctx, .lst .no 9 l], Ob.dead, Ob.dead, Ob.fam (0 : Nat) (1 : Nat), Ob.fam (0 : Nat) (13 : Nat)] (Ex.exit (2 : Nat)) [uu, D.ptr false 0 0, .lst (Own.tok (3 : Nat) (0 : Nat)) (1 : Nat) out, uu, .lst .no 3 rs, .int .i64 b, .lst (Own.tok (4 : Nat) (0 : Nat)) (13 : Nat) row, .lst .no 1 ns, uu, uu, uu, uu, uu, uu, uu, uu, uu, uu, uu, uu, .int .i64 n, .int .i64 b, uu, uu, uu, uu, uu, uu, uu, uu, uu, uu, uu, uu, uu, uu, uu, uu, uu, uu, uu, uu, uu, uu, uu, uu, uu, uu, uu, uu, uu, uu, uu, uu, uu, uu, uu, uu, uu, uu, uu, uu, uu, uu, uu, uu, uu, uu, uu, uu, uu, uu, uu, uu, uu, uu, uu, uu, uu, uu, uu, uu, uu, uu, uu, uu, uu, uu, uu, uu, uu, uu, uu, uu, uu, uu, uu, uu, uu, uu, uu, uu, uu, uu] ([Ob.box [.int .i64 ctx, .lst .no 9 l], Ob.dead, Ob.dead, Ob.fam (0 : Nat) (1 : Nat), Ob.fam (0 : Nat) (13 : Nat)]) := by
 exact (RoundRun.of_eval (sp := ⟨[1, 4, 5, 7, 20, 21], [0], [(2, 1), (6, 13)]⟩) (n0 := 3) (ex := Ex.exit (2 : Nat)) (t' := [uu, D.ptr false 0 0, .lst (Own.tok (3 : Nat) (0 : Nat)) (1 : Nat) out, uu, .lst .no 3 rs, .int .i64 b, .lst (Own.tok (4 : Nat) (0 : Nat)) (13 : Nat) row, .lst .no 1 ns, uu, uu, uu, uu, uu, uu, uu, uu, uu, uu, uu, uu, .int .i64 n, .int .i64 b, uu, uu, uu, uu, uu, uu, uu, uu, uu, uu, uu, uu, uu, uu, uu, uu, uu, uu, uu, uu, uu, uu, uu, uu, uu, uu, uu, uu, uu, uu, uu, uu, uu, uu, uu, uu, uu, uu, uu, uu, uu, uu, uu, uu, uu, uu, uu, uu, uu, uu, uu, uu, uu, uu, uu, uu, uu, uu, uu, uu, uu, uu, uu, uu, uu, uu, uu, uu, uu, uu, uu, uu, uu, uu, uu, uu, uu, uu, uu, uu, uu, uu]) (s' := [Ob.box [.int .i64 ctx, .lst .no 9 l], Ob.dead, Ob.dead, Ob.fam (0 : Nat) (1 : Nat), Ob.fam (0 : Nat) (13 : Nat)]) mixed [tC (by ((try simp only [List.length_append, List.length_cons, List.length_nil, List.length_set, List.length_replicate, List.length_take, List.length_drop, sl2] at *); (try unfold big at *); omega) : (decide ((↑k : Int) < (↑(List.length xs) : Int))) = false)] (by kernel_rfl)).cast (by rfl) (by rfl)
theorem li_endz (l rs out xs row : List D) (ctx n b : Int) (k : Nat) (h : (xs.length : Int) ≤ k)  : RoundRun Try.prog (loopB Try.f13 1) ⟨[1, 4, 5, 7, 20, 21], [0], [(2, 1), (6, 13)]⟩ 3 [uu, D.ptr false 0 0, .lst (Own.tok (3 : Nat) (0 : Nat)) (1 : Nat) out, uu, .lst .no 3 rs, .int .i64 b, .lst (Own.tok (4 : Nat) (0 : Nat)) (13 : Nat) row, .lst .tight 0 [], uu, uu, uu, uu, uu, uu, uu, uu, uu, uu, uu, uu, .int .i64 n, .int .i64 b, uu, uu, uu, uu, uu, uu, uu, uu, uu, uu, uu, uu, uu, uu, uu, uu, uu, uu, uu, .lst .no 9 xs, .int .i64 (↑(List.length xs) : Int), .int .i64 (↑k : Int), uu, uu, uu, uu, uu, uu, uu, uu, uu, uu, uu, uu, uu, uu, uu, uu, uu, uu, uu, uu, uu, uu, uu, uu, uu, uu, uu, uu, uu, uu, uu, uu, uu, uu, uu, uu, uu, uu, uu, uu, uu, uu, uu, uu, uu, uu, uu, uu, uu, uu, uu, uu, uu, uu, uu, uu, uu, uu, uu, uu] [Ob.box [.int .i64 ctx, .lst .no 9 l], Ob.dead, Ob.dead, Ob.fam (0 : Nat) (1 : Nat), Ob.fam (0 : Nat) (13 : Nat)] (Ex.exit (2 : Nat)) [uu, D.ptr false 0 0, .lst (Own.tok (3 : Nat) (0 : Nat)) (1 : Nat) out, uu, .lst .no 3 rs, .int .i64 b, .lst (Own.tok (4 : Nat) (0 : Nat)) (13 : Nat) row, .lst .tight 0 [], uu, uu, uu, uu, uu, uu, uu, uu, uu, uu, uu, uu, .int .i64 n, .int .i64 b, uu, uu, uu, uu, uu, uu, uu, uu, uu, uu, uu, uu, uu, uu, uu, uu, uu, uu, uu, uu, uu, uu, uu, uu, uu, uu, uu, uu, uu, uu, uu, uu, uu, uu, uu, uu, uu, uu, uu, uu, uu, uu, uu, uu, uu, uu, uu, uu, uu, uu, uu, uu, uu, uu, uu, uu, uu, uu, uu, uu, uu, uu, uu, uu, uu, uu, uu, uu, uu, uu, uu, uu, uu, uu, uu, uu, uu, uu, uu, uu, uu, uu] ([Ob.box [.int .i64 ctx, .lst .no 9 l], Ob.dead, Ob.dead, Ob.fam (0 : Nat) (1 : Nat), Ob.fam (0 : Nat) (13 : Nat)]) := by
 exact (RoundRun.of_eval (sp := ⟨[1, 4, 5, 7, 20, 21], [0], [(2, 1), (6, 13)]⟩) (n0 := 3) (ex := Ex.exit (2 : Nat)) (t' := [uu, D.ptr false 0 0, .lst (Own.tok (3 : Nat) (0 : Nat)) (1 : Nat) out, uu, .lst .no 3 rs, .int .i64 b, .lst (Own.tok (4 : Nat) (0 : Nat)) (13 : Nat) row, .lst .tight 0 [], uu, uu, uu, uu, uu, uu, uu, uu, uu, uu, uu, uu, .int .i64 n, .int .i64 b, uu, uu, uu, uu, uu, uu, uu, uu, uu, uu, uu, uu, uu, uu, uu, uu, uu, uu, uu, uu, uu, uu, uu, uu, uu, uu, uu, uu, uu, uu, uu, uu, uu, uu, uu, uu, uu, uu, uu, uu, uu, uu, uu, uu, uu, uu, uu, uu, uu, uu, uu, uu, uu, uu, uu, uu, uu, uu, uu, uu, uu, uu, uu, uu, uu, uu, uu, uu, uu, uu, uu, uu, uu, uu, uu, uu, uu, uu, uu, uu, uu, uu]) (s' := [Ob.box [.int .i64 ctx, .lst .no 9 l], Ob.dead, Ob.dead, Ob.fam (0 : Nat) (1 : Nat), Ob.fam (0 : Nat) (13 : Nat)]) mixed [tC (by ((try simp only [List.length_append, List.length_cons, List.length_nil, List.length_set, List.length_replicate, List.length_take, List.length_drop, sl2] at *); (try unfold big at *); omega) : (decide ((↑k : Int) < (↑(List.length xs) : Int))) = false)] (by kernel_rfl)).cast (by rfl) (by rfl)
theorem li_jump (l rs out xs row : List D) (ctx n b : Int) (k : Nat) (p q : Int) (k1 : (k : Int) < (xs.length : Int)) (n1 : (xs.length : Int) ≤ 64) (w1 : (row.length : Int) ≤ 1000) (kind op width size : Int) (byReg : Bool) (dst src off imm : Int) (hx : xs[(k : Int).toNat]? = some (instD kind op width size byReg dst src off imm)) (ds : List D) (d1 : (ds.length : Int) ≤ 12) (hd : Ret Try.prog 35 [instD kind op width size byReg dst src off imm, .lst .no 1 [.int .i64 p, .int .i64 q]] (.lst .no 13 ds)) (kk : kind = 3)  : RoundRun Try.prog (loopB Try.f13 1) ⟨[1, 4, 5, 7, 20, 21, 41, 42, 43], [0], [(2, 1), (6, 13)]⟩ 3 [uu, D.ptr false 0 0, .lst (Own.tok (3 : Nat) (0 : Nat)) (1 : Nat) out, uu, .lst .no 3 rs, .int .i64 b, .lst (Own.tok (4 : Nat) (0 : Nat)) (13 : Nat) row, .lst .no 1 [.int .i64 p, .int .i64 q], uu, uu, uu, uu, uu, uu, uu, uu, uu, uu, uu, uu, .int .i64 n, .int .i64 b, uu, uu, uu, uu, uu, uu, uu, uu, uu, uu, uu, uu, uu, uu, uu, uu, uu, uu, uu, .lst .no 9 xs, .int .i64 (↑(List.length xs) : Int), .int .i64 (↑k : Int), uu, uu, uu, uu, uu, uu, uu, uu, uu, uu, uu, uu, uu, uu, uu, uu, uu, uu, uu, uu, uu, uu, uu, uu, uu, uu, uu, uu, uu, uu, uu, uu, uu, uu, uu, uu, uu, uu, uu, uu, uu, uu, uu, uu, uu, uu, uu, uu, uu, uu, uu, uu, uu, uu, uu, uu, uu, uu, uu, uu] [Ob.box [.int .i64 ctx, .lst .no 9 l], Ob.dead, Ob.dead, Ob.fam (0 : Nat) (1 : Nat), Ob.fam (0 : Nat) (13 : Nat)] (Ex.norm) [uu, D.ptr false 0 0, .lst (Own.tok (3 : Nat) (0 : Nat)) (1 : Nat) out, uu, .lst .no 3 rs, .int .i64 b, .lst (Own.tok (4 : Nat) (0 : Nat)) (13 : Nat) (row ++ ds), .lst .no 1 [.int .i64 p, .int .i64 q], uu, uu, uu, uu, uu, uu, uu, uu, uu, uu, uu, uu, .int .i64 n, .int .i64 b, uu, uu, uu, uu, uu, uu, uu, uu, uu, uu, uu, uu, uu, uu, uu, uu, uu, uu, uu, .lst .no 9 xs, .int .i64 (↑(List.length xs) : Int), .int .i64 (IntKind.wrap IntKind.i64 ((↑k : Int) + 1)), uu, uu, uu, uu, uu, uu, uu, uu, uu, uu, uu, uu, uu, uu, uu, uu, uu, uu, uu, uu, uu, uu, uu, uu, uu, uu, uu, uu, uu, uu, uu, uu, uu, uu, uu, uu, uu, uu, uu, uu, uu, uu, uu, uu, uu, uu, uu, uu, uu, uu, uu, uu, uu, uu, uu, uu, uu, uu, uu, uu] ([Ob.box [.int .i64 ctx, .lst .no 9 l], Ob.dead, Ob.dead, Ob.fam (0 : Nat) (1 : Nat), Ob.fam (0 : Nat) (13 : Nat)]) := by
 exact (RoundRun.of_eval (sp := ⟨[1, 4, 5, 7, 20, 21, 41, 42, 43], [0], [(2, 1), (6, 13)]⟩) (n0 := 3) (ex := Ex.norm) (t' := [uu, D.ptr false 0 0, .lst (Own.tok (3 : Nat) (0 : Nat)) (1 : Nat) out, uu, .lst .no 3 rs, .int .i64 b, .lst (Own.tok (4 : Nat) (0 : Nat)) (13 : Nat) (row ++ ds), .lst .no 1 [.int .i64 p, .int .i64 q], uu, uu, uu, uu, uu, uu, uu, uu, uu, uu, uu, uu, .int .i64 n, .int .i64 b, uu, uu, uu, uu, uu, uu, uu, uu, uu, uu, uu, uu, uu, uu, uu, uu, uu, uu, uu, .lst .no 9 xs, .int .i64 (↑(List.length xs) : Int), .int .i64 (IntKind.wrap IntKind.i64 ((↑k : Int) + 1)), uu, uu, uu, uu, uu, uu, uu, uu, uu, uu, uu, uu, uu, uu, uu, uu, uu, uu, uu, uu, uu, uu, uu, uu, uu, uu, uu, uu, uu, uu, uu, uu, uu, uu, uu, uu, uu, uu, uu, uu, uu, uu, uu, uu, uu, uu, uu, uu, uu, uu, uu, uu, uu, uu, uu, uu, uu, uu, uu, uu]) (s' := [Ob.box [.int .i64 ctx, .lst .no 9 l], Ob.dead, Ob.dead, Ob.fam (0 : Nat) (1 : Nat), Ob.fam (0 : Nat) (13 : Nat)]) mixed [tC (by ((try simp only [List.length_append, List.length_cons, List.length_nil, List.length_set, List.length_replicate, List.length_take, List.length_drop, sl2] at *); (try unfold big at *); omega) : (decide ((↑k : Int) < (↑(List.length xs) : Int))) = true), tT, .get _ _ _ hx, tC (eqI 3 true (by ((try simp only [List.length_append, List.length_cons, List.length_nil, List.length_set, List.length_replicate, List.length_take, List.length_drop, sl2] at *); (try unfold big at *); omega) : kind = 3)), .ret _ _ _ hd, .len (List.length row + List.length ds) ((2147483648 : Nat)) (by first | decide | omega | (simp; omega))] (by kernel_rfl)).cast (by rfl) (by rfl)
theorem li_goto (l rs out xs row : List D) (ctx n b : Int) (k : Nat) (p : Int) (k1 : (k : Int) < (xs.length : Int)) (n1 : (xs.length : Int) ≤ 64) (w1 : (row.length : Int) ≤ 1000) (kind op width size : Int) (byReg : Bool) (dst src off imm : Int) (hx : xs[(k : Int).toNat]? = some (instD kind op width size byReg dst src off imm)) (kk : kind = 4)  : RoundRun Try.prog (loopB Try.f13 1) ⟨[1, 4, 5, 7, 20, 21, 41, 42, 43], [0], [(2, 1), (6, 13)]⟩ 3 [uu, D.ptr false 0 0, .lst (Own.tok (3 : Nat) (0 : Nat)) (1 : Nat) out, uu, .lst .no 3 rs, .int .i64 b, .lst (Own.tok (4 : Nat) (0 : Nat)) (13 : Nat) row, .lst .no 1 [.int .i64 p], uu, uu, uu, uu, uu, uu, uu, uu, uu, uu, uu, uu, .int .i64 n, .int .i64 b, uu, uu, uu, uu, uu, uu, uu, uu, uu, uu, uu, uu, uu, uu, uu, uu, uu, uu, uu, .lst .no 9 xs, .int .i64 (↑(List.length xs) : Int), .int .i64 (↑k : Int), uu, uu, uu, uu, uu, uu, uu, uu, uu, uu, uu, uu, uu, uu, uu, uu, uu, uu, uu, uu, uu, uu, uu, uu, uu, uu, uu, uu, uu, uu, uu, uu, uu, uu, uu, uu, uu, uu, uu, uu, uu, uu, uu, uu, uu, uu, uu, uu, uu, uu, uu, uu, uu, uu, uu, uu, uu, uu, uu, uu] [Ob.box [.int .i64 ctx, .lst .no 9 l], Ob.dead, Ob.dead, Ob.fam (0 : Nat) (1 : Nat), Ob.fam (0 : Nat) (13 : Nat)] (Ex.norm) [uu, D.ptr false 0 0, .lst (Own.tok (3 : Nat) (0 : Nat)) (1 : Nat) out, uu, .lst .no 3 rs, .int .i64 b, .lst (Own.tok (4 : Nat) (0 : Nat)) (13 : Nat) (row ++ [(irD 5 0 0 0 0 0 0 0 0 0 0 0 p)]), .lst .no 1 [.int .i64 p], uu, uu, uu, uu, uu, uu, uu, uu, uu, uu, uu, uu, .int .i64 n, .int .i64 b, uu, uu, uu, uu, uu, uu, uu, uu, uu, uu, uu, uu, uu, uu, uu, uu, uu, uu, uu, .lst .no 9 xs, .int .i64 (↑(List.length xs) : Int), .int .i64 (IntKind.wrap IntKind.i64 ((↑k : Int) + 1)), uu, uu, uu, uu, uu, uu, uu, uu, uu, uu, uu, uu, uu, uu, uu, uu, uu, uu, uu, uu, uu, uu, uu, uu, uu, uu, uu, uu, uu, uu, uu, uu, uu, uu, uu, uu, uu, uu, uu, uu, uu, uu, uu, uu, uu, uu, uu, uu, uu, uu, uu, uu, uu, uu, uu, uu, uu, uu, uu, uu] ([Ob.box [.int .i64 ctx, .lst .no 9 l], Ob.dead, Ob.dead, Ob.fam (0 : Nat) (1 : Nat), Ob.fam (0 : Nat) (13 : Nat)]) := by
 have c0 := @l_goes_ok p
 exact (RoundRun.of_eval (sp := ⟨[1, 4, 5, 7, 20, 21, 41, 42, 43], [0], [(2, 1), (6, 13)]⟩) (n0 := 3) (ex := Ex.norm) (t' := [uu, D.ptr false 0 0, .lst (Own.tok (3 : Nat) (0 : Nat)) (1 : Nat) out, uu, .lst .no 3 rs, .int .i64 b, .lst (Own.tok (4 : Nat) (0 : Nat)) (13 : Nat) (row ++ [(irD 5 0 0 0 0 0 0 0 0 0 0 0 p)]), .lst .no 1 [.int .i64 p], uu, uu, uu, uu, uu, uu, uu, uu, uu, uu, uu, uu, .int .i64 n, .int .i64 b, uu, uu, uu, uu, uu, uu, uu, uu, uu, uu, uu, uu, uu, uu, uu, uu, uu, uu, uu, .lst .no 9 xs, .int .i64 (↑(List.length xs) : Int), .int .i64 (IntKind.wrap IntKind.i64 ((↑k : Int) + 1)), uu, uu, uu, uu, uu, uu, uu, uu, uu, uu, uu, uu, uu, uu, uu, uu, uu, uu, uu, uu, uu, uu, uu, uu, uu, uu, uu, uu, uu, uu, uu, uu, uu, uu, uu, uu, uu, uu, uu, uu, uu, uu, uu, uu, uu, uu, uu, uu, uu, uu, uu, uu, uu, uu, uu, uu, uu, uu, uu, uu]) (s' := [Ob.box [.int .i64 ctx, .lst .no 9 l], Ob.dead, Ob.dead, Ob.fam (0 : Nat) (1 : Nat), Ob.fam (0 : Nat) (13 : Nat)]) mixed [tC (by ((try simp only [List.length_append, List.length_cons, List.length_nil, List.length_set, List.length_replicate, List.length_take, List.length_drop, sl2] at *); (try unfold big at *); omega) : (decide ((↑k : Int) < (↑(List.length xs) : Int))) = true), tT, .get _ _ _ hx, tC (by ((try simp only [List.length_append, List.length_cons, List.length_nil, List.length_set, List.length_replicate, List.length_take, List.length_drop, sl2] at *); (try unfold big at *); omega) : (kind == 3) = false), tC (eqI 4 true (by ((try simp only [List.length_append, List.length_cons, List.length_nil, List.length_set, List.length_replicate, List.length_take, List.length_drop, sl2] at *); (try unfold big at *); omega) : kind = 4)), .get ([.int .i64 p]) 0 (.int .i64 p) rfl, .ret _ _ _ c0, .len (List.length row + (1 : Nat)) ((2147483648 : Nat)) (by first | decide | omega | (simp; omega))] (by kernel_rfl)).cast (by rfl) (by rfl)
theorem li_step (l rs out xs row : List D) (ctx n b : Int) (k : Nat) (ns : List D) (k1 : (k : Int) < (xs.length : Int)) (n1 : (xs.length : Int) ≤ 64) (w1 : (row.length : Int) ≤ 1000) (kind op width size : Int) (byReg : Bool) (dst src off imm : Int) (hx : xs[(k : Int).toNat]? = some (instD kind op width size byReg dst src off imm)) (ds : List D) (d1 : (ds.length : Int) ≤ 12) (hd : Ret Try.prog 37 [instD kind op width size byReg dst src off imm] (.lst .no 13 ds)) (q3 : (kind == 3) = false) (q4 : (kind == 4) = false)  : RoundRun Try.prog (loopB Try.f13 1) ⟨[1, 4, 5, 7, 20, 21, 41, 42, 43], [0], [(2, 1), (6, 13)]⟩ 3 [uu, D.ptr false 0 0, .lst (Own.tok (3 : Nat) (0 : Nat)) (1 : Nat) out, uu, .lst .no 3 rs, .int .i64 b, .lst (Own.tok (4 : Nat) (0 : Nat)) (13 : Nat) row, .lst .no 1 ns, uu, uu, uu, uu, uu, uu, uu, uu, uu, uu, uu, uu, .int .i64 n, .int .i64 b, uu, uu, uu, uu, uu, uu, uu, uu, uu, uu, uu, uu, uu, uu, uu, uu, uu, uu, uu, .lst .no 9 xs, .int .i64 (↑(List.length xs) : Int), .int .i64 (↑k : Int), uu, uu, uu, uu, uu, uu, uu, uu, uu, uu, uu, uu, uu, uu, uu, uu, uu, uu, uu, uu, uu, uu, uu, uu, uu, uu, uu, uu, uu, uu, uu, uu, uu, uu, uu, uu, uu, uu, uu, uu, uu, uu, uu, uu, uu, uu, uu, uu, uu, uu, uu, uu, uu, uu, uu, uu, uu, uu, uu, uu] [Ob.box [.int .i64 ctx, .lst .no 9 l], Ob.dead, Ob.dead, Ob.fam (0 : Nat) (1 : Nat), Ob.fam (0 : Nat) (13 : Nat)] (Ex.norm) [uu, D.ptr false 0 0, .lst (Own.tok (3 : Nat) (0 : Nat)) (1 : Nat) out, uu, .lst .no 3 rs, .int .i64 b, .lst (Own.tok (4 : Nat) (0 : Nat)) (13 : Nat) (row ++ ds), .lst .no 1 ns, uu, uu, uu, uu, uu, uu, uu, uu, uu, uu, uu, uu, .int .i64 n, .int .i64 b, uu, uu, uu, uu, uu, uu, uu, uu, uu, uu, uu, uu, uu, uu, uu, uu, uu, uu, uu, .lst .no 9 xs, .int .i64 (↑(List.length xs) : Int), .int .i64 (IntKind.wrap IntKind.i64 ((↑k : Int) + 1)), uu, uu, uu, uu, uu, uu, uu, uu, uu, uu, uu, uu, uu, uu, uu, uu, uu, uu, uu, uu, uu, uu, uu, uu, uu, uu, uu, uu, uu, uu, uu, uu, uu, uu, uu, uu, uu, uu, uu, uu, uu, uu, uu, uu, uu, uu, uu, uu, uu, uu, uu, uu, uu, uu, uu, uu, uu, uu, uu, uu] ([Ob.box [.int .i64 ctx, .lst .no 9 l], Ob.dead, Ob.dead, Ob.fam (0 : Nat) (1 : Nat), Ob.fam (0 : Nat) (13 : Nat)]) := by
 exact (RoundRun.of_eval (sp := ⟨[1, 4, 5, 7, 20, 21, 41, 42, 43], [0], [(2, 1), (6, 13)]⟩) (n0 := 3) (ex := Ex.norm) (t' := [uu, D.ptr false 0 0, .lst (Own.tok (3 : Nat) (0 : Nat)) (1 : Nat) out, uu, .lst .no 3 rs, .int .i64 b, .lst (Own.tok (4 : Nat) (0 : Nat)) (13 : Nat) (row ++ ds), .lst .no 1 ns, uu, uu, uu, uu, uu, uu, uu, uu, uu, uu, uu, uu, .int .i64 n, .int .i64 b, uu, uu, uu, uu, uu, uu, uu, uu, uu, uu, uu, uu, uu, uu, uu, uu, uu, uu, uu, .lst .no 9 xs, .int .i64 (↑(List.length xs) : Int), .int .i64 (IntKind.wrap IntKind.i64 ((↑k : Int) + 1)), uu, uu, uu, uu, uu, uu, uu, uu, uu, uu, uu, uu, uu, uu, uu, uu, uu, uu, uu, uu, uu, uu, uu, uu, uu, uu, uu, uu, uu, uu, uu, uu, uu, uu, uu, uu, uu, uu, uu, uu, uu, uu, uu, uu, uu, uu, uu, uu, uu, uu, uu, uu, uu, uu, uu, uu, uu, uu, uu, uu]) (s' := [Ob.box [.int .i64 ctx, .lst .no 9 l], Ob.dead, Ob.dead, Ob.fam (0 : Nat) (1 : Nat), Ob.fam (0 : Nat) (13 : Nat)]) mixed [tC (by ((try simp only [List.length_append, List.length_cons, List.length_nil, List.length_set, List.length_replicate, List.length_take, List.length_drop, sl2] at *); (try unfold big at *); omega) : (decide ((↑k : Int) < (↑(List.length xs) : Int))) = true), tT, .get _ _ _ hx, tC q3, tC q4, .ret _ _ _ hd, .len (List.length row + List.length ds) ((2147483648 : Nat)) (by first | decide | omega | (simp; omega))] (by kernel_rfl)).cast (by rfl) (by rfl)
theorem li_stepz (l rs out xs row : List D) (ctx n b : Int) (k : Nat) (k1 : (k : Int) < (xs.length : Int)) (n1 : (xs.length : Int) ≤ 64) (w1 : (row.length : Int) ≤ 1000) (kind op width size : Int) (byReg : Bool) (dst src off imm : Int) (hx : xs[(k : Int).toNat]? = some (instD kind op width size byReg dst src off imm)) (ds : List D) (d1 : (ds.length : Int) ≤ 12) (hd : Ret Try.prog 37 [instD kind op width size byReg dst src off imm] (.lst .no 13 ds)) (q3 : (kind == 3) = false) (q4 : (kind == 4) = false)  : RoundRun Try.prog (loopB Try.f13 1) ⟨[1, 4, 5, 7, 20, 21, 41, 42, 43], [0], [(2, 1), (6, 13)]⟩ 3 [uu, D.ptr false 0 0, .lst (Own.tok (3 : Nat) (0 : Nat)) (1 : Nat) out, uu, .lst .no 3 rs, .int .i64 b, .lst (Own.tok (4 : Nat) (0 : Nat)) (13 : Nat) row, .lst .tight 0 [], uu, uu, uu, uu, uu, uu, uu, uu, uu, uu, uu, uu, .int .i64 n, .int .i64 b, uu, uu, uu, uu, uu, uu, uu, uu, uu, uu, uu, uu, uu, uu, uu, uu, uu, uu, uu, .lst .no 9 xs, .int .i64 (↑(List.length xs) : Int), .int .i64 (↑k : Int), uu, uu, uu, uu, uu, uu, uu, uu, uu, uu, uu, uu, uu, uu, uu, uu, uu, uu, uu, uu, uu, uu, uu, uu, uu, uu, uu, uu, uu, uu, uu, uu, uu, uu, uu, uu, uu, uu, uu, uu, uu, uu, uu, uu, uu, uu, uu, uu, uu, uu, uu, uu, uu, uu, uu, uu, uu, uu, uu, uu] [Ob.box [.int .i64 ctx, .lst .no 9 l], Ob.dead, Ob.dead, Ob.fam (0 : Nat) (1 : Nat), Ob.fam (0 : Nat) (13 : Nat)] (Ex.norm) [uu, D.ptr false 0 0, .lst (Own.tok (3 : Nat) (0 : Nat)) (1 : Nat) out, uu, .lst .no 3 rs, .int .i64 b, .lst (Own.tok (4 : Nat) (0 : Nat)) (13 : Nat) (row ++ ds), .lst .tight 0 [], uu, uu, uu, uu, uu, uu, uu, uu, uu, uu, uu, uu, .int .i64 n, .int .i64 b, uu, uu, uu, uu, uu, uu, uu, uu, uu, uu, uu, uu, uu, uu, uu, uu, uu, uu, uu, .lst .no 9 xs, .int .i64 (↑(List.length xs) : Int), .int .i64 (IntKind.wrap IntKind.i64 ((↑k : Int) + 1)), uu, uu, uu, uu, uu, uu, uu, uu, uu, uu, uu, uu, uu, uu, uu, uu, uu, uu, uu, uu, uu, uu, uu, uu, uu, uu, uu, uu, uu, uu, uu, uu, uu, uu, uu, uu, uu, uu, uu, uu, uu, uu, uu, uu, uu, uu, uu, uu, uu, uu, uu, uu, uu, uu, uu, uu, uu, uu, uu, uu] ([Ob.box [.int .i64 ctx, .lst .no 9 l], Ob.dead, Ob.dead, Ob.fam (0 : Nat) (1 : Nat), Ob.fam (0 : Nat) (13 : Nat)]) := by
 exact (RoundRun.of_eval (sp := ⟨[1, 4, 5, 7, 20, 21, 41, 42, 43], [0], [(2, 1), (6, 13)]⟩) (n0 := 3) (ex := Ex.norm) (t' := [uu, D.ptr false 0 0, .lst (Own.tok (3 : Nat) (0 : Nat)) (1 : Nat) out, uu, .lst .no 3 rs, .int .i64 b, .lst (Own.tok (4 : Nat) (0 : Nat)) (13 : Nat) (row ++ ds), .lst .tight 0 [], uu, uu, uu, uu, uu, uu, uu, uu, uu, uu, uu, uu, .int .i64 n, .int .i64 b, uu, uu, uu, uu, uu, uu, uu, uu, uu, uu, uu, uu, uu, uu, uu, uu, uu, uu, uu, .lst .no 9 xs, .int .i64 (↑(List.length xs) : Int), .int .i64 (IntKind.wrap IntKind.i64 ((↑k : Int) + 1)), uu, uu, uu, uu, uu, uu, uu, uu, uu, uu, uu, uu, uu, uu, uu, uu, uu, uu, uu, uu, uu, uu, uu, uu, uu, uu, uu, uu, uu, uu, uu, uu, uu, uu, uu, uu, uu, uu, uu, uu, uu, uu, uu, uu, uu, uu, uu, uu, uu, uu, uu, uu, uu, uu, uu, uu, uu, uu, uu, uu]) (s' := [Ob.box [.int .i64 ctx, .lst .no 9 l], Ob.dead, Ob.dead, Ob.fam (0 : Nat) (1 : Nat), Ob.fam (0 : Nat) (13 : Nat)]) mixed [tC (by ((try simp only [List.length_append, List.length_cons, List.length_nil, List.length_set, List.length_replicate, List.length_take, List.length_drop, sl2] at *); (try unfold big at *); omega) : (decide ((↑k : Int) < (↑(List.length xs) : Int))) = true), tT, .get _ _ _ hx, tC q3, tC q4, .ret _ _ _ hd, .len (List.length row + List.length ds) ((2147483648 : Nat)) (by first | decide | omega | (simp; omega))] (by kernel_rfl)).cast (by rfl) (by rfl)
end Go.Proofs.Ytcngafhpodeenaa

namespace Go.Proofs.Ytcngafhpodeenaa
open Go Go.Ev
set_option maxRecDepth 100000
set_option maxHeartbeats 8000000
def tab_StepsL_0 : List D := [.int .i8 2, .int .i8 9, .int .i8 5, .int .i8 12, .int .i8 0, .int .i8 0, .int .i8 0, .int .i8 0, .int .i8 3, .int .i8 10, .int .i8 4, .int .i8 11, .int .i8 20, .int .i8 17, .int .i8 21, .int .i8 18, .int .i8 0, .int .i8 0, .int .i8 0, .int .i8 0, .int .i8 6, .int .i8 13, .int .i8 0, .int .i8 0, .int .i8 22, .int .i8 19]
def SpStepsL0 (k0_ : Int) (k1_ : Int) : Prop := ∀ (byReg : Bool) (dst src imm : Int) (hi1 : -2147483648 ≤ imm) (hi2 : imm ≤ 2147483647), Ret Try.prog 37 ([instD 0 k0_ k1_ 0 byReg dst src 0 imm]) (.lst .no 13 (stepsM 0 k0_ k1_ 0 byReg dst src 0 imm))
theorem does_0_0_32_ok : SpStepsL0 0 32 := by
 intro byReg dst src imm hi1 hi2
 let E1 : EL := [tT, .get ([D.fn (Fn.func 82) [] [], D.fn (Fn.func 83) [] [], D.fn (Fn.func 84) [] [], D.nilf, D.nilf, D.fn (Fn.func 85) [] [], D.fn (Fn.func 86) [] []]) 0 (D.fn (Fn.func 82) [] []) rfl, tT, .inl, tT, .get ([D.fn (Fn.func 136) [] [], D.fn (Fn.func 136) [] [], D.fn (Fn.func 137) [] [], D.fn (Fn.func 141) [] [], D.fn (Fn.func 136) [] [], D.fn (Fn.func 136) [] [], D.fn (Fn.func 140) [] [], D.fn (Fn.func 140) [] [], D.fn (Fn.func 138) [] [], D.fn (Fn.func 142) [] [], D.fn (Fn.func 136) [] [], D.fn (Fn.func 139) [] [], D.fn (Fn.func 140) [] []]) 0 (D.fn (Fn.func 136) [] []) rfl, .inl, .inl, tT]
 cases byReg
 ·have c0 := @l_take_ok 0 dst
  have c1 := @l_num_ok 9 32 0 imm
  have c2 := @l_give_ok dst 0
  have c3 := @l_steps_ok ([(irD 1 0 0 0 0 0 0 0 0 dst 0 0 0), (irD 0 9 32 0 0 0 0 imm 0 0 0 0 0), (irD 2 0 0 0 0 0 0 0 0 dst 0 0 0)])
  exact (o37 (d := .lst .tight 13 [(irD 1 0 0 0 0 0 0 0 0 dst 0 0 0), (irD 0 9 32 0 0 0 0 imm 0 0 0 0 0), (irD 2 0 0 0 0 0 0 0 0 dst 0 0 0)]) (E1 ++ [.get tab_StepsL_0 0 (.int .i8 2) rfl, tT, .get tab_StepsL_0 1 (.int .i8 9) rfl, tF, .ret _ _ _ c0, .ret _ _ _ c1, .ret _ _ _ c2, .ret _ _ _ c3]) (by kernel_rfl)).to (by clear E1; (try simp only [IntKind.bits, and31, and63, and32, wrap_mod32, wrap_mod64] at *); simp [wk, wkL, wkO, stepsM, aluM, regOp, immOp, zeroImm, takeD, giveD, two, num, cmov, irD, ]; try ((try simp only [w_u64, w_i64, and32, IntKind.bits, Int.mul_one] at *); omega))
 have c4 := @l_take_ok 0 dst
 have c5 := @l_take_ok 1 src
 have c6 := @l_two_ok 2 32 0 1
 have c7 := @l_give_ok dst 0
 have c8 := @l_steps_ok ([(irD 1 0 0 0 0 0 0 0 0 dst 0 0 0), (irD 1 0 0 0 0 0 0 0 0 src 1 0 0), (irD 0 2 32 0 1 0 0 0 0 0 0 0 0), (irD 2 0 0 0 0 0 0 0 0 dst 0 0 0)])
 exact (o37 (d := .lst .tight 13 [(irD 1 0 0 0 0 0 0 0 0 dst 0 0 0), (irD 1 0 0 0 0 0 0 0 0 src 1 0 0), (irD 0 2 32 0 1 0 0 0 0 0 0 0 0), (irD 2 0 0 0 0 0 0 0 0 dst 0 0 0)]) (E1 ++ [.get tab_StepsL_0 0 (.int .i8 2) rfl, tT, .get tab_StepsL_0 1 (.int .i8 9) rfl, tT, .ret _ _ _ c4, .ret _ _ _ c5, .ret _ _ _ c6, .ret _ _ _ c7, .ret _ _ _ c8]) (by kernel_rfl)).to (by clear E1; (try simp only [IntKind.bits, and31, and63, and32, wrap_mod32, wrap_mod64] at *); simp [wk, wkL, wkO, stepsM, aluM, regOp, immOp, zeroImm, takeD, giveD, two, num, cmov, irD, ]; try ((try simp only [w_u64, w_i64, and32, IntKind.bits, Int.mul_one] at *); omega))
theorem does_0_0_64_ok : SpStepsL0 0 64 := by
 intro byReg dst src imm hi1 hi2
 let E1 : EL := [tT, .get ([D.fn (Fn.func 82) [] [], D.fn (Fn.func 83) [] [], D.fn (Fn.func 84) [] [], D.nilf, D.nilf, D.fn (Fn.func 85) [] [], D.fn (Fn.func 86) [] []]) 0 (D.fn (Fn.func 82) [] []) rfl, tT, .inl, tT, .get ([D.fn (Fn.func 136) [] [], D.fn (Fn.func 136) [] [], D.fn (Fn.func 137) [] [], D.fn (Fn.func 141) [] [], D.fn (Fn.func 136) [] [], D.fn (Fn.func 136) [] [], D.fn (Fn.func 140) [] [], D.fn (Fn.func 140) [] [], D.fn (Fn.func 138) [] [], D.fn (Fn.func 142) [] [], D.fn (Fn.func 136) [] [], D.fn (Fn.func 139) [] [], D.fn (Fn.func 140) [] []]) 0 (D.fn (Fn.func 136) [] []) rfl, .inl, .inl, tT]
 cases byReg
 ·have c0 := @l_take_ok 0 dst
  have c1 := @l_num_ok 9 64 0 imm
  have c2 := @l_give_ok dst 0
  have c3 := @l_steps_ok ([(irD 1 0 0 0 0 0 0 0 0 dst 0 0 0), (irD 0 9 64 0 0 0 0 imm 0 0 0 0 0), (irD 2 0 0 0 0 0 0 0 0 dst 0 0 0)])
  exact (o37 (d := .lst .tight 13 [(irD 1 0 0 0 0 0 0 0 0 dst 0 0 0), (irD 0 9 64 0 0 0 0 imm 0 0 0 0 0), (irD 2 0 0 0 0 0 0 0 0 dst 0 0 0)]) (E1 ++ [.get tab_StepsL_0 0 (.int .i8 2) rfl, tT, .get tab_StepsL_0 1 (.int .i8 9) rfl, tF, .ret _ _ _ c0, .ret _ _ _ c1, .ret _ _ _ c2, .ret _ _ _ c3]) (by kernel_rfl)).to (by clear E1; (try simp only [IntKind.bits, and31, and63, and32, wrap_mod32, wrap_mod64] at *); simp [wk, wkL, wkO, stepsM, aluM, regOp, immOp, zeroImm, takeD, giveD, two, num, cmov, irD, ]; try ((try simp only [w_u64, w_i64, and32, IntKind.bits, Int.mul_one] at *); omega))
 have c4 := @l_take_ok 0 dst
 have c5 := @l_take_ok 1 src
 have c6 := @l_two_ok 2 64 0 1
 have c7 := @l_give_ok dst 0
 have c8 := @l_steps_ok ([(irD 1 0 0 0 0 0 0 0 0 dst 0 0 0), (irD 1 0 0 0 0 0 0 0 0 src 1 0 0), (irD 0 2 64 0 1 0 0 0 0 0 0 0 0), (irD 2 0 0 0 0 0 0 0 0 dst 0 0 0)])
 exact (o37 (d := .lst .tight 13 [(irD 1 0 0 0 0 0 0 0 0 dst 0 0 0), (irD 1 0 0 0 0 0 0 0 0 src 1 0 0), (irD 0 2 64 0 1 0 0 0 0 0 0 0 0), (irD 2 0 0 0 0 0 0 0 0 dst 0 0 0)]) (E1 ++ [.get tab_StepsL_0 0 (.int .i8 2) rfl, tT, .get tab_StepsL_0 1 (.int .i8 9) rfl, tT, .ret _ _ _ c4, .ret _ _ _ c5, .ret _ _ _ c6, .ret _ _ _ c7, .ret _ _ _ c8]) (by kernel_rfl)).to (by clear E1; (try simp only [IntKind.bits, and31, and63, and32, wrap_mod32, wrap_mod64] at *); simp [wk, wkL, wkO, stepsM, aluM, regOp, immOp, zeroImm, takeD, giveD, two, num, cmov, irD, ]; try ((try simp only [w_u64, w_i64, and32, IntKind.bits, Int.mul_one] at *); omega))
theorem does_0_1_32_ok : SpStepsL0 1 32 := by
 intro byReg dst src imm hi1 hi2
 let E1 : EL := [tT, .get ([D.fn (Fn.func 82) [] [], D.fn (Fn.func 83) [] [], D.fn (Fn.func 84) [] [], D.nilf, D.nilf, D.fn (Fn.func 85) [] [], D.fn (Fn.func 86) [] []]) 0 (D.fn (Fn.func 82) [] []) rfl, tT, .inl, tT, .get ([D.fn (Fn.func 136) [] [], D.fn (Fn.func 136) [] [], D.fn (Fn.func 137) [] [], D.fn (Fn.func 141) [] [], D.fn (Fn.func 136) [] [], D.fn (Fn.func 136) [] [], D.fn (Fn.func 140) [] [], D.fn (Fn.func 140) [] [], D.fn (Fn.func 138) [] [], D.fn (Fn.func 142) [] [], D.fn (Fn.func 136) [] [], D.fn (Fn.func 139) [] [], D.fn (Fn.func 140) [] []]) 1 (D.fn (Fn.func 136) [] []) rfl, .inl, .inl, tT]
 cases byReg
 ·have c0 := @l_take_ok 0 dst
  have c1 := @l_num_ok 12 32 0 imm
  have c2 := @l_give_ok dst 0
  have c3 := @l_steps_ok ([(irD 1 0 0 0 0 0 0 0 0 dst 0 0 0), (irD 0 12 32 0 0 0 0 imm 0 0 0 0 0), (irD 2 0 0 0 0 0 0 0 0 dst 0 0 0)])
  exact (o37 (d := .lst .tight 13 [(irD 1 0 0 0 0 0 0 0 0 dst 0 0 0), (irD 0 12 32 0 0 0 0 imm 0 0 0 0 0), (irD 2 0 0 0 0 0 0 0 0 dst 0 0 0)]) (E1 ++ [.get tab_StepsL_0 2 (.int .i8 5) rfl, tT, .get tab_StepsL_0 3 (.int .i8 12) rfl, tF, .ret _ _ _ c0, .ret _ _ _ c1, .ret _ _ _ c2, .ret _ _ _ c3]) (by kernel_rfl)).to (by clear E1; (try simp only [IntKind.bits, and31, and63, and32, wrap_mod32, wrap_mod64] at *); simp [wk, wkL, wkO, stepsM, aluM, regOp, immOp, zeroImm, takeD, giveD, two, num, cmov, irD, ]; try ((try simp only [w_u64, w_i64, and32, IntKind.bits, Int.mul_one] at *); omega))
 have c4 := @l_take_ok 0 dst
 have c5 := @l_take_ok 1 src
 have c6 := @l_two_ok 5 32 0 1
 have c7 := @l_give_ok dst 0
 have c8 := @l_steps_ok ([(irD 1 0 0 0 0 0 0 0 0 dst 0 0 0), (irD 1 0 0 0 0 0 0 0 0 src 1 0 0), (irD 0 5 32 0 1 0 0 0 0 0 0 0 0), (irD 2 0 0 0 0 0 0 0 0 dst 0 0 0)])
 exact (o37 (d := .lst .tight 13 [(irD 1 0 0 0 0 0 0 0 0 dst 0 0 0), (irD 1 0 0 0 0 0 0 0 0 src 1 0 0), (irD 0 5 32 0 1 0 0 0 0 0 0 0 0), (irD 2 0 0 0 0 0 0 0 0 dst 0 0 0)]) (E1 ++ [.get tab_StepsL_0 2 (.int .i8 5) rfl, tT, .get tab_StepsL_0 3 (.int .i8 12) rfl, tT, .ret _ _ _ c4, .ret _ _ _ c5, .ret _ _ _ c6, .ret _ _ _ c7, .ret _ _ _ c8]) (by kernel_rfl)).to (by clear E1; (try simp only [IntKind.bits, and31, and63, and32, wrap_mod32, wrap_mod64] at *); simp [wk, wkL, wkO, stepsM, aluM, regOp, immOp, zeroImm, takeD, giveD, two, num, cmov, irD, ]; try ((try simp only [w_u64, w_i64, and32, IntKind.bits, Int.mul_one] at *); omega))
theorem does_0_1_64_ok : SpStepsL0 1 64 := by
 intro byReg dst src imm hi1 hi2
 let E1 : EL := [tT, .get ([D.fn (Fn.func 82) [] [], D.fn (Fn.func 83) [] [], D.fn (Fn.func 84) [] [], D.nilf, D.nilf, D.fn (Fn.func 85) [] [], D.fn (Fn.func 86) [] []]) 0 (D.fn (Fn.func 82) [] []) rfl, tT, .inl, tT, .get ([D.fn (Fn.func 136) [] [], D.fn (Fn.func 136) [] [], D.fn (Fn.func 137) [] [], D.fn (Fn.func 141) [] [], D.fn (Fn.func 136) [] [], D.fn (Fn.func 136) [] [], D.fn (Fn.func 140) [] [], D.fn (Fn.func 140) [] [], D.fn (Fn.func 138) [] [], D.fn (Fn.func 142) [] [], D.fn (Fn.func 136) [] [], D.fn (Fn.func 139) [] [], D.fn (Fn.func 140) [] []]) 1 (D.fn (Fn.func 136) [] []) rfl, .inl, .inl, tT]
 cases byReg
 ·have c0 := @l_take_ok 0 dst
  have c1 := @l_num_ok 12 64 0 imm
  have c2 := @l_give_ok dst 0
  have c3 := @l_steps_ok ([(irD 1 0 0 0 0 0 0 0 0 dst 0 0 0), (irD 0 12 64 0 0 0 0 imm 0 0 0 0 0), (irD 2 0 0 0 0 0 0 0 0 dst 0 0 0)])
  exact (o37 (d := .lst .tight 13 [(irD 1 0 0 0 0 0 0 0 0 dst 0 0 0), (irD 0 12 64 0 0 0 0 imm 0 0 0 0 0), (irD 2 0 0 0 0 0 0 0 0 dst 0 0 0)]) (E1 ++ [.get tab_StepsL_0 2 (.int .i8 5) rfl, tT, .get tab_StepsL_0 3 (.int .i8 12) rfl, tF, .ret _ _ _ c0, .ret _ _ _ c1, .ret _ _ _ c2, .ret _ _ _ c3]) (by kernel_rfl)).to (by clear E1; (try simp only [IntKind.bits, and31, and63, and32, wrap_mod32, wrap_mod64] at *); simp [wk, wkL, wkO, stepsM, aluM, regOp, immOp, zeroImm, takeD, giveD, two, num, cmov, irD, ]; try ((try simp only [w_u64, w_i64, and32, IntKind.bits, Int.mul_one] at *); omega))
 have c4 := @l_take_ok 0 dst
 have c5 := @l_take_ok 1 src
 have c6 := @l_two_ok 5 64 0 1
 have c7 := @l_give_ok dst 0
 have c8 := @l_steps_ok ([(irD 1 0 0 0 0 0 0 0 0 dst 0 0 0), (irD 1 0 0 0 0 0 0 0 0 src 1 0 0), (irD 0 5 64 0 1 0 0 0 0 0 0 0 0), (irD 2 0 0 0 0 0 0 0 0 dst 0 0 0)])
 exact (o37 (d := .lst .tight 13 [(irD 1 0 0 0 0 0 0 0 0 dst 0 0 0), (irD 1 0 0 0 0 0 0 0 0 src 1 0 0), (irD 0 5 64 0 1 0 0 0 0 0 0 0 0), (irD 2 0 0 0 0 0 0 0 0 dst 0 0 0)]) (E1 ++ [.get tab_StepsL_0 2 (.int .i8 5) rfl, tT, .get tab_StepsL_0 3 (.int .i8 12) rfl, tT, .ret _ _ _ c4, .ret _ _ _ c5, .ret _ _ _ c6, .ret _ _ _ c7, .ret _ _ _ c8]) (by kernel_rfl)).to (by clear E1; (try simp only [IntKind.bits, and31, and63, and32, wrap_mod32, wrap_mod64] at *); simp [wk, wkL, wkO, stepsM, aluM, regOp, immOp, zeroImm, takeD, giveD, two, num, cmov, irD, ]; try ((try simp only [w_u64, w_i64, and32, IntKind.bits, Int.mul_one] at *); omega))
theorem does_0_2_32_ok : SpStepsL0 2 32 := by
 intro byReg dst src imm hi1 hi2
 have c0 := @l_num_ok 1 32 1 imm
 let E1 : EL := [tT, .get ([D.fn (Fn.func 82) [] [], D.fn (Fn.func 83) [] [], D.fn (Fn.func 84) [] [], D.nilf, D.nilf, D.fn (Fn.func 85) [] [], D.fn (Fn.func 86) [] []]) 0 (D.fn (Fn.func 82) [] []) rfl, tT, .inl, tT, .get ([D.fn (Fn.func 136) [] [], D.fn (Fn.func 136) [] [], D.fn (Fn.func 137) [] [], D.fn (Fn.func 141) [] [], D.fn (Fn.func 136) [] [], D.fn (Fn.func 136) [] [], D.fn (Fn.func 140) [] [], D.fn (Fn.func 140) [] [], D.fn (Fn.func 138) [] [], D.fn (Fn.func 142) [] [], D.fn (Fn.func 136) [] [], D.fn (Fn.func 139) [] [], D.fn (Fn.func 140) [] []]) 2 (D.fn (Fn.func 137) [] []) rfl, .inl, .ret _ _ _ c0]
 cases byReg
 ·have c1 := @l_take_ok 0 dst
  have c2 := @l_two_ok 16 32 0 1
  have c3 := @l_give_ok dst 0
  have c4 := @l_steps_ok ([(irD 1 0 0 0 0 0 0 0 0 dst 0 0 0), (irD 0 1 32 1 0 0 0 imm 0 0 0 0 0), (irD 0 16 32 0 1 0 0 0 0 0 0 0 0), (irD 2 0 0 0 0 0 0 0 0 dst 0 0 0)])
  exact (o37 (d := .lst .tight 13 [(irD 1 0 0 0 0 0 0 0 0 dst 0 0 0), (irD 0 1 32 1 0 0 0 imm 0 0 0 0 0), (irD 0 16 32 0 1 0 0 0 0 0 0 0 0), (irD 2 0 0 0 0 0 0 0 0 dst 0 0 0)]) (E1 ++ [tF, .ret _ _ _ c1, .ret _ _ _ c2, .ret _ _ _ c3, .ret _ _ _ c4]) (by kernel_rfl)).to (by clear E1; (try simp only [IntKind.bits, and31, and63, and32, wrap_mod32, wrap_mod64] at *); simp [wk, wkL, wkO, stepsM, aluM, regOp, immOp, zeroImm, takeD, giveD, two, num, cmov, irD, ]; try ((try simp only [w_u64, w_i64, and32, IntKind.bits, Int.mul_one] at *); omega))
 have c5 := @l_take_ok 1 src
 have c6 := @l_take_ok 0 dst
 have c7 := @l_two_ok 16 32 0 1
 have c8 := @l_give_ok dst 0
 have c9 := @l_steps_ok ([(irD 1 0 0 0 0 0 0 0 0 dst 0 0 0), (irD 1 0 0 0 0 0 0 0 0 src 1 0 0), (irD 0 16 32 0 1 0 0 0 0 0 0 0 0), (irD 2 0 0 0 0 0 0 0 0 dst 0 0 0)])
 exact (o37 (d := .lst .tight 13 [(irD 1 0 0 0 0 0 0 0 0 dst 0 0 0), (irD 1 0 0 0 0 0 0 0 0 src 1 0 0), (irD 0 16 32 0 1 0 0 0 0 0 0 0 0), (irD 2 0 0 0 0 0 0 0 0 dst 0 0 0)]) (E1 ++ [tT, .ret _ _ _ c5, .ret _ _ _ c6, .ret _ _ _ c7, .ret _ _ _ c8, .ret _ _ _ c9]) (by kernel_rfl)).to (by clear E1; (try simp only [IntKind.bits, and31, and63, and32, wrap_mod32, wrap_mod64] at *); simp [wk, wkL, wkO, stepsM, aluM, regOp, immOp, zeroImm, takeD, giveD, two, num, cmov, irD, ]; try ((try simp only [w_u64, w_i64, and32, IntKind.bits, Int.mul_one] at *); omega))
theorem does_0_2_64_ok : SpStepsL0 2 64 := by
 intro byReg dst src imm hi1 hi2
 have c0 := @l_num_ok 1 64 1 imm
 let E1 : EL := [tT, .get ([D.fn (Fn.func 82) [] [], D.fn (Fn.func 83) [] [], D.fn (Fn.func 84) [] [], D.nilf, D.nilf, D.fn (Fn.func 85) [] [], D.fn (Fn.func 86) [] []]) 0 (D.fn (Fn.func 82) [] []) rfl, tT, .inl, tT, .get ([D.fn (Fn.func 136) [] [], D.fn (Fn.func 136) [] [], D.fn (Fn.func 137) [] [], D.fn (Fn.func 141) [] [], D.fn (Fn.func 136) [] [], D.fn (Fn.func 136) [] [], D.fn (Fn.func 140) [] [], D.fn (Fn.func 140) [] [], D.fn (Fn.func 138) [] [], D.fn (Fn.func 142) [] [], D.fn (Fn.func 136) [] [], D.fn (Fn.func 139) [] [], D.fn (Fn.func 140) [] []]) 2 (D.fn (Fn.func 137) [] []) rfl, .inl, .ret _ _ _ c0]
 cases byReg
 ·have c1 := @l_take_ok 0 dst
  have c2 := @l_two_ok 16 64 0 1
  have c3 := @l_give_ok dst 0
  have c4 := @l_steps_ok ([(irD 1 0 0 0 0 0 0 0 0 dst 0 0 0), (irD 0 1 64 1 0 0 0 imm 0 0 0 0 0), (irD 0 16 64 0 1 0 0 0 0 0 0 0 0), (irD 2 0 0 0 0 0 0 0 0 dst 0 0 0)])
  exact (o37 (d := .lst .tight 13 [(irD 1 0 0 0 0 0 0 0 0 dst 0 0 0), (irD 0 1 64 1 0 0 0 imm 0 0 0 0 0), (irD 0 16 64 0 1 0 0 0 0 0 0 0 0), (irD 2 0 0 0 0 0 0 0 0 dst 0 0 0)]) (E1 ++ [tF, .ret _ _ _ c1, .ret _ _ _ c2, .ret _ _ _ c3, .ret _ _ _ c4]) (by kernel_rfl)).to (by clear E1; (try simp only [IntKind.bits, and31, and63, and32, wrap_mod32, wrap_mod64] at *); simp [wk, wkL, wkO, stepsM, aluM, regOp, immOp, zeroImm, takeD, giveD, two, num, cmov, irD, ]; try ((try simp only [w_u64, w_i64, and32, IntKind.bits, Int.mul_one] at *); omega))
 have c5 := @l_take_ok 1 src
 have c6 := @l_take_ok 0 dst
 have c7 := @l_two_ok 16 64 0 1
 have c8 := @l_give_ok dst 0
 have c9 := @l_steps_ok ([(irD 1 0 0 0 0 0 0 0 0 dst 0 0 0), (irD 1 0 0 0 0 0 0 0 0 src 1 0 0), (irD 0 16 64 0 1 0 0 0 0 0 0 0 0), (irD 2 0 0 0 0 0 0 0 0 dst 0 0 0)])
 exact (o37 (d := .lst .tight 13 [(irD 1 0 0 0 0 0 0 0 0 dst 0 0 0), (irD 1 0 0 0 0 0 0 0 0 src 1 0 0), (irD 0 16 64 0 1 0 0 0 0 0 0 0 0), (irD 2 0 0 0 0 0 0 0 0 dst 0 0 0)]) (E1 ++ [tT, .ret _ _ _ c5, .ret _ _ _ c6, .ret _ _ _ c7, .ret _ _ _ c8, .ret _ _ _ c9]) (by kernel_rfl)).to (by clear E1; (try simp only [IntKind.bits, and31, and63, and32, wrap_mod32, wrap_mod64] at *); simp [wk, wkL, wkO, stepsM, aluM, regOp, immOp, zeroImm, takeD, giveD, two, num, cmov, irD, ]; try ((try simp only [w_u64, w_i64, and32, IntKind.bits, Int.mul_one] at *); omega))
theorem does_0_3_32_ok : SpStepsL0 3 32 := by
 intro byReg dst src imm hi1 hi2
 let E1 : EL := [tT, .get ([D.fn (Fn.func 82) [] [], D.fn (Fn.func 83) [] [], D.fn (Fn.func 84) [] [], D.nilf, D.nilf, D.fn (Fn.func 85) [] [], D.fn (Fn.func 86) [] []]) 0 (D.fn (Fn.func 82) [] []) rfl, tT, .inl, tT, .get ([D.fn (Fn.func 136) [] [], D.fn (Fn.func 136) [] [], D.fn (Fn.func 137) [] [], D.fn (Fn.func 141) [] [], D.fn (Fn.func 136) [] [], D.fn (Fn.func 136) [] [], D.fn (Fn.func 140) [] [], D.fn (Fn.func 140) [] [], D.fn (Fn.func 138) [] [], D.fn (Fn.func 142) [] [], D.fn (Fn.func 136) [] [], D.fn (Fn.func 139) [] [], D.fn (Fn.func 140) [] []]) 3 (D.fn (Fn.func 141) [] []) rfl, .inl, .inl]
 cases byReg
 ·by_cases h0 : IntKind.wrap IntKind.u64 (IntKind.wrap IntKind.u64 imm * 4294967296) = 0
  ·have c1 := @l_num_ok 1 32 0 0
   have c2 := @l_give_ok dst 0
   have c3 := @l_steps_ok ([(irD 0 1 32 0 0 0 0 0 0 0 0 0 0), (irD 2 0 0 0 0 0 0 0 0 dst 0 0 0)])
   exact (o37 (d := .lst .tight 13 [(irD 0 1 32 0 0 0 0 0 0 0 0 0 0), (irD 2 0 0 0 0 0 0 0 0 dst 0 0 0)]) (E1 ++ List.replicate 11 tT ++ [tC (eqI 0 true h0), .ret _ _ _ c1, .ret _ _ _ c2, .ret _ _ _ c3]) (by kernel_rfl)).to (by clear E1; (try simp only [IntKind.bits, and31, and63, and32, wrap_mod32, wrap_mod64] at *); simp [wk, wkL, wkO, stepsM, aluM, regOp, immOp, zeroImm, takeD, giveD, two, num, cmov, irD, h0]; try ((try simp only [w_u64, w_i64, and32, IntKind.bits, Int.mul_one] at *); omega))
  have c4 := @l_num_ok 1 32 11 0
  have c5 := @l_give_ok dst 0
  have c6 := @l_take_ok 0 dst
  have c7 := @l_steps_ok ([(irD 1 0 0 0 0 0 0 0 0 dst 0 0 0)])
  have c8 := @l_num_ok 1 32 1 imm
  have c9 := @l_num_ok 1 32 2 0
  have c10 := @l_one_ok 24 32 1
  exact (o37 (d := .lst (.fresh 13) 13 [(irD 1 0 0 0 0 0 0 0 0 dst 0 0 0), (irD 0 1 32 1 0 0 0 imm 0 0 0 0 0), (irD 0 1 32 2 0 0 0 0 0 0 0 0 0), (irD 0 24 32 1 0 0 0 0 0 0 0 0 0), (irD 2 0 0 0 0 0 0 0 0 dst 0 0 0)]) (E1 ++ List.replicate 11 tT ++ [tC (neOf h0), .ret _ _ _ c4, .inl, .ret _ _ _ c5, .ret _ _ _ c6, .ret _ _ _ c7, tT, .ret _ _ _ c8, .ret _ _ _ c9, .ret _ _ _ c10, .len 5 2147483648 (by decide)]) (by kernel_rfl)).to (by clear E1; (try simp only [IntKind.bits, and31, and63, and32, wrap_mod32, wrap_mod64] at *); simp [wk, wkL, wkO, stepsM, aluM, regOp, immOp, zeroImm, takeD, giveD, two, num, cmov, irD, h0]; try ((try simp only [w_u64, w_i64, and32, IntKind.bits, Int.mul_one] at *); omega))
 have c11 := @l_num_ok 1 32 11 0
 have c12 := @l_give_ok dst 0
 have c13 := @l_take_ok 0 dst
 have c14 := @l_steps_ok ([(irD 1 0 0 0 0 0 0 0 0 dst 0 0 0)])
 have c15 := @l_take_ok 1 src
 have c16 := @l_num_ok 1 32 2 0
 have c17 := @l_num_ok 1 32 11 1
 have c18 := @l_choose_ok 32 1
 have c19 := @l_one_ok 24 32 1
 have c20 := @l_take_ok 1 src
 have c21 := @l_choose_ok 32 0
 exact (o37 (d := .lst (.fresh 13) 13 [(irD 1 0 0 0 0 0 0 0 0 dst 0 0 0), (irD 1 0 0 0 0 0 0 0 0 src 1 0 0), (irD 0 1 32 2 0 0 0 0 0 0 0 0 0), (irD 0 1 32 11 0 0 0 1 0 0 0 0 0), (irD 0 8 32 1 1 0 0 0 0 0 0 0 0), (irD 0 25 32 1 11 0 0 0 4 0 0 0 0), (irD 0 24 32 1 0 0 0 0 0 0 0 0 0), (irD 1 0 0 0 0 0 0 0 0 src 1 0 0), (irD 0 1 32 11 0 0 0 0 0 0 0 0 0), (irD 0 8 32 1 1 0 0 0 0 0 0 0 0), (irD 0 25 32 0 11 0 0 0 4 0 0 0 0), (irD 2 0 0 0 0 0 0 0 0 dst 0 0 0)]) (E1 ++ List.replicate 11 tF ++ [.ret _ _ _ c11, .inl, .ret _ _ _ c12, .ret _ _ _ c13, .ret _ _ _ c14, tF, .ret _ _ _ c15, .ret _ _ _ c16, .ret _ _ _ c17, .len 4 2147483648 (by decide), .ret _ _ _ c18, .len 6 2147483648 (by decide), .ret _ _ _ c19, .ret _ _ _ c20, .len 9 2147483648 (by decide), .ret _ _ _ c21, .len 11 2147483648 (by decide), .len 12 2147483648 (by decide)]) (by kernel_rfl)).to (by clear E1; (try simp only [IntKind.bits, and31, and63, and32, wrap_mod32, wrap_mod64] at *); simp [wk, wkL, wkO, stepsM, aluM, regOp, immOp, zeroImm, takeD, giveD, two, num, cmov, irD, ]; try ((try simp only [w_u64, w_i64, and32, IntKind.bits, Int.mul_one] at *); omega))
theorem does_0_3_64_ok : SpStepsL0 3 64 := by
 intro byReg dst src imm hi1 hi2
 let E1 : EL := [tT, .get ([D.fn (Fn.func 82) [] [], D.fn (Fn.func 83) [] [], D.fn (Fn.func 84) [] [], D.nilf, D.nilf, D.fn (Fn.func 85) [] [], D.fn (Fn.func 86) [] []]) 0 (D.fn (Fn.func 82) [] []) rfl, tT, .inl, tT, .get ([D.fn (Fn.func 136) [] [], D.fn (Fn.func 136) [] [], D.fn (Fn.func 137) [] [], D.fn (Fn.func 141) [] [], D.fn (Fn.func 136) [] [], D.fn (Fn.func 136) [] [], D.fn (Fn.func 140) [] [], D.fn (Fn.func 140) [] [], D.fn (Fn.func 138) [] [], D.fn (Fn.func 142) [] [], D.fn (Fn.func 136) [] [], D.fn (Fn.func 139) [] [], D.fn (Fn.func 140) [] []]) 3 (D.fn (Fn.func 141) [] []) rfl, .inl, .inl]
 cases byReg
 ·by_cases h0 : IntKind.wrap IntKind.u64 (IntKind.wrap IntKind.u64 imm * 1) = 0
  ·have c1 := @l_num_ok 1 64 0 0
   have c2 := @l_give_ok dst 0
   have c3 := @l_steps_ok ([(irD 0 1 64 0 0 0 0 0 0 0 0 0 0), (irD 2 0 0 0 0 0 0 0 0 dst 0 0 0)])
   exact (o37 (d := .lst .tight 13 [(irD 0 1 64 0 0 0 0 0 0 0 0 0 0), (irD 2 0 0 0 0 0 0 0 0 dst 0 0 0)]) (E1 ++ List.replicate 11 tT ++ [tC (eqI 0 true h0), .ret _ _ _ c1, .ret _ _ _ c2, .ret _ _ _ c3]) (by kernel_rfl)).to (by clear E1; (try simp only [IntKind.bits, and31, and63, and32, wrap_mod32, wrap_mod64] at *); simp [wk, wkL, wkO, stepsM, aluM, regOp, immOp, zeroImm, takeD, giveD, two, num, cmov, irD, h0]; try ((try simp only [w_u64, w_i64, and32, IntKind.bits, Int.mul_one] at *); omega))
  have c4 := @l_num_ok 1 32 11 0
  have c5 := @l_give_ok dst 0
  have c6 := @l_take_ok 0 dst
  have c7 := @l_steps_ok ([(irD 1 0 0 0 0 0 0 0 0 dst 0 0 0)])
  have c8 := @l_num_ok 1 64 1 imm
  have c9 := @l_num_ok 1 32 2 0
  have c10 := @l_one_ok 24 64 1
  exact (o37 (d := .lst (.fresh 13) 13 [(irD 1 0 0 0 0 0 0 0 0 dst 0 0 0), (irD 0 1 64 1 0 0 0 imm 0 0 0 0 0), (irD 0 1 32 2 0 0 0 0 0 0 0 0 0), (irD 0 24 64 1 0 0 0 0 0 0 0 0 0), (irD 2 0 0 0 0 0 0 0 0 dst 0 0 0)]) (E1 ++ List.replicate 11 tT ++ [tC (neOf h0), .ret _ _ _ c4, .inl, .ret _ _ _ c5, .ret _ _ _ c6, .ret _ _ _ c7, tT, .ret _ _ _ c8, .ret _ _ _ c9, .ret _ _ _ c10, .len 5 2147483648 (by decide)]) (by kernel_rfl)).to (by clear E1; (try simp only [IntKind.bits, and31, and63, and32, wrap_mod32, wrap_mod64] at *); simp [wk, wkL, wkO, stepsM, aluM, regOp, immOp, zeroImm, takeD, giveD, two, num, cmov, irD, h0]; try ((try simp only [w_u64, w_i64, and32, IntKind.bits, Int.mul_one] at *); omega))
 have c11 := @l_num_ok 1 32 11 0
 have c12 := @l_give_ok dst 0
 have c13 := @l_take_ok 0 dst
 have c14 := @l_steps_ok ([(irD 1 0 0 0 0 0 0 0 0 dst 0 0 0)])
 have c15 := @l_take_ok 1 src
 have c16 := @l_num_ok 1 32 2 0
 have c17 := @l_num_ok 1 32 11 1
 have c18 := @l_choose_ok 64 1
 have c19 := @l_one_ok 24 64 1
 have c20 := @l_take_ok 1 src
 have c21 := @l_choose_ok 64 0
 exact (o37 (d := .lst (.fresh 13) 13 [(irD 1 0 0 0 0 0 0 0 0 dst 0 0 0), (irD 1 0 0 0 0 0 0 0 0 src 1 0 0), (irD 0 1 32 2 0 0 0 0 0 0 0 0 0), (irD 0 1 32 11 0 0 0 1 0 0 0 0 0), (irD 0 8 64 1 1 0 0 0 0 0 0 0 0), (irD 0 25 64 1 11 0 0 0 4 0 0 0 0), (irD 0 24 64 1 0 0 0 0 0 0 0 0 0), (irD 1 0 0 0 0 0 0 0 0 src 1 0 0), (irD 0 1 32 11 0 0 0 0 0 0 0 0 0), (irD 0 8 64 1 1 0 0 0 0 0 0 0 0), (irD 0 25 64 0 11 0 0 0 4 0 0 0 0), (irD 2 0 0 0 0 0 0 0 0 dst 0 0 0)]) (E1 ++ List.replicate 11 tF ++ [.ret _ _ _ c11, .inl, .ret _ _ _ c12, .ret _ _ _ c13, .ret _ _ _ c14, tF, .ret _ _ _ c15, .ret _ _ _ c16, .ret _ _ _ c17, .len 4 2147483648 (by decide), .ret _ _ _ c18, .len 6 2147483648 (by decide), .ret _ _ _ c19, .ret _ _ _ c20, .len 9 2147483648 (by decide), .ret _ _ _ c21, .len 11 2147483648 (by decide), .len 12 2147483648 (by decide)]) (by kernel_rfl)).to (by clear E1; (try simp only [IntKind.bits, and31, and63, and32, wrap_mod32, wrap_mod64] at *); simp [wk, wkL, wkO, stepsM, aluM, regOp, immOp, zeroImm, takeD, giveD, two, num, cmov, irD, ]; try ((try simp only [w_u64, w_i64, and32, IntKind.bits, Int.mul_one] at *); omega))
theorem does_0_4_32_ok : SpStepsL0 4 32 := by
 intro byReg dst src imm hi1 hi2
 let E1 : EL := [tT, .get ([D.fn (Fn.func 82) [] [], D.fn (Fn.func 83) [] [], D.fn (Fn.func 84) [] [], D.nilf, D.nilf, D.fn (Fn.func 85) [] [], D.fn (Fn.func 86) [] []]) 0 (D.fn (Fn.func 82) [] []) rfl, tT, .inl, tT, .get ([D.fn (Fn.func 136) [] [], D.fn (Fn.func 136) [] [], D.fn (Fn.func 137) [] [], D.fn (Fn.func 141) [] [], D.fn (Fn.func 136) [] [], D.fn (Fn.func 136) [] [], D.fn (Fn.func 140) [] [], D.fn (Fn.func 140) [] [], D.fn (Fn.func 138) [] [], D.fn (Fn.func 142) [] [], D.fn (Fn.func 136) [] [], D.fn (Fn.func 139) [] [], D.fn (Fn.func 140) [] []]) 4 (D.fn (Fn.func 136) [] []) rfl, .inl, .inl, tT]
 cases byReg
 ·have c0 := @l_take_ok 0 dst
  have c1 := @l_num_ok 10 32 0 imm
  have c2 := @l_give_ok dst 0
  have c3 := @l_steps_ok ([(irD 1 0 0 0 0 0 0 0 0 dst 0 0 0), (irD 0 10 32 0 0 0 0 imm 0 0 0 0 0), (irD 2 0 0 0 0 0 0 0 0 dst 0 0 0)])
  exact (o37 (d := .lst .tight 13 [(irD 1 0 0 0 0 0 0 0 0 dst 0 0 0), (irD 0 10 32 0 0 0 0 imm 0 0 0 0 0), (irD 2 0 0 0 0 0 0 0 0 dst 0 0 0)]) (E1 ++ [.get tab_StepsL_0 8 (.int .i8 3) rfl, tT, .get tab_StepsL_0 9 (.int .i8 10) rfl, tF, .ret _ _ _ c0, .ret _ _ _ c1, .ret _ _ _ c2, .ret _ _ _ c3]) (by kernel_rfl)).to (by clear E1; (try simp only [IntKind.bits, and31, and63, and32, wrap_mod32, wrap_mod64] at *); simp [wk, wkL, wkO, stepsM, aluM, regOp, immOp, zeroImm, takeD, giveD, two, num, cmov, irD, ]; try ((try simp only [w_u64, w_i64, and32, IntKind.bits, Int.mul_one] at *); omega))
 have c4 := @l_take_ok 0 dst
 have c5 := @l_take_ok 1 src
 have c6 := @l_two_ok 3 32 0 1
 have c7 := @l_give_ok dst 0
 have c8 := @l_steps_ok ([(irD 1 0 0 0 0 0 0 0 0 dst 0 0 0), (irD 1 0 0 0 0 0 0 0 0 src 1 0 0), (irD 0 3 32 0 1 0 0 0 0 0 0 0 0), (irD 2 0 0 0 0 0 0 0 0 dst 0 0 0)])
 exact (o37 (d := .lst .tight 13 [(irD 1 0 0 0 0 0 0 0 0 dst 0 0 0), (irD 1 0 0 0 0 0 0 0 0 src 1 0 0), (irD 0 3 32 0 1 0 0 0 0 0 0 0 0), (irD 2 0 0 0 0 0 0 0 0 dst 0 0 0)]) (E1 ++ [.get tab_StepsL_0 8 (.int .i8 3) rfl, tT, .get tab_StepsL_0 9 (.int .i8 10) rfl, tT, .ret _ _ _ c4, .ret _ _ _ c5, .ret _ _ _ c6, .ret _ _ _ c7, .ret _ _ _ c8]) (by kernel_rfl)).to (by clear E1; (try simp only [IntKind.bits, and31, and63, and32, wrap_mod32, wrap_mod64] at *); simp [wk, wkL, wkO, stepsM, aluM, regOp, immOp, zeroImm, takeD, giveD, two, num, cmov, irD, ]; try ((try simp only [w_u64, w_i64, and32, IntKind.bits, Int.mul_one] at *); omega))
theorem does_0_4_64_ok : SpStepsL0 4 64 := by
 intro byReg dst src imm hi1 hi2
 let E1 : EL := [tT, .get ([D.fn (Fn.func 82) [] [], D.fn (Fn.func 83) [] [], D.fn (Fn.func 84) [] [], D.nilf, D.nilf, D.fn (Fn.func 85) [] [], D.fn (Fn.func 86) [] []]) 0 (D.fn (Fn.func 82) [] []) rfl, tT, .inl, tT, .get ([D.fn (Fn.func 136) [] [], D.fn (Fn.func 136) [] [], D.fn (Fn.func 137) [] [], D.fn (Fn.func 141) [] [], D.fn (Fn.func 136) [] [], D.fn (Fn.func 136) [] [], D.fn (Fn.func 140) [] [], D.fn (Fn.func 140) [] [], D.fn (Fn.func 138) [] [], D.fn (Fn.func 142) [] [], D.fn (Fn.func 136) [] [], D.fn (Fn.func 139) [] [], D.fn (Fn.func 140) [] []]) 4 (D.fn (Fn.func 136) [] []) rfl, .inl, .inl, tT]
 cases byReg
 ·have c0 := @l_take_ok 0 dst
  have c1 := @l_num_ok 10 64 0 imm
  have c2 := @l_give_ok dst 0
  have c3 := @l_steps_ok ([(irD 1 0 0 0 0 0 0 0 0 dst 0 0 0), (irD 0 10 64 0 0 0 0 imm 0 0 0 0 0), (irD 2 0 0 0 0 0 0 0 0 dst 0 0 0)])
  exact (o37 (d := .lst .tight 13 [(irD 1 0 0 0 0 0 0 0 0 dst 0 0 0), (irD 0 10 64 0 0 0 0 imm 0 0 0 0 0), (irD 2 0 0 0 0 0 0 0 0 dst 0 0 0)]) (E1 ++ [.get tab_StepsL_0 8 (.int .i8 3) rfl, tT, .get tab_StepsL_0 9 (.int .i8 10) rfl, tF, .ret _ _ _ c0, .ret _ _ _ c1, .ret _ _ _ c2, .ret _ _ _ c3]) (by kernel_rfl)).to (by clear E1; (try simp only [IntKind.bits, and31, and63, and32, wrap_mod32, wrap_mod64] at *); simp [wk, wkL, wkO, stepsM, aluM, regOp, immOp, zeroImm, takeD, giveD, two, num, cmov, irD, ]; try ((try simp only [w_u64, w_i64, and32, IntKind.bits, Int.mul_one] at *); omega))
 have c4 := @l_take_ok 0 dst
 have c5 := @l_take_ok 1 src
 have c6 := @l_two_ok 3 64 0 1
 have c7 := @l_give_ok dst 0
 have c8 := @l_steps_ok ([(irD 1 0 0 0 0 0 0 0 0 dst 0 0 0), (irD 1 0 0 0 0 0 0 0 0 src 1 0 0), (irD 0 3 64 0 1 0 0 0 0 0 0 0 0), (irD 2 0 0 0 0 0 0 0 0 dst 0 0 0)])
 exact (o37 (d := .lst .tight 13 [(irD 1 0 0 0 0 0 0 0 0 dst 0 0 0), (irD 1 0 0 0 0 0 0 0 0 src 1 0 0), (irD 0 3 64 0 1 0 0 0 0 0 0 0 0), (irD 2 0 0 0 0 0 0 0 0 dst 0 0 0)]) (E1 ++ [.get tab_StepsL_0 8 (.int .i8 3) rfl, tT, .get tab_StepsL_0 9 (.int .i8 10) rfl, tT, .ret _ _ _ c4, .ret _ _ _ c5, .ret _ _ _ c6, .ret _ _ _ c7, .ret _ _ _ c8]) (by kernel_rfl)).to (by clear E1; (try simp only [IntKind.bits, and31, and63, and32, wrap_mod32, wrap_mod64] at *); simp [wk, wkL, wkO, stepsM, aluM, regOp, immOp, zeroImm, takeD, giveD, two, num, cmov, irD, ]; try ((try simp only [w_u64, w_i64, and32, IntKind.bits, Int.mul_one] at *); omega))
theorem does_0_5_32_ok : SpStepsL0 5 32 := by
 intro byReg dst src imm hi1 hi2
 let E1 : EL := [tT, .get ([D.fn (Fn.func 82) [] [], D.fn (Fn.func 83) [] [], D.fn (Fn.func 84) [] [], D.nilf, D.nilf, D.fn (Fn.func 85) [] [], D.fn (Fn.func 86) [] []]) 0 (D.fn (Fn.func 82) [] []) rfl, tT, .inl, tT, .get ([D.fn (Fn.func 136) [] [], D.fn (Fn.func 136) [] [], D.fn (Fn.func 137) [] [], D.fn (Fn.func 141) [] [], D.fn (Fn.func 136) [] [], D.fn (Fn.func 136) [] [], D.fn (Fn.func 140) [] [], D.fn (Fn.func 140) [] [], D.fn (Fn.func 138) [] [], D.fn (Fn.func 142) [] [], D.fn (Fn.func 136) [] [], D.fn (Fn.func 139) [] [], D.fn (Fn.func 140) [] []]) 5 (D.fn (Fn.func 136) [] []) rfl, .inl, .inl, tT]
 cases byReg
 ·have c0 := @l_take_ok 0 dst
  have c1 := @l_num_ok 11 32 0 imm
  have c2 := @l_give_ok dst 0
  have c3 := @l_steps_ok ([(irD 1 0 0 0 0 0 0 0 0 dst 0 0 0), (irD 0 11 32 0 0 0 0 imm 0 0 0 0 0), (irD 2 0 0 0 0 0 0 0 0 dst 0 0 0)])
  exact (o37 (d := .lst .tight 13 [(irD 1 0 0 0 0 0 0 0 0 dst 0 0 0), (irD 0 11 32 0 0 0 0 imm 0 0 0 0 0), (irD 2 0 0 0 0 0 0 0 0 dst 0 0 0)]) (E1 ++ [.get tab_StepsL_0 10 (.int .i8 4) rfl, tT, .get tab_StepsL_0 11 (.int .i8 11) rfl, tF, .ret _ _ _ c0, .ret _ _ _ c1, .ret _ _ _ c2, .ret _ _ _ c3]) (by kernel_rfl)).to (by clear E1; (try simp only [IntKind.bits, and31, and63, and32, wrap_mod32, wrap_mod64] at *); simp [wk, wkL, wkO, stepsM, aluM, regOp, immOp, zeroImm, takeD, giveD, two, num, cmov, irD, ]; try ((try simp only [w_u64, w_i64, and32, IntKind.bits, Int.mul_one] at *); omega))
 have c4 := @l_take_ok 0 dst
 have c5 := @l_take_ok 1 src
 have c6 := @l_two_ok 4 32 0 1
 have c7 := @l_give_ok dst 0
 have c8 := @l_steps_ok ([(irD 1 0 0 0 0 0 0 0 0 dst 0 0 0), (irD 1 0 0 0 0 0 0 0 0 src 1 0 0), (irD 0 4 32 0 1 0 0 0 0 0 0 0 0), (irD 2 0 0 0 0 0 0 0 0 dst 0 0 0)])
 exact (o37 (d := .lst .tight 13 [(irD 1 0 0 0 0 0 0 0 0 dst 0 0 0), (irD 1 0 0 0 0 0 0 0 0 src 1 0 0), (irD 0 4 32 0 1 0 0 0 0 0 0 0 0), (irD 2 0 0 0 0 0 0 0 0 dst 0 0 0)]) (E1 ++ [.get tab_StepsL_0 10 (.int .i8 4) rfl, tT, .get tab_StepsL_0 11 (.int .i8 11) rfl, tT, .ret _ _ _ c4, .ret _ _ _ c5, .ret _ _ _ c6, .ret _ _ _ c7, .ret _ _ _ c8]) (by kernel_rfl)).to (by clear E1; (try simp only [IntKind.bits, and31, and63, and32, wrap_mod32, wrap_mod64] at *); simp [wk, wkL, wkO, stepsM, aluM, regOp, immOp, zeroImm, takeD, giveD, two, num, cmov, irD, ]; try ((try simp only [w_u64, w_i64, and32, IntKind.bits, Int.mul_one] at *); omega))
theorem does_0_5_64_ok : SpStepsL0 5 64 := by
 intro byReg dst src imm hi1 hi2
 let E1 : EL := [tT, .get ([D.fn (Fn.func 82) [] [], D.fn (Fn.func 83) [] [], D.fn (Fn.func 84) [] [], D.nilf, D.nilf, D.fn (Fn.func 85) [] [], D.fn (Fn.func 86) [] []]) 0 (D.fn (Fn.func 82) [] []) rfl, tT, .inl, tT, .get ([D.fn (Fn.func 136) [] [], D.fn (Fn.func 136) [] [], D.fn (Fn.func 137) [] [], D.fn (Fn.func 141) [] [], D.fn (Fn.func 136) [] [], D.fn (Fn.func 136) [] [], D.fn (Fn.func 140) [] [], D.fn (Fn.func 140) [] [], D.fn (Fn.func 138) [] [], D.fn (Fn.func 142) [] [], D.fn (Fn.func 136) [] [], D.fn (Fn.func 139) [] [], D.fn (Fn.func 140) [] []]) 5 (D.fn (Fn.func 136) [] []) rfl, .inl, .inl, tT]
 cases byReg
 ·have c0 := @l_take_ok 0 dst
  have c1 := @l_num_ok 11 64 0 imm
  have c2 := @l_give_ok dst 0
  have c3 := @l_steps_ok ([(irD 1 0 0 0 0 0 0 0 0 dst 0 0 0), (irD 0 11 64 0 0 0 0 imm 0 0 0 0 0), (irD 2 0 0 0 0 0 0 0 0 dst 0 0 0)])
  exact (o37 (d := .lst .tight 13 [(irD 1 0 0 0 0 0 0 0 0 dst 0 0 0), (irD 0 11 64 0 0 0 0 imm 0 0 0 0 0), (irD 2 0 0 0 0 0 0 0 0 dst 0 0 0)]) (E1 ++ [.get tab_StepsL_0 10 (.int .i8 4) rfl, tT, .get tab_StepsL_0 11 (.int .i8 11) rfl, tF, .ret _ _ _ c0, .ret _ _ _ c1, .ret _ _ _ c2, .ret _ _ _ c3]) (by kernel_rfl)).to (by clear E1; (try simp only [IntKind.bits, and31, and63, and32, wrap_mod32, wrap_mod64] at *); simp [wk, wkL, wkO, stepsM, aluM, regOp, immOp, zeroImm, takeD, giveD, two, num, cmov, irD, ]; try ((try simp only [w_u64, w_i64, and32, IntKind.bits, Int.mul_one] at *); omega))
 have c4 := @l_take_ok 0 dst
 have c5 := @l_take_ok 1 src
 have c6 := @l_two_ok 4 64 0 1
 have c7 := @l_give_ok dst 0
 have c8 := @l_steps_ok ([(irD 1 0 0 0 0 0 0 0 0 dst 0 0 0), (irD 1 0 0 0 0 0 0 0 0 src 1 0 0), (irD 0 4 64 0 1 0 0 0 0 0 0 0 0), (irD 2 0 0 0 0 0 0 0 0 dst 0 0 0)])
 exact (o37 (d := .lst .tight 13 [(irD 1 0 0 0 0 0 0 0 0 dst 0 0 0), (irD 1 0 0 0 0 0 0 0 0 src 1 0 0), (irD 0 4 64 0 1 0 0 0 0 0 0 0 0), (irD 2 0 0 0 0 0 0 0 0 dst 0 0 0)]) (E1 ++ [.get tab_StepsL_0 10 (.int .i8 4) rfl, tT, .get tab_StepsL_0 11 (.int .i8 11) rfl, tT, .ret _ _ _ c4, .ret _ _ _ c5, .ret _ _ _ c6, .ret _ _ _ c7, .ret _ _ _ c8]) (by kernel_rfl)).to (by clear E1; (try simp only [IntKind.bits, and31, and63, and32, wrap_mod32, wrap_mod64] at *); simp [wk, wkL, wkO, stepsM, aluM, regOp, immOp, zeroImm, takeD, giveD, two, num, cmov, irD, ]; try ((try simp only [w_u64, w_i64, and32, IntKind.bits, Int.mul_one] at *); omega))
theorem does_0_6_32_ok : SpStepsL0 6 32 := by
 intro byReg dst src imm hi1 hi2
 let E1 : EL := [tT, .get ([D.fn (Fn.func 82) [] [], D.fn (Fn.func 83) [] [], D.fn (Fn.func 84) [] [], D.nilf, D.nilf, D.fn (Fn.func 85) [] [], D.fn (Fn.func 86) [] []]) 0 (D.fn (Fn.func 82) [] []) rfl, tT, .inl, tT, .get ([D.fn (Fn.func 136) [] [], D.fn (Fn.func 136) [] [], D.fn (Fn.func 137) [] [], D.fn (Fn.func 141) [] [], D.fn (Fn.func 136) [] [], D.fn (Fn.func 136) [] [], D.fn (Fn.func 140) [] [], D.fn (Fn.func 140) [] [], D.fn (Fn.func 138) [] [], D.fn (Fn.func 142) [] [], D.fn (Fn.func 136) [] [], D.fn (Fn.func 139) [] [], D.fn (Fn.func 140) [] []]) 6 (D.fn (Fn.func 140) [] []) rfl, .inl, .inl, tT]
 cases byReg
 ·have c0 := @l_take_ok 0 dst
  have c1 := @l_num_ok 17 32 0 (IntKind.wrap IntKind.i64 (↑(BitVec.toNat (BitVec.ofInt (64 : Nat) imm &&& BitVec.ofInt (64 : Nat) 31)) : Int))
  have c2 := @l_give_ok dst 0
  have c3 := @l_steps_ok ([(irD 1 0 0 0 0 0 0 0 0 dst 0 0 0), (irD 0 17 32 0 0 0 0 (IntKind.wrap IntKind.i64 (↑(BitVec.toNat (BitVec.ofInt (64 : Nat) imm &&& BitVec.ofInt (64 : Nat) 31)) : Int)) 0 0 0 0 0), (irD 2 0 0 0 0 0 0 0 0 dst 0 0 0)])
  exact (o37 (d := .lst .tight 13 [(irD 1 0 0 0 0 0 0 0 0 dst 0 0 0), (irD 0 17 32 0 0 0 0 (IntKind.wrap IntKind.i64 (↑(BitVec.toNat (BitVec.ofInt (64 : Nat) imm &&& BitVec.ofInt (64 : Nat) 31)) : Int)) 0 0 0 0 0), (irD 2 0 0 0 0 0 0 0 0 dst 0 0 0)]) (E1 ++ [.get tab_StepsL_0 12 (.int .i8 20) rfl, tT, .get tab_StepsL_0 13 (.int .i8 17) rfl, tF, .ret _ _ _ c0, .ret _ _ _ c1, .ret _ _ _ c2, .ret _ _ _ c3]) (by kernel_rfl)).to (by clear E1; (try simp only [IntKind.bits, and31, and63, and32, wrap_mod32, wrap_mod64] at *); simp [wk, wkL, wkO, stepsM, aluM, regOp, immOp, zeroImm, takeD, giveD, two, num, cmov, irD, ]; try ((try simp only [w_u64, w_i64, and32, IntKind.bits, Int.mul_one] at *); omega))
 have c4 := @l_take_ok 0 dst
 have c5 := @l_take_ok 1 src
 have c6 := @l_one_ok 20 32 0
 have c7 := @l_give_ok dst 0
 have c8 := @l_steps_ok ([(irD 1 0 0 0 0 0 0 0 0 dst 0 0 0), (irD 1 0 0 0 0 0 0 0 0 src 1 0 0), (irD 0 20 32 0 0 0 0 0 0 0 0 0 0), (irD 2 0 0 0 0 0 0 0 0 dst 0 0 0)])
 exact (o37 (d := .lst .tight 13 [(irD 1 0 0 0 0 0 0 0 0 dst 0 0 0), (irD 1 0 0 0 0 0 0 0 0 src 1 0 0), (irD 0 20 32 0 0 0 0 0 0 0 0 0 0), (irD 2 0 0 0 0 0 0 0 0 dst 0 0 0)]) (E1 ++ [.get tab_StepsL_0 12 (.int .i8 20) rfl, tT, .get tab_StepsL_0 13 (.int .i8 17) rfl, tT, .ret _ _ _ c4, .ret _ _ _ c5, .ret _ _ _ c6, .ret _ _ _ c7, .ret _ _ _ c8]) (by kernel_rfl)).to (by clear E1; (try simp only [IntKind.bits, and31, and63, and32, wrap_mod32, wrap_mod64] at *); simp [wk, wkL, wkO, stepsM, aluM, regOp, immOp, zeroImm, takeD, giveD, two, num, cmov, irD, ]; try ((try simp only [w_u64, w_i64, and32, IntKind.bits, Int.mul_one] at *); omega))
theorem does_0_6_64_ok : SpStepsL0 6 64 := by
 intro byReg dst src imm hi1 hi2
 let E1 : EL := [tT, .get ([D.fn (Fn.func 82) [] [], D.fn (Fn.func 83) [] [], D.fn (Fn.func 84) [] [], D.nilf, D.nilf, D.fn (Fn.func 85) [] [], D.fn (Fn.func 86) [] []]) 0 (D.fn (Fn.func 82) [] []) rfl, tT, .inl, tT, .get ([D.fn (Fn.func 136) [] [], D.fn (Fn.func 136) [] [], D.fn (Fn.func 137) [] [], D.fn (Fn.func 141) [] [], D.fn (Fn.func 136) [] [], D.fn (Fn.func 136) [] [], D.fn (Fn.func 140) [] [], D.fn (Fn.func 140) [] [], D.fn (Fn.func 138) [] [], D.fn (Fn.func 142) [] [], D.fn (Fn.func 136) [] [], D.fn (Fn.func 139) [] [], D.fn (Fn.func 140) [] []]) 6 (D.fn (Fn.func 140) [] []) rfl, .inl, .inl, tT]
 cases byReg
 ·have c0 := @l_take_ok 0 dst
  have c1 := @l_num_ok 17 64 0 (IntKind.wrap IntKind.i64 (↑(BitVec.toNat (BitVec.ofInt (64 : Nat) imm &&& BitVec.ofInt (64 : Nat) 63)) : Int))
  have c2 := @l_give_ok dst 0
  have c3 := @l_steps_ok ([(irD 1 0 0 0 0 0 0 0 0 dst 0 0 0), (irD 0 17 64 0 0 0 0 (IntKind.wrap IntKind.i64 (↑(BitVec.toNat (BitVec.ofInt (64 : Nat) imm &&& BitVec.ofInt (64 : Nat) 63)) : Int)) 0 0 0 0 0), (irD 2 0 0 0 0 0 0 0 0 dst 0 0 0)])
  exact (o37 (d := .lst .tight 13 [(irD 1 0 0 0 0 0 0 0 0 dst 0 0 0), (irD 0 17 64 0 0 0 0 (IntKind.wrap IntKind.i64 (↑(BitVec.toNat (BitVec.ofInt (64 : Nat) imm &&& BitVec.ofInt (64 : Nat) 63)) : Int)) 0 0 0 0 0), (irD 2 0 0 0 0 0 0 0 0 dst 0 0 0)]) (E1 ++ [.get tab_StepsL_0 12 (.int .i8 20) rfl, tT, .get tab_StepsL_0 13 (.int .i8 17) rfl, tF, .ret _ _ _ c0, .ret _ _ _ c1, .ret _ _ _ c2, .ret _ _ _ c3]) (by kernel_rfl)).to (by clear E1; (try simp only [IntKind.bits, and31, and63, and32, wrap_mod32, wrap_mod64] at *); simp [wk, wkL, wkO, stepsM, aluM, regOp, immOp, zeroImm, takeD, giveD, two, num, cmov, irD, ]; try ((try simp only [w_u64, w_i64, and32, IntKind.bits, Int.mul_one] at *); omega))
 have c4 := @l_take_ok 0 dst
 have c5 := @l_take_ok 1 src
 have c6 := @l_one_ok 20 64 0
 have c7 := @l_give_ok dst 0
 have c8 := @l_steps_ok ([(irD 1 0 0 0 0 0 0 0 0 dst 0 0 0), (irD 1 0 0 0 0 0 0 0 0 src 1 0 0), (irD 0 20 64 0 0 0 0 0 0 0 0 0 0), (irD 2 0 0 0 0 0 0 0 0 dst 0 0 0)])
 exact (o37 (d := .lst .tight 13 [(irD 1 0 0 0 0 0 0 0 0 dst 0 0 0), (irD 1 0 0 0 0 0 0 0 0 src 1 0 0), (irD 0 20 64 0 0 0 0 0 0 0 0 0 0), (irD 2 0 0 0 0 0 0 0 0 dst 0 0 0)]) (E1 ++ [.get tab_StepsL_0 12 (.int .i8 20) rfl, tT, .get tab_StepsL_0 13 (.int .i8 17) rfl, tT, .ret _ _ _ c4, .ret _ _ _ c5, .ret _ _ _ c6, .ret _ _ _ c7, .ret _ _ _ c8]) (by kernel_rfl)).to (by clear E1; (try simp only [IntKind.bits, and31, and63, and32, wrap_mod32, wrap_mod64] at *); simp [wk, wkL, wkO, stepsM, aluM, regOp, immOp, zeroImm, takeD, giveD, two, num, cmov, irD, ]; try ((try simp only [w_u64, w_i64, and32, IntKind.bits, Int.mul_one] at *); omega))
theorem does_0_7_32_ok : SpStepsL0 7 32 := by
 intro byReg dst src imm hi1 hi2
 let E1 : EL := [tT, .get ([D.fn (Fn.func 82) [] [], D.fn (Fn.func 83) [] [], D.fn (Fn.func 84) [] [], D.nilf, D.nilf, D.fn (Fn.func 85) [] [], D.fn (Fn.func 86) [] []]) 0 (D.fn (Fn.func 82) [] []) rfl, tT, .inl, tT, .get ([D.fn (Fn.func 136) [] [], D.fn (Fn.func 136) [] [], D.fn (Fn.func 137) [] [], D.fn (Fn.func 141) [] [], D.fn (Fn.func 136) [] [], D.fn (Fn.func 136) [] [], D.fn (Fn.func 140) [] [], D.fn (Fn.func 140) [] [], D.fn (Fn.func 138) [] [], D.fn (Fn.func 142) [] [], D.fn (Fn.func 136) [] [], D.fn (Fn.func 139) [] [], D.fn (Fn.func 140) [] []]) 7 (D.fn (Fn.func 140) [] []) rfl, .inl, .inl, tT]
 cases byReg
 ·have c0 := @l_take_ok 0 dst
  have c1 := @l_num_ok 18 32 0 (IntKind.wrap IntKind.i64 (↑(BitVec.toNat (BitVec.ofInt (64 : Nat) imm &&& BitVec.ofInt (64 : Nat) 31)) : Int))
  have c2 := @l_give_ok dst 0
  have c3 := @l_steps_ok ([(irD 1 0 0 0 0 0 0 0 0 dst 0 0 0), (irD 0 18 32 0 0 0 0 (IntKind.wrap IntKind.i64 (↑(BitVec.toNat (BitVec.ofInt (64 : Nat) imm &&& BitVec.ofInt (64 : Nat) 31)) : Int)) 0 0 0 0 0), (irD 2 0 0 0 0 0 0 0 0 dst 0 0 0)])
  exact (o37 (d := .lst .tight 13 [(irD 1 0 0 0 0 0 0 0 0 dst 0 0 0), (irD 0 18 32 0 0 0 0 (IntKind.wrap IntKind.i64 (↑(BitVec.toNat (BitVec.ofInt (64 : Nat) imm &&& BitVec.ofInt (64 : Nat) 31)) : Int)) 0 0 0 0 0), (irD 2 0 0 0 0 0 0 0 0 dst 0 0 0)]) (E1 ++ [.get tab_StepsL_0 14 (.int .i8 21) rfl, tT, .get tab_StepsL_0 15 (.int .i8 18) rfl, tF, .ret _ _ _ c0, .ret _ _ _ c1, .ret _ _ _ c2, .ret _ _ _ c3]) (by kernel_rfl)).to (by clear E1; (try simp only [IntKind.bits, and31, and63, and32, wrap_mod32, wrap_mod64] at *); simp [wk, wkL, wkO, stepsM, aluM, regOp, immOp, zeroImm, takeD, giveD, two, num, cmov, irD, ]; try ((try simp only [w_u64, w_i64, and32, IntKind.bits, Int.mul_one] at *); omega))
 have c4 := @l_take_ok 0 dst
 have c5 := @l_take_ok 1 src
 have c6 := @l_one_ok 21 32 0
 have c7 := @l_give_ok dst 0
 have c8 := @l_steps_ok ([(irD 1 0 0 0 0 0 0 0 0 dst 0 0 0), (irD 1 0 0 0 0 0 0 0 0 src 1 0 0), (irD 0 21 32 0 0 0 0 0 0 0 0 0 0), (irD 2 0 0 0 0 0 0 0 0 dst 0 0 0)])
 exact (o37 (d := .lst .tight 13 [(irD 1 0 0 0 0 0 0 0 0 dst 0 0 0), (irD 1 0 0 0 0 0 0 0 0 src 1 0 0), (irD 0 21 32 0 0 0 0 0 0 0 0 0 0), (irD 2 0 0 0 0 0 0 0 0 dst 0 0 0)]) (E1 ++ [.get tab_StepsL_0 14 (.int .i8 21) rfl, tT, .get tab_StepsL_0 15 (.int .i8 18) rfl, tT, .ret _ _ _ c4, .ret _ _ _ c5, .ret _ _ _ c6, .ret _ _ _ c7, .ret _ _ _ c8]) (by kernel_rfl)).to (by clear E1; (try simp only [IntKind.bits, and31, and63, and32, wrap_mod32, wrap_mod64] at *); simp [wk, wkL, wkO, stepsM, aluM, regOp, immOp, zeroImm, takeD, giveD, two, num, cmov, irD, ]; try ((try simp only [w_u64, w_i64, and32, IntKind.bits, Int.mul_one] at *); omega))
theorem does_0_7_64_ok : SpStepsL0 7 64 := by
 intro byReg dst src imm hi1 hi2
 let E1 : EL := [tT, .get ([D.fn (Fn.func 82) [] [], D.fn (Fn.func 83) [] [], D.fn (Fn.func 84) [] [], D.nilf, D.nilf, D.fn (Fn.func 85) [] [], D.fn (Fn.func 86) [] []]) 0 (D.fn (Fn.func 82) [] []) rfl, tT, .inl, tT, .get ([D.fn (Fn.func 136) [] [], D.fn (Fn.func 136) [] [], D.fn (Fn.func 137) [] [], D.fn (Fn.func 141) [] [], D.fn (Fn.func 136) [] [], D.fn (Fn.func 136) [] [], D.fn (Fn.func 140) [] [], D.fn (Fn.func 140) [] [], D.fn (Fn.func 138) [] [], D.fn (Fn.func 142) [] [], D.fn (Fn.func 136) [] [], D.fn (Fn.func 139) [] [], D.fn (Fn.func 140) [] []]) 7 (D.fn (Fn.func 140) [] []) rfl, .inl, .inl, tT]
 cases byReg
 ·have c0 := @l_take_ok 0 dst
  have c1 := @l_num_ok 18 64 0 (IntKind.wrap IntKind.i64 (↑(BitVec.toNat (BitVec.ofInt (64 : Nat) imm &&& BitVec.ofInt (64 : Nat) 63)) : Int))
  have c2 := @l_give_ok dst 0
  have c3 := @l_steps_ok ([(irD 1 0 0 0 0 0 0 0 0 dst 0 0 0), (irD 0 18 64 0 0 0 0 (IntKind.wrap IntKind.i64 (↑(BitVec.toNat (BitVec.ofInt (64 : Nat) imm &&& BitVec.ofInt (64 : Nat) 63)) : Int)) 0 0 0 0 0), (irD 2 0 0 0 0 0 0 0 0 dst 0 0 0)])
  exact (o37 (d := .lst .tight 13 [(irD 1 0 0 0 0 0 0 0 0 dst 0 0 0), (irD 0 18 64 0 0 0 0 (IntKind.wrap IntKind.i64 (↑(BitVec.toNat (BitVec.ofInt (64 : Nat) imm &&& BitVec.ofInt (64 : Nat) 63)) : Int)) 0 0 0 0 0), (irD 2 0 0 0 0 0 0 0 0 dst 0 0 0)]) (E1 ++ [.get tab_StepsL_0 14 (.int .i8 21) rfl, tT, .get tab_StepsL_0 15 (.int .i8 18) rfl, tF, .ret _ _ _ c0, .ret _ _ _ c1, .ret _ _ _ c2, .ret _ _ _ c3]) (by kernel_rfl)).to (by clear E1; (try simp only [IntKind.bits, and31, and63, and32, wrap_mod32, wrap_mod64] at *); simp [wk, wkL, wkO, stepsM, aluM, regOp, immOp, zeroImm, takeD, giveD, two, num, cmov, irD, ]; try ((try simp only [w_u64, w_i64, and32, IntKind.bits, Int.mul_one] at *); omega))
 have c4 := @l_take_ok 0 dst
 have c5 := @l_take_ok 1 src
 have c6 := @l_one_ok 21 64 0
 have c7 := @l_give_ok dst 0
 have c8 := @l_steps_ok ([(irD 1 0 0 0 0 0 0 0 0 dst 0 0 0), (irD 1 0 0 0 0 0 0 0 0 src 1 0 0), (irD 0 21 64 0 0 0 0 0 0 0 0 0 0), (irD 2 0 0 0 0 0 0 0 0 dst 0 0 0)])
 exact (o37 (d := .lst .tight 13 [(irD 1 0 0 0 0 0 0 0 0 dst 0 0 0), (irD 1 0 0 0 0 0 0 0 0 src 1 0 0), (irD 0 21 64 0 0 0 0 0 0 0 0 0 0), (irD 2 0 0 0 0 0 0 0 0 dst 0 0 0)]) (E1 ++ [.get tab_StepsL_0 14 (.int .i8 21) rfl, tT, .get tab_StepsL_0 15 (.int .i8 18) rfl, tT, .ret _ _ _ c4, .ret _ _ _ c5, .ret _ _ _ c6, .ret _ _ _ c7, .ret _ _ _ c8]) (by kernel_rfl)).to (by clear E1; (try simp only [IntKind.bits, and31, and63, and32, wrap_mod32, wrap_mod64] at *); simp [wk, wkL, wkO, stepsM, aluM, regOp, immOp, zeroImm, takeD, giveD, two, num, cmov, irD, ]; try ((try simp only [w_u64, w_i64, and32, IntKind.bits, Int.mul_one] at *); omega))
theorem does_0_8_32_ok (byReg : Bool) (dst src imm : Int) (hi1 : -2147483648 ≤ imm) (hi2 : imm ≤ 2147483647) (h : byReg = false) : Ret Try.prog 37 ([instD 0 8 32 0 byReg dst src 0 imm]) (.lst .no 13 (stepsM 0 8 32 0 byReg dst src 0 imm)) := by
 have c0 := @l_take_ok 0 dst
 have c1 := @l_one_ok 23 32 0
 have c2 := @l_give_ok dst 0
 have c3 := @l_steps_ok ([(irD 1 0 0 0 0 0 0 0 0 dst 0 0 0), (irD 0 23 32 0 0 0 0 0 0 0 0 0 0), (irD 2 0 0 0 0 0 0 0 0 dst 0 0 0)])
 exact (o37 (d := .lst .tight 13 [(irD 1 0 0 0 0 0 0 0 0 dst 0 0 0), (irD 0 23 32 0 0 0 0 0 0 0 0 0 0), (irD 2 0 0 0 0 0 0 0 0 dst 0 0 0)]) [tT, .get ([D.fn (Fn.func 82) [] [], D.fn (Fn.func 83) [] [], D.fn (Fn.func 84) [] [], D.nilf, D.nilf, D.fn (Fn.func 85) [] [], D.fn (Fn.func 86) [] []]) 0 (D.fn (Fn.func 82) [] []) rfl, tT, .inl, tT, .get ([D.fn (Fn.func 136) [] [], D.fn (Fn.func 136) [] [], D.fn (Fn.func 137) [] [], D.fn (Fn.func 141) [] [], D.fn (Fn.func 136) [] [], D.fn (Fn.func 136) [] [], D.fn (Fn.func 140) [] [], D.fn (Fn.func 140) [] [], D.fn (Fn.func 138) [] [], D.fn (Fn.func 142) [] [], D.fn (Fn.func 136) [] [], D.fn (Fn.func 139) [] [], D.fn (Fn.func 140) [] []]) 8 (D.fn (Fn.func 138) [] []) rfl, .inl, .ret _ _ _ c0, .ret _ _ _ c1, .ret _ _ _ c2, .ret _ _ _ c3] (by kernel_rfl)).to (by (try simp only [IntKind.bits, and31, and63, and32, wrap_mod32, wrap_mod64] at *); simp [wk, wkL, wkO, stepsM, aluM, regOp, immOp, zeroImm, takeD, giveD, two, num, cmov, irD, ]; try ((try simp only [w_u64, w_i64, and32, IntKind.bits, Int.mul_one] at *); omega))
theorem does_0_8_64_ok (byReg : Bool) (dst src imm : Int) (hi1 : -2147483648 ≤ imm) (hi2 : imm ≤ 2147483647) (h : byReg = false) : Ret Try.prog 37 ([instD 0 8 64 0 byReg dst src 0 imm]) (.lst .no 13 (stepsM 0 8 64 0 byReg dst src 0 imm)) := by
 have c0 := @l_take_ok 0 dst
 have c1 := @l_one_ok 23 64 0
 have c2 := @l_give_ok dst 0
 have c3 := @l_steps_ok ([(irD 1 0 0 0 0 0 0 0 0 dst 0 0 0), (irD 0 23 64 0 0 0 0 0 0 0 0 0 0), (irD 2 0 0 0 0 0 0 0 0 dst 0 0 0)])
 exact (o37 (d := .lst .tight 13 [(irD 1 0 0 0 0 0 0 0 0 dst 0 0 0), (irD 0 23 64 0 0 0 0 0 0 0 0 0 0), (irD 2 0 0 0 0 0 0 0 0 dst 0 0 0)]) [tT, .get ([D.fn (Fn.func 82) [] [], D.fn (Fn.func 83) [] [], D.fn (Fn.func 84) [] [], D.nilf, D.nilf, D.fn (Fn.func 85) [] [], D.fn (Fn.func 86) [] []]) 0 (D.fn (Fn.func 82) [] []) rfl, tT, .inl, tT, .get ([D.fn (Fn.func 136) [] [], D.fn (Fn.func 136) [] [], D.fn (Fn.func 137) [] [], D.fn (Fn.func 141) [] [], D.fn (Fn.func 136) [] [], D.fn (Fn.func 136) [] [], D.fn (Fn.func 140) [] [], D.fn (Fn.func 140) [] [], D.fn (Fn.func 138) [] [], D.fn (Fn.func 142) [] [], D.fn (Fn.func 136) [] [], D.fn (Fn.func 139) [] [], D.fn (Fn.func 140) [] []]) 8 (D.fn (Fn.func 138) [] []) rfl, .inl, .ret _ _ _ c0, .ret _ _ _ c1, .ret _ _ _ c2, .ret _ _ _ c3] (by kernel_rfl)).to (by (try simp only [IntKind.bits, and31, and63, and32, wrap_mod32, wrap_mod64] at *); simp [wk, wkL, wkO, stepsM, aluM, regOp, immOp, zeroImm, takeD, giveD, two, num, cmov, irD, ]; try ((try simp only [w_u64, w_i64, and32, IntKind.bits, Int.mul_one] at *); omega))
theorem does_0_9_32_ok : SpStepsL0 9 32 := by
 intro byReg dst src imm hi1 hi2
 let E1 : EL := [tT, .get ([D.fn (Fn.func 82) [] [], D.fn (Fn.func 83) [] [], D.fn (Fn.func 84) [] [], D.nilf, D.nilf, D.fn (Fn.func 85) [] [], D.fn (Fn.func 86) [] []]) 0 (D.fn (Fn.func 82) [] []) rfl, tT, .inl, tT, .get ([D.fn (Fn.func 136) [] [], D.fn (Fn.func 136) [] [], D.fn (Fn.func 137) [] [], D.fn (Fn.func 141) [] [], D.fn (Fn.func 136) [] [], D.fn (Fn.func 136) [] [], D.fn (Fn.func 140) [] [], D.fn (Fn.func 140) [] [], D.fn (Fn.func 138) [] [], D.fn (Fn.func 142) [] [], D.fn (Fn.func 136) [] [], D.fn (Fn.func 139) [] [], D.fn (Fn.func 140) [] []]) 9 (D.fn (Fn.func 142) [] []) rfl, .inl, .inl]
 cases byReg
 ·by_cases h0 : IntKind.wrap IntKind.u64 (IntKind.wrap IntKind.u64 imm * 4294967296) = 0
  ·have c1 := @l_take_ok 0 dst
   have c2 := @l_steps_ok ([(irD 1 0 0 0 0 0 0 0 0 dst 0 0 0)])
   have c3 := @l_short32_ok 0 9 0 false dst src 0 imm
   have c4 := @l_give_ok dst 0
   exact (o37 (d := .lst (.fresh 13) 13 [(irD 1 0 0 0 0 0 0 0 0 dst 0 0 0), (irD 0 0 32 0 0 0 0 0 0 0 0 0 0), (irD 2 0 0 0 0 0 0 0 0 dst 0 0 0)]) (E1 ++ List.replicate 11 tT ++ [tC (eqI 0 true h0), .ret _ _ _ c1, .ret _ _ _ c2, .ret _ _ _ c3, .len 2 2147483648 (by decide), .ret _ _ _ c4, .len 3 2147483648 (by decide)]) (by kernel_rfl)).to (by clear E1; (try simp only [IntKind.bits, and31, and63, and32, wrap_mod32, wrap_mod64] at *); simp [wk, wkL, wkO, stepsM, aluM, regOp, immOp, zeroImm, takeD, giveD, two, num, cmov, irD, h0]; try ((try simp only [w_u64, w_i64, and32, IntKind.bits, Int.mul_one] at *); omega))
  have c5 := @l_take_ok 11 dst
  have c6 := @l_give_ok dst 2
  have c7 := @l_take_ok 0 dst
  have c8 := @l_steps_ok ([(irD 1 0 0 0 0 0 0 0 0 dst 0 0 0)])
  have c9 := @l_num_ok 1 32 1 imm
  have c10 := @l_num_ok 1 32 2 0
  have c11 := @l_one_ok 24 32 1
  exact (o37 (d := .lst (.fresh 13) 13 [(irD 1 0 0 0 0 0 0 0 0 dst 0 0 0), (irD 0 1 32 1 0 0 0 imm 0 0 0 0 0), (irD 0 1 32 2 0 0 0 0 0 0 0 0 0), (irD 0 24 32 1 0 0 0 0 0 0 0 0 0), (irD 2 0 0 0 0 0 0 0 0 dst 2 0 0)]) (E1 ++ List.replicate 11 tT ++ [tC (neOf h0), .ret _ _ _ c5, .inl, .ret _ _ _ c6, .ret _ _ _ c7, .ret _ _ _ c8, tT, .ret _ _ _ c9, .ret _ _ _ c10, .ret _ _ _ c11, .len 5 2147483648 (by decide)]) (by kernel_rfl)).to (by clear E1; (try simp only [IntKind.bits, and31, and63, and32, wrap_mod32, wrap_mod64] at *); simp [wk, wkL, wkO, stepsM, aluM, regOp, immOp, zeroImm, takeD, giveD, two, num, cmov, irD, h0]; try ((try simp only [w_u64, w_i64, and32, IntKind.bits, Int.mul_one] at *); omega))
 have c12 := @l_take_ok 11 dst
 have c13 := @l_give_ok dst 2
 have c14 := @l_take_ok 0 dst
 have c15 := @l_steps_ok ([(irD 1 0 0 0 0 0 0 0 0 dst 0 0 0)])
 have c16 := @l_take_ok 1 src
 have c17 := @l_num_ok 1 32 2 0
 have c18 := @l_num_ok 1 32 11 1
 have c19 := @l_choose_ok 32 1
 have c20 := @l_one_ok 24 32 1
 have c21 := @l_take_ok 1 src
 have c22 := @l_choose_ok 32 2
 exact (o37 (d := .lst (.fresh 13) 13 [(irD 1 0 0 0 0 0 0 0 0 dst 0 0 0), (irD 1 0 0 0 0 0 0 0 0 src 1 0 0), (irD 0 1 32 2 0 0 0 0 0 0 0 0 0), (irD 0 1 32 11 0 0 0 1 0 0 0 0 0), (irD 0 8 32 1 1 0 0 0 0 0 0 0 0), (irD 0 25 32 1 11 0 0 0 4 0 0 0 0), (irD 0 24 32 1 0 0 0 0 0 0 0 0 0), (irD 1 0 0 0 0 0 0 0 0 src 1 0 0), (irD 1 0 0 0 0 0 0 0 0 dst 11 0 0), (irD 0 8 32 1 1 0 0 0 0 0 0 0 0), (irD 0 25 32 2 11 0 0 0 4 0 0 0 0), (irD 2 0 0 0 0 0 0 0 0 dst 2 0 0)]) (E1 ++ List.replicate 11 tF ++ [.ret _ _ _ c12, .inl, .ret _ _ _ c13, .ret _ _ _ c14, .ret _ _ _ c15, tF, .ret _ _ _ c16, .ret _ _ _ c17, .ret _ _ _ c18, .len 4 2147483648 (by decide), .ret _ _ _ c19, .len 6 2147483648 (by decide), .ret _ _ _ c20, .ret _ _ _ c21, .len 9 2147483648 (by decide), .ret _ _ _ c22, .len 11 2147483648 (by decide), .len 12 2147483648 (by decide)]) (by kernel_rfl)).to (by clear E1; (try simp only [IntKind.bits, and31, and63, and32, wrap_mod32, wrap_mod64] at *); simp [wk, wkL, wkO, stepsM, aluM, regOp, immOp, zeroImm, takeD, giveD, two, num, cmov, irD, ]; try ((try simp only [w_u64, w_i64, and32, IntKind.bits, Int.mul_one] at *); omega))
theorem does_0_9_64_ok : SpStepsL0 9 64 := by
 intro byReg dst src imm hi1 hi2
 let E1 : EL := [tT, .get ([D.fn (Fn.func 82) [] [], D.fn (Fn.func 83) [] [], D.fn (Fn.func 84) [] [], D.nilf, D.nilf, D.fn (Fn.func 85) [] [], D.fn (Fn.func 86) [] []]) 0 (D.fn (Fn.func 82) [] []) rfl, tT, .inl, tT, .get ([D.fn (Fn.func 136) [] [], D.fn (Fn.func 136) [] [], D.fn (Fn.func 137) [] [], D.fn (Fn.func 141) [] [], D.fn (Fn.func 136) [] [], D.fn (Fn.func 136) [] [], D.fn (Fn.func 140) [] [], D.fn (Fn.func 140) [] [], D.fn (Fn.func 138) [] [], D.fn (Fn.func 142) [] [], D.fn (Fn.func 136) [] [], D.fn (Fn.func 139) [] [], D.fn (Fn.func 140) [] []]) 9 (D.fn (Fn.func 142) [] []) rfl, .inl, .inl]
 cases byReg
 ·by_cases h0 : IntKind.wrap IntKind.u64 (IntKind.wrap IntKind.u64 imm * 1) = 0
  ·have c1 := @l_take_ok 0 dst
   have c2 := @l_steps_ok ([(irD 1 0 0 0 0 0 0 0 0 dst 0 0 0)])
   have c3 := @l_short64_ok 0 9 0 false dst src 0 imm
   have c4 := @l_give_ok dst 0
   exact (o37 (d := .lst (.fresh 13) 13 [(irD 1 0 0 0 0 0 0 0 0 dst 0 0 0), (irD 2 0 0 0 0 0 0 0 0 dst 0 0 0)]) (E1 ++ List.replicate 11 tT ++ [tC (eqI 0 true h0), .ret _ _ _ c1, .ret _ _ _ c2, .ret _ _ _ c3, .len 1 2147483648 (by decide), .ret _ _ _ c4, .len 2 2147483648 (by decide)]) (by kernel_rfl)).to (by clear E1; (try simp only [IntKind.bits, and31, and63, and32, wrap_mod32, wrap_mod64] at *); simp [wk, wkL, wkO, stepsM, aluM, regOp, immOp, zeroImm, takeD, giveD, two, num, cmov, irD, h0]; try ((try simp only [w_u64, w_i64, and32, IntKind.bits, Int.mul_one] at *); omega))
  have c5 := @l_take_ok 11 dst
  have c6 := @l_give_ok dst 2
  have c7 := @l_take_ok 0 dst
  have c8 := @l_steps_ok ([(irD 1 0 0 0 0 0 0 0 0 dst 0 0 0)])
  have c9 := @l_num_ok 1 64 1 imm
  have c10 := @l_num_ok 1 32 2 0
  have c11 := @l_one_ok 24 64 1
  exact (o37 (d := .lst (.fresh 13) 13 [(irD 1 0 0 0 0 0 0 0 0 dst 0 0 0), (irD 0 1 64 1 0 0 0 imm 0 0 0 0 0), (irD 0 1 32 2 0 0 0 0 0 0 0 0 0), (irD 0 24 64 1 0 0 0 0 0 0 0 0 0), (irD 2 0 0 0 0 0 0 0 0 dst 2 0 0)]) (E1 ++ List.replicate 11 tT ++ [tC (neOf h0), .ret _ _ _ c5, .inl, .ret _ _ _ c6, .ret _ _ _ c7, .ret _ _ _ c8, tT, .ret _ _ _ c9, .ret _ _ _ c10, .ret _ _ _ c11, .len 5 2147483648 (by decide)]) (by kernel_rfl)).to (by clear E1; (try simp only [IntKind.bits, and31, and63, and32, wrap_mod32, wrap_mod64] at *); simp [wk, wkL, wkO, stepsM, aluM, regOp, immOp, zeroImm, takeD, giveD, two, num, cmov, irD, h0]; try ((try simp only [w_u64, w_i64, and32, IntKind.bits, Int.mul_one] at *); omega))
 have c12 := @l_take_ok 11 dst
 have c13 := @l_give_ok dst 2
 have c14 := @l_take_ok 0 dst
 have c15 := @l_steps_ok ([(irD 1 0 0 0 0 0 0 0 0 dst 0 0 0)])
 have c16 := @l_take_ok 1 src
 have c17 := @l_num_ok 1 32 2 0
 have c18 := @l_num_ok 1 32 11 1
 have c19 := @l_choose_ok 64 1
 have c20 := @l_one_ok 24 64 1
 have c21 := @l_take_ok 1 src
 have c22 := @l_choose_ok 64 2
 exact (o37 (d := .lst (.fresh 13) 13 [(irD 1 0 0 0 0 0 0 0 0 dst 0 0 0), (irD 1 0 0 0 0 0 0 0 0 src 1 0 0), (irD 0 1 32 2 0 0 0 0 0 0 0 0 0), (irD 0 1 32 11 0 0 0 1 0 0 0 0 0), (irD 0 8 64 1 1 0 0 0 0 0 0 0 0), (irD 0 25 64 1 11 0 0 0 4 0 0 0 0), (irD 0 24 64 1 0 0 0 0 0 0 0 0 0), (irD 1 0 0 0 0 0 0 0 0 src 1 0 0), (irD 1 0 0 0 0 0 0 0 0 dst 11 0 0), (irD 0 8 64 1 1 0 0 0 0 0 0 0 0), (irD 0 25 64 2 11 0 0 0 4 0 0 0 0), (irD 2 0 0 0 0 0 0 0 0 dst 2 0 0)]) (E1 ++ List.replicate 11 tF ++ [.ret _ _ _ c12, .inl, .ret _ _ _ c13, .ret _ _ _ c14, .ret _ _ _ c15, tF, .ret _ _ _ c16, .ret _ _ _ c17, .ret _ _ _ c18, .len 4 2147483648 (by decide), .ret _ _ _ c19, .len 6 2147483648 (by decide), .ret _ _ _ c20, .ret _ _ _ c21, .len 9 2147483648 (by decide), .ret _ _ _ c22, .len 11 2147483648 (by decide), .len 12 2147483648 (by decide)]) (by kernel_rfl)).to (by clear E1; (try simp only [IntKind.bits, and31, and63, and32, wrap_mod32, wrap_mod64] at *); simp [wk, wkL, wkO, stepsM, aluM, regOp, immOp, zeroImm, takeD, giveD, two, num, cmov, irD, ]; try ((try simp only [w_u64, w_i64, and32, IntKind.bits, Int.mul_one] at *); omega))
theorem does_0_10_32_ok : SpStepsL0 10 32 := by
 intro byReg dst src imm hi1 hi2
 let E1 : EL := [tT, .get ([D.fn (Fn.func 82) [] [], D.fn (Fn.func 83) [] [], D.fn (Fn.func 84) [] [], D.nilf, D.nilf, D.fn (Fn.func 85) [] [], D.fn (Fn.func 86) [] []]) 0 (D.fn (Fn.func 82) [] []) rfl, tT, .inl, tT, .get ([D.fn (Fn.func 136) [] [], D.fn (Fn.func 136) [] [], D.fn (Fn.func 137) [] [], D.fn (Fn.func 141) [] [], D.fn (Fn.func 136) [] [], D.fn (Fn.func 136) [] [], D.fn (Fn.func 140) [] [], D.fn (Fn.func 140) [] [], D.fn (Fn.func 138) [] [], D.fn (Fn.func 142) [] [], D.fn (Fn.func 136) [] [], D.fn (Fn.func 139) [] [], D.fn (Fn.func 140) [] []]) 10 (D.fn (Fn.func 136) [] []) rfl, .inl, .inl, tT]
 cases byReg
 ·have c0 := @l_take_ok 0 dst
  have c1 := @l_num_ok 13 32 0 imm
  have c2 := @l_give_ok dst 0
  have c3 := @l_steps_ok ([(irD 1 0 0 0 0 0 0 0 0 dst 0 0 0), (irD 0 13 32 0 0 0 0 imm 0 0 0 0 0), (irD 2 0 0 0 0 0 0 0 0 dst 0 0 0)])
  exact (o37 (d := .lst .tight 13 [(irD 1 0 0 0 0 0 0 0 0 dst 0 0 0), (irD 0 13 32 0 0 0 0 imm 0 0 0 0 0), (irD 2 0 0 0 0 0 0 0 0 dst 0 0 0)]) (E1 ++ [.get tab_StepsL_0 20 (.int .i8 6) rfl, tT, .get tab_StepsL_0 21 (.int .i8 13) rfl, tF, .ret _ _ _ c0, .ret _ _ _ c1, .ret _ _ _ c2, .ret _ _ _ c3]) (by kernel_rfl)).to (by clear E1; (try simp only [IntKind.bits, and31, and63, and32, wrap_mod32, wrap_mod64] at *); simp [wk, wkL, wkO, stepsM, aluM, regOp, immOp, zeroImm, takeD, giveD, two, num, cmov, irD, ]; try ((try simp only [w_u64, w_i64, and32, IntKind.bits, Int.mul_one] at *); omega))
 have c4 := @l_take_ok 0 dst
 have c5 := @l_take_ok 1 src
 have c6 := @l_two_ok 6 32 0 1
 have c7 := @l_give_ok dst 0
 have c8 := @l_steps_ok ([(irD 1 0 0 0 0 0 0 0 0 dst 0 0 0), (irD 1 0 0 0 0 0 0 0 0 src 1 0 0), (irD 0 6 32 0 1 0 0 0 0 0 0 0 0), (irD 2 0 0 0 0 0 0 0 0 dst 0 0 0)])
 exact (o37 (d := .lst .tight 13 [(irD 1 0 0 0 0 0 0 0 0 dst 0 0 0), (irD 1 0 0 0 0 0 0 0 0 src 1 0 0), (irD 0 6 32 0 1 0 0 0 0 0 0 0 0), (irD 2 0 0 0 0 0 0 0 0 dst 0 0 0)]) (E1 ++ [.get tab_StepsL_0 20 (.int .i8 6) rfl, tT, .get tab_StepsL_0 21 (.int .i8 13) rfl, tT, .ret _ _ _ c4, .ret _ _ _ c5, .ret _ _ _ c6, .ret _ _ _ c7, .ret _ _ _ c8]) (by kernel_rfl)).to (by clear E1; (try simp only [IntKind.bits, and31, and63, and32, wrap_mod32, wrap_mod64] at *); simp [wk, wkL, wkO, stepsM, aluM, regOp, immOp, zeroImm, takeD, giveD, two, num, cmov, irD, ]; try ((try simp only [w_u64, w_i64, and32, IntKind.bits, Int.mul_one] at *); omega))
theorem does_0_10_64_ok : SpStepsL0 10 64 := by
 intro byReg dst src imm hi1 hi2
 let E1 : EL := [tT, .get ([D.fn (Fn.func 82) [] [], D.fn (Fn.func 83) [] [], D.fn (Fn.func 84) [] [], D.nilf, D.nilf, D.fn (Fn.func 85) [] [], D.fn (Fn.func 86) [] []]) 0 (D.fn (Fn.func 82) [] []) rfl, tT, .inl, tT, .get ([D.fn (Fn.func 136) [] [], D.fn (Fn.func 136) [] [], D.fn (Fn.func 137) [] [], D.fn (Fn.func 141) [] [], D.fn (Fn.func 136) [] [], D.fn (Fn.func 136) [] [], D.fn (Fn.func 140) [] [], D.fn (Fn.func 140) [] [], D.fn (Fn.func 138) [] [], D.fn (Fn.func 142) [] [], D.fn (Fn.func 136) [] [], D.fn (Fn.func 139) [] [], D.fn (Fn.func 140) [] []]) 10 (D.fn (Fn.func 136) [] []) rfl, .inl, .inl, tT]
 cases byReg
 ·have c0 := @l_take_ok 0 dst
  have c1 := @l_num_ok 13 64 0 imm
  have c2 := @l_give_ok dst 0
  have c3 := @l_steps_ok ([(irD 1 0 0 0 0 0 0 0 0 dst 0 0 0), (irD 0 13 64 0 0 0 0 imm 0 0 0 0 0), (irD 2 0 0 0 0 0 0 0 0 dst 0 0 0)])
  exact (o37 (d := .lst .tight 13 [(irD 1 0 0 0 0 0 0 0 0 dst 0 0 0), (irD 0 13 64 0 0 0 0 imm 0 0 0 0 0), (irD 2 0 0 0 0 0 0 0 0 dst 0 0 0)]) (E1 ++ [.get tab_StepsL_0 20 (.int .i8 6) rfl, tT, .get tab_StepsL_0 21 (.int .i8 13) rfl, tF, .ret _ _ _ c0, .ret _ _ _ c1, .ret _ _ _ c2, .ret _ _ _ c3]) (by kernel_rfl)).to (by clear E1; (try simp only [IntKind.bits, and31, and63, and32, wrap_mod32, wrap_mod64] at *); simp [wk, wkL, wkO, stepsM, aluM, regOp, immOp, zeroImm, takeD, giveD, two, num, cmov, irD, ]; try ((try simp only [w_u64, w_i64, and32, IntKind.bits, Int.mul_one] at *); omega))
 have c4 := @l_take_ok 0 dst
 have c5 := @l_take_ok 1 src
 have c6 := @l_two_ok 6 64 0 1
 have c7 := @l_give_ok dst 0
 have c8 := @l_steps_ok ([(irD 1 0 0 0 0 0 0 0 0 dst 0 0 0), (irD 1 0 0 0 0 0 0 0 0 src 1 0 0), (irD 0 6 64 0 1 0 0 0 0 0 0 0 0), (irD 2 0 0 0 0 0 0 0 0 dst 0 0 0)])
 exact (o37 (d := .lst .tight 13 [(irD 1 0 0 0 0 0 0 0 0 dst 0 0 0), (irD 1 0 0 0 0 0 0 0 0 src 1 0 0), (irD 0 6 64 0 1 0 0 0 0 0 0 0 0), (irD 2 0 0 0 0 0 0 0 0 dst 0 0 0)]) (E1 ++ [.get tab_StepsL_0 20 (.int .i8 6) rfl, tT, .get tab_StepsL_0 21 (.int .i8 13) rfl, tT, .ret _ _ _ c4, .ret _ _ _ c5, .ret _ _ _ c6, .ret _ _ _ c7, .ret _ _ _ c8]) (by kernel_rfl)).to (by clear E1; (try simp only [IntKind.bits, and31, and63, and32, wrap_mod32, wrap_mod64] at *); simp [wk, wkL, wkO, stepsM, aluM, regOp, immOp, zeroImm, takeD, giveD, two, num, cmov, irD, ]; try ((try simp only [w_u64, w_i64, and32, IntKind.bits, Int.mul_one] at *); omega))
theorem does_0_11_32_ok : SpStepsL0 11 32 := by
 intro byReg dst src imm hi1 hi2
 let E1 : EL := [tT, .get ([D.fn (Fn.func 82) [] [], D.fn (Fn.func 83) [] [], D.fn (Fn.func 84) [] [], D.nilf, D.nilf, D.fn (Fn.func 85) [] [], D.fn (Fn.func 86) [] []]) 0 (D.fn (Fn.func 82) [] []) rfl, tT, .inl, tT, .get ([D.fn (Fn.func 136) [] [], D.fn (Fn.func 136) [] [], D.fn (Fn.func 137) [] [], D.fn (Fn.func 141) [] [], D.fn (Fn.func 136) [] [], D.fn (Fn.func 136) [] [], D.fn (Fn.func 140) [] [], D.fn (Fn.func 140) [] [], D.fn (Fn.func 138) [] [], D.fn (Fn.func 142) [] [], D.fn (Fn.func 136) [] [], D.fn (Fn.func 139) [] [], D.fn (Fn.func 140) [] []]) 11 (D.fn (Fn.func 139) [] []) rfl, .inl]
 cases byReg
 ·have c0 := @l_num_ok 1 32 0 imm
  have c1 := @l_give_ok dst 0
  have c2 := @l_steps_ok ([(irD 0 1 32 0 0 0 0 imm 0 0 0 0 0), (irD 2 0 0 0 0 0 0 0 0 dst 0 0 0)])
  exact (o37 (d := .lst .tight 13 [(irD 0 1 32 0 0 0 0 imm 0 0 0 0 0), (irD 2 0 0 0 0 0 0 0 0 dst 0 0 0)]) (E1 ++ [tT, .ret _ _ _ c0, .ret _ _ _ c1, .ret _ _ _ c2]) (by kernel_rfl)).to (by clear E1; (try simp only [IntKind.bits, and31, and63, and32, wrap_mod32, wrap_mod64] at *); simp [wk, wkL, wkO, stepsM, aluM, regOp, immOp, zeroImm, takeD, giveD, two, num, cmov, irD, ]; try ((try simp only [w_u64, w_i64, and32, IntKind.bits, Int.mul_one] at *); omega))
 have c3 := @l_take_ok 0 src
 have c4 := @l_steps_ok ([(irD 1 0 0 0 0 0 0 0 0 src 0 0 0)])
 have c5 := @l_short32_ok 0 11 0 true dst src 0 imm
 have c6 := @l_give_ok dst 0
 exact (o37 (d := .lst (.fresh 13) 13 [(irD 1 0 0 0 0 0 0 0 0 src 0 0 0), (irD 0 0 32 0 0 0 0 0 0 0 0 0 0), (irD 2 0 0 0 0 0 0 0 0 dst 0 0 0)]) (E1 ++ [tF, .ret _ _ _ c3, .ret _ _ _ c4, .ret _ _ _ c5, .len 2 2147483648 (by decide), .ret _ _ _ c6, .len 3 2147483648 (by decide)]) (by kernel_rfl)).to (by clear E1; (try simp only [IntKind.bits, and31, and63, and32, wrap_mod32, wrap_mod64] at *); simp [wk, wkL, wkO, stepsM, aluM, regOp, immOp, zeroImm, takeD, giveD, two, num, cmov, irD, ]; try ((try simp only [w_u64, w_i64, and32, IntKind.bits, Int.mul_one] at *); omega))
theorem does_0_11_64_ok : SpStepsL0 11 64 := by
 intro byReg dst src imm hi1 hi2
 let E1 : EL := [tT, .get ([D.fn (Fn.func 82) [] [], D.fn (Fn.func 83) [] [], D.fn (Fn.func 84) [] [], D.nilf, D.nilf, D.fn (Fn.func 85) [] [], D.fn (Fn.func 86) [] []]) 0 (D.fn (Fn.func 82) [] []) rfl, tT, .inl, tT, .get ([D.fn (Fn.func 136) [] [], D.fn (Fn.func 136) [] [], D.fn (Fn.func 137) [] [], D.fn (Fn.func 141) [] [], D.fn (Fn.func 136) [] [], D.fn (Fn.func 136) [] [], D.fn (Fn.func 140) [] [], D.fn (Fn.func 140) [] [], D.fn (Fn.func 138) [] [], D.fn (Fn.func 142) [] [], D.fn (Fn.func 136) [] [], D.fn (Fn.func 139) [] [], D.fn (Fn.func 140) [] []]) 11 (D.fn (Fn.func 139) [] []) rfl, .inl]
 cases byReg
 ·have c0 := @l_num_ok 1 64 0 imm
  have c1 := @l_give_ok dst 0
  have c2 := @l_steps_ok ([(irD 0 1 64 0 0 0 0 imm 0 0 0 0 0), (irD 2 0 0 0 0 0 0 0 0 dst 0 0 0)])
  exact (o37 (d := .lst .tight 13 [(irD 0 1 64 0 0 0 0 imm 0 0 0 0 0), (irD 2 0 0 0 0 0 0 0 0 dst 0 0 0)]) (E1 ++ [tT, .ret _ _ _ c0, .ret _ _ _ c1, .ret _ _ _ c2]) (by kernel_rfl)).to (by clear E1; (try simp only [IntKind.bits, and31, and63, and32, wrap_mod32, wrap_mod64] at *); simp [wk, wkL, wkO, stepsM, aluM, regOp, immOp, zeroImm, takeD, giveD, two, num, cmov, irD, ]; try ((try simp only [w_u64, w_i64, and32, IntKind.bits, Int.mul_one] at *); omega))
 have c3 := @l_take_ok 0 src
 have c4 := @l_steps_ok ([(irD 1 0 0 0 0 0 0 0 0 src 0 0 0)])
 have c5 := @l_short64_ok 0 11 0 true dst src 0 imm
 have c6 := @l_give_ok dst 0
 exact (o37 (d := .lst (.fresh 13) 13 [(irD 1 0 0 0 0 0 0 0 0 src 0 0 0), (irD 2 0 0 0 0 0 0 0 0 dst 0 0 0)]) (E1 ++ [tF, .ret _ _ _ c3, .ret _ _ _ c4, .ret _ _ _ c5, .len 1 2147483648 (by decide), .ret _ _ _ c6, .len 2 2147483648 (by decide)]) (by kernel_rfl)).to (by clear E1; (try simp only [IntKind.bits, and31, and63, and32, wrap_mod32, wrap_mod64] at *); simp [wk, wkL, wkO, stepsM, aluM, regOp, immOp, zeroImm, takeD, giveD, two, num, cmov, irD, ]; try ((try simp only [w_u64, w_i64, and32, IntKind.bits, Int.mul_one] at *); omega))
theorem does_0_12_32_ok : SpStepsL0 12 32 := by
 intro byReg dst src imm hi1 hi2
 let E1 : EL := [tT, .get ([D.fn (Fn.func 82) [] [], D.fn (Fn.func 83) [] [], D.fn (Fn.func 84) [] [], D.nilf, D.nilf, D.fn (Fn.func 85) [] [], D.fn (Fn.func 86) [] []]) 0 (D.fn (Fn.func 82) [] []) rfl, tT, .inl, tT, .get ([D.fn (Fn.func 136) [] [], D.fn (Fn.func 136) [] [], D.fn (Fn.func 137) [] [], D.fn (Fn.func 141) [] [], D.fn (Fn.func 136) [] [], D.fn (Fn.func 136) [] [], D.fn (Fn.func 140) [] [], D.fn (Fn.func 140) [] [], D.fn (Fn.func 138) [] [], D.fn (Fn.func 142) [] [], D.fn (Fn.func 136) [] [], D.fn (Fn.func 139) [] [], D.fn (Fn.func 140) [] []]) 12 (D.fn (Fn.func 140) [] []) rfl, .inl, .inl, tT]
 cases byReg
 ·have c0 := @l_take_ok 0 dst
  have c1 := @l_num_ok 19 32 0 (IntKind.wrap IntKind.i64 (↑(BitVec.toNat (BitVec.ofInt (64 : Nat) imm &&& BitVec.ofInt (64 : Nat) 31)) : Int))
  have c2 := @l_give_ok dst 0
  have c3 := @l_steps_ok ([(irD 1 0 0 0 0 0 0 0 0 dst 0 0 0), (irD 0 19 32 0 0 0 0 (IntKind.wrap IntKind.i64 (↑(BitVec.toNat (BitVec.ofInt (64 : Nat) imm &&& BitVec.ofInt (64 : Nat) 31)) : Int)) 0 0 0 0 0), (irD 2 0 0 0 0 0 0 0 0 dst 0 0 0)])
  exact (o37 (d := .lst .tight 13 [(irD 1 0 0 0 0 0 0 0 0 dst 0 0 0), (irD 0 19 32 0 0 0 0 (IntKind.wrap IntKind.i64 (↑(BitVec.toNat (BitVec.ofInt (64 : Nat) imm &&& BitVec.ofInt (64 : Nat) 31)) : Int)) 0 0 0 0 0), (irD 2 0 0 0 0 0 0 0 0 dst 0 0 0)]) (E1 ++ [.get tab_StepsL_0 24 (.int .i8 22) rfl, tT, .get tab_StepsL_0 25 (.int .i8 19) rfl, tF, .ret _ _ _ c0, .ret _ _ _ c1, .ret _ _ _ c2, .ret _ _ _ c3]) (by kernel_rfl)).to (by clear E1; (try simp only [IntKind.bits, and31, and63, and32, wrap_mod32, wrap_mod64] at *); simp [wk, wkL, wkO, stepsM, aluM, regOp, immOp, zeroImm, takeD, giveD, two, num, cmov, irD, ]; try ((try simp only [w_u64, w_i64, and32, IntKind.bits, Int.mul_one] at *); omega))
 have c4 := @l_take_ok 0 dst
 have c5 := @l_take_ok 1 src
 have c6 := @l_one_ok 22 32 0
 have c7 := @l_give_ok dst 0
 have c8 := @l_steps_ok ([(irD 1 0 0 0 0 0 0 0 0 dst 0 0 0), (irD 1 0 0 0 0 0 0 0 0 src 1 0 0), (irD 0 22 32 0 0 0 0 0 0 0 0 0 0), (irD 2 0 0 0 0 0 0 0 0 dst 0 0 0)])
 exact (o37 (d := .lst .tight 13 [(irD 1 0 0 0 0 0 0 0 0 dst 0 0 0), (irD 1 0 0 0 0 0 0 0 0 src 1 0 0), (irD 0 22 32 0 0 0 0 0 0 0 0 0 0), (irD 2 0 0 0 0 0 0 0 0 dst 0 0 0)]) (E1 ++ [.get tab_StepsL_0 24 (.int .i8 22) rfl, tT, .get tab_StepsL_0 25 (.int .i8 19) rfl, tT, .ret _ _ _ c4, .ret _ _ _ c5, .ret _ _ _ c6, .ret _ _ _ c7, .ret _ _ _ c8]) (by kernel_rfl)).to (by clear E1; (try simp only [IntKind.bits, and31, and63, and32, wrap_mod32, wrap_mod64] at *); simp [wk, wkL, wkO, stepsM, aluM, regOp, immOp, zeroImm, takeD, giveD, two, num, cmov, irD, ]; try ((try simp only [w_u64, w_i64, and32, IntKind.bits, Int.mul_one] at *); omega))
theorem does_0_12_64_ok : SpStepsL0 12 64 := by
 intro byReg dst src imm hi1 hi2
 let E1 : EL := [tT, .get ([D.fn (Fn.func 82) [] [], D.fn (Fn.func 83) [] [], D.fn (Fn.func 84) [] [], D.nilf, D.nilf, D.fn (Fn.func 85) [] [], D.fn (Fn.func 86) [] []]) 0 (D.fn (Fn.func 82) [] []) rfl, tT, .inl, tT, .get ([D.fn (Fn.func 136) [] [], D.fn (Fn.func 136) [] [], D.fn (Fn.func 137) [] [], D.fn (Fn.func 141) [] [], D.fn (Fn.func 136) [] [], D.fn (Fn.func 136) [] [], D.fn (Fn.func 140) [] [], D.fn (Fn.func 140) [] [], D.fn (Fn.func 138) [] [], D.fn (Fn.func 142) [] [], D.fn (Fn.func 136) [] [], D.fn (Fn.func 139) [] [], D.fn (Fn.func 140) [] []]) 12 (D.fn (Fn.func 140) [] []) rfl, .inl, .inl, tT]
 cases byReg
 ·have c0 := @l_take_ok 0 dst
  have c1 := @l_num_ok 19 64 0 (IntKind.wrap IntKind.i64 (↑(BitVec.toNat (BitVec.ofInt (64 : Nat) imm &&& BitVec.ofInt (64 : Nat) 63)) : Int))
  have c2 := @l_give_ok dst 0
  have c3 := @l_steps_ok ([(irD 1 0 0 0 0 0 0 0 0 dst 0 0 0), (irD 0 19 64 0 0 0 0 (IntKind.wrap IntKind.i64 (↑(BitVec.toNat (BitVec.ofInt (64 : Nat) imm &&& BitVec.ofInt (64 : Nat) 63)) : Int)) 0 0 0 0 0), (irD 2 0 0 0 0 0 0 0 0 dst 0 0 0)])
  exact (o37 (d := .lst .tight 13 [(irD 1 0 0 0 0 0 0 0 0 dst 0 0 0), (irD 0 19 64 0 0 0 0 (IntKind.wrap IntKind.i64 (↑(BitVec.toNat (BitVec.ofInt (64 : Nat) imm &&& BitVec.ofInt (64 : Nat) 63)) : Int)) 0 0 0 0 0), (irD 2 0 0 0 0 0 0 0 0 dst 0 0 0)]) (E1 ++ [.get tab_StepsL_0 24 (.int .i8 22) rfl, tT, .get tab_StepsL_0 25 (.int .i8 19) rfl, tF, .ret _ _ _ c0, .ret _ _ _ c1, .ret _ _ _ c2, .ret _ _ _ c3]) (by kernel_rfl)).to (by clear E1; (try simp only [IntKind.bits, and31, and63, and32, wrap_mod32, wrap_mod64] at *); simp [wk, wkL, wkO, stepsM, aluM, regOp, immOp, zeroImm, takeD, giveD, two, num, cmov, irD, ]; try ((try simp only [w_u64, w_i64, and32, IntKind.bits, Int.mul_one] at *); omega))
 have c4 := @l_take_ok 0 dst
 have c5 := @l_take_ok 1 src
 have c6 := @l_one_ok 22 64 0
 have c7 := @l_give_ok dst 0
 have c8 := @l_steps_ok ([(irD 1 0 0 0 0 0 0 0 0 dst 0 0 0), (irD 1 0 0 0 0 0 0 0 0 src 1 0 0), (irD 0 22 64 0 0 0 0 0 0 0 0 0 0), (irD 2 0 0 0 0 0 0 0 0 dst 0 0 0)])
 exact (o37 (d := .lst .tight 13 [(irD 1 0 0 0 0 0 0 0 0 dst 0 0 0), (irD 1 0 0 0 0 0 0 0 0 src 1 0 0), (irD 0 22 64 0 0 0 0 0 0 0 0 0 0), (irD 2 0 0 0 0 0 0 0 0 dst 0 0 0)]) (E1 ++ [.get tab_StepsL_0 24 (.int .i8 22) rfl, tT, .get tab_StepsL_0 25 (.int .i8 19) rfl, tT, .ret _ _ _ c4, .ret _ _ _ c5, .ret _ _ _ c6, .ret _ _ _ c7, .ret _ _ _ c8]) (by kernel_rfl)).to (by clear E1; (try simp only [IntKind.bits, and31, and63, and32, wrap_mod32, wrap_mod64] at *); simp [wk, wkL, wkO, stepsM, aluM, regOp, immOp, zeroImm, takeD, giveD, two, num, cmov, irD, ]; try ((try simp only [w_u64, w_i64, and32, IntKind.bits, Int.mul_one] at *); omega))
theorem does_1_ok (size dst src off : Int) (h1 : size = 1 ∨ size = 2 ∨ size = 4 ∨ size = 8) : Ret Try.prog 37 ([instD 1 0 0 size false dst src off 0]) (.lst .no 13 (stepsM 1 0 0 size false dst src off 0)) := by
 have c0 := @l_take_ok 1 src
 have c1 := @l_give_ok dst 0
 have c2 := @l_steps_ok ([(irD 1 0 0 0 0 0 0 0 0 src 1 0 0), (irD 0 26 (IntKind.wrap IntKind.i8 (8 * size)) 0 0 1 off 0 0 0 0 0 0), (irD 2 0 0 0 0 0 0 0 0 dst 0 0 0)])
 exact (o37 (d := .lst .tight 13 [(irD 1 0 0 0 0 0 0 0 0 src 1 0 0), (irD 0 26 (IntKind.wrap IntKind.i8 (8 * size)) 0 0 1 off 0 0 0 0 0 0), (irD 2 0 0 0 0 0 0 0 0 dst 0 0 0)]) [tT, .get ([D.fn (Fn.func 82) [] [], D.fn (Fn.func 83) [] [], D.fn (Fn.func 84) [] [], D.nilf, D.nilf, D.fn (Fn.func 85) [] [], D.fn (Fn.func 86) [] []]) 1 (D.fn (Fn.func 83) [] []) rfl, tT, .inl, .ret _ _ _ c0, .ret _ _ _ c1, .ret _ _ _ c2] (by kernel_rfl)).to (by simp [wk, wkL, wkO, stepsM, ]; rcases h1 with rfl | rfl | rfl | rfl <;> decide)
theorem does_2_ok (size dst src off : Int) (h1 : size = 1 ∨ size = 2 ∨ size = 4 ∨ size = 8) : Ret Try.prog 37 ([instD 2 0 0 size false dst src off 0]) (.lst .no 13 (stepsM 2 0 0 size false dst src off 0)) := by
 have c0 := @l_take_ok 1 dst
 have c1 := @l_take_ok 0 src
 have c2 := @l_steps_ok ([(irD 1 0 0 0 0 0 0 0 0 dst 1 0 0), (irD 1 0 0 0 0 0 0 0 0 src 0 0 0), (irD 0 27 (IntKind.wrap IntKind.i8 (8 * size)) 0 0 1 off 0 0 0 0 0 0)])
 exact (o37 (d := .lst .tight 13 [(irD 1 0 0 0 0 0 0 0 0 dst 1 0 0), (irD 1 0 0 0 0 0 0 0 0 src 0 0 0), (irD 0 27 (IntKind.wrap IntKind.i8 (8 * size)) 0 0 1 off 0 0 0 0 0 0)]) [tT, .get ([D.fn (Fn.func 82) [] [], D.fn (Fn.func 83) [] [], D.fn (Fn.func 84) [] [], D.nilf, D.nilf, D.fn (Fn.func 85) [] [], D.fn (Fn.func 86) [] []]) 2 (D.fn (Fn.func 84) [] []) rfl, tT, .inl, .ret _ _ _ c0, .ret _ _ _ c1, .ret _ _ _ c2] (by kernel_rfl)).to (by simp [wk, wkL, wkO, stepsM, ]; rcases h1 with rfl | rfl | rfl | rfl <;> decide)
theorem does_5_ok (imm : Int) : Ret Try.prog 37 ([instD 5 0 0 0 false 0 0 0 imm]) (.lst .no 13 (stepsM 5 0 0 0 false 0 0 0 imm)) := by
 have c0 := @l_give_ok 0 0
 have c1 := @l_num_ok 1 32 1 0
 have c2 := @l_steps_ok ([(irD 3 0 0 0 0 0 0 0 0 0 0 imm 0), (irD 2 0 0 0 0 0 0 0 0 0 0 0 0), (irD 0 1 32 1 0 0 0 0 0 0 0 0 0)])
 have c3 := @l_give_ok 1 1
 have c4 := @l_give_ok 2 1
 have c5 := @l_give_ok 3 1
 have c6 := @l_give_ok 4 1
 have c7 := @l_give_ok 5 1
 exact (o37 (d := .lst (.fresh 13) 13 [(irD 3 0 0 0 0 0 0 0 0 0 0 imm 0), (irD 2 0 0 0 0 0 0 0 0 0 0 0 0), (irD 0 1 32 1 0 0 0 0 0 0 0 0 0), (irD 2 0 0 0 0 0 0 0 0 1 1 0 0), (irD 2 0 0 0 0 0 0 0 0 2 1 0 0), (irD 2 0 0 0 0 0 0 0 0 3 1 0 0), (irD 2 0 0 0 0 0 0 0 0 4 1 0 0), (irD 2 0 0 0 0 0 0 0 0 5 1 0 0)]) [tT, .get ([D.fn (Fn.func 82) [] [], D.fn (Fn.func 83) [] [], D.fn (Fn.func 84) [] [], D.nilf, D.nilf, D.fn (Fn.func 85) [] [], D.fn (Fn.func 86) [] []]) 5 (D.fn (Fn.func 85) [] []) rfl, tT, .inl, .ret _ _ _ c0, .ret _ _ _ c1, .ret _ _ _ c2, .go 64, tT, .ret _ _ _ c3, .len 4 2147483648 (by decide), tT, .ret _ _ _ c4, .len 5 2147483648 (by decide), tT, .ret _ _ _ c5, .len 6 2147483648 (by decide), tT, .ret _ _ _ c6, .len 7 2147483648 (by decide), tT, .ret _ _ _ c7, .len 8 2147483648 (by decide), tF] (by kernel_rfl)).to (by simp [wk, wkL, wkO, stepsM, ])
theorem does_6_ok  : Ret Try.prog 37 ([instD 6 0 0 0 false 0 0 0 0]) (.lst .no 13 (stepsM 6 0 0 0 false 0 0 0 0)) := by
 have c0 := @l_steps_ok ([(irD 6 0 0 0 0 0 0 0 0 0 0 0 0)])
 exact (o37 (d := .lst .tight 13 [(irD 6 0 0 0 0 0 0 0 0 0 0 0 0)]) [tT, .get ([D.fn (Fn.func 82) [] [], D.fn (Fn.func 83) [] [], D.fn (Fn.func 84) [] [], D.nilf, D.nilf, D.fn (Fn.func 85) [] [], D.fn (Fn.func 86) [] []]) 6 (D.fn (Fn.func 86) [] []) rfl, tT, .inl, .ret _ _ _ c0] (by kernel_rfl)).to (by simp [wk, wkL, wkO, stepsM, ])
end Go.Proofs.Ytcngafhpodeenaa

namespace Go.Proofs.Ytcngafhpodeenaa
open Go Go.Ev
set_option maxRecDepth 100000
set_option maxHeartbeats 8000000
end Go.Proofs.Ytcngafhpodeenaa

namespace Go.Proofs.Ytcngafhpodeenaa
open Go Go.Ev
theorem does_any_ok (kind op width size : Int) (byReg : Bool) (dst src off imm : Int) (h : mayM kind op width size byReg dst src off imm = true) (h3 : (kind == 3) = false) (h4 : (kind == 4) = false) :
  Ret Try.prog 37 [instD kind op width size byReg dst src off imm] (.lst .no 13 (stepsM kind op width size byReg dst src off imm)) := by
 obtain ⟨⟨_, _, _, _, _, _, i1, i2⟩, hf⟩ := may_forms h
 simp only [beq_eq_false_iff_ne] at h3 h4
 rcases hf with ⟨rfl, rfl, rfl, _, h8, ho, hw, _, _⟩ | ⟨rfl, rfl, rfl, rfl, rfl, _, hs⟩ | ⟨rfl, rfl, rfl, rfl, rfl, hs⟩ | ⟨rfl, _⟩ | ⟨rfl, _⟩ | ⟨rfl, rfl, rfl, rfl, rfl, rfl, rfl, rfl, _⟩ | ⟨rfl, rfl, rfl, rfl, rfl, rfl, rfl, rfl, rfl⟩
 ·rcases ho with rfl | rfl | rfl | rfl | rfl | rfl | rfl | rfl | rfl | rfl | rfl | rfl | rfl <;> rcases hw with rfl | rfl
  all_goals first
   | exact does_0_0_32_ok _ _ _ _ i1 i2
   | exact does_0_0_64_ok _ _ _ _ i1 i2
   | exact does_0_1_32_ok _ _ _ _ i1 i2
   | exact does_0_1_64_ok _ _ _ _ i1 i2
   | exact does_0_2_32_ok _ _ _ _ i1 i2
   | exact does_0_2_64_ok _ _ _ _ i1 i2
   | exact does_0_3_32_ok _ _ _ _ i1 i2
   | exact does_0_3_64_ok _ _ _ _ i1 i2
   | exact does_0_4_32_ok _ _ _ _ i1 i2
   | exact does_0_4_64_ok _ _ _ _ i1 i2
   | exact does_0_5_32_ok _ _ _ _ i1 i2
   | exact does_0_5_64_ok _ _ _ _ i1 i2
   | exact does_0_6_32_ok _ _ _ _ i1 i2
   | exact does_0_6_64_ok _ _ _ _ i1 i2
   | exact does_0_7_32_ok _ _ _ _ i1 i2
   | exact does_0_7_64_ok _ _ _ _ i1 i2
   | exact does_0_8_32_ok _ _ _ _ i1 i2 (h8 rfl)
   | exact does_0_8_64_ok _ _ _ _ i1 i2 (h8 rfl)
   | exact does_0_9_32_ok _ _ _ _ i1 i2
   | exact does_0_9_64_ok _ _ _ _ i1 i2
   | exact does_0_10_32_ok _ _ _ _ i1 i2
   | exact does_0_10_64_ok _ _ _ _ i1 i2
   | exact does_0_11_32_ok _ _ _ _ i1 i2
   | exact does_0_11_64_ok _ _ _ _ i1 i2
   | exact does_0_12_32_ok _ _ _ _ i1 i2
   | exact does_0_12_64_ok _ _ _ _ i1 i2
 ·exact does_1_ok _ _ _ _ hs
 ·exact does_2_ok _ _ _ _ hs
 ·exact absurd rfl h3
 ·exact absurd rfl h4
 ·exact does_5_ok _
 ·exact does_6_ok
theorem jump_any_ok (kind op width size : Int) (byReg : Bool) (dst src off imm a b : Int) (h0 : 0 ≤ op) (h1 : op ≤ 10) :
  Ret Try.prog 35 [instD kind op width size byReg dst src off imm, .lst .no 1 [.int .i64 a, .int .i64 b]] (.lst .no 13 (jmpM op byReg dst src imm a b)) := by
 rcases Bool.eq_false_or_eq_true (op == 10) with h | h <;> cases byReg
 ·exact jump_is_ok kind op width size dst src off imm h0 h1 h a b
 ·exact jump_rs_ok kind op width size dst src off imm h0 h1 h a b
 ·exact jump_ic_ok kind op width size dst src off imm h0 h1 h a b
 ·exact jump_rc_ok kind op width size dst src off imm h0 h1 h a b
end Go.Proofs.Ytcngafhpodeenaa
