/- Contracts and plain laws that a statement's proof leans on (texts merged: KU3A, KU4, KM2, KM2A, KM3, KL1, KL1A, ZL0A, KL0, KL2, KL2A). -/
import Derived.Test.YtcngafhpodeenaaQ04
import Derived.Test.YtcngafhpodeenaaQ05
import Derived.Test.YtcngafhpodeenaaQ07
import Derived.Test.YtcngafhpodeenaaQ11
import Derived.Test.YtcngafhpodeenaaQ12
import Derived.Test.YtcngafhpodeenaaQ13
set_option linter.unusedVariables false
set_option linter.unusedSimpArgs false
namespace Go.Proofs.Ytcngafhpodeenaa
open Go Go.Ev
set_option maxRecDepth 100000
abbrev uoT (rs out : List D) (b : Int) : List D := [.undef, .ptr false 0 0, .undef, .undef, .lst .no 3 rs, .undef, .lst (.tok 2 0) 1 out, .int .i64 b, .undef, .undef, .undef, .undef, .undef, .undef, .undef, .undef, .undef, .undef, .undef, .undef, .undef, .undef, .undef, .undef, .undef, .undef, .undef, .undef, .undef, .undef, .undef, .undef, .undef, .undef, .undef, .undef, .undef, .undef, .undef, .undef, .undef, .undef, .undef, .undef, .undef, .undef, .undef, .undef, .undef, .undef, .undef, .undef, .undef, .undef, .undef, .undef, .undef, .undef, .undef, .undef, .undef, .undef, .undef, .undef, .undef, .undef, .undef, .undef, .undef, .undef, .undef, .undef, .undef, .undef, .undef, .undef, .undef, .undef, .undef, .undef, .undef, .undef, .undef, .undef, .undef, .undef, .undef, .undef, .undef, .undef, .undef, .undef, .undef, .undef, .undef, .undef, .undef, .undef, .undef, .undef, .undef, .undef, .undef, .undef, .undef, .undef, .undef, .undef, .undef, .undef, .undef, .undef, .undef, .undef, .undef, .undef, .undef, .undef, .undef, .undef, .undef, .undef, .undef, .undef, .undef, .undef, .undef, .undef, .undef, .undef, .undef, .undef, .undef, .undef, .undef, .undef]
abbrev uoU (out : List D) : List D := [.undef, .undef, .undef, .undef, .undef, .undef, .lst (.tok 2 0) 1 out, .undef, .undef, .undef, .undef, .undef, .undef, .undef, .undef, .undef, .undef, .undef, .undef, .undef, .undef, .undef, .undef, .undef, .undef, .undef, .undef, .undef, .undef, .undef, .undef, .undef, .undef, .undef, .undef, .undef, .undef, .undef, .undef, .undef, .undef, .undef, .undef, .undef, .undef, .undef, .undef, .undef, .undef, .undef, .undef, .undef, .undef, .undef, .undef, .undef, .undef, .undef, .undef, .undef, .undef, .undef, .undef, .undef, .undef, .undef, .undef, .undef, .undef, .undef, .undef, .undef, .undef, .undef, .undef, .undef, .undef, .undef, .undef, .undef, .undef, .undef, .undef, .undef, .undef, .undef, .undef, .undef, .undef, .undef, .undef, .undef, .undef, .undef, .undef, .undef, .undef, .undef, .undef, .undef, .undef, .undef, .undef, .undef, .undef, .undef, .undef, .undef, .undef, .undef, .undef, .undef, .undef, .undef, .undef, .undef, .undef, .undef, .undef, .undef, .undef, .undef, .undef, .undef, .undef, .undef, .undef, .undef, .undef, .undef, .undef, .undef, .undef, .undef, .undef, .undef]
theorem uo_rounds (l : List InstS) (hp : OkP l) (ctx : Int) : ∀ (m b : Nat), b + m = (rowsP l).length →
  Rounds Try.prog (loopB Try.f14 0) 2 (uoT ((rowsP l).map RowS.d) (((rowsP l).take b).map (rwD l)) b) (loS ctx l) (.exit 0) (uoU ((rowsP l).map (rwD l))) [.dead, .dead, .fam 0 1]
 | 0, b, hb => by
  rw [List.take_of_length_le (by omega)]
  exact Rounds.last (uo_end (isd l) ((rowsP l).map RowS.d) ((rowsP l).map (rwD l)) ctx b (by rw [List.length_map]; omega)) (fun h => by cases h)
 | m + 1, b, hb => by
  have h64 := hp.le
  have hN := rowsP_len l
  have ih := uo_rounds l hp ctx m (b + 1) (by omega)
  have hw : IntKind.i64.wrap ((b : Int) + 1) = ((b + 1 : Nat) : Int) := by rw [w_i64]; omega
  have hlt : b < (rowsP l).length := by omega
  obtain ⟨r, hg⟩ : ∃ r, (rowsP l)[b]? = some r := ⟨_, List.getElem?_eq_getElem hlt⟩
  have hr := rows_ok hg
  have f0 := hr.f0
  have ft := hr.ft
  have tl := hr.tl
  have hgd : ((rowsP l).map RowS.d)[(b : Int).toNat]? = some (.agg [.int .i64 r.fr, .int .i64 r.to, nxD r.nx]) := by rw [Int.toNat_natCast, List.getElem?_map, hg]; rfl
  obtain ⟨q, hlq, q1, q2, hk, hy⟩ := row_lastI l h64 hr
  have tl' : r.to ≤ ((isd l).length : Int) := by rw [isd_len]; omega
  have l1 : ((isd l).length : Int) ≤ 64 := by rw [isd_len]; omega
  have b1 : (b : Int) < (((rowsP l).map RowS.d).length : Int) := by rw [List.length_map]; omega
  have r1 : (((rowsP l).map RowS.d).length : Int) ≤ 64 := by rw [List.length_map]; omega
  have o1 : ((((rowsP l).take b).map (rwD l)).length : Int) ≤ 64 := by rw [List.length_map, List.length_take]; omega
  have hacc := accM_len l r.fr.toNat r.nx (r.to.toNat - r.fr.toNat)
  have w1 : ((accM l r.fr.toNat r.nx (r.to.toNat - r.fr.toNat)).length : Int) ≤ 1000 := by omega
  have hI := ui_loop l hp ctx ((rowsP l).map RowS.d) (((rowsP l).take b).map (rwD l)) b r hr b1 r1 hgd
  have ho := low_succ l b r hg
  have hR : rowM l r = accM l r.fr.toNat r.nx (r.to.toNat - r.fr.toNat) ++ tailM l r := rfl
  unfold tailM at hR
  rw [hk] at hR
  rw [ho, hR] at ih
  by_cases q3 : l[q].kind = 3
  ·rw [if_pos (by rw [q3]; rfl), List.append_nil] at ih
   have hn := row_jump hp hr q2 (by omega) hlq q3
   have e : nxD r.nx = .lst .no 1 (i64s r.nx) := by rw [hn]; rfl
   rw [e] at hgd
   have := uo_jump (isd l) ((rowsP l).map RowS.d) (((rowsP l).take b).map (rwD l)) ctx b (i64s r.nx) _ _ hgd f0 ft tl' l1 b1 r1 o1 _ _ _ _ _ _ _ _ _ hy _ w1 hI q3
   rw [hw] at this
   exact Rounds.more this ih
  by_cases q4 : l[q].kind = 4
  ·rw [if_pos (by rw [q4]; rfl), List.append_nil] at ih
   have hn := row_goto hp hr q2 (by omega) hlq q4
   have e : nxD r.nx = .lst .no 1 (i64s r.nx) := by rw [hn]; rfl
   rw [e] at hgd
   have := uo_goto (isd l) ((rowsP l).map RowS.d) (((rowsP l).take b).map (rwD l)) ctx b (i64s r.nx) _ _ hgd f0 ft tl' l1 b1 r1 o1 _ _ _ _ _ _ _ _ _ hy _ w1 hI q4
   rw [hw] at this
   exact Rounds.more this ih
  by_cases q6 : l[q].kind = 6
  ·rw [if_pos (by rw [q6]; rfl), List.append_nil] at ih
   have hn := row_exit hp hr q1 hlq q6
   have e : nxD r.nx = .lst .tight 0 [] := by rw [hn]; rfl
   rw [e] at hgd
   have := uo_exit (isd l) ((rowsP l).map RowS.d) (((rowsP l).take b).map (rwD l)) ctx b _ _ hgd f0 ft tl' l1 b1 r1 o1 _ _ _ _ _ _ _ _ _ hy _ w1 hI q6
   rw [hw] at this
   exact Rounds.more this ih
  ·have hst : stopK l[q].kind = false := by unfold stopK; simp [q3, q4, q6]
   have hn := row_else hp hr q1 hlq q3 q4 q6
   rw [if_neg (by rw [hst]; simp), show r.nx.getD 0 0 = (b : Int) + 1 by rw [hn]; rfl] at ih
   have e : nxD r.nx = .lst .no 1 [.int .i64 ((b : Int) + 1)] := by rw [hn]; rfl
   rw [e] at hgd
   have := uo_else (isd l) ((rowsP l).map RowS.d) (((rowsP l).take b).map (rwD l)) ctx b ((b : Int) + 1) _ _ hgd f0 ft tl' l1 b1 r1 o1 _ _ _ _ _ _ _ _ _ hy _ w1 hI (by simpa using q3) (by simpa using q4) (by simpa using q6)
   rw [hw] at this
   exact Rounds.more this ih
theorem uo_enter (l : List InstS) (hp : OkP l) (ctx : Int) : LoopRun Try.prog 2 (.loop (loopB Try.f14 0)) (uoT ((rowsP l).map RowS.d) [] 0) (loS ctx l) (.exit 0) (uoU (lowM l)) [.dead, .dead, .fam 0 1] :=
 LoopRun.of_rounds (by show 2 ≤ 3; decide) (uo_rounds l hp ctx (rowsP l).length 0 (by omega))
end Go.Proofs.Ytcngafhpodeenaa

namespace Go.Proofs.Ytcngafhpodeenaa
open Go Go.Ev
set_option maxRecDepth 100000
set_option maxHeartbeats 8000000
theorem rlrun_no_ok (ctx : Int) (l : List InstS) (hb : Ret Try.prog 30 [.agg [.int .i64 ctx, .lst .no 9 (isd l)]] (.tup [.lst .tight 0 [], .int .i64 (checkM ctx l).2])) (he : ((checkM ctx l).2 == 0) = false)  : Ret Try.prog 14 ([.agg [.int .i64 ctx, .lst .no 9 (isd l)]]) (.tup [.lst .tight 0 [], .int .i64 (checkM ctx l).2]) := by
 exact (Ret.of_eval (d := .tup [.lst .tight 0 [], .int .i64 (Prod.snd (checkM ctx l))]) mixed Try.func14 (by kernel_rfl) [.ret _ _ _ hb, tC (nt he)] (by kernel_rfl)).to (by simp [wk, wkL, wkO])
theorem rlrun_ok (ctx : Int) (l : List InstS) (hp : OkP l) (hb : Ret Try.prog 30 [.agg [.int .i64 ctx, .lst .no 9 (isd l)]] (.tup [.lst .no 3 ((rowsP l).map RowS.d), .int .i64 0]))  : Ret Try.prog 14 ([.agg [.int .i64 ctx, .lst .no 9 (isd l)]]) (.tup [.lst .no 1 (lowM l), .int .i64 0]) := by
 have c0 := @uo_enter (l) hp (ctx)
 exact (Ret.of_eval (d := .tup [.lst (.fresh 1) 1 (lowM l), .int .i64 0]) mixed Try.func14 (by kernel_rfl) [.ret _ _ _ hb, tF, .head ⟨[1, 4, 7], [0], [(6, 1)]⟩ _ _ _ _ _ _ _ c0] (by kernel_rfl)).to (by simp [wk, wkL, wkO])
end Go.Proofs.Ytcngafhpodeenaa

namespace Go.Proofs.Ytcngafhpodeenaa
open Go Go.Ev
set_option maxRecDepth 100000
set_option maxHeartbeats 8000000
theorem mo_end (l : List D) (m : Int) (k : Nat) (h : (l.length : Int) ≤ k)  : RoundRun Try.prog (loopB Try.f16 0) ⟨[2], [], []⟩ 2 [uu, uu, .int .i64 m, uu, uu, uu, uu, uu, uu, uu, uu, uu, uu, uu, uu, .lst .no 9 l, .int .i64 (↑(List.length l) : Int), .int .i64 (↑k : Int), uu, uu, uu, uu, uu, uu, uu, uu, uu, uu, uu, uu, uu, uu, uu, uu, uu, uu, uu, uu, uu, uu, uu, uu] [Ob.dead, Ob.dead] (Ex.exit (0 : Nat)) [uu, uu, .int .i64 m, uu, uu, uu, uu, uu, uu, uu, uu, uu, uu, uu, uu, uu, uu, uu, uu, uu, uu, uu, uu, uu, uu, uu, uu, uu, uu, uu, uu, uu, uu, uu, uu, uu, uu, uu, uu, uu, uu, uu] ([Ob.dead, Ob.dead]) := by
 exact (RoundRun.of_eval (sp := ⟨[2], [], []⟩) (n0 := 2) (ex := Ex.exit (0 : Nat)) (t' := [uu, uu, .int .i64 m, uu, uu, uu, uu, uu, uu, uu, uu, uu, uu, uu, uu, uu, uu, uu, uu, uu, uu, uu, uu, uu, uu, uu, uu, uu, uu, uu, uu, uu, uu, uu, uu, uu, uu, uu, uu, uu, uu, uu]) (s' := [Ob.dead, Ob.dead]) mixed [tC (by ((try simp only [List.length_append, List.length_cons, List.length_nil, List.length_set, List.length_replicate, List.length_take, List.length_drop, sl2] at *); (try unfold big at *); omega) : (decide ((↑k : Int) < (↑(List.length l) : Int))) = false)] (by kernel_rfl)).cast (by rfl) (by rfl)
theorem mo_jump (l : List D) (m : Int) (k : Nat) (k1 : (k : Int) < (l.length : Int)) (n1 : (l.length : Int) ≤ 64) (m0 : 0 ≤ m) (m1 : m ≤ 100) (kind op width size : Int) (byReg : Bool) (dst src off imm : Int) (hx : l[(k : Int).toNat]? = some (instD kind op width size byReg dst src off imm)) (ds : List D) (d1 : (ds.length : Int) ≤ 12) (hd : Ret Try.prog 35 [instD kind op width size byReg dst src off imm, .lst .no 1 [.int .i64 0, .int .i64 0]] (.lst .no 13 ds)) (kk : kind = 3)  : RoundRun Try.prog (loopB Try.f16 0) ⟨[2, 15, 16, 17], [], []⟩ 2 [uu, uu, .int .i64 m, uu, uu, uu, uu, uu, uu, uu, uu, uu, uu, uu, uu, .lst .no 9 l, .int .i64 (↑(List.length l) : Int), .int .i64 (↑k : Int), uu, uu, uu, uu, uu, uu, uu, uu, uu, uu, uu, uu, uu, uu, uu, uu, uu, uu, uu, uu, uu, uu, uu, uu] [Ob.dead, Ob.dead] (Ex.norm) [uu, uu, .int .i64 (if (↑(List.length ds) : Int) > m then (↑(List.length ds) : Int) else m), uu, uu, uu, uu, uu, uu, uu, uu, uu, uu, uu, uu, .lst .no 9 l, .int .i64 (↑(List.length l) : Int), .int .i64 (IntKind.wrap IntKind.i64 ((↑k : Int) + 1)), uu, uu, uu, uu, uu, uu, uu, uu, uu, uu, uu, uu, uu, uu, uu, uu, uu, uu, uu, uu, uu, uu, uu, uu] ([Ob.dead, Ob.dead]) := by
 exact (RoundRun.of_eval (sp := ⟨[2, 15, 16, 17], [], []⟩) (n0 := 2) (ex := Ex.norm) (t' := [uu, uu, .int .i64 (if (↑(List.length ds) : Int) > m then (↑(List.length ds) : Int) else m), uu, uu, uu, uu, uu, uu, uu, uu, uu, uu, uu, uu, .lst .no 9 l, .int .i64 (↑(List.length l) : Int), .int .i64 (IntKind.wrap IntKind.i64 ((↑k : Int) + 1)), uu, uu, uu, uu, uu, uu, uu, uu, uu, uu, uu, uu, uu, uu, uu, uu, uu, uu, uu, uu, uu, uu, uu, uu]) (s' := [Ob.dead, Ob.dead]) mixed [tC (by ((try simp only [List.length_append, List.length_cons, List.length_nil, List.length_set, List.length_replicate, List.length_take, List.length_drop, sl2] at *); (try unfold big at *); omega) : (decide ((↑k : Int) < (↑(List.length l) : Int))) = true), tT, .get _ _ _ hx, tC (eqI 3 true (by ((try simp only [List.length_append, List.length_cons, List.length_nil, List.length_set, List.length_replicate, List.length_take, List.length_drop, sl2] at *); (try unfold big at *); omega) : kind = 3)), .ret _ _ _ (Ret.args (as' := [(instD kind op width size byReg dst src off imm), .lst .tight 1 [.int .i64 0, .int .i64 0]]) hd (by first | (simp [wkL, wk, wkO]; done) | exact wkL_no rfl (by simp [wkL, wk])))] (by kernel_rfl)).cast (by rfl) (by rfl)
theorem mo_goto (l : List D) (m : Int) (k : Nat) (k1 : (k : Int) < (l.length : Int)) (n1 : (l.length : Int) ≤ 64) (m0 : 0 ≤ m) (m1 : m ≤ 100) (kind op width size : Int) (byReg : Bool) (dst src off imm : Int) (hx : l[(k : Int).toNat]? = some (instD kind op width size byReg dst src off imm)) (kk : kind = 4)  : RoundRun Try.prog (loopB Try.f16 0) ⟨[2, 15, 16, 17], [], []⟩ 2 [uu, uu, .int .i64 m, uu, uu, uu, uu, uu, uu, uu, uu, uu, uu, uu, uu, .lst .no 9 l, .int .i64 (↑(List.length l) : Int), .int .i64 (↑k : Int), uu, uu, uu, uu, uu, uu, uu, uu, uu, uu, uu, uu, uu, uu, uu, uu, uu, uu, uu, uu, uu, uu, uu, uu] [Ob.dead, Ob.dead] (Ex.norm) [uu, uu, .int .i64 (if 1 > m then 1 else m), uu, uu, uu, uu, uu, uu, uu, uu, uu, uu, uu, uu, .lst .no 9 l, .int .i64 (↑(List.length l) : Int), .int .i64 (IntKind.wrap IntKind.i64 ((↑k : Int) + 1)), uu, uu, uu, uu, uu, uu, uu, uu, uu, uu, uu, uu, uu, uu, uu, uu, uu, uu, uu, uu, uu, uu, uu, uu] ([Ob.dead, Ob.dead]) := by
 exact (RoundRun.of_eval (sp := ⟨[2, 15, 16, 17], [], []⟩) (n0 := 2) (ex := Ex.norm) (t' := [uu, uu, .int .i64 (if 1 > m then 1 else m), uu, uu, uu, uu, uu, uu, uu, uu, uu, uu, uu, uu, .lst .no 9 l, .int .i64 (↑(List.length l) : Int), .int .i64 (IntKind.wrap IntKind.i64 ((↑k : Int) + 1)), uu, uu, uu, uu, uu, uu, uu, uu, uu, uu, uu, uu, uu, uu, uu, uu, uu, uu, uu, uu, uu, uu, uu, uu]) (s' := [Ob.dead, Ob.dead]) mixed [tC (by ((try simp only [List.length_append, List.length_cons, List.length_nil, List.length_set, List.length_replicate, List.length_take, List.length_drop, sl2] at *); (try unfold big at *); omega) : (decide ((↑k : Int) < (↑(List.length l) : Int))) = true), tT, .get _ _ _ hx, tC (by ((try simp only [List.length_append, List.length_cons, List.length_nil, List.length_set, List.length_replicate, List.length_take, List.length_drop, sl2] at *); (try unfold big at *); omega) : (kind == 3) = false), tC (eqI 4 true (by ((try simp only [List.length_append, List.length_cons, List.length_nil, List.length_set, List.length_replicate, List.length_take, List.length_drop, sl2] at *); (try unfold big at *); omega) : kind = 4))] (by kernel_rfl)).cast (by rfl) (by rfl)
theorem mo_step (l : List D) (m : Int) (k : Nat) (k1 : (k : Int) < (l.length : Int)) (n1 : (l.length : Int) ≤ 64) (m0 : 0 ≤ m) (m1 : m ≤ 100) (kind op width size : Int) (byReg : Bool) (dst src off imm : Int) (hx : l[(k : Int).toNat]? = some (instD kind op width size byReg dst src off imm)) (ds : List D) (d1 : (ds.length : Int) ≤ 12) (hd : Ret Try.prog 37 [instD kind op width size byReg dst src off imm] (.lst .no 13 ds)) (q3 : (kind == 3) = false) (q4 : (kind == 4) = false)  : RoundRun Try.prog (loopB Try.f16 0) ⟨[2, 15, 16, 17], [], []⟩ 2 [uu, uu, .int .i64 m, uu, uu, uu, uu, uu, uu, uu, uu, uu, uu, uu, uu, .lst .no 9 l, .int .i64 (↑(List.length l) : Int), .int .i64 (↑k : Int), uu, uu, uu, uu, uu, uu, uu, uu, uu, uu, uu, uu, uu, uu, uu, uu, uu, uu, uu, uu, uu, uu, uu, uu] [Ob.dead, Ob.dead] (Ex.norm) [uu, uu, .int .i64 (if (↑(List.length ds) : Int) > m then (↑(List.length ds) : Int) else m), uu, uu, uu, uu, uu, uu, uu, uu, uu, uu, uu, uu, .lst .no 9 l, .int .i64 (↑(List.length l) : Int), .int .i64 (IntKind.wrap IntKind.i64 ((↑k : Int) + 1)), uu, uu, uu, uu, uu, uu, uu, uu, uu, uu, uu, uu, uu, uu, uu, uu, uu, uu, uu, uu, uu, uu, uu, uu] ([Ob.dead, Ob.dead]) := by
 exact (RoundRun.of_eval (sp := ⟨[2, 15, 16, 17], [], []⟩) (n0 := 2) (ex := Ex.norm) (t' := [uu, uu, .int .i64 (if (↑(List.length ds) : Int) > m then (↑(List.length ds) : Int) else m), uu, uu, uu, uu, uu, uu, uu, uu, uu, uu, uu, uu, .lst .no 9 l, .int .i64 (↑(List.length l) : Int), .int .i64 (IntKind.wrap IntKind.i64 ((↑k : Int) + 1)), uu, uu, uu, uu, uu, uu, uu, uu, uu, uu, uu, uu, uu, uu, uu, uu, uu, uu, uu, uu, uu, uu, uu, uu]) (s' := [Ob.dead, Ob.dead]) mixed [tC (by ((try simp only [List.length_append, List.length_cons, List.length_nil, List.length_set, List.length_replicate, List.length_take, List.length_drop, sl2] at *); (try unfold big at *); omega) : (decide ((↑k : Int) < (↑(List.length l) : Int))) = true), tT, .get _ _ _ hx, tC q3, tC q4, .ret _ _ _ hd] (by kernel_rfl)).cast (by rfl) (by rfl)
theorem umo_end (l : List D) (ctx m : Int) (k : Nat) (h : (l.length : Int) ≤ k)  : RoundRun Try.prog (loopB Try.f17 0) ⟨[5], [], []⟩ 2 [uu, D.ptr false 0 0, uu, uu, uu, .int .i64 m, .int .i64 (↑k : Int), uu, uu, uu, uu, uu, uu, uu, uu, uu, uu, uu, uu, uu, uu, uu, uu, uu, uu, uu, uu, uu, uu, uu, uu, uu, uu, uu, uu, uu, uu, uu, uu, uu, uu, uu, uu, uu, uu, uu, uu] [Ob.box [.int .i64 ctx, .lst .no 9 l], Ob.dead] (Ex.exit (0 : Nat)) [uu, uu, uu, uu, uu, .int .i64 m, uu, uu, uu, uu, uu, uu, uu, uu, uu, uu, uu, uu, uu, uu, uu, uu, uu, uu, uu, uu, uu, uu, uu, uu, uu, uu, uu, uu, uu, uu, uu, uu, uu, uu, uu, uu, uu, uu, uu, uu, uu] ([Ob.dead, Ob.dead]) := by
 exact (RoundRun.of_eval (sp := ⟨[5], [], []⟩) (n0 := 2) (ex := Ex.exit (0 : Nat)) (t' := [uu, uu, uu, uu, uu, .int .i64 m, uu, uu, uu, uu, uu, uu, uu, uu, uu, uu, uu, uu, uu, uu, uu, uu, uu, uu, uu, uu, uu, uu, uu, uu, uu, uu, uu, uu, uu, uu, uu, uu, uu, uu, uu, uu, uu, uu, uu, uu, uu]) (s' := [Ob.dead, Ob.dead]) mixed [tC (by ((try simp only [List.length_append, List.length_cons, List.length_nil, List.length_set, List.length_replicate, List.length_take, List.length_drop, sl2] at *); (try unfold big at *); omega) : (decide ((↑k : Int) < (↑(List.length l) : Int))) = false)] (by kernel_rfl)).cast (by rfl) (by rfl)
theorem umo_jump (l : List D) (ctx m : Int) (k : Nat) (k1 : (k : Int) < (l.length : Int)) (n1 : (l.length : Int) ≤ 64) (m0 : 0 ≤ m) (m1 : m ≤ 100) (kind op width size : Int) (byReg : Bool) (dst src off imm : Int) (hx : l[(k : Int).toNat]? = some (instD kind op width size byReg dst src off imm)) (ds : List D) (d1 : (ds.length : Int) ≤ 12) (hd : Ret Try.prog 39 [instD kind op width size byReg dst src off imm] (.lst .no 13 ds)) (kk : kind = 3)  : RoundRun Try.prog (loopB Try.f17 0) ⟨[1, 5, 6], [0], []⟩ 2 [uu, D.ptr false 0 0, uu, uu, uu, .int .i64 m, .int .i64 (↑k : Int), uu, uu, uu, uu, uu, uu, uu, uu, uu, uu, uu, uu, uu, uu, uu, uu, uu, uu, uu, uu, uu, uu, uu, uu, uu, uu, uu, uu, uu, uu, uu, uu, uu, uu, uu, uu, uu, uu, uu, uu] [Ob.box [.int .i64 ctx, .lst .no 9 l], Ob.dead] (Ex.norm) [uu, D.ptr false 0 0, uu, uu, uu, .int .i64 (if IntKind.wrap IntKind.i64 ((↑(List.length ds) : Int) + 2) > m then IntKind.wrap IntKind.i64 ((↑(List.length ds) : Int) + 2) else m), .int .i64 (IntKind.wrap IntKind.i64 ((↑k : Int) + 1)), uu, uu, uu, uu, uu, uu, uu, uu, uu, uu, uu, uu, uu, uu, uu, uu, uu, uu, uu, uu, uu, uu, uu, uu, uu, uu, uu, uu, uu, uu, uu, uu, uu, uu, uu, uu, uu, uu, uu, uu] ([Ob.box [.int .i64 ctx, .lst .no 9 l], Ob.dead]) := by
 exact (RoundRun.of_eval (sp := ⟨[1, 5, 6], [0], []⟩) (n0 := 2) (ex := Ex.norm) (t' := [uu, D.ptr false 0 0, uu, uu, uu, .int .i64 (if IntKind.wrap IntKind.i64 ((↑(List.length ds) : Int) + 2) > m then IntKind.wrap IntKind.i64 ((↑(List.length ds) : Int) + 2) else m), .int .i64 (IntKind.wrap IntKind.i64 ((↑k : Int) + 1)), uu, uu, uu, uu, uu, uu, uu, uu, uu, uu, uu, uu, uu, uu, uu, uu, uu, uu, uu, uu, uu, uu, uu, uu, uu, uu, uu, uu, uu, uu, uu, uu, uu, uu, uu, uu, uu, uu, uu, uu]) (s' := [Ob.box [.int .i64 ctx, .lst .no 9 l], Ob.dead]) mixed [tC (by ((try simp only [List.length_append, List.length_cons, List.length_nil, List.length_set, List.length_replicate, List.length_take, List.length_drop, sl2] at *); (try unfold big at *); omega) : (decide ((↑k : Int) < (↑(List.length l) : Int))) = true), tT, .get _ _ _ hx, tC (eqI 3 true (by ((try simp only [List.length_append, List.length_cons, List.length_nil, List.length_set, List.length_replicate, List.length_take, List.length_drop, sl2] at *); (try unfold big at *); omega) : kind = 3)), .ret _ _ _ hd] (by kernel_rfl)).cast (by rfl) (by rfl)
theorem umo_goto (l : List D) (ctx m : Int) (k : Nat) (k1 : (k : Int) < (l.length : Int)) (n1 : (l.length : Int) ≤ 64) (m0 : 0 ≤ m) (m1 : m ≤ 100) (kind op width size : Int) (byReg : Bool) (dst src off imm : Int) (hx : l[(k : Int).toNat]? = some (instD kind op width size byReg dst src off imm)) (kk : kind = 4)  : RoundRun Try.prog (loopB Try.f17 0) ⟨[1, 5, 6], [0], []⟩ 2 [uu, D.ptr false 0 0, uu, uu, uu, .int .i64 m, .int .i64 (↑k : Int), uu, uu, uu, uu, uu, uu, uu, uu, uu, uu, uu, uu, uu, uu, uu, uu, uu, uu, uu, uu, uu, uu, uu, uu, uu, uu, uu, uu, uu, uu, uu, uu, uu, uu, uu, uu, uu, uu, uu, uu] [Ob.box [.int .i64 ctx, .lst .no 9 l], Ob.dead] (Ex.norm) [uu, D.ptr false 0 0, uu, uu, uu, .int .i64 (if 1 > m then 1 else m), .int .i64 (IntKind.wrap IntKind.i64 ((↑k : Int) + 1)), uu, uu, uu, uu, uu, uu, uu, uu, uu, uu, uu, uu, uu, uu, uu, uu, uu, uu, uu, uu, uu, uu, uu, uu, uu, uu, uu, uu, uu, uu, uu, uu, uu, uu, uu, uu, uu, uu, uu, uu] ([Ob.box [.int .i64 ctx, .lst .no 9 l], Ob.dead]) := by
 exact (RoundRun.of_eval (sp := ⟨[1, 5, 6], [0], []⟩) (n0 := 2) (ex := Ex.norm) (t' := [uu, D.ptr false 0 0, uu, uu, uu, .int .i64 (if 1 > m then 1 else m), .int .i64 (IntKind.wrap IntKind.i64 ((↑k : Int) + 1)), uu, uu, uu, uu, uu, uu, uu, uu, uu, uu, uu, uu, uu, uu, uu, uu, uu, uu, uu, uu, uu, uu, uu, uu, uu, uu, uu, uu, uu, uu, uu, uu, uu, uu, uu, uu, uu, uu, uu, uu]) (s' := [Ob.box [.int .i64 ctx, .lst .no 9 l], Ob.dead]) mixed [tC (by ((try simp only [List.length_append, List.length_cons, List.length_nil, List.length_set, List.length_replicate, List.length_take, List.length_drop, sl2] at *); (try unfold big at *); omega) : (decide ((↑k : Int) < (↑(List.length l) : Int))) = true), tT, .get _ _ _ hx, tC (by ((try simp only [List.length_append, List.length_cons, List.length_nil, List.length_set, List.length_replicate, List.length_take, List.length_drop, sl2] at *); (try unfold big at *); omega) : (kind == 3) = false), tC (eqI 4 true (by ((try simp only [List.length_append, List.length_cons, List.length_nil, List.length_set, List.length_replicate, List.length_take, List.length_drop, sl2] at *); (try unfold big at *); omega) : kind = 4))] (by kernel_rfl)).cast (by rfl) (by rfl)
theorem umo_step (l : List D) (ctx m : Int) (k : Nat) (k1 : (k : Int) < (l.length : Int)) (n1 : (l.length : Int) ≤ 64) (m0 : 0 ≤ m) (m1 : m ≤ 100) (kind op width size : Int) (byReg : Bool) (dst src off imm : Int) (hx : l[(k : Int).toNat]? = some (instD kind op width size byReg dst src off imm)) (ds : List D) (d1 : (ds.length : Int) ≤ 12) (hd : Ret Try.prog 41 [instD kind op width size byReg dst src off imm] (.lst .no 13 ds)) (q3 : (kind == 3) = false) (q4 : (kind == 4) = false)  : RoundRun Try.prog (loopB Try.f17 0) ⟨[1, 5, 6], [0], []⟩ 2 [uu, D.ptr false 0 0, uu, uu, uu, .int .i64 m, .int .i64 (↑k : Int), uu, uu, uu, uu, uu, uu, uu, uu, uu, uu, uu, uu, uu, uu, uu, uu, uu, uu, uu, uu, uu, uu, uu, uu, uu, uu, uu, uu, uu, uu, uu, uu, uu, uu, uu, uu, uu, uu, uu, uu] [Ob.box [.int .i64 ctx, .lst .no 9 l], Ob.dead] (Ex.norm) [uu, D.ptr false 0 0, uu, uu, uu, .int .i64 (if (↑(List.length ds) : Int) > m then (↑(List.length ds) : Int) else m), .int .i64 (IntKind.wrap IntKind.i64 ((↑k : Int) + 1)), uu, uu, uu, uu, uu, uu, uu, uu, uu, uu, uu, uu, uu, uu, uu, uu, uu, uu, uu, uu, uu, uu, uu, uu, uu, uu, uu, uu, uu, uu, uu, uu, uu, uu, uu, uu, uu, uu, uu, uu] ([Ob.box [.int .i64 ctx, .lst .no 9 l], Ob.dead]) := by
 exact (RoundRun.of_eval (sp := ⟨[1, 5, 6], [0], []⟩) (n0 := 2) (ex := Ex.norm) (t' := [uu, D.ptr false 0 0, uu, uu, uu, .int .i64 (if (↑(List.length ds) : Int) > m then (↑(List.length ds) : Int) else m), .int .i64 (IntKind.wrap IntKind.i64 ((↑k : Int) + 1)), uu, uu, uu, uu, uu, uu, uu, uu, uu, uu, uu, uu, uu, uu, uu, uu, uu, uu, uu, uu, uu, uu, uu, uu, uu, uu, uu, uu, uu, uu, uu, uu, uu, uu, uu, uu, uu, uu, uu, uu]) (s' := [Ob.box [.int .i64 ctx, .lst .no 9 l], Ob.dead]) mixed [tC (by ((try simp only [List.length_append, List.length_cons, List.length_nil, List.length_set, List.length_replicate, List.length_take, List.length_drop, sl2] at *); (try unfold big at *); omega) : (decide ((↑k : Int) < (↑(List.length l) : Int))) = true), tT, .get _ _ _ hx, tC q3, tC q4, .ret _ _ _ hd] (by kernel_rfl)).cast (by rfl) (by rfl)
end Go.Proofs.Ytcngafhpodeenaa

namespace Go.Proofs.Ytcngafhpodeenaa
open Go Go.Ev
set_option maxRecDepth 100000
theorem most_succ (l : List InstS) (k : Nat) (h : k < l.length) : mostU l (k + 1) = if onesM l[k] > mostU l k then onesM l[k] else mostU l k := by
 rw [mostU, List.getElem?_eq_getElem h]
theorem jmp_len (x : InstS) (a b : Int) (h3 : x.kind = 3) : ((jmpM x.op x.byReg x.dst x.src x.imm a b).length : Int) = onesM x ∧ ((cmpM x.op x.byReg x.dst x.src x.imm).length : Int) + 2 = onesM x := by
 unfold onesM jmpM cmpM
 rw [if_pos h3]
 cases x.byReg <;> simp
abbrev moT (l : List D) (m k : Int) : List D := [.undef, .undef, .int .i64 m, .undef, .undef, .undef, .undef, .undef, .undef, .undef, .undef, .undef, .undef, .undef, .undef, .lst .no 9 l, .int .i64 (l.length : Int), .int .i64 k, .undef, .undef, .undef, .undef, .undef, .undef, .undef, .undef, .undef, .undef, .undef, .undef, .undef, .undef, .undef, .undef, .undef, .undef, .undef, .undef, .undef, .undef, .undef, .undef]
abbrev moU (m : Int) : List D := [.undef, .undef, .int .i64 m, .undef, .undef, .undef, .undef, .undef, .undef, .undef, .undef, .undef, .undef, .undef, .undef, .undef, .undef, .undef, .undef, .undef, .undef, .undef, .undef, .undef, .undef, .undef, .undef, .undef, .undef, .undef, .undef, .undef, .undef, .undef, .undef, .undef, .undef, .undef, .undef, .undef, .undef, .undef]
theorem mo_rounds (l : List InstS) (hp : OkP l) : ∀ (m k : Nat), k + m = l.length →
  Rounds Try.prog (loopB Try.f16 0) 2 (moT (isd l) (mostU l k) k) [.dead, .dead] (.exit 0) (moU (mostU l l.length)) [.dead, .dead]
 | 0, k, hk => by
  obtain rfl : k = l.length := by omega
  exact Rounds.last (mo_end (isd l) (mostU l l.length) l.length (by rw [isd_len]; omega)) (fun h => by cases h)
 | m + 1, k, hk => by
  have h64 := hp.le
  have ih := mo_rounds l hp m (k + 1) (by omega)
  have hw : IntKind.i64.wrap ((k : Int) + 1) = ((k + 1 : Nat) : Int) := by rw [w_i64]; omega
  have hlt : k < l.length := by omega
  have hx : (isd l)[(k : Int).toNat]? = some (instD l[k].kind l[k].op l[k].width l[k].size l[k].byReg l[k].dst l[k].src l[k].off l[k].imm) := by rw [Int.toNat_natCast]; exact isd_get l _ hlt
  have k1 : (k : Int) < ((isd l).length : Int) := by rw [isd_len]; omega
  have n1 : ((isd l).length : Int) ≤ 64 := by rw [isd_len]; omega
  obtain ⟨m0, m1⟩ := mostU_le l k
  have hm := hp.may _ hlt
  have ho := onesM_le l[k]
  rw [most_succ l k hlt] at ih
  by_cases q3 : l[k].kind = 3
  ·obtain ⟨o0, o1⟩ := may_op hm q3
   obtain ⟨e, _⟩ := jmp_len l[k] 0 0 q3
   have := mo_jump (isd l) (mostU l k) k k1 n1 m0 (by omega) _ _ _ _ _ _ _ _ _ hx _ (by omega) (jump_any_ok _ _ _ _ _ _ _ _ _ 0 0 o0 o1) q3
   rw [hw, e] at this
   exact Rounds.more this ih
  by_cases q4 : l[k].kind = 4
  ·have e : onesM l[k] = 1 := by unfold onesM; rw [if_neg q3, if_pos q4]
   have := mo_goto (isd l) (mostU l k) k k1 n1 m0 (by omega) _ _ _ _ _ _ _ _ _ hx q4
   rw [hw] at this
   rw [e] at ih
   exact Rounds.more this ih
  ·have e : onesM l[k] = (l[k].steps.length : Int) := by unfold onesM; rw [if_neg q3, if_neg q4]
   have q3' : (l[k].kind == 3) = false := by simpa using q3
   have q4' : (l[k].kind == 4) = false := by simpa using q4
   have := mo_step (isd l) (mostU l k) k k1 n1 m0 (by omega) _ _ _ _ _ _ _ _ _ hx l[k].steps (by omega) (does_any_ok _ _ _ _ _ _ _ _ _ hm q3' q4') q3' q4'
   rw [hw] at this
   rw [e] at ih
   exact Rounds.more this ih
theorem mo_loop (l : List InstS) (hp : OkP l) : LoopRun Try.prog 2 (.loop (loopB Try.f16 0)) (moT (isd l) 0 0) [.dead, .dead] (.exit 0) (moU (mostU l l.length)) [.dead, .dead] :=
 LoopRun.of_rounds (Nat.le_refl _) (mo_rounds l hp l.length 0 (by omega))
abbrev umT (m k : Int) : List D := [.undef, .ptr false 0 0, .undef, .undef, .undef, .int .i64 m, .int .i64 k, .undef, .undef, .undef, .undef, .undef, .undef, .undef, .undef, .undef, .undef, .undef, .undef, .undef, .undef, .undef, .undef, .undef, .undef, .undef, .undef, .undef, .undef, .undef, .undef, .undef, .undef, .undef, .undef, .undef, .undef, .undef, .undef, .undef, .undef, .undef, .undef, .undef, .undef, .undef, .undef]
abbrev umU (m : Int) : List D := [.undef, .undef, .undef, .undef, .undef, .int .i64 m, .undef, .undef, .undef, .undef, .undef, .undef, .undef, .undef, .undef, .undef, .undef, .undef, .undef, .undef, .undef, .undef, .undef, .undef, .undef, .undef, .undef, .undef, .undef, .undef, .undef, .undef, .undef, .undef, .undef, .undef, .undef, .undef, .undef, .undef, .undef, .undef, .undef, .undef, .undef, .undef, .undef]
theorem umo_rounds (l : List InstS) (hp : OkP l) (ctx : Int) : ∀ (m k : Nat), k + m = l.length →
  Rounds Try.prog (loopB Try.f17 0) 2 (umT (mostU l k) k) [.box [.int .i64 ctx, .lst .no 9 (isd l)], .dead] (.exit 0) (umU (mostU l l.length)) [.dead, .dead]
 | 0, k, hk => by
  obtain rfl : k = l.length := by omega
  exact Rounds.last (umo_end (isd l) ctx (mostU l l.length) l.length (by rw [isd_len]; omega)) (fun h => by cases h)
 | m + 1, k, hk => by
  have h64 := hp.le
  have ih := umo_rounds l hp ctx m (k + 1) (by omega)
  have hw : IntKind.i64.wrap ((k : Int) + 1) = ((k + 1 : Nat) : Int) := by rw [w_i64]; omega
  have hlt : k < l.length := by omega
  have hx : (isd l)[(k : Int).toNat]? = some (instD l[k].kind l[k].op l[k].width l[k].size l[k].byReg l[k].dst l[k].src l[k].off l[k].imm) := by rw [Int.toNat_natCast]; exact isd_get l _ hlt
  have k1 : (k : Int) < ((isd l).length : Int) := by rw [isd_len]; omega
  have n1 : ((isd l).length : Int) ≤ 64 := by rw [isd_len]; omega
  obtain ⟨m0, m1⟩ := mostU_le l k
  have hm := hp.may _ hlt
  have ho := onesM_le l[k]
  rw [most_succ l k hlt] at ih
  by_cases q3 : l[k].kind = 3
  ·obtain ⟨o0, o1⟩ := may_op hm q3
   obtain ⟨_, e⟩ := jmp_len l[k] 0 0 q3
   have e' : IntKind.i64.wrap (((cmpM l[k].op l[k].byReg l[k].dst l[k].src l[k].imm).length : Int) + 2) = onesM l[k] := by rw [e, w_i64]; omega
   have := umo_jump (isd l) ctx (mostU l k) k k1 n1 m0 (by omega) _ _ _ _ _ _ _ _ _ hx _ (by omega) (rcmp_any_ok _ _ _ _ _ _ _ _ _ o0 o1) q3
   rw [hw, e'] at this
   exact Rounds.more this ih
  by_cases q4 : l[k].kind = 4
  ·have e : onesM l[k] = 1 := by unfold onesM; rw [if_neg q3, if_pos q4]
   have := umo_goto (isd l) ctx (mostU l k) k k1 n1 m0 (by omega) _ _ _ _ _ _ _ _ _ hx q4
   rw [hw] at this
   rw [e] at ih
   exact Rounds.more this ih
  ·have e : onesM l[k] = (l[k].steps.length : Int) := by unfold onesM; rw [if_neg q3, if_neg q4]
   have q3' : (l[k].kind == 3) = false := by simpa using q3
   have q4' : (l[k].kind == 4) = false := by simpa using q4
   have := umo_step (isd l) ctx (mostU l k) k k1 n1 m0 (by omega) _ _ _ _ _ _ _ _ _ hx l[k].steps (by omega) (rsteps_any_ok _ _ _ _ _ _ _ _ _ hm q3' q4') q3' q4'
   rw [hw] at this
   rw [e] at ih
   exact Rounds.more this ih
theorem umo_loop (l : List InstS) (hp : OkP l) (ctx : Int) : LoopRun Try.prog 2 (.loop (loopB Try.f17 0)) (umT 0 0) [.box [.int .i64 ctx, .lst .no 9 (isd l)], .dead] (.exit 0) (umU (mostU l l.length)) [.dead, .dead] :=
 LoopRun.of_rounds (Nat.le_refl _) (umo_rounds l hp ctx l.length 0 (by omega))
end Go.Proofs.Ytcngafhpodeenaa

namespace Go.Proofs.Ytcngafhpodeenaa
open Go Go.Ev
set_option maxRecDepth 100000
set_option maxHeartbeats 8000000
theorem most_no_ok (ctx : Int) (l : List InstS) (h100 : l.length ≤ 100) (he : ((checkM ctx l).2 == 0) = false)  : Ret Try.prog 16 ([.agg [.int .i64 ctx, .lst .no 9 (isd l)]]) (.int .i64 0) := by
 have c0 := @check_ok (ctx) (l) h100
 exact (Ret.of_eval (d := .int .i64 0) mixed Try.func16 (by kernel_rfl) [.ret _ _ _ c0, tC (nt he)] (by kernel_rfl)).to (by simp [wk, wkL, wkO])
theorem most_yes_ok (ctx : Int) (l : List InstS) (h100 : l.length ≤ 100) (hp : OkP l) (he : (checkM ctx l).2 = 0)  : Ret Try.prog 16 ([.agg [.int .i64 ctx, .lst .no 9 (isd l)]]) (.int .i64 (mostU l l.length)) := by
 have c0 := @check_ok (ctx) (l) h100
 have c1 := @mo_loop (l) hp
 exact (Ret.of_eval (d := .int .i64 (mostU l (List.length l))) mixed Try.func16 (by kernel_rfl) [.ret _ _ _ c0, tC (nt (eqI 0 true (by ((try simp only [List.length_append, List.length_cons, List.length_nil, List.length_set, List.length_replicate, List.length_map, w_i8, w_u8, w_i64, w_u64, decide_eq_true_eq, decide_eq_false_iff_not, beq_iff_eq, bne_iff_ne, beq_eq_false_iff_ne, bne_eq_false_iff_eq, Bool.not_eq_true', Bool.not_eq_false', Bool.and_eq_true, Bool.or_eq_true, and_true, true_and, eq_self] at *); (try unfold big at *); omega) : Prod.snd (checkM ctx l) = (0 : Int)))), .head ⟨[2, 15, 16, 17], [], []⟩ _ _ _ _ _ _ _ c1] (by kernel_rfl)).to (by simp [wk, wkL, wkO])
theorem rmost_no_ok (ctx : Int) (l : List InstS) (h100 : l.length ≤ 100) (he : ((checkM ctx l).2 == 0) = false)  : Ret Try.prog 17 ([.agg [.int .i64 ctx, .lst .no 9 (isd l)]]) (.int .i64 0) := by
 have c0 := @rcheck_ok (ctx) (l) h100
 exact (Ret.of_eval (d := .int .i64 0) mixed Try.func17 (by kernel_rfl) [.ret _ _ _ c0, tC (nt he)] (by kernel_rfl)).to (by simp [wk, wkL, wkO])
theorem rmost_yes_ok (ctx : Int) (l : List InstS) (h100 : l.length ≤ 100) (hp : OkP l) (he : (checkM ctx l).2 = 0)  : Ret Try.prog 17 ([.agg [.int .i64 ctx, .lst .no 9 (isd l)]]) (.int .i64 (mostU l l.length)) := by
 have c0 := @rcheck_ok (ctx) (l) h100
 have c1 := @umo_loop (l) hp (ctx)
 exact (Ret.of_eval (d := .int .i64 (mostU l (List.length l))) mixed Try.func17 (by kernel_rfl) [.ret _ _ _ c0, tC (nt (eqI 0 true (by ((try simp only [List.length_append, List.length_cons, List.length_nil, List.length_set, List.length_replicate, List.length_map, w_i8, w_u8, w_i64, w_u64, decide_eq_true_eq, decide_eq_false_iff_not, beq_iff_eq, bne_iff_ne, beq_eq_false_iff_ne, bne_eq_false_iff_eq, Bool.not_eq_true', Bool.not_eq_false', Bool.and_eq_true, Bool.or_eq_true, and_true, true_and, eq_self] at *); (try unfold big at *); omega) : Prod.snd (checkM ctx l) = (0 : Int)))), .head ⟨[1, 5, 6], [0], []⟩ _ _ _ _ _ _ _ c1] (by kernel_rfl)).to (by simp [wk, wkL, wkO])
end Go.Proofs.Ytcngafhpodeenaa

namespace Go.Proofs.Ytcngafhpodeenaa
open Go Go.Ev
set_option maxRecDepth 100000
set_option maxHeartbeats 8000000
theorem lr_end (l a : List D) (ctx : Int) (k : Nat) (h : (a.length : Int) ≤ k)  : RoundRun Try.prog (loopB Try.f3 0) ⟨[1], [0], []⟩ 3 [D.undef, D.ptr false 0 0, D.undef, .lst .no 1 a, D.undef, .lst .no 1 a, D.undef, .int .i64 (↑k : Int), D.undef, D.undef, D.undef, D.undef, D.undef, D.undef, D.undef, D.undef, D.undef, D.undef, D.undef, D.undef, D.undef, D.undef, D.undef, D.undef, D.undef, D.undef, D.undef, D.undef, D.undef, D.undef, D.undef, D.undef, D.undef, D.undef, D.undef, D.undef, D.undef, D.undef, D.undef, D.undef, D.undef, D.undef, D.undef, D.undef, D.undef, D.undef, D.undef, D.undef, D.undef, D.undef, D.undef, D.undef, D.undef, D.undef, D.undef, D.undef, D.undef] [Ob.box [.int .i64 ctx, .lst .no 9 l], Ob.dead, Ob.dead] (Ex.exit (0 : Nat)) [D.undef, D.ptr false 0 0, D.undef, D.undef, D.undef, D.undef, D.undef, D.undef, D.undef, D.undef, D.undef, D.undef, D.undef, D.undef, D.undef, D.undef, D.undef, D.undef, D.undef, D.undef, D.undef, D.undef, D.undef, D.undef, D.undef, D.undef, D.undef, D.undef, D.undef, D.undef, D.undef, D.undef, D.undef, D.undef, D.undef, D.undef, D.undef, D.undef, D.undef, D.undef, D.undef, D.undef, D.undef, D.undef, D.undef, D.undef, D.undef, D.undef, D.undef, D.undef, D.undef, D.undef, D.undef, D.undef, D.undef, D.undef, D.undef] ([Ob.box [.int .i64 ctx, .lst .no 9 l], Ob.dead, Ob.dead]) := by
 exact (RoundRun.of_eval (sp := ⟨[1], [0], []⟩) (n0 := 3) (ex := Ex.exit (0 : Nat)) (t' := [D.undef, D.ptr false 0 0, D.undef, D.undef, D.undef, D.undef, D.undef, D.undef, D.undef, D.undef, D.undef, D.undef, D.undef, D.undef, D.undef, D.undef, D.undef, D.undef, D.undef, D.undef, D.undef, D.undef, D.undef, D.undef, D.undef, D.undef, D.undef, D.undef, D.undef, D.undef, D.undef, D.undef, D.undef, D.undef, D.undef, D.undef, D.undef, D.undef, D.undef, D.undef, D.undef, D.undef, D.undef, D.undef, D.undef, D.undef, D.undef, D.undef, D.undef, D.undef, D.undef, D.undef, D.undef, D.undef, D.undef, D.undef, D.undef]) (s' := [Ob.box [.int .i64 ctx, .lst .no 9 l], Ob.dead, Ob.dead]) mixed [tC (by ((try simp only [List.length_append, List.length_cons, List.length_nil, List.length_set, List.length_replicate, List.length_take, List.length_drop, w_i8, w_u8, w_i64, w_u64, decide_eq_true_eq, decide_eq_false_iff_not, beq_iff_eq, bne_iff_ne, beq_eq_false_iff_ne, bne_eq_false_iff_eq, Bool.not_eq_true', Bool.not_eq_false', Bool.and_eq_true, Bool.or_eq_true] at *); (try unfold big at *); omega) : (decide ((↑k : Int) < (↑(List.length a) : Int))) = false)] (by kernel_rfl)).cast (by rfl) (by rfl)
theorem lr_same (l a : List D) (ctx : Int) (k : Nat) (k1 : (k : Int) < (a.length : Int)) (n1 : (a.length : Int) ≤ 64) (x : List D) (hx : a[(k : Int).toNat]? = some (.lst .no 13 x)) (hs : Ret Try.prog 15 [.lst .no 13 x, .lst .no 13 x] (.bool true))  : RoundRun Try.prog (loopB Try.f3 0) ⟨[1, 3, 5, 7], [0], []⟩ 3 [D.undef, D.ptr false 0 0, D.undef, .lst .no 1 a, D.undef, .lst .no 1 a, D.undef, .int .i64 (↑k : Int), D.undef, D.undef, D.undef, D.undef, D.undef, D.undef, D.undef, D.undef, D.undef, D.undef, D.undef, D.undef, D.undef, D.undef, D.undef, D.undef, D.undef, D.undef, D.undef, D.undef, D.undef, D.undef, D.undef, D.undef, D.undef, D.undef, D.undef, D.undef, D.undef, D.undef, D.undef, D.undef, D.undef, D.undef, D.undef, D.undef, D.undef, D.undef, D.undef, D.undef, D.undef, D.undef, D.undef, D.undef, D.undef, D.undef, D.undef, D.undef, D.undef] [Ob.box [.int .i64 ctx, .lst .no 9 l], Ob.dead, Ob.dead] (Ex.norm) [D.undef, D.ptr false 0 0, D.undef, .lst .no 1 a, D.undef, .lst .no 1 a, D.undef, .int .i64 (IntKind.wrap IntKind.i64 ((↑k : Int) + (1 : Int))), D.undef, D.undef, D.undef, D.undef, D.undef, D.undef, D.undef, D.undef, D.undef, D.undef, D.undef, D.undef, D.undef, D.undef, D.undef, D.undef, D.undef, D.undef, D.undef, D.undef, D.undef, D.undef, D.undef, D.undef, D.undef, D.undef, D.undef, D.undef, D.undef, D.undef, D.undef, D.undef, D.undef, D.undef, D.undef, D.undef, D.undef, D.undef, D.undef, D.undef, D.undef, D.undef, D.undef, D.undef, D.undef, D.undef, D.undef, D.undef, D.undef] ([Ob.box [.int .i64 ctx, .lst .no 9 l], Ob.dead, Ob.dead]) := by
 exact (RoundRun.of_eval (sp := ⟨[1, 3, 5, 7], [0], []⟩) (n0 := 3) (ex := Ex.norm) (t' := [D.undef, D.ptr false 0 0, D.undef, .lst .no 1 a, D.undef, .lst .no 1 a, D.undef, .int .i64 (IntKind.wrap IntKind.i64 ((↑k : Int) + (1 : Int))), D.undef, D.undef, D.undef, D.undef, D.undef, D.undef, D.undef, D.undef, D.undef, D.undef, D.undef, D.undef, D.undef, D.undef, D.undef, D.undef, D.undef, D.undef, D.undef, D.undef, D.undef, D.undef, D.undef, D.undef, D.undef, D.undef, D.undef, D.undef, D.undef, D.undef, D.undef, D.undef, D.undef, D.undef, D.undef, D.undef, D.undef, D.undef, D.undef, D.undef, D.undef, D.undef, D.undef, D.undef, D.undef, D.undef, D.undef, D.undef, D.undef]) (s' := [Ob.box [.int .i64 ctx, .lst .no 9 l], Ob.dead, Ob.dead]) mixed [tC (by ((try simp only [List.length_append, List.length_cons, List.length_nil, List.length_set, List.length_replicate, List.length_take, List.length_drop, w_i8, w_u8, w_i64, w_u64, decide_eq_true_eq, decide_eq_false_iff_not, beq_iff_eq, bne_iff_ne, beq_eq_false_iff_ne, bne_eq_false_iff_eq, Bool.not_eq_true', Bool.not_eq_false', Bool.and_eq_true, Bool.or_eq_true] at *); (try unfold big at *); omega) : (decide ((↑k : Int) < (↑(List.length a) : Int))) = true), tT, .get _ _ _ hx, tT, .get _ _ _ hx, .ret _ _ _ hs, tF] (by kernel_rfl)).cast (by rfl) (by rfl)
end Go.Proofs.Ytcngafhpodeenaa

namespace Go.Proofs.Ytcngafhpodeenaa
open Go Go.Ev
set_option maxRecDepth 100000
abbrev lrT (a : List D) (k : Int) : List D := [.undef, .ptr false 0 0, .undef, .lst .no 1 a, .undef, .lst .no 1 a, .undef, .int .i64 k, .undef, .undef, .undef, .undef, .undef, .undef, .undef, .undef, .undef, .undef, .undef, .undef, .undef, .undef, .undef, .undef, .undef, .undef, .undef, .undef, .undef, .undef, .undef, .undef, .undef, .undef, .undef, .undef, .undef, .undef, .undef, .undef, .undef, .undef, .undef, .undef, .undef, .undef, .undef, .undef, .undef, .undef, .undef, .undef, .undef, .undef, .undef, .undef, .undef]
abbrev lrU : List D := [.undef, .ptr false 0 0, .undef, .undef, .undef, .undef, .undef, .undef, .undef, .undef, .undef, .undef, .undef, .undef, .undef, .undef, .undef, .undef, .undef, .undef, .undef, .undef, .undef, .undef, .undef, .undef, .undef, .undef, .undef, .undef, .undef, .undef, .undef, .undef, .undef, .undef, .undef, .undef, .undef, .undef, .undef, .undef, .undef, .undef, .undef, .undef, .undef, .undef, .undef, .undef, .undef, .undef, .undef, .undef, .undef, .undef, .undef]
abbrev lrS (ctx : Int) (l : List InstS) : List Ob := [.box [.int .i64 ctx, .lst .no 9 (isd l)], .dead, .dead]
theorem lowM_len (l : List InstS) : (lowM l).length = (rowsP l).length := by simp [lowM]
theorem lowM_get (l : List InstS) (k : Nat) (r : RowS) (h : (rowsP l)[k]? = some r) : (lowM l)[k]? = some (.lst .no 13 (rowM l r)) := by
 rw [lowM, List.getElem?_map, show (blkR l)[k]? = some r from h]
 rfl
theorem row_small {l : List InstS} (hp : OkP l) {b : Nat} {r : RowS} (h : RowOk l b r) : (rowM l r).length ≤ 1000 := by
 have := rowM_len l r
 have := hp.le
 have := h.f0
 have := h.ft
 have := h.tl
 omega
theorem lr_rounds (l : List InstS) (hp : OkP l) (ctx : Int) : ∀ (m k : Nat), k + m = (rowsP l).length →
  Rounds Try.prog (loopB Try.f3 0) 3 (lrT (lowM l) k) (lrS ctx l) (.exit 0) lrU (lrS ctx l)
 | 0, k, hk => Rounds.last (lr_end (isd l) (lowM l) ctx k (by rw [lowM_len]; omega)) (fun h => by cases h)
 | m + 1, k, hk => by
  have h64 := hp.le
  have hN := rowsP_len l
  have ih := lr_rounds l hp ctx m (k + 1) (by omega)
  have hw : IntKind.i64.wrap ((k : Int) + 1) = ((k + 1 : Nat) : Int) := by rw [w_i64]; omega
  obtain ⟨r, hg⟩ : ∃ r, (rowsP l)[k]? = some r := ⟨_, List.getElem?_eq_getElem (by omega)⟩
  have hl := row_small hp (rows_ok hg)
  have := lr_same (isd l) (lowM l) ctx k (by rw [lowM_len]; omega) (by rw [lowM_len]; omega) _ (by rw [Int.toNat_natCast]; exact lowM_get l k r hg) (same_of_ir _ (rowM_ir l r) (by omega))
  rw [hw] at this
  exact Rounds.more this ih
theorem lr_enter (l : List InstS) (hp : OkP l) (ctx : Int) : LoopRun Try.prog 3 (.loop (loopB Try.f3 0)) (lrT (lowM l) 0) (lrS ctx l) (.exit 0) lrU (lrS ctx l) :=
 LoopRun.of_rounds (Nat.le_refl _) (lr_rounds l hp ctx (rowsP l).length 0 (by omega))
theorem lower_ok (ctx : Int) (l : List InstS) (h100 : l.length ≤ 100) (he : (checkM ctx l).2 = 0) : Ret Try.prog 13 [.agg [.int .i64 ctx, .lst .no 9 (isd l)]] (.tup [.lst .no 1 (lowM l), .int .i64 0]) := lrun_ok ctx l (check_OkP he) (blocks_ok ctx l h100 he)
theorem lower_no_ok (ctx : Int) (l : List InstS) (h100 : l.length ≤ 100) (he : ((checkM ctx l).2 == 0) = false) : Ret Try.prog 13 [.agg [.int .i64 ctx, .lst .no 9 (isd l)]] (.tup [.lst .tight 0 [], .int .i64 (checkM ctx l).2]) := lrun_no_ok ctx l (blocks_no ctx l h100 (by simpa using he)) he
theorem rlower_ok (ctx : Int) (l : List InstS) (h100 : l.length ≤ 100) (he : (checkM ctx l).2 = 0) : Ret Try.prog 14 [.agg [.int .i64 ctx, .lst .no 9 (isd l)]] (.tup [.lst .no 1 (lowM l), .int .i64 0]) := rlrun_ok ctx l (check_OkP he) (rblocks_ok ctx l h100 he)
theorem rlower_no_ok (ctx : Int) (l : List InstS) (h100 : l.length ≤ 100) (he : ((checkM ctx l).2 == 0) = false) : Ret Try.prog 14 [.agg [.int .i64 ctx, .lst .no 9 (isd l)]] (.tup [.lst .tight 0 [], .int .i64 (checkM ctx l).2]) := rlrun_no_ok ctx l (rblocks_no ctx l h100 (by simpa using he)) he
end Go.Proofs.Ytcngafhpodeenaa

namespace Go.Proofs.Ytcngafhpodeenaa
open Go Go.Ev
theorem does_alu_ok (op width : Int) (byReg : Bool) (dst src imm : Int) (h : mayM 0 op width 0 byReg dst src 0 imm = true) :
  Ret Try.prog 37 [instD 0 op width 0 byReg dst src 0 imm] (.lst .no 13 (aluM op width byReg dst src imm)) := by
 obtain ⟨⟨_, _, _, _, _, _, i1, i2⟩, hf⟩ := may_forms h
 rcases hf with ⟨_, _, _, _, h8, ho, hw, _, _⟩ | ⟨h0, _⟩ | ⟨h0, _⟩ | ⟨h0, _⟩ | ⟨h0, _⟩ | ⟨h0, _⟩ | ⟨h0, _⟩
 ·rcases ho with rfl | rfl | rfl | rfl | rfl | rfl | rfl | rfl | rfl | rfl | rfl | rfl | rfl <;> rcases hw with rfl | rfl
  all_goals first
   | exact does_0_0_32_ok _ _ _ _ i1 i2
   | exact does_0_0_64_ok _ _ _ _ i1 i2
   | exact does_0_1_32_ok _ _ _ _ i1 i2
   | exact does_0_1_64_ok _ _ _ _ i1 i2
   | exact does_0_2_32_ok _ _ _ _ i1 i2
   | exact does_0_2_64_ok _ _ _ _ i1 i2
   | exact does_0_3_32_ok _ _ _ _ i1 i2
   | exact does_0_3_64_ok _ _ _ _ i1 i2
   | exact does_0_4_32_ok _ _ _ _ i1 i2
   | exact does_0_4_64_ok _ _ _ _ i1 i2
   | exact does_0_5_32_ok _ _ _ _ i1 i2
   | exact does_0_5_64_ok _ _ _ _ i1 i2
   | exact does_0_6_32_ok _ _ _ _ i1 i2
   | exact does_0_6_64_ok _ _ _ _ i1 i2
   | exact does_0_7_32_ok _ _ _ _ i1 i2
   | exact does_0_7_64_ok _ _ _ _ i1 i2
   | exact does_0_8_32_ok _ _ _ _ i1 i2 (h8 rfl)
   | exact does_0_8_64_ok _ _ _ _ i1 i2 (h8 rfl)
   | exact does_0_9_32_ok _ _ _ _ i1 i2
   | exact does_0_9_64_ok _ _ _ _ i1 i2
   | exact does_0_10_32_ok _ _ _ _ i1 i2
   | exact does_0_10_64_ok _ _ _ _ i1 i2
   | exact does_0_11_32_ok _ _ _ _ i1 i2
   | exact does_0_11_64_ok _ _ _ _ i1 i2
   | exact does_0_12_32_ok _ _ _ _ i1 i2
   | exact does_0_12_64_ok _ _ _ _ i1 i2
 all_goals exact absurd h0 (by decide)
end Go.Proofs.Ytcngafhpodeenaa

namespace Go.Proofs.Ytcngafhpodeenaa
open Go Go.Ev
set_option maxRecDepth 100000
set_option maxHeartbeats 8000000
theorem one_alu_ok (op width : Int) (byReg : Bool) (dst src imm : Int) (hm : mayM 0 op width 0 byReg dst src 0 imm = true)  : Ret Try.prog 33 ([instD 0 op width 0 byReg dst src 0 imm]) (.tup [.lst .no 13 (aluM op width byReg dst src imm), .int .i64 0]) := by
 have c0 := @instrMay_ok ((0 : Int)) (op) (width) ((0 : Int)) (byReg) (dst) (src) ((0 : Int)) (imm)
 have c1 := @does_alu_ok (op) (width) (byReg) (dst) (src) (imm) hm
 exact (Ret.of_eval (d := .tup [.lst .no 13 (aluM op width byReg dst src imm), .int .i64 0]) mixed Try.func33 (by kernel_rfl) [.ret _ _ _ c0, tC (eF (nt hm)), tC (eF (nt hm)), tC (eF (nt hm)), tC (nt hm), tT, tT, tT, tF, tF, .ret _ _ _ c1] (by kernel_rfl)).to (by simp [wk, wkL, wkO, ])
theorem wakes18_ok  : Ret Try.prog 12 ([]) (.bool true) := by
 have c0 := @one_alu_ok ((0 : Int)) ((64 : Int)) (false) ((1 : Int)) ((0 : Int)) ((5 : Int)) (rfl : true = true)
 exact (Ret.of_eval (d := .bool true) mixed Try.func12 (by kernel_rfl) ([.ret _ _ _ c0, tT, tT, tT, .inl, tF, .go 64, tT, tT, .get ([(irD 1 0 0 0 0 0 0 0 0 1 0 0 0), (irD 0 9 64 0 0 0 0 5 0 0 0 0 0), (irD 2 0 0 0 0 0 0 0 0 1 0 0 0)]) 0 ((irD 1 0 0 0 0 0 0 0 0 1 0 0 0)) rfl, tT, .get ([(irD 1 0 0 0 0 0 0 0 0 1 0 0 0), (irD 0 9 64 0 0 0 0 5 0 0 0 0 0), (irD 2 0 0 0 0 0 0 0 0 1 0 0 0)]) 0 ((irD 1 0 0 0 0 0 0 0 0 1 0 0 0)) rfl, .flat _ _ flat_Ir, tF, tT, tT] ++ [.get ([(irD 1 0 0 0 0 0 0 0 0 1 0 0 0), (irD 0 9 64 0 0 0 0 5 0 0 0 0 0), (irD 2 0 0 0 0 0 0 0 0 1 0 0 0)]) 1 ((irD 0 9 64 0 0 0 0 5 0 0 0 0 0)) rfl, tT, .get ([(irD 1 0 0 0 0 0 0 0 0 1 0 0 0), (irD 0 9 64 0 0 0 0 5 0 0 0 0 0), (irD 2 0 0 0 0 0 0 0 0 1 0 0 0)]) 1 ((irD 0 9 64 0 0 0 0 5 0 0 0 0 0)) rfl, .flat _ _ flat_Ir, tF, tT, tT, .get ([(irD 1 0 0 0 0 0 0 0 0 1 0 0 0), (irD 0 9 64 0 0 0 0 5 0 0 0 0 0), (irD 2 0 0 0 0 0 0 0 0 1 0 0 0)]) 2 ((irD 2 0 0 0 0 0 0 0 0 1 0 0 0)) rfl, tT, .get ([(irD 1 0 0 0 0 0 0 0 0 1 0 0 0), (irD 0 9 64 0 0 0 0 5 0 0 0 0 0), (irD 2 0 0 0 0 0 0 0 0 1 0 0 0)]) 2 ((irD 2 0 0 0 0 0 0 0 0 1 0 0 0)) rfl, .flat _ _ flat_Ir, tF, tF, tT]) (by kernel_rfl)).to (by simp [wk])
end Go.Proofs.Ytcngafhpodeenaa

namespace Go.Proofs.Ytcngafhpodeenaa
open Go Go.Ev
set_option maxRecDepth 100000
set_option maxHeartbeats 8000000
theorem runs_big_ok (ctx : Int) (l : List InstS) (h : 100 < ((isd l).length : Int))  : Ret Try.prog 3 ([.agg [.int .i64 ctx, .lst .no 9 (isd l)]]) (.bool true) := by
 have c0 := @wakes18_ok
 exact (Ret.of_eval (d := .bool true) mixed Try.func3 (by kernel_rfl) [tC (ltL 100 (decide_eq_false (by omega : ¬ (↑(List.length (isd l)) : Int) < 101))), .ret _ _ _ c0] (by kernel_rfl)).to (by simp [wk, wkL, wkO])
theorem runs_no_ok (ctx : Int) (l : List InstS) (h100 : l.length ≤ 100) (h1 : ((isd l).length : Int) ≤ 100) (he : ((checkM ctx l).2 == 0) = false)  : Ret Try.prog 3 ([.agg [.int .i64 ctx, .lst .no 9 (isd l)]]) (.bool true) := by
 have c0 := @lower_no_ok (ctx) (l) h100 he
 have c1 := @rlower_no_ok (ctx) (l) h100 he
 have c2 := @most_no_ok (ctx) (l) h100 he
 have c3 := @rmost_no_ok (ctx) (l) h100 he
 have c4 := @wakes18_ok
 exact (Ret.of_eval (d := .bool true) mixed Try.func3 (by kernel_rfl) ([tC (ltL 100 (decide_eq_true (Int.lt_add_one_of_le h1))), .ret _ _ _ c0, .ret _ _ _ c1, tC (eF (nt (beq_self_eq_true (Prod.snd (checkM ctx l))))), tC (eF (nt (beq_self_eq_true (Prod.snd (checkM ctx l))))), tC (eF (nt (beq_self_eq_true (Prod.snd (checkM ctx l))))), tC (eF (nt (beq_self_eq_true (Prod.snd (checkM ctx l))))), tC (eF (nt (beq_self_eq_true (Prod.snd (checkM ctx l))))), tC (nt (beq_self_eq_true (Prod.snd (checkM ctx l)))), tF, .go 64, tF, .ret _ _ _ c2, .ret _ _ _ c3, tT, .ret _ _ _ c4] ++ [tT]) (by kernel_rfl)).to (by simp [wk, wkL, wkO])
theorem runs_yes_ok (ctx : Int) (l : List InstS) (h100 : l.length ≤ 100) (h1 : ((isd l).length : Int) ≤ 100) (hp : OkP l) (he : (checkM ctx l).2 = 0)  : Ret Try.prog 3 ([.agg [.int .i64 ctx, .lst .no 9 (isd l)]]) (.bool true) := by
 have c0 := @lower_ok (ctx) (l) h100 he
 have c1 := @rlower_ok (ctx) (l) h100 he
 have c2 := @lr_enter (l) hp (ctx)
 have c3 := @most_yes_ok (ctx) (l) h100 hp he
 have c4 := @rmost_yes_ok (ctx) (l) h100 hp he
 have c5 := @wakes18_ok
 exact (Ret.of_eval (d := .bool true) mixed Try.func3 (by kernel_rfl) [tC (ltL 100 (decide_eq_true (Int.lt_add_one_of_le h1))), .ret _ _ _ c0, .ret _ _ _ c1, tT, tT, tT, tT, tT, tF, tC (nt (beq_self_eq_true ((↑(List.length (lowM l)) : Int)))), .head ⟨[1, 3, 5, 7], [0], []⟩ _ _ _ _ _ _ _ c2, .ret _ _ _ c3, .ret _ _ _ c4, tC (eT (beq_self_eq_true (mostU l (List.length l)))), .ret _ _ _ c5, tC (beq_self_eq_true (mostU l (List.length l)))] (by kernel_rfl)).to (by simp [wk, wkL, wkO])
end Go.Proofs.Ytcngafhpodeenaa

namespace Go.Proofs.Ytcngafhpodeenaa
open Go Go.Ev
theorem runs_any (ctx : Int) (l : List InstS) : Ret Try.prog 3 [.agg [.int .i64 ctx, .lst .no 9 (isd l)]] (.bool true) := by
 by_cases h : l.length ≤ 100
 ·have h1 : ((isd l).length : Int) ≤ 100 := by rw [isd_len]; omega
  by_cases he : (checkM ctx l).2 = 0
  ·exact runs_yes_ok ctx l h h1 (check_OkP he) he
  ·exact runs_no_ok ctx l h h1 (by simpa using he)
 ·exact runs_big_ok ctx l (by rw [isd_len]; omega)
end Go.Proofs.Ytcngafhpodeenaa
