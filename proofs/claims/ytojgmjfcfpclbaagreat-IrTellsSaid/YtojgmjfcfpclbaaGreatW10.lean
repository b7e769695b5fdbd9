/- Contracts and plain laws that a statement's proof leans on (texts merged: ZI1, MdJ, MdK, MdG, MdR, MdQ, MdU, ZI1A, ZI0B, ZI0A, ZI2, ZI2A, ZI12, ZI12A, ZI20, ZI20A, ZI3, ZI3A). -/
import Derived.Test.YtojgmjfcfpclbaaGreatW04
import Derived.Test.YtojgmjfcfpclbaaGreatW09
set_option linter.unusedVariables false
set_option linter.unusedSimpArgs false
namespace Go.Proofs.YtojgmjfcfpclbaaGreat
open Go Go.Ev
set_option maxRecDepth 100000
set_option maxHeartbeats 8000000
theorem rs_done (nm : Int) : RoundRun Tryz.prog (loopB Tryz.f30 0) ⟨[], [], []⟩ 8 [uu, uu, uu, uu, .int .i64 nm, .int .i8 16, uu, uu, uu, uu, uu, uu, uu, uu, uu, uu, uu, uu, uu, uu, uu, uu, uu, uu, uu, uu, uu, uu, uu, uu, uu, uu, uu, uu, uu, uu, uu, uu, uu, uu, uu, uu, uu, uu, uu, uu, uu, uu, uu, uu, uu, uu, uu, uu, uu, uu, uu, uu, uu, uu, uu, uu, uu, uu, uu, uu, uu, uu, uu, uu, uu, uu, uu, uu, uu, uu, uu, uu, uu, uu, uu, uu, uu, uu, uu, uu, uu, uu, uu, uu, uu, uu, uu, uu, uu, uu, uu, uu, uu, uu, uu, uu, uu, uu, uu, uu, uu, uu, uu, uu] [Ob.dead, Ob.dead, Ob.dead, Ob.dead, Ob.dead, Ob.dead, Ob.dead, Ob.dead] (Ex.exit (1 : Nat)) [uu, uu, uu, uu, uu, uu, uu, uu, uu, uu, uu, uu, uu, uu, uu, uu, uu, uu, uu, uu, uu, uu, uu, uu, uu, uu, uu, uu, uu, uu, uu, uu, uu, uu, uu, uu, uu, uu, uu, uu, uu, uu, uu, uu, uu, uu, uu, uu, uu, uu, uu, uu, uu, uu, uu, uu, uu, uu, uu, uu, uu, uu, uu, uu, uu, uu, uu, uu, uu, uu, uu, uu, uu, uu, uu, uu, uu, uu, uu, uu, uu, uu, uu, uu, uu, uu, uu, uu, uu, uu, uu, uu, uu, uu, uu, uu, uu, uu, uu, uu, uu, uu, uu, uu, uu, uu, uu, uu, uu, uu] ([Ob.dead, Ob.dead, Ob.dead, Ob.dead, Ob.dead, Ob.dead, Ob.dead, Ob.dead]) := by
 exact (RoundRun.of_eval (sp := ⟨[], [], []⟩) (n0 := 8) (ex := Ex.exit (1 : Nat)) (t' := [uu, uu, uu, uu, uu, uu, uu, uu, uu, uu, uu, uu, uu, uu, uu, uu, uu, uu, uu, uu, uu, uu, uu, uu, uu, uu, uu, uu, uu, uu, uu, uu, uu, uu, uu, uu, uu, uu, uu, uu, uu, uu, uu, uu, uu, uu, uu, uu, uu, uu, uu, uu, uu, uu, uu, uu, uu, uu, uu, uu, uu, uu, uu, uu, uu, uu, uu, uu, uu, uu, uu, uu, uu, uu, uu, uu, uu, uu, uu, uu, uu, uu, uu, uu, uu, uu, uu, uu, uu, uu, uu, uu, uu, uu, uu, uu, uu, uu, uu, uu, uu, uu, uu, uu, uu, uu, uu, uu, uu, uu]) (s' := [Ob.dead, Ob.dead, Ob.dead, Ob.dead, Ob.dead, Ob.dead, Ob.dead, Ob.dead]) mixed [tF] (by kernel_rfl)).cast (by first | rfl | (rw [show IntKind.i8.wrap (k + 1) = k + 1 by rw [w_i8]; omega]; done) | (rw [show IntKind.i8.wrap (k + 1) = k + 1 by rw [w_i8]; omega]; rfl)) (by first | rfl | (rw [show IntKind.i8.wrap (k + 1) = k + 1 by rw [w_i8]; omega]; done) | (rw [show IntKind.i8.wrap (k + 1) = k + 1 by rw [w_i8]; omega]; rfl))
theorem rs_z (nm k : Int) (k0 : 0 ≤ k) (k1 : k ≤ 15) (hb : (bitOf nm k == 1) = false) : RoundRun Tryz.prog (loopB Tryz.f30 0) ⟨[4, 5], [], []⟩ 8 [uu, uu, uu, uu, .int .i64 nm, .int .i8 k, uu, uu, uu, uu, uu, uu, uu, uu, uu, uu, uu, uu, uu, uu, uu, uu, uu, uu, uu, uu, uu, uu, uu, uu, uu, uu, uu, uu, uu, uu, uu, uu, uu, uu, uu, uu, uu, uu, uu, uu, uu, uu, uu, uu, uu, uu, uu, uu, uu, uu, uu, uu, uu, uu, uu, uu, uu, uu, uu, uu, uu, uu, uu, uu, uu, uu, uu, uu, uu, uu, uu, uu, uu, uu, uu, uu, uu, uu, uu, uu, uu, uu, uu, uu, uu, uu, uu, uu, uu, uu, uu, uu, uu, uu, uu, uu, uu, uu, uu, uu, uu, uu, uu, uu] [Ob.dead, Ob.dead, Ob.dead, Ob.dead, Ob.dead, Ob.dead, Ob.dead, Ob.dead] (Ex.norm) [uu, uu, uu, uu, .int .i64 nm, .int .i8 (k + 1), uu, uu, uu, uu, uu, uu, uu, uu, uu, uu, uu, uu, uu, uu, uu, uu, uu, uu, uu, uu, uu, uu, uu, uu, uu, uu, uu, uu, uu, uu, uu, uu, uu, uu, uu, uu, uu, uu, uu, uu, uu, uu, uu, uu, uu, uu, uu, uu, uu, uu, uu, uu, uu, uu, uu, uu, uu, uu, uu, uu, uu, uu, uu, uu, uu, uu, uu, uu, uu, uu, uu, uu, uu, uu, uu, uu, uu, uu, uu, uu, uu, uu, uu, uu, uu, uu, uu, uu, uu, uu, uu, uu, uu, uu, uu, uu, uu, uu, uu, uu, uu, uu, uu, uu] ([.dead, .dead, .dead, .dead, .dead, .dead, .dead, .dead]) := by
 exact (RoundRun.of_eval (sp := ⟨[4, 5], [], []⟩) (n0 := 8) (ex := Ex.norm) (t' := [uu, uu, uu, uu, .int .i64 nm, .int .i8 (IntKind.wrap IntKind.i8 (k + 1)), uu, uu, uu, uu, uu, uu, uu, uu, uu, uu, uu, uu, uu, uu, uu, uu, uu, uu, uu, uu, uu, uu, uu, uu, uu, uu, uu, uu, uu, uu, uu, uu, uu, uu, uu, uu, uu, uu, uu, uu, uu, uu, uu, uu, uu, uu, uu, uu, uu, uu, uu, uu, uu, uu, uu, uu, uu, uu, uu, uu, uu, uu, uu, uu, uu, uu, uu, uu, uu, uu, uu, uu, uu, uu, uu, uu, uu, uu, uu, uu, uu, uu, uu, uu, uu, uu, uu, uu, uu, uu, uu, uu, uu, uu, uu, uu, uu, uu, uu, uu, uu, uu, uu, uu]) (s' := [Ob.dead, Ob.dead, Ob.dead, Ob.dead, Ob.dead, Ob.dead, Ob.dead, Ob.dead]) mixed ([tC (decide_eq_true (Int.lt_add_one_of_le k1)), tC (v := true) (@nn_u64 k)] ++ List.replicate 3 (tC (eT (@bit_uof nm k k0 k1 hb))) ++ [tC (@bit_uof nm k k0 k1 hb), tF]) (by kernel_rfl)).cast (by first | rfl | (rw [show IntKind.i8.wrap (k + 1) = k + 1 by rw [w_i8]; omega]; done) | (rw [show IntKind.i8.wrap (k + 1) = k + 1 by rw [w_i8]; omega]; rfl)) (by first | rfl | (rw [show IntKind.i8.wrap (k + 1) = k + 1 by rw [w_i8]; omega]; done) | (rw [show IntKind.i8.wrap (k + 1) = k + 1 by rw [w_i8]; omega]; rfl))
theorem rs_s (nm k : Int) (k0 : 0 ≤ k) (k1 : k ≤ 15) (hb : (bitOf nm k == 1) = true) (hs : scrM k = true) : RoundRun Tryz.prog (loopB Tryz.f30 0) ⟨[4, 5], [], []⟩ 8 [uu, uu, uu, uu, .int .i64 nm, .int .i8 k, uu, uu, uu, uu, uu, uu, uu, uu, uu, uu, uu, uu, uu, uu, uu, uu, uu, uu, uu, uu, uu, uu, uu, uu, uu, uu, uu, uu, uu, uu, uu, uu, uu, uu, uu, uu, uu, uu, uu, uu, uu, uu, uu, uu, uu, uu, uu, uu, uu, uu, uu, uu, uu, uu, uu, uu, uu, uu, uu, uu, uu, uu, uu, uu, uu, uu, uu, uu, uu, uu, uu, uu, uu, uu, uu, uu, uu, uu, uu, uu, uu, uu, uu, uu, uu, uu, uu, uu, uu, uu, uu, uu, uu, uu, uu, uu, uu, uu, uu, uu, uu, uu, uu, uu] [Ob.dead, Ob.dead, Ob.dead, Ob.dead, Ob.dead, Ob.dead, Ob.dead, Ob.dead] (Ex.norm) [uu, uu, uu, uu, .int .i64 nm, .int .i8 (k + 1), uu, uu, uu, uu, uu, uu, uu, uu, uu, uu, uu, uu, uu, uu, uu, uu, uu, uu, uu, uu, uu, uu, uu, uu, uu, uu, uu, uu, uu, uu, uu, uu, uu, uu, uu, uu, uu, uu, uu, uu, uu, uu, uu, uu, uu, uu, uu, uu, uu, uu, uu, uu, uu, uu, uu, uu, uu, uu, uu, uu, uu, uu, uu, uu, uu, uu, uu, uu, uu, uu, uu, uu, uu, uu, uu, uu, uu, uu, uu, uu, uu, uu, uu, uu, uu, uu, uu, uu, uu, uu, uu, uu, uu, uu, uu, uu, uu, uu, uu, uu, uu, uu, uu, uu] ([.dead, .dead, .dead, .dead, .dead, .dead, .dead, .dead]) := by
 have c0 := @rscr_ok k
 exact (RoundRun.of_eval (sp := ⟨[4, 5], [], []⟩) (n0 := 8) (ex := Ex.norm) (t' := [uu, uu, uu, uu, .int .i64 nm, .int .i8 (IntKind.wrap IntKind.i8 (k + 1)), uu, uu, uu, uu, uu, uu, uu, uu, uu, uu, uu, uu, uu, uu, uu, uu, uu, uu, uu, uu, uu, uu, uu, uu, uu, uu, uu, uu, uu, uu, uu, uu, uu, uu, uu, uu, uu, uu, uu, uu, uu, uu, uu, uu, uu, uu, uu, uu, uu, uu, uu, uu, uu, uu, uu, uu, uu, uu, uu, uu, uu, uu, uu, uu, uu, uu, uu, uu, uu, uu, uu, uu, uu, uu, uu, uu, uu, uu, uu, uu, uu, uu, uu, uu, uu, uu, uu, uu, uu, uu, uu, uu, uu, uu, uu, uu, uu, uu, uu, uu, uu, uu, uu, uu]) (s' := [Ob.dead, Ob.dead, Ob.dead, Ob.dead, Ob.dead, Ob.dead, Ob.dead, Ob.dead]) mixed [tC (decide_eq_true (Int.lt_add_one_of_le k1)), tC (v := true) (@nn_u64 k), tC (eT (eqI 1 true (eq_of_beq (@bit_uot nm k k0 k1 (eqI 1 true (eq_of_beq hb)))))), tC (eT (eqI 1 true (eq_of_beq (@bit_uot nm k k0 k1 (eqI 1 true (eq_of_beq hb)))))), .ret _ _ _ c0, tC (eT (eqI 1 true (eq_of_beq (@bit_uot nm k k0 k1 (eqI 1 true (eq_of_beq hb)))))), tC (eqI 1 true (eq_of_beq (@bit_uot nm k k0 k1 (eqI 1 true (eq_of_beq hb))))), tC (nt hs)] (by kernel_rfl)).cast (by first | rfl | (rw [show IntKind.i8.wrap (k + 1) = k + 1 by rw [w_i8]; omega]; done) | (rw [show IntKind.i8.wrap (k + 1) = k + 1 by rw [w_i8]; omega]; rfl)) (by first | rfl | (rw [show IntKind.i8.wrap (k + 1) = k + 1 by rw [w_i8]; omega]; done) | (rw [show IntKind.i8.wrap (k + 1) = k + 1 by rw [w_i8]; omega]; rfl))
theorem rs_bad (nm k : Int) (k0 : 0 ≤ k) (k1 : k ≤ 15) (hb : (bitOf nm k == 1) = true) (hs : scrM k = false) : RoundRun Tryz.prog (loopB Tryz.f30 0) ⟨[2], [], []⟩ 8 [uu, uu, uu, uu, .int .i64 nm, .int .i8 k, uu, uu, uu, uu, uu, uu, uu, uu, uu, uu, uu, uu, uu, uu, uu, uu, uu, uu, uu, uu, uu, uu, uu, uu, uu, uu, uu, uu, uu, uu, uu, uu, uu, uu, uu, uu, uu, uu, uu, uu, uu, uu, uu, uu, uu, uu, uu, uu, uu, uu, uu, uu, uu, uu, uu, uu, uu, uu, uu, uu, uu, uu, uu, uu, uu, uu, uu, uu, uu, uu, uu, uu, uu, uu, uu, uu, uu, uu, uu, uu, uu, uu, uu, uu, uu, uu, uu, uu, uu, uu, uu, uu, uu, uu, uu, uu, uu, uu, uu, uu, uu, uu, uu, uu] [Ob.dead, Ob.dead, Ob.dead, Ob.dead, Ob.dead, Ob.dead, Ob.dead, Ob.dead] (Ex.ret) [uu, uu, .bool false, uu, uu, uu, uu, uu, uu, uu, uu, uu, uu, uu, uu, uu, uu, uu, uu, uu, uu, uu, uu, uu, uu, uu, uu, uu, uu, uu, uu, uu, uu, uu, uu, uu, uu, uu, uu, uu, uu, uu, uu, uu, uu, uu, uu, uu, uu, uu, uu, uu, uu, uu, uu, uu, uu, uu, uu, uu, uu, uu, uu, uu, uu, uu, uu, uu, uu, uu, uu, uu, uu, uu, uu, uu, uu, uu, uu, uu, uu, uu, uu, uu, uu, uu, uu, uu, uu, uu, uu, uu, uu, uu, uu, uu, uu, uu, uu, uu, uu, uu, uu, uu, uu, uu, uu, uu, uu, uu] ([Ob.dead, Ob.dead, Ob.dead, Ob.dead, Ob.dead, Ob.dead, Ob.dead, Ob.dead]) := by
 have c0 := @rscr_ok k
 exact (RoundRun.of_eval (sp := ⟨[2], [], []⟩) (n0 := 8) (ex := Ex.ret) (t' := [uu, uu, .bool false, uu, uu, uu, uu, uu, uu, uu, uu, uu, uu, uu, uu, uu, uu, uu, uu, uu, uu, uu, uu, uu, uu, uu, uu, uu, uu, uu, uu, uu, uu, uu, uu, uu, uu, uu, uu, uu, uu, uu, uu, uu, uu, uu, uu, uu, uu, uu, uu, uu, uu, uu, uu, uu, uu, uu, uu, uu, uu, uu, uu, uu, uu, uu, uu, uu, uu, uu, uu, uu, uu, uu, uu, uu, uu, uu, uu, uu, uu, uu, uu, uu, uu, uu, uu, uu, uu, uu, uu, uu, uu, uu, uu, uu, uu, uu, uu, uu, uu, uu, uu, uu, uu, uu, uu, uu, uu, uu]) (s' := [Ob.dead, Ob.dead, Ob.dead, Ob.dead, Ob.dead, Ob.dead, Ob.dead, Ob.dead]) mixed [tC (decide_eq_true (Int.lt_add_one_of_le k1)), tC (v := true) (@nn_u64 k), tC (eT (eqI 1 true (eq_of_beq (@bit_uot nm k k0 k1 (eqI 1 true (eq_of_beq hb)))))), tC (eT (eqI 1 true (eq_of_beq (@bit_uot nm k k0 k1 (eqI 1 true (eq_of_beq hb)))))), .ret _ _ _ c0, tC (eT (eqI 1 true (eq_of_beq (@bit_uot nm k k0 k1 (eqI 1 true (eq_of_beq hb)))))), tC (eqI 1 true (eq_of_beq (@bit_uot nm k k0 k1 (eqI 1 true (eq_of_beq hb))))), tC (nt hs)] (by kernel_rfl)).cast (by first | rfl | (rw [show IntKind.i8.wrap (k + 1) = k + 1 by rw [w_i8]; omega]; done) | (rw [show IntKind.i8.wrap (k + 1) = k + 1 by rw [w_i8]; omega]; rfl)) (by first | rfl | (rw [show IntKind.i8.wrap (k + 1) = k + 1 by rw [w_i8]; omega]; done) | (rw [show IntKind.i8.wrap (k + 1) = k + 1 by rw [w_i8]; omega]; rfl))
end Go.Proofs.YtojgmjfcfpclbaaGreat

namespace Go.Ev
open Go
theorem stops_take {s : IrS} (h : s.kind = 1 ∨ s.kind = 2) : s.stops = false := by
 unfold IrS.stops stopsI
 rw [decide_eq_false_iff_not]
 omega
theorem runI_stop {s : IrS} {t : List IrS} {r : RgS} {m : MachS} (h : s.stops = true) : runI (s :: t) r m = (r, m, t.length + 1, 0) := by
 rw [runI, h]
theorem runI_take {s : IrS} {t : List IrS} {r : RgS} {m : MachS} (h : s.kind = 1) : runI (s :: t) r m = runI t r (m.put s.phys (r.get s.reg)) := by
 rw [runI, stops_take (.inl h)]
 simp only [if_pos h]
theorem runI_give {s : IrS} {t : List IrS} {r : RgS} {m : MachS} (h : s.kind = 2) : runI (s :: t) r m = runI t (r.put s.reg (rg m.rl s.phys)) m := by
 rw [runI, stops_take (.inr h)]
 simp only [if_neg (show ¬ s.kind = 1 by omega), if_pos h]
theorem runI_x {s : IrS} {t : List IrS} {r : RgS} {m : MachS} (hs : s.stops = false) (h1 : s.kind ≠ 1) (h2 : s.kind ≠ 2) (h : (execS m s.x 0).2 = 0) : runI (s :: t) r m = runI t r ((execS m s.x 0).1.at 0) := by
 rw [runI, hs]
 simp only [if_neg h1, if_neg h2, if_pos h]
theorem runI_xe {s : IrS} {t : List IrS} {r : RgS} {m : MachS} (hs : s.stops = false) (h1 : s.kind ≠ 1) (h2 : s.kind ≠ 2) (h : (execS m s.x 0).2 ≠ 0) : runI (s :: t) r m = (.zero, .zero, t.length + 1, (execS m s.x 0).2) := by
 rw [runI, hs]
 simp only [if_neg h1, if_neg h2, if_neg h]
theorem runI_left (l : List IrS) (r : RgS) (m : MachS) : (runI l r m).2.2.1 ≤ l.length := by
 induction l generalizing r m with
 | nil => simp [runI]
 | cons s t ih =>
  cases hs : s.stops
  ·by_cases h1 : s.kind = 1
   ·rw [runI_take h1]; have := ih r (m.put s.phys (r.get s.reg)); simp; omega
   ·by_cases h2 : s.kind = 2
    ·rw [runI_give h2]; have := ih (r.put s.reg (rg m.rl s.phys)) m; simp; omega
    ·by_cases he : (execS m s.x 0).2 = 0
     ·rw [runI_x hs h1 h2 he]; have := ih r ((execS m s.x 0).1.at 0); simp; omega
     ·rw [runI_xe hs h1 h2 he]; simp
  ·rw [runI_stop hs]; simp
theorem restI_len (l : List IrS) (r : RgS) (m : MachS) : (restI l r m).length = (runI l r m).2.2.1 := by
 have := runI_left l r m
 unfold restI
 rw [List.length_drop]
 omega
theorem restI_cons {s : IrS} {t : List IrS} {r r' : RgS} {m m' : MachS} (h : runI (s :: t) r m = runI t r' m') : restI (s :: t) r m = restI t r' m' := by
 unfold restI
 rw [h]
 have := runI_left t r' m'
 rw [List.length_cons, show t.length + 1 - (runI t r' m').2.2.1 = (t.length - (runI t r' m').2.2.1) + 1 by omega, List.drop_succ_cons]
theorem restI_stop {s : IrS} {t : List IrS} {r : RgS} {m : MachS} (h : s.stops = true) : restI (s :: t) r m = s :: t := by
 unfold restI
 rw [runI_stop h, List.length_cons, Nat.sub_self, List.drop_zero]
theorem may_kind0 {s : IrS} (hm : s.may = true) (hs : s.stops = false) (h1 : s.kind ≠ 1) (h2 : s.kind ≠ 2) : s.kind = 0 := by
 obtain ⟨kind, op, w, dst, src, base, disp, imm, cc, reg, phys, num, to⟩ := s
 replace hs : stopsI kind op = false := hs
 unfold stopsI at hs
 rw [decide_eq_false_iff_not] at hs
 replace hm : mayI kind op w dst src base disp imm cc reg phys num to = true := hm
 unfold mayI at hm
 refine Classical.byContradiction fun hk => ?_
 replace h1 : kind ≠ 1 := h1
 replace h2 : kind ≠ 2 := h2
 replace hk : ¬ kind = 0 := hk
 rw [if_neg hk, if_neg (by omega), if_neg (by omega), if_neg (by omega), if_neg (by omega), if_neg (by omega)] at hm
 cases hm
theorem doI_ok {l : List IrS} {r : RgS} (h : (chkI l).2 = 0) (h2 : (runI l r .zero).2.2.2 = 0) : doI l r = ((runI l r .zero).1, (runI l r .zero).2.1, ((l.length - (runI l r .zero).2.2.1 : Nat) : Int), 0) := by
 unfold doI
 simp only [if_pos h, if_pos h2]
end Go.Ev

namespace Go.Ev
open Go
theorem ofInt_wrap (n : Int) : BitVec.ofInt 64 (IntKind.i64.wrap n) = BitVec.ofInt 64 n := by
 apply BitVec.eq_of_toNat_eq
 rw [toNat_ofInt, toNat_ofInt, w_i64]
 congr 1
 rw [show ((2 ^ 64 : Nat) : Int) = 18446744073709551616 from rfl]
 omega
theorem ofInt_or (a b : Int) : BitVec.ofInt 64 (or64 a b) = BitVec.ofInt 64 a ||| BitVec.ofInt 64 b := by
 show BitVec.ofInt 64 (IntKind.i64.wrap ((BitVec.ofInt 64 a ||| BitVec.ofInt 64 b).toNat : Int)) = _
 rw [ofInt_wrap, ofInt_toNat]
theorem ofInt_andNot (a b : Int) : BitVec.ofInt 64 (andNot64 a b) = BitVec.ofInt 64 a &&& ~~~ BitVec.ofInt 64 b := by
 show BitVec.ofInt 64 (IntKind.i64.wrap ((BitVec.ofInt 64 a &&& ~~~ BitVec.ofInt 64 b).toNat : Int)) = _
 rw [ofInt_wrap, ofInt_toNat]
theorem bitOf_lsb {w k : Int} (k0 : 0 ≤ k) (k1 : k ≤ 15) : bitOf w k = if (BitVec.ofInt 64 w).getLsbD k.toNat = true then 1 else 0 := by
 have key : ∀ k : Int, 0 ≤ k → k ≤ 15 → bitOf w k = if (BitVec.ofInt 64 w).getLsbD k.toNat = true then 1 else 0 := by
  refine cases16 ?_ ?_ ?_ ?_ ?_ ?_ ?_ ?_ ?_ ?_ ?_ ?_ ?_ ?_ ?_ ?_
  ·rw [show bitOf w 0 = IntKind.i64.wrap ((BitVec.ofInt 64 (w.fdiv 1) &&& BitVec.ofInt 64 1).toNat : Int) from rfl, and1, w_i64, Int.fdiv_eq_ediv_of_nonneg _ (by decide), bit_at, show (0 : Int).toNat = 0 from rfl]; simp only [decide_eq_true_eq]; split <;> omega
  ·rw [show bitOf w 1 = IntKind.i64.wrap ((BitVec.ofInt 64 (w.fdiv 2) &&& BitVec.ofInt 64 1).toNat : Int) from rfl, and1, w_i64, Int.fdiv_eq_ediv_of_nonneg _ (by decide), bit_at, show (1 : Int).toNat = 1 from rfl]; simp only [decide_eq_true_eq]; split <;> omega
  ·rw [show bitOf w 2 = IntKind.i64.wrap ((BitVec.ofInt 64 (w.fdiv 4) &&& BitVec.ofInt 64 1).toNat : Int) from rfl, and1, w_i64, Int.fdiv_eq_ediv_of_nonneg _ (by decide), bit_at, show (2 : Int).toNat = 2 from rfl]; simp only [decide_eq_true_eq]; split <;> omega
  ·rw [show bitOf w 3 = IntKind.i64.wrap ((BitVec.ofInt 64 (w.fdiv 8) &&& BitVec.ofInt 64 1).toNat : Int) from rfl, and1, w_i64, Int.fdiv_eq_ediv_of_nonneg _ (by decide), bit_at, show (3 : Int).toNat = 3 from rfl]; simp only [decide_eq_true_eq]; split <;> omega
  ·rw [show bitOf w 4 = IntKind.i64.wrap ((BitVec.ofInt 64 (w.fdiv 16) &&& BitVec.ofInt 64 1).toNat : Int) from rfl, and1, w_i64, Int.fdiv_eq_ediv_of_nonneg _ (by decide), bit_at, show (4 : Int).toNat = 4 from rfl]; simp only [decide_eq_true_eq]; split <;> omega
  ·rw [show bitOf w 5 = IntKind.i64.wrap ((BitVec.ofInt 64 (w.fdiv 32) &&& BitVec.ofInt 64 1).toNat : Int) from rfl, and1, w_i64, Int.fdiv_eq_ediv_of_nonneg _ (by decide), bit_at, show (5 : Int).toNat = 5 from rfl]; simp only [decide_eq_true_eq]; split <;> omega
  ·rw [show bitOf w 6 = IntKind.i64.wrap ((BitVec.ofInt 64 (w.fdiv 64) &&& BitVec.ofInt 64 1).toNat : Int) from rfl, and1, w_i64, Int.fdiv_eq_ediv_of_nonneg _ (by decide), bit_at, show (6 : Int).toNat = 6 from rfl]; simp only [decide_eq_true_eq]; split <;> omega
  ·rw [show bitOf w 7 = IntKind.i64.wrap ((BitVec.ofInt 64 (w.fdiv 128) &&& BitVec.ofInt 64 1).toNat : Int) from rfl, and1, w_i64, Int.fdiv_eq_ediv_of_nonneg _ (by decide), bit_at, show (7 : Int).toNat = 7 from rfl]; simp only [decide_eq_true_eq]; split <;> omega
  ·rw [show bitOf w 8 = IntKind.i64.wrap ((BitVec.ofInt 64 (w.fdiv 256) &&& BitVec.ofInt 64 1).toNat : Int) from rfl, and1, w_i64, Int.fdiv_eq_ediv_of_nonneg _ (by decide), bit_at, show (8 : Int).toNat = 8 from rfl]; simp only [decide_eq_true_eq]; split <;> omega
  ·rw [show bitOf w 9 = IntKind.i64.wrap ((BitVec.ofInt 64 (w.fdiv 512) &&& BitVec.ofInt 64 1).toNat : Int) from rfl, and1, w_i64, Int.fdiv_eq_ediv_of_nonneg _ (by decide), bit_at, show (9 : Int).toNat = 9 from rfl]; simp only [decide_eq_true_eq]; split <;> omega
  ·rw [show bitOf w 10 = IntKind.i64.wrap ((BitVec.ofInt 64 (w.fdiv 1024) &&& BitVec.ofInt 64 1).toNat : Int) from rfl, and1, w_i64, Int.fdiv_eq_ediv_of_nonneg _ (by decide), bit_at, show (10 : Int).toNat = 10 from rfl]; simp only [decide_eq_true_eq]; split <;> omega
  ·rw [show bitOf w 11 = IntKind.i64.wrap ((BitVec.ofInt 64 (w.fdiv 2048) &&& BitVec.ofInt 64 1).toNat : Int) from rfl, and1, w_i64, Int.fdiv_eq_ediv_of_nonneg _ (by decide), bit_at, show (11 : Int).toNat = 11 from rfl]; simp only [decide_eq_true_eq]; split <;> omega
  ·rw [show bitOf w 12 = IntKind.i64.wrap ((BitVec.ofInt 64 (w.fdiv 4096) &&& BitVec.ofInt 64 1).toNat : Int) from rfl, and1, w_i64, Int.fdiv_eq_ediv_of_nonneg _ (by decide), bit_at, show (12 : Int).toNat = 12 from rfl]; simp only [decide_eq_true_eq]; split <;> omega
  ·rw [show bitOf w 13 = IntKind.i64.wrap ((BitVec.ofInt 64 (w.fdiv 8192) &&& BitVec.ofInt 64 1).toNat : Int) from rfl, and1, w_i64, Int.fdiv_eq_ediv_of_nonneg _ (by decide), bit_at, show (13 : Int).toNat = 13 from rfl]; simp only [decide_eq_true_eq]; split <;> omega
  ·rw [show bitOf w 14 = IntKind.i64.wrap ((BitVec.ofInt 64 (w.fdiv 16384) &&& BitVec.ofInt 64 1).toNat : Int) from rfl, and1, w_i64, Int.fdiv_eq_ediv_of_nonneg _ (by decide), bit_at, show (14 : Int).toNat = 14 from rfl]; simp only [decide_eq_true_eq]; split <;> omega
  ·rw [show bitOf w 15 = IntKind.i64.wrap ((BitVec.ofInt 64 (w.fdiv 32768) &&& BitVec.ofInt 64 1).toNat : Int) from rfl, and1, w_i64, Int.fdiv_eq_ediv_of_nonneg _ (by decide), bit_at, show (15 : Int).toNat = 15 from rfl]; simp only [decide_eq_true_eq]; split <;> omega
 exact key k k0 k1
theorem may_reg {s : IrS} (h : s.may = true) (hk : s.kind = 1 ∨ s.kind = 2) : 0 ≤ s.reg ∧ s.reg ≤ 10 ∧ scrM s.phys = true := by
 unfold IrS.may mayI at h
 rw [if_neg (by omega), if_pos hk] at h
 simp only [Bool.and_eq_true, decide_eq_true_eq] at h
 exact ⟨h.1.1.1.1, h.1.1.1.2, h.1.1.2⟩
def EqBut (o : Int) (r r' : RgS) : Prop := ∀ k, 0 ≤ k → k ≤ 10 → k ≠ o → r.get k = r'.get k
end Go.Ev

namespace Go.Ev
open Go
def oneOK (kind op width size : Int) (byReg : Bool) (dst src off imm : Int) : Bool := mayM kind op width size byReg dst src off imm && (!(kind == 3) && !(kind == 4))
def oneL (kind op width size : Int) (byReg : Bool) (dst src off imm : Int) : List D := if oneOK kind op width size byReg dst src off imm then stepsM kind op width size byReg dst src off imm else []
def oneE (kind op width size : Int) (byReg : Bool) (dst src off imm : Int) : Int := if oneOK kind op width size byReg dst src off imm then 0 else 2
end Go.Ev
namespace Go.Ev
open Go
def irOf : D → IrS
  | .agg [.int _ a, .int _ b, .int _ c, .int _ d, .int _ e, .int _ f, .int _ g, .int _ h, .int _ i, .int _ j, .int _ k, .int _ l, .int _ m] => ⟨a, b, c, d, e, f, g, h, i, j, k, l, m⟩
  | _ => ⟨0, 0, 0, 0, 0, 0, 0, 0, 0, 0, 0, 0, 0⟩
def AllIr (l : List D) : Prop := (l.map irOf).map IrS.d = l
end Go.Ev

namespace Go.Ev
open Go
set_option maxRecDepth 10000
abbrev takeS (p r : Int) : IrS := ⟨1, 0, 0, 0, 0, 0, 0, 0, 0, r, p, 0, 0⟩
abbrev giveS (r p : Int) : IrS := ⟨2, 0, 0, 0, 0, 0, 0, 0, 0, r, p, 0, 0⟩
abbrev xS (op w dst src imm cc : Int) : IrS := ⟨0, op, w, dst, src, 0, 0, imm, cc, 0, 0, 0, 0⟩
def Gives (l : List IrS) (r : RgS) (d v : Int) : Prop := ∀ m, ∃ m', runI l r m = (r.put d v, m', 0, 0)
theorem and_self {x : Int} (h : inU x) : and64u x x = x := by
 unfold and64u
 rw [BitVec.and_self, toNat_ofInt]
 unfold u64 inU at *
 rw [w_u64]
 rw [show ((2 ^ 64 : Nat) : Int) = 18446744073709551616 from rfl]
 omega
end Go.Ev

namespace Go.Ev
open Go
set_option maxRecDepth 10000
def Clean (m : MachS) : Prop := m.q3 = 0 ∧ m.q4 = 0 ∧ m.q5 = 0 ∧ m.q6 = 0 ∧ m.q7 = 0 ∧ m.q8 = 0 ∧ m.q9 = 0 ∧ m.q10 = 0 ∧ m.q12 = 0 ∧ m.q13 = 0 ∧ m.q14 = 0 ∧ m.q15 = 0 ∧ m.pc = 0
theorem own_bit {N k : Int} (h : (andNot64 N 2055 == 0) = true) (k0 : 0 ≤ k) (k1 : k ≤ 15) (hb : bitOf N k = 1) : scrM k = true := by
 rw [beq_iff_eq] at h
 have e := ofInt_andNot N 2055
 rw [h] at e
 have e2 := congrArg (fun b : BitVec 64 => b.getLsbD k.toNat) e
 simp only [BitVec.getLsbD_and, BitVec.getLsbD_not] at e2
 rw [bitOf_lsb k0 k1] at hb
 have hN : (BitVec.ofInt 64 N).getLsbD k.toNat = true := by
  cases hc : (BitVec.ofInt 64 N).getLsbD k.toNat
  ·rw [hc] at hb; exact absurd hb (by decide)
  ·rfl
 rw [hN] at e2
 have e3 : (BitVec.ofInt 64 2055).getLsbD k.toNat = true := by
  have h0 : (BitVec.ofInt 64 0).getLsbD k.toNat = false := by simp
  rw [h0] at e2
  have hk : k.toNat < 64 := by omega
  simpa [hk] using e2
 have key : ∀ k : Int, 0 ≤ k → k ≤ 15 → (BitVec.ofInt 64 2055).getLsbD k.toNat = true → scrM k = true := by
  refine cases16 ?_ ?_ ?_ ?_ ?_ ?_ ?_ ?_ ?_ ?_ ?_ ?_ ?_ ?_ ?_ ?_ <;> decide
 exact key k k0 k1 e3
def anew : List IrS := [takeS 0 0, takeS 1 1, takeS 2 2, takeS 11 3]
def anewC : List IrS := anew ++ [xS 14 64 0 0 0 0]
end Go.Ev

namespace Go.Ev
open Go
def Low (n : Int) : Prop := ∀ i, 16 ≤ i → (BitVec.ofInt 64 n).getLsbD i = false
theorem low_or {a b : Int} (ha : Low a) (hb : Low b) : Low (or64 a b) := by
 intro i hi
 rw [ofInt_or, BitVec.getLsbD_or, ha i hi, hb i hi]; rfl
theorem low_nat (n : Nat) (h : n < 65536) : Low (n : Int) := by
 intro i hi
 rw [BitVec.ofInt_natCast, BitVec.getLsbD_ofNat]
 have h2 : 2 ^ 16 ≤ 2 ^ i := Nat.pow_le_pow_right (by decide) hi
 have : n < 2 ^ i := Nat.lt_of_lt_of_le h h2
 rw [Nat.testBit_lt_two_pow this, Bool.and_false]
theorem low_sh8 {d : Int} (d0 : 0 ≤ d) (d1 : d ≤ 15) : Low (sh8 d) := by
 have key : ∀ d : Int, 0 ≤ d → d ≤ 15 → Low (sh8 d) := by
  refine cases16 ?_ ?_ ?_ ?_ ?_ ?_ ?_ ?_ ?_ ?_ ?_ ?_ ?_ ?_ ?_ ?_
  ·exact low_nat 1 (by decide)
  ·exact low_nat 2 (by decide)
  ·exact low_nat 4 (by decide)
  ·exact low_nat 8 (by decide)
  ·exact low_nat 16 (by decide)
  ·exact low_nat 32 (by decide)
  ·exact low_nat 64 (by decide)
  ·exact low_nat 128 (by decide)
  ·exact low_nat 256 (by decide)
  ·exact low_nat 512 (by decide)
  ·exact low_nat 1024 (by decide)
  ·exact low_nat 2048 (by decide)
  ·exact low_nat 4096 (by decide)
  ·exact low_nat 8192 (by decide)
  ·exact low_nat 16384 (by decide)
  ·exact low_nat 32768 (by decide)
 exact key d d0 d1
theorem low_reads {op dst src base : Int} (d0 : 0 ≤ dst) (d1 : dst ≤ 15) (s0 : 0 ≤ src) (s1 : src ≤ 15) (b0 : 0 ≤ base) (b1 : base ≤ 15) : Low (readsX op dst src base) := by
 unfold readsX
 have hd := low_sh8 d0 d1; have hs := low_sh8 s0 s1; have hb := low_sh8 b0 b1
 have h0 : Low (sh8 0) := low_sh8 (by decide) (by decide)
 have h1 : Low (sh8 1) := low_sh8 (by decide) (by decide)
 have h2 : Low (sh8 2) := low_sh8 (by decide) (by decide)
 repeat' split
 ·exact hs
 ·exact low_nat 0 (by decide)
 ·exact low_or hd h1
 ·exact low_or (low_or hd h0) h2
 ·exact hb
 ·exact low_or hb hs
 ·exact low_nat 17 (by decide)
 ·exact low_nat 1477 (by decide)
 ·exact low_or hd hs
 ·exact hd
theorem low_writes {op dst : Int} (d0 : 0 ≤ dst) (d1 : dst ≤ 15) : Low (writesX op dst) := by
 unfold writesX
 repeat' split
 ·exact low_nat 0 (by decide)
 ·exact low_nat 5 (by decide)
 ·exact low_nat 16 (by decide)
 ·exact low_nat 2051 (by decide)
 ·exact low_sh8 d0 d1
theorem low_names (op w dst src base disp imm cc : Int) : Low (namesM op w dst src base disp imm cc) := by
 unfold namesM readsXX writesXX
 by_cases h : mayX op w dst src base disp imm cc = true
 ·rw [if_pos h, if_pos h]
  obtain ⟨⟨d0, d1, s0, s1, b0, b1, _⟩, _⟩ := mayX_parts h
  exact low_or (low_reads d0 d1 s0 s1 b0 b1) (low_writes d0 d1)
 ·rw [if_neg h, if_neg h]
  exact low_or (low_nat 0 (by decide)) (low_nat 0 (by decide))
theorem scr_lsb {k : Int} (k0 : 0 ≤ k) (k1 : k ≤ 15) (h : scrM k = true) : (BitVec.ofInt 64 2055).getLsbD k.toNat = true := by
 have key : ∀ k : Int, 0 ≤ k → k ≤ 15 → scrM k = true → (BitVec.ofInt 64 2055).getLsbD k.toNat = true := by
  refine cases16 ?_ ?_ ?_ ?_ ?_ ?_ ?_ ?_ ?_ ?_ ?_ ?_ ?_ ?_ ?_ ?_ <;> decide
 exact key k k0 k1 h
theorem own_all {N : Int} (hl : Low N) (h : ∀ k : Int, 0 ≤ k → k ≤ 15 → bitOf N k = 1 → scrM k = true) : (andNot64 N 2055 == 0) = true := by
 rw [beq_iff_eq]
 have hz : BitVec.ofInt 64 N &&& ~~~ BitVec.ofInt 64 2055 = 0#64 := by
  apply BitVec.eq_of_getLsbD_eq
  intro i hi
  rw [BitVec.getLsbD_and, BitVec.getLsbD_not, BitVec.getLsbD_zero]
  by_cases h16 : 16 ≤ i
  ·rw [hl i h16, Bool.false_and]
  ·cases hc : (BitVec.ofInt 64 N).getLsbD i
   ·rw [Bool.false_and]
   ·have hb := h (i : Int) (by omega) (by omega) (by rw [bitOf_lsb (by omega) (by omega), Int.toNat_natCast, hc]; rfl)
    have := scr_lsb (by omega) (by omega) hb
    rw [Int.toNat_natCast] at this
    rw [this]; simp
 unfold andNot64
 show IntKind.i64.wrap ((BitVec.ofInt 64 N &&& ~~~ BitVec.ofInt 64 2055).toNat : Int) = 0
 rw [hz]; rfl
theorem own_iff (op w dst src base disp imm cc : Int) : ownM op w dst src base disp imm cc = true ↔ ∀ k : Int, 0 ≤ k → k ≤ 15 → bitOf (namesM op w dst src base disp imm cc) k = 1 → scrM k = true :=
 ⟨fun h k k0 k1 hb => own_bit h k0 k1 hb, fun h => own_all (low_names op w dst src base disp imm cc) h⟩
theorem first_bad {N : Int} : (∀ k : Int, 0 ≤ k → k ≤ 15 → bitOf N k = 1 → scrM k = true) ∨ ∃ n : Nat, n ≤ 15 ∧ (bitOf N (n : Int) == 1) = true ∧ scrM (n : Int) = false ∧ ∀ m : Nat, m < n → bitOf N (m : Int) = 1 → scrM (m : Int) = true := by
 have key : ∀ j : Nat, j ≤ 16 → (∀ m : Nat, m < j → bitOf N (m : Int) = 1 → scrM (m : Int) = true) ∨ ∃ n : Nat, n < j ∧ (bitOf N (n : Int) == 1) = true ∧ scrM (n : Int) = false ∧ ∀ m : Nat, m < n → bitOf N (m : Int) = 1 → scrM (m : Int) = true := by
  intro j
  induction j with
  | zero => intro _; left; intro m hm; omega
  | succ j ih =>
   intro hj
   rcases ih (by omega) with h | ⟨n, hn, h⟩
   ·by_cases hb : bitOf N (j : Int) = 1
    ·cases hs : scrM (j : Int)
     ·right; exact ⟨j, by omega, beq_iff_eq.mpr hb, hs, h⟩
     ·left; intro m hm hbm
      by_cases e : m = j
      ·subst e; exact hs
      ·exact h m (by omega) hbm
    ·left; intro m hm hbm
     by_cases e : m = j
     ·subst e; exact absurd hbm hb
     ·exact h m (by omega) hbm
   ·right; exact ⟨n, by omega, h⟩
 rcases key 16 (by omega) with h | ⟨n, hn, h⟩
 ·left; intro k k0 k1 hb
  have := h k.toNat (by omega)
  rw [Int.toNat_of_nonneg k0] at this
  exact this hb
 ·right; exact ⟨n, by omega, h⟩
end Go.Ev

namespace Go.Proofs.YtojgmjfcfpclbaaGreat
open Go Go.Ev
set_option maxRecDepth 100000
theorem rs_run_t (nm : Int) (h : ∀ k : Int, 0 ≤ k → k ≤ 15 → bitOf nm k = 1 → scrM k = true) :
  LoopRun Tryz.prog 8 (.loop (loopB Tryz.f30 0)) [uu, uu, uu, uu, .int .i64 nm, .int .i8 0, uu, uu, uu, uu, uu, uu, uu, uu, uu, uu, uu, uu, uu, uu, uu, uu, uu, uu, uu, uu, uu, uu, uu, uu, uu, uu, uu, uu, uu, uu, uu, uu, uu, uu, uu, uu, uu, uu, uu, uu, uu, uu, uu, uu, uu, uu, uu, uu, uu, uu, uu, uu, uu, uu, uu, uu, uu, uu, uu, uu, uu, uu, uu, uu, uu, uu, uu, uu, uu, uu, uu, uu, uu, uu, uu, uu, uu, uu, uu, uu, uu, uu, uu, uu, uu, uu, uu, uu, uu, uu, uu, uu, uu, uu, uu, uu, uu, uu, uu, uu, uu, uu, uu, uu] [.dead, .dead, .dead, .dead, .dead, .dead, .dead, .dead] (.exit 1) [uu, uu, uu, uu, uu, uu, uu, uu, uu, uu, uu, uu, uu, uu, uu, uu, uu, uu, uu, uu, uu, uu, uu, uu, uu, uu, uu, uu, uu, uu, uu, uu, uu, uu, uu, uu, uu, uu, uu, uu, uu, uu, uu, uu, uu, uu, uu, uu, uu, uu, uu, uu, uu, uu, uu, uu, uu, uu, uu, uu, uu, uu, uu, uu, uu, uu, uu, uu, uu, uu, uu, uu, uu, uu, uu, uu, uu, uu, uu, uu, uu, uu, uu, uu, uu, uu, uu, uu, uu, uu, uu, uu, uu, uu, uu, uu, uu, uu, uu, uu, uu, uu, uu, uu, uu, uu, uu, uu, uu, uu] [.dead, .dead, .dead, .dead, .dead, .dead, .dead, .dead] := by
 have key : ∀ (n : Nat) (k : Int), 0 ≤ k → (n : Int) + k = 16 → Rounds Tryz.prog (loopB Tryz.f30 0) 8 [uu, uu, uu, uu, .int .i64 nm, .int .i8 k, uu, uu, uu, uu, uu, uu, uu, uu, uu, uu, uu, uu, uu, uu, uu, uu, uu, uu, uu, uu, uu, uu, uu, uu, uu, uu, uu, uu, uu, uu, uu, uu, uu, uu, uu, uu, uu, uu, uu, uu, uu, uu, uu, uu, uu, uu, uu, uu, uu, uu, uu, uu, uu, uu, uu, uu, uu, uu, uu, uu, uu, uu, uu, uu, uu, uu, uu, uu, uu, uu, uu, uu, uu, uu, uu, uu, uu, uu, uu, uu, uu, uu, uu, uu, uu, uu, uu, uu, uu, uu, uu, uu, uu, uu, uu, uu, uu, uu, uu, uu, uu, uu, uu, uu] [.dead, .dead, .dead, .dead, .dead, .dead, .dead, .dead] (.exit 1) [uu, uu, uu, uu, uu, uu, uu, uu, uu, uu, uu, uu, uu, uu, uu, uu, uu, uu, uu, uu, uu, uu, uu, uu, uu, uu, uu, uu, uu, uu, uu, uu, uu, uu, uu, uu, uu, uu, uu, uu, uu, uu, uu, uu, uu, uu, uu, uu, uu, uu, uu, uu, uu, uu, uu, uu, uu, uu, uu, uu, uu, uu, uu, uu, uu, uu, uu, uu, uu, uu, uu, uu, uu, uu, uu, uu, uu, uu, uu, uu, uu, uu, uu, uu, uu, uu, uu, uu, uu, uu, uu, uu, uu, uu, uu, uu, uu, uu, uu, uu, uu, uu, uu, uu, uu, uu, uu, uu, uu, uu] [.dead, .dead, .dead, .dead, .dead, .dead, .dead, .dead] := by
  intro n
  induction n with
  | zero =>
   intro k _ hk
   obtain rfl : k = 16 := by omega
   exact Rounds.last (rs_done nm) (by simp)
  | succ n ih =>
   intro k k0 hk
   by_cases hb : bitOf nm k = 1
   ·exact Rounds.more (rs_s nm k k0 (by omega) (beq_iff_eq.mpr hb) (h k k0 (by omega) hb)) (ih (k + 1) (by omega) (by omega))
   ·exact Rounds.more (rs_z nm k k0 (by omega) (beq_eq_false_iff_ne.mpr hb)) (ih (k + 1) (by omega) (by omega))
 exact LoopRun.of_rounds (by decide) (key 16 0 (by omega) (by omega))
theorem rs_run_f (nm : Int) (j : Nat) (hj : j ≤ 15) (hb : (bitOf nm (j : Int) == 1) = true) (hs : scrM (j : Int) = false) (h : ∀ m : Nat, m < j → bitOf nm (m : Int) = 1 → scrM (m : Int) = true) :
  LoopRun Tryz.prog 8 (.loop (loopB Tryz.f30 0)) [uu, uu, uu, uu, .int .i64 nm, .int .i8 0, uu, uu, uu, uu, uu, uu, uu, uu, uu, uu, uu, uu, uu, uu, uu, uu, uu, uu, uu, uu, uu, uu, uu, uu, uu, uu, uu, uu, uu, uu, uu, uu, uu, uu, uu, uu, uu, uu, uu, uu, uu, uu, uu, uu, uu, uu, uu, uu, uu, uu, uu, uu, uu, uu, uu, uu, uu, uu, uu, uu, uu, uu, uu, uu, uu, uu, uu, uu, uu, uu, uu, uu, uu, uu, uu, uu, uu, uu, uu, uu, uu, uu, uu, uu, uu, uu, uu, uu, uu, uu, uu, uu, uu, uu, uu, uu, uu, uu, uu, uu, uu, uu, uu, uu] [.dead, .dead, .dead, .dead, .dead, .dead, .dead, .dead] .ret [uu, uu, .bool false, uu, uu, uu, uu, uu, uu, uu, uu, uu, uu, uu, uu, uu, uu, uu, uu, uu, uu, uu, uu, uu, uu, uu, uu, uu, uu, uu, uu, uu, uu, uu, uu, uu, uu, uu, uu, uu, uu, uu, uu, uu, uu, uu, uu, uu, uu, uu, uu, uu, uu, uu, uu, uu, uu, uu, uu, uu, uu, uu, uu, uu, uu, uu, uu, uu, uu, uu, uu, uu, uu, uu, uu, uu, uu, uu, uu, uu, uu, uu, uu, uu, uu, uu, uu, uu, uu, uu, uu, uu, uu, uu, uu, uu, uu, uu, uu, uu, uu, uu, uu, uu, uu, uu, uu, uu, uu, uu] [.dead, .dead, .dead, .dead, .dead, .dead, .dead, .dead] := by
 have key : ∀ (n : Nat) (k : Int), 0 ≤ k → (n : Int) + k = j → Rounds Tryz.prog (loopB Tryz.f30 0) 8 [uu, uu, uu, uu, .int .i64 nm, .int .i8 k, uu, uu, uu, uu, uu, uu, uu, uu, uu, uu, uu, uu, uu, uu, uu, uu, uu, uu, uu, uu, uu, uu, uu, uu, uu, uu, uu, uu, uu, uu, uu, uu, uu, uu, uu, uu, uu, uu, uu, uu, uu, uu, uu, uu, uu, uu, uu, uu, uu, uu, uu, uu, uu, uu, uu, uu, uu, uu, uu, uu, uu, uu, uu, uu, uu, uu, uu, uu, uu, uu, uu, uu, uu, uu, uu, uu, uu, uu, uu, uu, uu, uu, uu, uu, uu, uu, uu, uu, uu, uu, uu, uu, uu, uu, uu, uu, uu, uu, uu, uu, uu, uu, uu, uu] [.dead, .dead, .dead, .dead, .dead, .dead, .dead, .dead] .ret [uu, uu, .bool false, uu, uu, uu, uu, uu, uu, uu, uu, uu, uu, uu, uu, uu, uu, uu, uu, uu, uu, uu, uu, uu, uu, uu, uu, uu, uu, uu, uu, uu, uu, uu, uu, uu, uu, uu, uu, uu, uu, uu, uu, uu, uu, uu, uu, uu, uu, uu, uu, uu, uu, uu, uu, uu, uu, uu, uu, uu, uu, uu, uu, uu, uu, uu, uu, uu, uu, uu, uu, uu, uu, uu, uu, uu, uu, uu, uu, uu, uu, uu, uu, uu, uu, uu, uu, uu, uu, uu, uu, uu, uu, uu, uu, uu, uu, uu, uu, uu, uu, uu, uu, uu, uu, uu, uu, uu, uu, uu] [.dead, .dead, .dead, .dead, .dead, .dead, .dead, .dead] := by
  intro n
  induction n with
  | zero =>
   intro k _ hk
   obtain rfl : k = (j : Int) := by omega
   exact Rounds.last (rs_bad nm (j : Int) (by omega) (by omega) hb hs) (by simp)
  | succ n ih =>
   intro k k0 hk
   by_cases hb : bitOf nm k = 1
   ·have hk' := h k.toNat (by omega)
    rw [Int.toNat_of_nonneg k0] at hk'
    exact Rounds.more (rs_s nm k k0 (by omega) (beq_iff_eq.mpr hb) (hk' hb)) (ih (k + 1) (by omega) (by omega))
   ·exact Rounds.more (rs_z nm k k0 (by omega) (beq_eq_false_iff_ne.mpr hb)) (ih (k + 1) (by omega) (by omega))
 exact LoopRun.of_rounds (by decide) (key j 0 (by omega) (by omega))
end Go.Proofs.YtojgmjfcfpclbaaGreat

namespace Go.Proofs.YtojgmjfcfpclbaaGreat
open Go Go.Ev
set_option maxRecDepth 100000
set_option maxHeartbeats 8000000
theorem rimay_0a_ok (op w dst src base disp imm cc reg phys num to : Int) (ho : op ≤ 127) (hm : mayX op w dst src base disp imm cc = false)  : Ret Tryz.prog 30 ([irD 0 op w dst src base disp imm cc reg phys num to]) (.bool false) := by
 rcases bft (eqCells [.int .i8 0, .int .i8 op, .int .i8 w, .int .i8 dst, .int .i8 src, .int .i8 base, .int .i64 disp, .int .i64 imm, .int .i8 cc, .int .i8 reg, .int .i8 phys, .int .i64 num, .int .i64 to] [.int .i8 0, .int .i8 op, .int .i8 w, .int .i8 dst, .int .i8 src, .int .i8 base, .int .i64 disp, .int .i64 imm, .int .i8 cc, .int .i8 0, .int .i8 0, .int .i64 0, .int .i64 0]) with h0 | h0
 ·have c1 := @class_ok op
  have c2 := @rmayX_ok op w dst src base disp imm cc
  exact (o30 (d := .bool false) [tT, tT, tT, tF, tT, tT, tT, .inl, tT, .keep [(0, Ob.box [.int .i8 0, .int .i8 op, .int .i8 w, .int .i8 dst, .int .i8 src, .int .i8 base, .int .i64 disp, .int .i64 imm, .int .i8 cc, .int .i8 reg, .int .i8 phys, .int .i64 num, .int .i64 to])], tT, .flat _ _ flat_Ir, tF, tC (nt h0), tT, .ret _ _ _ c1, .ret _ _ _ c2, tC (eF (nt hm)), tC (eF (nt hm)), tC (nt hm), tT] (by kernel_rfl)).to (by rfl)
 exact (o30 (d := .bool false) [tT, tT, tT, tF, tT, tT, tT, .inl, tT, .keep [(0, Ob.box [.int .i8 0, .int .i8 op, .int .i8 w, .int .i8 dst, .int .i8 src, .int .i8 base, .int .i64 disp, .int .i64 imm, .int .i8 cc, .int .i8 reg, .int .i8 phys, .int .i64 num, .int .i64 to])], tT, .flat _ _ flat_Ir, tF, tC (nt h0)] (by kernel_rfl)).to (by rfl)
theorem rimay_0b_ok (op w dst src base disp imm cc reg phys num to : Int) (ho : op ≤ 127) (hm : mayX op w dst src base disp imm cc = true) (h8 : decide (classM op < 8) = false)  : Ret Tryz.prog 30 ([irD 0 op w dst src base disp imm cc reg phys num to]) (.bool false) := by
 rcases bft (eqCells [.int .i8 0, .int .i8 op, .int .i8 w, .int .i8 dst, .int .i8 src, .int .i8 base, .int .i64 disp, .int .i64 imm, .int .i8 cc, .int .i8 reg, .int .i8 phys, .int .i64 num, .int .i64 to] [.int .i8 0, .int .i8 op, .int .i8 w, .int .i8 dst, .int .i8 src, .int .i8 base, .int .i64 disp, .int .i64 imm, .int .i8 cc, .int .i8 0, .int .i8 0, .int .i64 0, .int .i64 0]) with h0 | h0
 ·have c1 := @class_ok op
  have c2 := @rmayX_ok op w dst src base disp imm cc
  exact (o30 (d := .bool false) [tT, tT, tT, tF, tT, tT, tT, .inl, tT, .keep [(0, Ob.box [.int .i8 0, .int .i8 op, .int .i8 w, .int .i8 dst, .int .i8 src, .int .i8 base, .int .i64 disp, .int .i64 imm, .int .i8 cc, .int .i8 reg, .int .i8 phys, .int .i64 num, .int .i64 to])], tT, .flat _ _ flat_Ir, tF, tC (nt h0), tT, .ret _ _ _ c1, .ret _ _ _ c2, tC (eF (nt hm)), tC (eF (nt hm)), tC (nt hm), tC (leL 8 h8)] (by kernel_rfl)).to (by rfl)
 exact (o30 (d := .bool false) [tT, tT, tT, tF, tT, tT, tT, .inl, tT, .keep [(0, Ob.box [.int .i8 0, .int .i8 op, .int .i8 w, .int .i8 dst, .int .i8 src, .int .i8 base, .int .i64 disp, .int .i64 imm, .int .i8 cc, .int .i8 reg, .int .i8 phys, .int .i64 num, .int .i64 to])], tT, .flat _ _ flat_Ir, tF, tC (nt h0)] (by kernel_rfl)).to (by rfl)
theorem rimay_0c_ok (op w dst src base disp imm cc reg phys num to : Int) (ho : op ≤ 127) (hm : mayX op w dst src base disp imm cc = true) (h8 : decide (classM op < 8) = true) (hall : ∀ k : Int, 0 ≤ k → k ≤ 15 → bitOf (IntKind.wrap IntKind.i64 (↑(BitVec.toNat (BitVec.ofInt (64 : Nat) (readsXX op w dst src base disp imm cc) ||| BitVec.ofInt (64 : Nat) (writesXX op w dst src base disp imm cc))) : Int)) k = 1 → scrM k = true) : Ret Tryz.prog 30 ([irD 0 op w dst src base disp imm cc reg phys num to]) (.bool (decide (reg = 0 ∧ phys = 0 ∧ num = 0 ∧ to = 0))) := by
 rcases bft (eqCells [.int .i8 0, .int .i8 op, .int .i8 w, .int .i8 dst, .int .i8 src, .int .i8 base, .int .i64 disp, .int .i64 imm, .int .i8 cc, .int .i8 reg, .int .i8 phys, .int .i64 num, .int .i64 to] [.int .i8 0, .int .i8 op, .int .i8 w, .int .i8 dst, .int .i8 src, .int .i8 base, .int .i64 disp, .int .i64 imm, .int .i8 cc, .int .i8 0, .int .i8 0, .int .i64 0, .int .i64 0]) with h0 | h0
 ·have c1 := @class_ok op
  have c2 := @rmayX_ok op w dst src base disp imm cc
  have c3 := @rreads_any_ok op w dst src base disp imm cc ho
  have c4 := @rwrites_any_ok op w dst src base disp imm cc ho
  have c5 := @rs_run_t (IntKind.wrap IntKind.i64 (↑(BitVec.toNat (BitVec.ofInt (64 : Nat) (readsXX op w dst src base disp imm cc) ||| BitVec.ofInt (64 : Nat) (writesXX op w dst src base disp imm cc))) : Int)) hall
  exact (o30 (d := .bool true) [tT, tT, tT, tF, tT, tT, tT, .inl, tT, .keep [(0, Ob.box [.int .i8 0, .int .i8 op, .int .i8 w, .int .i8 dst, .int .i8 src, .int .i8 base, .int .i64 disp, .int .i64 imm, .int .i8 cc, .int .i8 reg, .int .i8 phys, .int .i64 num, .int .i64 to])], tT, .flat _ _ flat_Ir, tF, tC (nt h0), tT, .ret _ _ _ c1, .ret _ _ _ c2, tC (eF (nt hm)), tC (eF (nt hm)), tC (nt hm), tC (leL 8 h8), .ret _ _ _ c3, .ret _ _ _ c4, .head ⟨[4, 5], [], []⟩ _ _ _ _ _ _ _ c5] (by kernel_rfl)).to (by first | rfl | simp only [wk, D.bool.injEq, eq_irc, h0, Bool.true_and, Bool.false_and, Bool.and_true, Bool.and_false]; first | done | rfl | (rw [Bool.eq_iff_iff]; simp only [sl1, eq_irc] at *; first | done | omega | (intro hh; omega) | (simp; done) | (constructor <;> intro hh <;> omega)))
 exact (o30 (d := .bool false) [tT, tT, tT, tF, tT, tT, tT, .inl, tT, .keep [(0, Ob.box [.int .i8 0, .int .i8 op, .int .i8 w, .int .i8 dst, .int .i8 src, .int .i8 base, .int .i64 disp, .int .i64 imm, .int .i8 cc, .int .i8 reg, .int .i8 phys, .int .i64 num, .int .i64 to])], tT, .flat _ _ flat_Ir, tF, tC (nt h0)] (by kernel_rfl)).to (by first | rfl | simp only [wk, D.bool.injEq, eq_irc, h0, Bool.true_and, Bool.false_and, Bool.and_true, Bool.and_false]; first | done | rfl | (rw [Bool.eq_iff_iff]; simp only [sl1, eq_irc] at *; first | done | omega | (intro hh; omega) | (simp; done) | (constructor <;> intro hh <;> omega)))
theorem rimay_0d_ok (op w dst src base disp imm cc reg phys num to : Int) (ho : op ≤ 127) (hm : mayX op w dst src base disp imm cc = true) (h8 : decide (classM op < 8) = true) (j : Nat) (hj : j ≤ 15) (hb : (bitOf (IntKind.wrap IntKind.i64 (↑(BitVec.toNat (BitVec.ofInt (64 : Nat) (readsXX op w dst src base disp imm cc) ||| BitVec.ofInt (64 : Nat) (writesXX op w dst src base disp imm cc))) : Int)) (j : Int) == 1) = true) (hs : scrM (j : Int) = false) (hbef : ∀ m : Nat, m < j → bitOf (IntKind.wrap IntKind.i64 (↑(BitVec.toNat (BitVec.ofInt (64 : Nat) (readsXX op w dst src base disp imm cc) ||| BitVec.ofInt (64 : Nat) (writesXX op w dst src base disp imm cc))) : Int)) (m : Int) = 1 → scrM (m : Int) = true) : Ret Tryz.prog 30 ([irD 0 op w dst src base disp imm cc reg phys num to]) (.bool false) := by
 rcases bft (eqCells [.int .i8 0, .int .i8 op, .int .i8 w, .int .i8 dst, .int .i8 src, .int .i8 base, .int .i64 disp, .int .i64 imm, .int .i8 cc, .int .i8 reg, .int .i8 phys, .int .i64 num, .int .i64 to] [.int .i8 0, .int .i8 op, .int .i8 w, .int .i8 dst, .int .i8 src, .int .i8 base, .int .i64 disp, .int .i64 imm, .int .i8 cc, .int .i8 0, .int .i8 0, .int .i64 0, .int .i64 0]) with h0 | h0
 ·have c1 := @class_ok op
  have c2 := @rmayX_ok op w dst src base disp imm cc
  have c3 := @rreads_any_ok op w dst src base disp imm cc ho
  have c4 := @rwrites_any_ok op w dst src base disp imm cc ho
  have c5 := @rs_run_f (IntKind.wrap IntKind.i64 (↑(BitVec.toNat (BitVec.ofInt (64 : Nat) (readsXX op w dst src base disp imm cc) ||| BitVec.ofInt (64 : Nat) (writesXX op w dst src base disp imm cc))) : Int)) _ hj hb hs hbef
  exact (o30 (d := .bool false) [tT, tT, tT, tF, tT, tT, tT, .inl, tT, .keep [(0, Ob.box [.int .i8 0, .int .i8 op, .int .i8 w, .int .i8 dst, .int .i8 src, .int .i8 base, .int .i64 disp, .int .i64 imm, .int .i8 cc, .int .i8 reg, .int .i8 phys, .int .i64 num, .int .i64 to])], tT, .flat _ _ flat_Ir, tF, tC (nt h0), tT, .ret _ _ _ c1, .ret _ _ _ c2, tC (eF (nt hm)), tC (eF (nt hm)), tC (nt hm), tC (leL 8 h8), .ret _ _ _ c3, .ret _ _ _ c4, .head ⟨[4, 5], [], []⟩ _ _ _ _ _ _ _ c5] (by kernel_rfl)).to (by rfl)
 exact (o30 (d := .bool false) [tT, tT, tT, tF, tT, tT, tT, .inl, tT, .keep [(0, Ob.box [.int .i8 0, .int .i8 op, .int .i8 w, .int .i8 dst, .int .i8 src, .int .i8 base, .int .i64 disp, .int .i64 imm, .int .i8 cc, .int .i8 reg, .int .i8 phys, .int .i64 num, .int .i64 to])], tT, .flat _ _ flat_Ir, tF, tC (nt h0)] (by kernel_rfl)).to (by rfl)
end Go.Proofs.YtojgmjfcfpclbaaGreat

namespace Go.Proofs.YtojgmjfcfpclbaaGreat
open Go Go.Ev
theorem class_lt {op w dst src base disp imm cc : Int} (h : mayX op w dst src base disp imm cc = true) : decide (classM op < 8) = decide (op < 28) := by
 have hc : shapeM op ≠ 0 := by
  intro e
  have := (mayX_parts h).2
  rw [e] at this
  simp [mayS] at this
 have ho : 0 ≤ op ∧ op ≤ 31 := by
  refine Classical.byContradiction fun k => hc ?_
  unfold shapeM
  repeat' rw [if_neg (by omega)]
 have hall : op = 0 ∨ op = 1 ∨ op = 2 ∨ op = 3 ∨ op = 4 ∨ op = 5 ∨ op = 6 ∨ op = 7 ∨ op = 8 ∨ op = 9 ∨ op = 10 ∨ op = 11 ∨ op = 12 ∨ op = 13 ∨ op = 14 ∨ op = 15 ∨ op = 16 ∨ op = 17 ∨ op = 18 ∨ op = 19 ∨ op = 20 ∨ op = 21 ∨ op = 22 ∨ op = 23 ∨ op = 24 ∨ op = 25 ∨ op = 26 ∨ op = 27 ∨ op = 28 ∨ op = 29 ∨ op = 30 ∨ op = 31 := by omega
 rcases hall with rfl | rfl | rfl | rfl | rfl | rfl | rfl | rfl | rfl | rfl | rfl | rfl | rfl | rfl | rfl | rfl | rfl | rfl | rfl | rfl | rfl | rfl | rfl | rfl | rfl | rfl | rfl | rfl | rfl | rfl | rfl | rfl <;> rfl
theorem rimay_0_ok (op w dst src base disp imm cc reg phys num to : Int) (ho : op ≤ 127) (hc : cc ≤ 127) (hp : phys ≤ 127) (g0 : -128 ≤ reg) (g1 : reg ≤ 127) :
  Ret Tryz.prog 30 [irD 0 op w dst src base disp imm cc reg phys num to] (.bool (mayI 0 op w dst src base disp imm cc reg phys num to)) := by
 rw [mayI_0]
 cases hm : mayX op w dst src base disp imm cc
 ·simp only [Bool.false_and]
  exact rimay_0a_ok _ _ _ _ _ _ _ _ _ _ _ _ ho hm
 ·cases ho28 : decide (op < 28)
  ·simp only [Bool.and_false, Bool.false_and]
   exact rimay_0b_ok _ _ _ _ _ _ _ _ _ _ _ _ ho hm ((class_lt hm).trans ho28)
  ·have h8 := (class_lt hm).trans ho28
   cases hw : ownM op w dst src base disp imm cc
   ·simp only [Bool.and_false, Bool.false_and]
    rcases first_bad (N := namesM op w dst src base disp imm cc) with h | ⟨j, hj, hb, hs, hbef⟩
    ·rw [(own_iff _ _ _ _ _ _ _ _).mpr h] at hw; cases hw
    ·exact rimay_0d_ok _ _ _ _ _ _ _ _ _ _ _ _ ho hm h8 j hj hb hs hbef
   ·simp only [Bool.true_and]
    exact rimay_0c_ok _ _ _ _ _ _ _ _ _ _ _ _ ho hm h8 ((own_iff _ _ _ _ _ _ _ _).mp hw)
theorem rimay_c_ok (kind op w dst src base disp imm cc reg phys num to : Int) (a0 : -128 ≤ kind) (a1 : kind ≤ 127) (ho : op ≤ 127) (hc : cc ≤ 127) (hp : phys ≤ 127) (g0 : -128 ≤ reg) (g1 : reg ≤ 127) :
  Ret Tryz.prog 30 [irD kind op w dst src base disp imm cc reg phys num to] (.bool (mayI kind op w dst src base disp imm cc reg phys num to)) := by
 by_cases h : 0 ≤ kind ∧ kind ≤ 6
 ·have hk : kind = 0 ∨ kind = 1 ∨ kind = 2 ∨ kind = 3 ∨ kind = 4 ∨ kind = 5 ∨ kind = 6 := by omega
  rcases hk with rfl | rfl | rfl | rfl | rfl | rfl | rfl
  ·exact rimay_0_ok _ _ _ _ _ _ _ _ _ _ _ _ ho hc hp g0 g1
  ·exact rimay_1_ok _ _ _ _ _ _ _ _ _ _ _ _ ho hc hp g0 g1
  ·exact rimay_2_ok _ _ _ _ _ _ _ _ _ _ _ _ ho hc hp g0 g1
  ·exact rimay_3_ok _ _ _ _ _ _ _ _ _ _ _ _ ho hc hp g0 g1
  ·exact rimay_4_ok _ _ _ _ _ _ _ _ _ _ _ _ ho hc hp g0 g1
  ·exact rimay_5_ok _ _ _ _ _ _ _ _ _ _ _ _ ho hc hp g0 g1
  ·exact rimay_6_ok _ _ _ _ _ _ _ _ _ _ _ _ ho hc hp g0 g1
 ·have e : mayI kind op w dst src base disp imm cc reg phys num to = false := by
   unfold mayI
   rw [if_neg (by omega), if_neg (by omega), if_neg (by omega), if_neg (by omega), if_neg (by omega), if_neg (by omega)]
  rw [e]
  by_cases h2 : kind < 0
  ·exact rimay_lo_ok _ _ _ _ _ _ _ _ _ _ _ _ _ h2 a0
  ·exact rimay_hi_ok _ _ _ _ _ _ _ _ _ _ _ _ _ (by omega) a1
end Go.Proofs.YtojgmjfcfpclbaaGreat

namespace Go.Proofs.YtojgmjfcfpclbaaGreat
open Go Go.Ev
set_option maxRecDepth 100000
set_option maxHeartbeats 8000000
theorem rck_done (l : List D) (k : Nat) (hb : l.length ≤ 9223372036854775807) (hk : l.length ≤ k) : RoundRun Tryz.prog (loopB Tryz.f28 0) ⟨[], [], []⟩ 0 [.lst .no 13 l, uu, uu, uu, .int .i64 (↑k : Int), uu, uu, uu, uu, uu, uu, uu, uu, uu, uu, uu, uu, uu] [] (Ex.exit (0 : Nat)) [uu, uu, uu, uu, uu, uu, uu, uu, uu, uu, uu, uu, uu, uu, uu, uu, uu, uu] ([]) := by
 exact (RoundRun.of_eval (sp := ⟨[], [], []⟩) (n0 := 0) (ex := Ex.exit (0 : Nat)) (t' := [uu, uu, uu, uu, uu, uu, uu, uu, uu, uu, uu, uu, uu, uu, uu, uu, uu, uu]) (s' := []) mixed [tC (by (simp only [sl2] at *; omega) : (decide ((↑k : Int) < (↑(List.length l) : Int))) = false)] (by kernel_rfl)).cast (by rfl) (by rfl)
theorem rck_ok (l : List D) (k : Nat) (hb : l.length ≤ 9223372036854775807) (hk : k < l.length) (kind op w dst src base disp imm cc reg phys num to : Int) (a0 : -128 ≤ kind) (a1 : kind ≤ 127) (ho : op ≤ 127) (hc : cc ≤ 127) (hp : phys ≤ 127) (g0 : -128 ≤ reg) (g1 : reg ≤ 127) (hx : l[k]? = some (irD kind op w dst src base disp imm cc reg phys num to)) (he : mayI kind op w dst src base disp imm cc reg phys num to = true) : RoundRun Tryz.prog (loopB Tryz.f28 0) ⟨[0, 4], [], []⟩ 0 [.lst .no 13 l, uu, uu, uu, .int .i64 (↑k : Int), uu, uu, uu, uu, uu, uu, uu, uu, uu, uu, uu, uu, uu] [] (Ex.norm) [.lst .no 13 l, uu, uu, uu, .int .i64 (↑(k + (1 : Nat)) : Int), uu, uu, uu, uu, uu, uu, uu, uu, uu, uu, uu, uu, uu] ([]) := by
 have c0 := @rimay_c_ok kind op w dst src base disp imm cc reg phys num to a0 a1 ho hc hp g0 g1
 exact (RoundRun.of_eval (sp := ⟨[0, 4], [], []⟩) (n0 := 0) (ex := Ex.norm) (t' := [.lst .no 13 l, uu, uu, uu, .int .i64 (IntKind.wrap IntKind.i64 ((↑k : Int) + 1)), uu, uu, uu, uu, uu, uu, uu, uu, uu, uu, uu, uu, uu]) (s' := []) mixed [tC (by (simp only [sl2] at *; omega) : (decide ((↑k : Int) < (↑(List.length l) : Int))) = true), tT, .get _ _ _ hx, .ret _ _ _ c0, tC (nt he)] (by kernel_rfl)).cast (by first | rfl | (congr; rw [w_i64]; omega)) (by first | rfl | (congr; rw [w_i64]; omega))
theorem rck_bad (l : List D) (k : Nat) (hb : l.length ≤ 9223372036854775807) (hk : k < l.length) (kind op w dst src base disp imm cc reg phys num to : Int) (a0 : -128 ≤ kind) (a1 : kind ≤ 127) (ho : op ≤ 127) (hc : cc ≤ 127) (hp : phys ≤ 127) (g0 : -128 ≤ reg) (g1 : reg ≤ 127) (hx : l[k]? = some (irD kind op w dst src base disp imm cc reg phys num to)) (he : mayI kind op w dst src base disp imm cc reg phys num to = false) : RoundRun Tryz.prog (loopB Tryz.f28 0) ⟨[2, 3], [], []⟩ 0 [.lst .no 13 l, uu, uu, uu, .int .i64 (↑k : Int), uu, uu, uu, uu, uu, uu, uu, uu, uu, uu, uu, uu, uu] [] (Ex.ret) [uu, uu, .int .i64 (↑k : Int), .int .i64 2, uu, uu, uu, uu, uu, uu, uu, uu, uu, uu, uu, uu, uu, uu] ([]) := by
 have c0 := @rimay_c_ok kind op w dst src base disp imm cc reg phys num to a0 a1 ho hc hp g0 g1
 exact (RoundRun.of_eval (sp := ⟨[2, 3], [], []⟩) (n0 := 0) (ex := Ex.ret) (t' := [uu, uu, .int .i64 (↑k : Int), .int .i64 2, uu, uu, uu, uu, uu, uu, uu, uu, uu, uu, uu, uu, uu, uu]) (s' := []) mixed [tC (by (simp only [sl2] at *; omega) : (decide ((↑k : Int) < (↑(List.length l) : Int))) = true), tT, .get _ _ _ hx, .ret _ _ _ c0, tC (nt he)] (by kernel_rfl)).cast (by rfl) (by rfl)
end Go.Proofs.YtojgmjfcfpclbaaGreat

namespace Go.Proofs.YtojgmjfcfpclbaaGreat
open Go Go.Ev
set_option maxRecDepth 100000
theorem rck_run_n (l : List IrS) (hb : (l.map IrS.d).length ≤ 9223372036854775807) (ho : AllOk l) (hm : badI l = none) :
  LoopRun Tryz.prog 0 (.loop (loopB Tryz.f28 0)) [.lst .no 13 (l.map IrS.d), uu, uu, uu, .int .i64 0, uu, uu, uu, uu, uu, uu, uu, uu, uu, uu, uu, uu, uu] [] (.exit 0) [uu, uu, uu, uu, uu, uu, uu, uu, uu, uu, uu, uu, uu, uu, uu, uu, uu, uu] [] := by
 have hall : ∀ s ∈ l, s.may = true := by
  unfold badI at hm
  rw [List.findIdx?_eq_none_iff] at hm
  intro s hs
  simpa using hm s hs
 have key : ∀ (n k : Nat), n + k = l.length → Rounds Tryz.prog (loopB Tryz.f28 0) 0 [.lst .no 13 (l.map IrS.d), uu, uu, uu, .int .i64 (k : Int), uu, uu, uu, uu, uu, uu, uu, uu, uu, uu, uu, uu, uu] [] (.exit 0) [uu, uu, uu, uu, uu, uu, uu, uu, uu, uu, uu, uu, uu, uu, uu, uu, uu, uu] [] := by
  intro n
  induction n with
  | zero =>
   intro k hk
   exact Rounds.last (rck_done (l.map IrS.d) k hb (by simp; omega)) (by simp)
  | succ n ih =>
   intro k hk
   have hx : l[k]? = some l[k] := by simp
   obtain ⟨a0, a1, ho', hc, hp, g0, g1⟩ := ho _ (List.getElem_mem (show k < l.length by omega))
   exact Rounds.more (rck_ok (l.map IrS.d) k hb (by simp; omega) _ _ _ _ _ _ _ _ _ _ _ _ _ a0 a1 ho' hc hp g0 g1 (get_map hx) (hall _ (List.getElem_mem (show k < l.length by omega)))) (ih (k + 1) (by omega))
 exact LoopRun.of_rounds (by decide) (key l.length 0 (by omega))
theorem rck_run_s (l : List IrS) (j : Nat) (hb : (l.map IrS.d).length ≤ 9223372036854775807) (ho : AllOk l) (hm : badI l = some j) :
  LoopRun Tryz.prog 0 (.loop (loopB Tryz.f28 0)) [.lst .no 13 (l.map IrS.d), uu, uu, uu, .int .i64 0, uu, uu, uu, uu, uu, uu, uu, uu, uu, uu, uu, uu, uu] [] .ret [uu, uu, .int .i64 (j : Int), .int .i64 2, uu, uu, uu, uu, uu, uu, uu, uu, uu, uu, uu, uu, uu, uu] [] := by
 unfold badI at hm
 rw [List.findIdx?_eq_some_iff_getElem] at hm
 obtain ⟨hj, hbad, hbefore⟩ := hm
 have key : ∀ (n k : Nat), n + k = j → Rounds Tryz.prog (loopB Tryz.f28 0) 0 [.lst .no 13 (l.map IrS.d), uu, uu, uu, .int .i64 (k : Int), uu, uu, uu, uu, uu, uu, uu, uu, uu, uu, uu, uu, uu] [] .ret [uu, uu, .int .i64 (j : Int), .int .i64 2, uu, uu, uu, uu, uu, uu, uu, uu, uu, uu, uu, uu, uu, uu] [] := by
  intro n
  induction n with
  | zero =>
   intro k hk
   obtain rfl : k = j := by omega
   have hx : l[k]? = some l[k] := by simp
   obtain ⟨a0, a1, ho', hc, hp, g0, g1⟩ := ho _ (List.getElem_mem hj)
   exact Rounds.last (rck_bad (l.map IrS.d) k hb (by simpa using hj) _ _ _ _ _ _ _ _ _ _ _ _ _ a0 a1 ho' hc hp g0 g1 (get_map hx) (show l[k].may = false by simpa using hbad)) (by simp)
  | succ n ih =>
   intro k hk
   have hlt : k < l.length := by omega
   have hx : l[k]? = some l[k] := by simp
   obtain ⟨a0, a1, ho', hc, hp, g0, g1⟩ := ho _ (List.getElem_mem hlt)
   exact Rounds.more (rck_ok (l.map IrS.d) k hb (by simpa using hlt) _ _ _ _ _ _ _ _ _ _ _ _ _ a0 a1 ho' hc hp g0 g1 (get_map hx) (show l[k].may = true by simpa using hbefore k (by omega))) (ih (k + 1) (by omega))
 exact LoopRun.of_rounds (by decide) (key j 0 (by omega))
end Go.Proofs.YtojgmjfcfpclbaaGreat

namespace Go.Proofs.YtojgmjfcfpclbaaGreat
open Go Go.Ev
set_option maxRecDepth 100000
set_option maxHeartbeats 8000000
theorem rt_done (l : List D) (n : Int) (k : Nat) (hb : l.length ≤ 9223372036854775807) (hk : l.length ≤ k) : RoundRun Tryz.prog (loopB Tryz.f34 0) ⟨[3], [], []⟩ 0 [.lst .no 13 l, uu, uu, .int .i64 n, .int .i64 (↑k : Int), uu, uu, uu, uu, uu, uu, uu, uu, uu, uu, uu, uu, uu, uu, uu, uu, uu, uu, uu, uu, uu, uu, uu, uu, uu, uu, uu, uu, uu, uu, uu, uu, uu, uu, uu, uu, uu, uu] [] (Ex.exit (0 : Nat)) [uu, uu, uu, .int .i64 n, uu, uu, uu, uu, uu, uu, uu, uu, uu, uu, uu, uu, uu, uu, uu, uu, uu, uu, uu, uu, uu, uu, uu, uu, uu, uu, uu, uu, uu, uu, uu, uu, uu, uu, uu, uu, uu, uu, uu] ([]) := by
 exact (RoundRun.of_eval (sp := ⟨[3], [], []⟩) (n0 := 0) (ex := Ex.exit (0 : Nat)) (t' := [uu, uu, uu, .int .i64 n, uu, uu, uu, uu, uu, uu, uu, uu, uu, uu, uu, uu, uu, uu, uu, uu, uu, uu, uu, uu, uu, uu, uu, uu, uu, uu, uu, uu, uu, uu, uu, uu, uu, uu, uu, uu, uu, uu, uu]) (s' := []) mixed [tC (by (simp only [sl2] at *; omega) : (decide ((↑k : Int) < (↑(List.length l) : Int))) = false)] (by kernel_rfl)).cast (by rfl) (by rfl)
theorem rt_yes (l : List D) (n : Int) (k : Nat) (hb : l.length ≤ 9223372036854775807) (hk : k < l.length) (kind op w dst src base disp imm cc reg phys num to : Int) (g0 : -128 ≤ reg) (g1 : reg ≤ 127) (hx : l[k]? = some (irD kind op w dst src base disp imm cc reg phys num to)) (he : (kind == 1) = true) (r0 : 0 ≤ reg) (r1 : reg ≤ 10) : RoundRun Tryz.prog (loopB Tryz.f34 0) ⟨[0, 3, 4], [], []⟩ 0 [.lst .no 13 l, uu, uu, .int .i64 n, .int .i64 (↑k : Int), uu, uu, uu, uu, uu, uu, uu, uu, uu, uu, uu, uu, uu, uu, uu, uu, uu, uu, uu, uu, uu, uu, uu, uu, uu, uu, uu, uu, uu, uu, uu, uu, uu, uu, uu, uu, uu, uu] [] (Ex.norm) [.lst .no 13 l, uu, uu, .int .i64 (or64 n (sh8 reg)), .int .i64 (↑(k + (1 : Nat)) : Int), uu, uu, uu, uu, uu, uu, uu, uu, uu, uu, uu, uu, uu, uu, uu, uu, uu, uu, uu, uu, uu, uu, uu, uu, uu, uu, uu, uu, uu, uu, uu, uu, uu, uu, uu, uu, uu, uu] ([]) := by
 exact (RoundRun.of_eval (sp := ⟨[0, 3, 4], [], []⟩) (n0 := 0) (ex := Ex.norm) (t' := [.lst .no 13 l, uu, uu, .int .i64 (IntKind.wrap IntKind.i64 (↑(BitVec.toNat (BitVec.ofInt (64 : Nat) n ||| BitVec.ofInt (64 : Nat) (IntKind.wrap IntKind.i64 (1 * 2 ^ min (Int.toNat (IntKind.wrap IntKind.u64 reg)) (64 : Nat))))) : Int)), .int .i64 (IntKind.wrap IntKind.i64 ((↑k : Int) + 1)), uu, uu, uu, uu, uu, uu, uu, uu, uu, uu, uu, uu, uu, uu, uu, uu, uu, uu, uu, uu, uu, uu, uu, uu, uu, uu, uu, uu, uu, uu, uu, uu, uu, uu, uu, uu, uu, uu]) (s' := []) mixed ([tC (by (simp only [sl2] at *; omega) : (decide ((↑k : Int) < (↑(List.length l) : Int))) = true), tT, .get _ _ _ hx] ++ List.replicate 3 (tC (eT (eqI 1 true (eq_of_beq he)))) ++ [tT, .get _ _ _ hx] ++ List.replicate 3 (tC (eT (eqI 1 true (eq_of_beq he)))) ++ [tC (eqI 1 true (eq_of_beq he))] ++ List.replicate 3 (tC (eT (leL 0 (decide_eq_false (Int.not_lt.2 r0))))) ++ [tT, .get _ _ _ hx] ++ List.replicate 3 (tC (eT (leL 0 (decide_eq_false (Int.not_lt.2 r0))))) ++ [tC (leL 0 (decide_eq_false (Int.not_lt.2 r0))), tC (decide_eq_true (Int.lt_add_one_of_le r1)), tT, .get _ _ _ hx, tC (v := true) (@nn_u64 reg)]) (by kernel_rfl)).cast (by first | rfl | (have e1 : IntKind.i64.wrap ((k : Int) + 1) = ((k + 1 : Nat) : Int) := (by rw [w_i64]; omega); first | (rw [e1]; done) | (rw [e1]; rfl) | (have e2 : IntKind.u64.wrap reg = reg := (by rw [w_u64]; omega); first | (rw [e1, e2]; done) | (rw [e1, e2]; rfl)))) (by first | rfl | (have e1 : IntKind.i64.wrap ((k : Int) + 1) = ((k + 1 : Nat) : Int) := (by rw [w_i64]; omega); first | (rw [e1]; done) | (rw [e1]; rfl) | (have e2 : IntKind.u64.wrap reg = reg := (by rw [w_u64]; omega); first | (rw [e1, e2]; done) | (rw [e1, e2]; rfl))))
theorem rt_kind (l : List D) (n : Int) (k : Nat) (hb : l.length ≤ 9223372036854775807) (hk : k < l.length) (kind op w dst src base disp imm cc reg phys num to : Int) (g0 : -128 ≤ reg) (g1 : reg ≤ 127) (hx : l[k]? = some (irD kind op w dst src base disp imm cc reg phys num to)) (he : (kind == 1) = false) : RoundRun Tryz.prog (loopB Tryz.f34 0) ⟨[0, 3, 4], [], []⟩ 0 [.lst .no 13 l, uu, uu, .int .i64 n, .int .i64 (↑k : Int), uu, uu, uu, uu, uu, uu, uu, uu, uu, uu, uu, uu, uu, uu, uu, uu, uu, uu, uu, uu, uu, uu, uu, uu, uu, uu, uu, uu, uu, uu, uu, uu, uu, uu, uu, uu, uu, uu] [] (Ex.norm) [.lst .no 13 l, uu, uu, .int .i64 n, .int .i64 (↑(k + (1 : Nat)) : Int), uu, uu, uu, uu, uu, uu, uu, uu, uu, uu, uu, uu, uu, uu, uu, uu, uu, uu, uu, uu, uu, uu, uu, uu, uu, uu, uu, uu, uu, uu, uu, uu, uu, uu, uu, uu, uu, uu] ([]) := by
 exact (RoundRun.of_eval (sp := ⟨[0, 3, 4], [], []⟩) (n0 := 0) (ex := Ex.norm) (t' := [.lst .no 13 l, uu, uu, .int .i64 n, .int .i64 (IntKind.wrap IntKind.i64 ((↑k : Int) + 1)), uu, uu, uu, uu, uu, uu, uu, uu, uu, uu, uu, uu, uu, uu, uu, uu, uu, uu, uu, uu, uu, uu, uu, uu, uu, uu, uu, uu, uu, uu, uu, uu, uu, uu, uu, uu, uu, uu]) (s' := []) mixed ([tC (by (simp only [sl2] at *; omega) : (decide ((↑k : Int) < (↑(List.length l) : Int))) = true), tT, .get _ _ _ hx] ++ List.replicate 6 (tC (eT he)) ++ [tC he] ++ List.replicate 8 tF) (by kernel_rfl)).cast (by first | rfl | (have e1 : IntKind.i64.wrap ((k : Int) + 1) = ((k + 1 : Nat) : Int) := (by rw [w_i64]; omega); first | (rw [e1]; done) | (rw [e1]; rfl) | (have e2 : IntKind.u64.wrap reg = reg := (by rw [w_u64]; omega); first | (rw [e1, e2]; done) | (rw [e1, e2]; rfl)))) (by first | rfl | (have e1 : IntKind.i64.wrap ((k : Int) + 1) = ((k + 1 : Nat) : Int) := (by rw [w_i64]; omega); first | (rw [e1]; done) | (rw [e1]; rfl) | (have e2 : IntKind.u64.wrap reg = reg := (by rw [w_u64]; omega); first | (rw [e1, e2]; done) | (rw [e1, e2]; rfl))))
theorem rt_lo (l : List D) (n : Int) (k : Nat) (hb : l.length ≤ 9223372036854775807) (hk : k < l.length) (kind op w dst src base disp imm cc reg phys num to : Int) (g0 : -128 ≤ reg) (g1 : reg ≤ 127) (hx : l[k]? = some (irD kind op w dst src base disp imm cc reg phys num to)) (he : (kind == 1) = true) (r0 : reg < 0) : RoundRun Tryz.prog (loopB Tryz.f34 0) ⟨[0, 3, 4], [], []⟩ 0 [.lst .no 13 l, uu, uu, .int .i64 n, .int .i64 (↑k : Int), uu, uu, uu, uu, uu, uu, uu, uu, uu, uu, uu, uu, uu, uu, uu, uu, uu, uu, uu, uu, uu, uu, uu, uu, uu, uu, uu, uu, uu, uu, uu, uu, uu, uu, uu, uu, uu, uu] [] (Ex.norm) [.lst .no 13 l, uu, uu, .int .i64 n, .int .i64 (↑(k + (1 : Nat)) : Int), uu, uu, uu, uu, uu, uu, uu, uu, uu, uu, uu, uu, uu, uu, uu, uu, uu, uu, uu, uu, uu, uu, uu, uu, uu, uu, uu, uu, uu, uu, uu, uu, uu, uu, uu, uu, uu, uu] ([]) := by
 exact (RoundRun.of_eval (sp := ⟨[0, 3, 4], [], []⟩) (n0 := 0) (ex := Ex.norm) (t' := [.lst .no 13 l, uu, uu, .int .i64 n, .int .i64 (IntKind.wrap IntKind.i64 ((↑k : Int) + 1)), uu, uu, uu, uu, uu, uu, uu, uu, uu, uu, uu, uu, uu, uu, uu, uu, uu, uu, uu, uu, uu, uu, uu, uu, uu, uu, uu, uu, uu, uu, uu, uu, uu, uu, uu, uu, uu, uu]) (s' := []) mixed ([tC (by (simp only [sl2] at *; omega) : (decide ((↑k : Int) < (↑(List.length l) : Int))) = true), tT, .get _ _ _ hx] ++ List.replicate 3 (tC (eT (eqI 1 true (eq_of_beq he)))) ++ [tT, .get _ _ _ hx] ++ List.replicate 3 (tC (eT (eqI 1 true (eq_of_beq he)))) ++ [tC (eqI 1 true (eq_of_beq he))] ++ List.replicate 6 (tC (eT (leL 0 (decide_eq_true r0)))) ++ [tC (leL 0 (decide_eq_true r0)), tF]) (by kernel_rfl)).cast (by first | rfl | (have e1 : IntKind.i64.wrap ((k : Int) + 1) = ((k + 1 : Nat) : Int) := (by rw [w_i64]; omega); first | (rw [e1]; done) | (rw [e1]; rfl) | (have e2 : IntKind.u64.wrap reg = reg := (by rw [w_u64]; omega); first | (rw [e1, e2]; done) | (rw [e1, e2]; rfl)))) (by first | rfl | (have e1 : IntKind.i64.wrap ((k : Int) + 1) = ((k + 1 : Nat) : Int) := (by rw [w_i64]; omega); first | (rw [e1]; done) | (rw [e1]; rfl) | (have e2 : IntKind.u64.wrap reg = reg := (by rw [w_u64]; omega); first | (rw [e1, e2]; done) | (rw [e1, e2]; rfl))))
theorem rt_hi (l : List D) (n : Int) (k : Nat) (hb : l.length ≤ 9223372036854775807) (hk : k < l.length) (kind op w dst src base disp imm cc reg phys num to : Int) (g0 : -128 ≤ reg) (g1 : reg ≤ 127) (hx : l[k]? = some (irD kind op w dst src base disp imm cc reg phys num to)) (he : (kind == 1) = true) (r0 : 11 ≤ reg) : RoundRun Tryz.prog (loopB Tryz.f34 0) ⟨[0, 3, 4], [], []⟩ 0 [.lst .no 13 l, uu, uu, .int .i64 n, .int .i64 (↑k : Int), uu, uu, uu, uu, uu, uu, uu, uu, uu, uu, uu, uu, uu, uu, uu, uu, uu, uu, uu, uu, uu, uu, uu, uu, uu, uu, uu, uu, uu, uu, uu, uu, uu, uu, uu, uu, uu, uu] [] (Ex.norm) [.lst .no 13 l, uu, uu, .int .i64 n, .int .i64 (↑(k + (1 : Nat)) : Int), uu, uu, uu, uu, uu, uu, uu, uu, uu, uu, uu, uu, uu, uu, uu, uu, uu, uu, uu, uu, uu, uu, uu, uu, uu, uu, uu, uu, uu, uu, uu, uu, uu, uu, uu, uu, uu, uu] ([]) := by
 exact (RoundRun.of_eval (sp := ⟨[0, 3, 4], [], []⟩) (n0 := 0) (ex := Ex.norm) (t' := [.lst .no 13 l, uu, uu, .int .i64 n, .int .i64 (IntKind.wrap IntKind.i64 ((↑k : Int) + 1)), uu, uu, uu, uu, uu, uu, uu, uu, uu, uu, uu, uu, uu, uu, uu, uu, uu, uu, uu, uu, uu, uu, uu, uu, uu, uu, uu, uu, uu, uu, uu, uu, uu, uu, uu, uu, uu, uu]) (s' := []) mixed ([tC (by (simp only [sl2] at *; omega) : (decide ((↑k : Int) < (↑(List.length l) : Int))) = true), tT, .get _ _ _ hx] ++ List.replicate 3 (tC (eT (eqI 1 true (eq_of_beq he)))) ++ [tT, .get _ _ _ hx] ++ List.replicate 3 (tC (eT (eqI 1 true (eq_of_beq he)))) ++ [tC (eqI 1 true (eq_of_beq he))] ++ List.replicate 3 (tC (eT (leL 0 (ltD 0 (decide_eq_false (Int.not_lt.2 r0)))))) ++ [tT, .get _ _ _ hx] ++ List.replicate 3 (tC (eT (leL 0 (ltD 0 (decide_eq_false (Int.not_lt.2 r0)))))) ++ [tC (leL 0 (ltD 0 (decide_eq_false (Int.not_lt.2 r0)))), tC (decide_eq_false (Int.not_lt.2 r0))]) (by kernel_rfl)).cast (by first | rfl | (have e1 : IntKind.i64.wrap ((k : Int) + 1) = ((k + 1 : Nat) : Int) := (by rw [w_i64]; omega); first | (rw [e1]; done) | (rw [e1]; rfl) | (have e2 : IntKind.u64.wrap reg = reg := (by rw [w_u64]; omega); first | (rw [e1, e2]; done) | (rw [e1, e2]; rfl)))) (by first | rfl | (have e1 : IntKind.i64.wrap ((k : Int) + 1) = ((k + 1 : Nat) : Int) := (by rw [w_i64]; omega); first | (rw [e1]; done) | (rw [e1]; rfl) | (have e2 : IntKind.u64.wrap reg = reg := (by rw [w_u64]; omega); first | (rw [e1, e2]; done) | (rw [e1, e2]; rfl))))
theorem rg_done (l : List D) (n : Int) (k : Nat) (hb : l.length ≤ 9223372036854775807) (hk : l.length ≤ k) : RoundRun Tryz.prog (loopB Tryz.f36 0) ⟨[3], [], []⟩ 0 [.lst .no 13 l, uu, uu, .int .i64 n, .int .i64 (↑k : Int), uu, uu, uu, uu, uu, uu, uu, uu, uu, uu, uu, uu, uu, uu, uu, uu, uu, uu, uu, uu, uu, uu, uu, uu, uu, uu, uu, uu, uu, uu, uu, uu, uu, uu, uu, uu, uu, uu] [] (Ex.exit (0 : Nat)) [uu, uu, uu, .int .i64 n, uu, uu, uu, uu, uu, uu, uu, uu, uu, uu, uu, uu, uu, uu, uu, uu, uu, uu, uu, uu, uu, uu, uu, uu, uu, uu, uu, uu, uu, uu, uu, uu, uu, uu, uu, uu, uu, uu, uu] ([]) := by
 exact (RoundRun.of_eval (sp := ⟨[3], [], []⟩) (n0 := 0) (ex := Ex.exit (0 : Nat)) (t' := [uu, uu, uu, .int .i64 n, uu, uu, uu, uu, uu, uu, uu, uu, uu, uu, uu, uu, uu, uu, uu, uu, uu, uu, uu, uu, uu, uu, uu, uu, uu, uu, uu, uu, uu, uu, uu, uu, uu, uu, uu, uu, uu, uu, uu]) (s' := []) mixed [tC (by (simp only [sl2] at *; omega) : (decide ((↑k : Int) < (↑(List.length l) : Int))) = false)] (by kernel_rfl)).cast (by rfl) (by rfl)
theorem rg_yes (l : List D) (n : Int) (k : Nat) (hb : l.length ≤ 9223372036854775807) (hk : k < l.length) (kind op w dst src base disp imm cc reg phys num to : Int) (g0 : -128 ≤ reg) (g1 : reg ≤ 127) (hx : l[k]? = some (irD kind op w dst src base disp imm cc reg phys num to)) (he : (kind == 2) = true) (r0 : 0 ≤ reg) (r1 : reg ≤ 10) : RoundRun Tryz.prog (loopB Tryz.f36 0) ⟨[0, 3, 4], [], []⟩ 0 [.lst .no 13 l, uu, uu, .int .i64 n, .int .i64 (↑k : Int), uu, uu, uu, uu, uu, uu, uu, uu, uu, uu, uu, uu, uu, uu, uu, uu, uu, uu, uu, uu, uu, uu, uu, uu, uu, uu, uu, uu, uu, uu, uu, uu, uu, uu, uu, uu, uu, uu] [] (Ex.norm) [.lst .no 13 l, uu, uu, .int .i64 (or64 n (sh8 reg)), .int .i64 (↑(k + (1 : Nat)) : Int), uu, uu, uu, uu, uu, uu, uu, uu, uu, uu, uu, uu, uu, uu, uu, uu, uu, uu, uu, uu, uu, uu, uu, uu, uu, uu, uu, uu, uu, uu, uu, uu, uu, uu, uu, uu, uu, uu] ([]) := by
 exact (RoundRun.of_eval (sp := ⟨[0, 3, 4], [], []⟩) (n0 := 0) (ex := Ex.norm) (t' := [.lst .no 13 l, uu, uu, .int .i64 (IntKind.wrap IntKind.i64 (↑(BitVec.toNat (BitVec.ofInt (64 : Nat) n ||| BitVec.ofInt (64 : Nat) (IntKind.wrap IntKind.i64 (1 * 2 ^ min (Int.toNat (IntKind.wrap IntKind.u64 reg)) (64 : Nat))))) : Int)), .int .i64 (IntKind.wrap IntKind.i64 ((↑k : Int) + 1)), uu, uu, uu, uu, uu, uu, uu, uu, uu, uu, uu, uu, uu, uu, uu, uu, uu, uu, uu, uu, uu, uu, uu, uu, uu, uu, uu, uu, uu, uu, uu, uu, uu, uu, uu, uu, uu, uu]) (s' := []) mixed ([tC (by (simp only [sl2] at *; omega) : (decide ((↑k : Int) < (↑(List.length l) : Int))) = true), tT, .get _ _ _ hx] ++ List.replicate 3 (tC (eT (eqI 2 true (eq_of_beq he)))) ++ [tT, .get _ _ _ hx] ++ List.replicate 3 (tC (eT (eqI 2 true (eq_of_beq he)))) ++ [tC (eqI 2 true (eq_of_beq he))] ++ List.replicate 3 (tC (eT (leL 0 (decide_eq_false (Int.not_lt.2 r0))))) ++ [tT, .get _ _ _ hx] ++ List.replicate 3 (tC (eT (leL 0 (decide_eq_false (Int.not_lt.2 r0))))) ++ [tC (leL 0 (decide_eq_false (Int.not_lt.2 r0))), tC (decide_eq_true (Int.lt_add_one_of_le r1)), tT, .get _ _ _ hx, tC (v := true) (@nn_u64 reg)]) (by kernel_rfl)).cast (by first | rfl | (have e1 : IntKind.i64.wrap ((k : Int) + 1) = ((k + 1 : Nat) : Int) := (by rw [w_i64]; omega); first | (rw [e1]; done) | (rw [e1]; rfl) | (have e2 : IntKind.u64.wrap reg = reg := (by rw [w_u64]; omega); first | (rw [e1, e2]; done) | (rw [e1, e2]; rfl)))) (by first | rfl | (have e1 : IntKind.i64.wrap ((k : Int) + 1) = ((k + 1 : Nat) : Int) := (by rw [w_i64]; omega); first | (rw [e1]; done) | (rw [e1]; rfl) | (have e2 : IntKind.u64.wrap reg = reg := (by rw [w_u64]; omega); first | (rw [e1, e2]; done) | (rw [e1, e2]; rfl))))
theorem rg_kind (l : List D) (n : Int) (k : Nat) (hb : l.length ≤ 9223372036854775807) (hk : k < l.length) (kind op w dst src base disp imm cc reg phys num to : Int) (g0 : -128 ≤ reg) (g1 : reg ≤ 127) (hx : l[k]? = some (irD kind op w dst src base disp imm cc reg phys num to)) (he : (kind == 2) = false) : RoundRun Tryz.prog (loopB Tryz.f36 0) ⟨[0, 3, 4], [], []⟩ 0 [.lst .no 13 l, uu, uu, .int .i64 n, .int .i64 (↑k : Int), uu, uu, uu, uu, uu, uu, uu, uu, uu, uu, uu, uu, uu, uu, uu, uu, uu, uu, uu, uu, uu, uu, uu, uu, uu, uu, uu, uu, uu, uu, uu, uu, uu, uu, uu, uu, uu, uu] [] (Ex.norm) [.lst .no 13 l, uu, uu, .int .i64 n, .int .i64 (↑(k + (1 : Nat)) : Int), uu, uu, uu, uu, uu, uu, uu, uu, uu, uu, uu, uu, uu, uu, uu, uu, uu, uu, uu, uu, uu, uu, uu, uu, uu, uu, uu, uu, uu, uu, uu, uu, uu, uu, uu, uu, uu, uu] ([]) := by
 exact (RoundRun.of_eval (sp := ⟨[0, 3, 4], [], []⟩) (n0 := 0) (ex := Ex.norm) (t' := [.lst .no 13 l, uu, uu, .int .i64 n, .int .i64 (IntKind.wrap IntKind.i64 ((↑k : Int) + 1)), uu, uu, uu, uu, uu, uu, uu, uu, uu, uu, uu, uu, uu, uu, uu, uu, uu, uu, uu, uu, uu, uu, uu, uu, uu, uu, uu, uu, uu, uu, uu, uu, uu, uu, uu, uu, uu, uu]) (s' := []) mixed ([tC (by (simp only [sl2] at *; omega) : (decide ((↑k : Int) < (↑(List.length l) : Int))) = true), tT, .get _ _ _ hx] ++ List.replicate 6 (tC (eT he)) ++ [tC he] ++ List.replicate 8 tF) (by kernel_rfl)).cast (by first | rfl | (have e1 : IntKind.i64.wrap ((k : Int) + 1) = ((k + 1 : Nat) : Int) := (by rw [w_i64]; omega); first | (rw [e1]; done) | (rw [e1]; rfl) | (have e2 : IntKind.u64.wrap reg = reg := (by rw [w_u64]; omega); first | (rw [e1, e2]; done) | (rw [e1, e2]; rfl)))) (by first | rfl | (have e1 : IntKind.i64.wrap ((k : Int) + 1) = ((k + 1 : Nat) : Int) := (by rw [w_i64]; omega); first | (rw [e1]; done) | (rw [e1]; rfl) | (have e2 : IntKind.u64.wrap reg = reg := (by rw [w_u64]; omega); first | (rw [e1, e2]; done) | (rw [e1, e2]; rfl))))
theorem rg_lo (l : List D) (n : Int) (k : Nat) (hb : l.length ≤ 9223372036854775807) (hk : k < l.length) (kind op w dst src base disp imm cc reg phys num to : Int) (g0 : -128 ≤ reg) (g1 : reg ≤ 127) (hx : l[k]? = some (irD kind op w dst src base disp imm cc reg phys num to)) (he : (kind == 2) = true) (r0 : reg < 0) : RoundRun Tryz.prog (loopB Tryz.f36 0) ⟨[0, 3, 4], [], []⟩ 0 [.lst .no 13 l, uu, uu, .int .i64 n, .int .i64 (↑k : Int), uu, uu, uu, uu, uu, uu, uu, uu, uu, uu, uu, uu, uu, uu, uu, uu, uu, uu, uu, uu, uu, uu, uu, uu, uu, uu, uu, uu, uu, uu, uu, uu, uu, uu, uu, uu, uu, uu] [] (Ex.norm) [.lst .no 13 l, uu, uu, .int .i64 n, .int .i64 (↑(k + (1 : Nat)) : Int), uu, uu, uu, uu, uu, uu, uu, uu, uu, uu, uu, uu, uu, uu, uu, uu, uu, uu, uu, uu, uu, uu, uu, uu, uu, uu, uu, uu, uu, uu, uu, uu, uu, uu, uu, uu, uu, uu] ([]) := by
 exact (RoundRun.of_eval (sp := ⟨[0, 3, 4], [], []⟩) (n0 := 0) (ex := Ex.norm) (t' := [.lst .no 13 l, uu, uu, .int .i64 n, .int .i64 (IntKind.wrap IntKind.i64 ((↑k : Int) + 1)), uu, uu, uu, uu, uu, uu, uu, uu, uu, uu, uu, uu, uu, uu, uu, uu, uu, uu, uu, uu, uu, uu, uu, uu, uu, uu, uu, uu, uu, uu, uu, uu, uu, uu, uu, uu, uu, uu]) (s' := []) mixed ([tC (by (simp only [sl2] at *; omega) : (decide ((↑k : Int) < (↑(List.length l) : Int))) = true), tT, .get _ _ _ hx] ++ List.replicate 3 (tC (eT (eqI 2 true (eq_of_beq he)))) ++ [tT, .get _ _ _ hx] ++ List.replicate 3 (tC (eT (eqI 2 true (eq_of_beq he)))) ++ [tC (eqI 2 true (eq_of_beq he))] ++ List.replicate 6 (tC (eT (leL 0 (decide_eq_true r0)))) ++ [tC (leL 0 (decide_eq_true r0)), tF]) (by kernel_rfl)).cast (by first | rfl | (have e1 : IntKind.i64.wrap ((k : Int) + 1) = ((k + 1 : Nat) : Int) := (by rw [w_i64]; omega); first | (rw [e1]; done) | (rw [e1]; rfl) | (have e2 : IntKind.u64.wrap reg = reg := (by rw [w_u64]; omega); first | (rw [e1, e2]; done) | (rw [e1, e2]; rfl)))) (by first | rfl | (have e1 : IntKind.i64.wrap ((k : Int) + 1) = ((k + 1 : Nat) : Int) := (by rw [w_i64]; omega); first | (rw [e1]; done) | (rw [e1]; rfl) | (have e2 : IntKind.u64.wrap reg = reg := (by rw [w_u64]; omega); first | (rw [e1, e2]; done) | (rw [e1, e2]; rfl))))
theorem rg_hi (l : List D) (n : Int) (k : Nat) (hb : l.length ≤ 9223372036854775807) (hk : k < l.length) (kind op w dst src base disp imm cc reg phys num to : Int) (g0 : -128 ≤ reg) (g1 : reg ≤ 127) (hx : l[k]? = some (irD kind op w dst src base disp imm cc reg phys num to)) (he : (kind == 2) = true) (r0 : 11 ≤ reg) : RoundRun Tryz.prog (loopB Tryz.f36 0) ⟨[0, 3, 4], [], []⟩ 0 [.lst .no 13 l, uu, uu, .int .i64 n, .int .i64 (↑k : Int), uu, uu, uu, uu, uu, uu, uu, uu, uu, uu, uu, uu, uu, uu, uu, uu, uu, uu, uu, uu, uu, uu, uu, uu, uu, uu, uu, uu, uu, uu, uu, uu, uu, uu, uu, uu, uu, uu] [] (Ex.norm) [.lst .no 13 l, uu, uu, .int .i64 n, .int .i64 (↑(k + (1 : Nat)) : Int), uu, uu, uu, uu, uu, uu, uu, uu, uu, uu, uu, uu, uu, uu, uu, uu, uu, uu, uu, uu, uu, uu, uu, uu, uu, uu, uu, uu, uu, uu, uu, uu, uu, uu, uu, uu, uu, uu] ([]) := by
 exact (RoundRun.of_eval (sp := ⟨[0, 3, 4], [], []⟩) (n0 := 0) (ex := Ex.norm) (t' := [.lst .no 13 l, uu, uu, .int .i64 n, .int .i64 (IntKind.wrap IntKind.i64 ((↑k : Int) + 1)), uu, uu, uu, uu, uu, uu, uu, uu, uu, uu, uu, uu, uu, uu, uu, uu, uu, uu, uu, uu, uu, uu, uu, uu, uu, uu, uu, uu, uu, uu, uu, uu, uu, uu, uu, uu, uu, uu]) (s' := []) mixed ([tC (by (simp only [sl2] at *; omega) : (decide ((↑k : Int) < (↑(List.length l) : Int))) = true), tT, .get _ _ _ hx] ++ List.replicate 3 (tC (eT (eqI 2 true (eq_of_beq he)))) ++ [tT, .get _ _ _ hx] ++ List.replicate 3 (tC (eT (eqI 2 true (eq_of_beq he)))) ++ [tC (eqI 2 true (eq_of_beq he))] ++ List.replicate 3 (tC (eT (leL 0 (ltD 0 (decide_eq_false (Int.not_lt.2 r0)))))) ++ [tT, .get _ _ _ hx] ++ List.replicate 3 (tC (eT (leL 0 (ltD 0 (decide_eq_false (Int.not_lt.2 r0)))))) ++ [tC (leL 0 (ltD 0 (decide_eq_false (Int.not_lt.2 r0)))), tC (decide_eq_false (Int.not_lt.2 r0))]) (by kernel_rfl)).cast (by first | rfl | (have e1 : IntKind.i64.wrap ((k : Int) + 1) = ((k + 1 : Nat) : Int) := (by rw [w_i64]; omega); first | (rw [e1]; done) | (rw [e1]; rfl) | (have e2 : IntKind.u64.wrap reg = reg := (by rw [w_u64]; omega); first | (rw [e1, e2]; done) | (rw [e1, e2]; rfl)))) (by first | rfl | (have e1 : IntKind.i64.wrap ((k : Int) + 1) = ((k + 1 : Nat) : Int) := (by rw [w_i64]; omega); first | (rw [e1]; done) | (rw [e1]; rfl) | (have e2 : IntKind.u64.wrap reg = reg := (by rw [w_u64]; omega); first | (rw [e1, e2]; done) | (rw [e1, e2]; rfl))))
end Go.Proofs.YtojgmjfcfpclbaaGreat

namespace Go.Proofs.YtojgmjfcfpclbaaGreat
open Go Go.Ev
set_option maxRecDepth 100000
theorem rt_run (l : List IrS) (hb : (l.map IrS.d).length ≤ 9223372036854775807) (ho : AllOk l) :
  LoopRun Tryz.prog 0 (.loop (loopB Tryz.f34 0)) [.lst .no 13 (l.map IrS.d), uu, uu, .int .i64 0, .int .i64 0, uu, uu, uu, uu, uu, uu, uu, uu, uu, uu, uu, uu, uu, uu, uu, uu, uu, uu, uu, uu, uu, uu, uu, uu, uu, uu, uu, uu, uu, uu, uu, uu, uu, uu, uu, uu, uu, uu] [] (.exit 0) [uu, uu, uu, .int .i64 (namedI 1 0 l), uu, uu, uu, uu, uu, uu, uu, uu, uu, uu, uu, uu, uu, uu, uu, uu, uu, uu, uu, uu, uu, uu, uu, uu, uu, uu, uu, uu, uu, uu, uu, uu, uu, uu, uu, uu, uu, uu, uu] [] := by
 have key : ∀ (m k : Nat) (n : Int), m + k = l.length → Rounds Tryz.prog (loopB Tryz.f34 0) 0 [.lst .no 13 (l.map IrS.d), uu, uu, .int .i64 n, .int .i64 (k : Int), uu, uu, uu, uu, uu, uu, uu, uu, uu, uu, uu, uu, uu, uu, uu, uu, uu, uu, uu, uu, uu, uu, uu, uu, uu, uu, uu, uu, uu, uu, uu, uu, uu, uu, uu, uu, uu, uu] [] (.exit 0) [uu, uu, uu, .int .i64 (namedI 1 n (l.drop k)), uu, uu, uu, uu, uu, uu, uu, uu, uu, uu, uu, uu, uu, uu, uu, uu, uu, uu, uu, uu, uu, uu, uu, uu, uu, uu, uu, uu, uu, uu, uu, uu, uu, uu, uu, uu, uu, uu, uu] [] := by
  intro m
  induction m with
  | zero =>
   intro k n hk
   rw [List.drop_eq_nil_of_le (by omega)]
   exact Rounds.last (rt_done (l.map IrS.d) n k hb (by simp; omega)) (by simp)
  | succ m ih =>
   intro k n hk
   have hlt : k < l.length := by omega
   have hx : l[k]? = some l[k] := by simp
   obtain ⟨a0, a1, ho', hc, hp, g0, g1⟩ := ho _ (List.getElem_mem hlt)
   have hb2 : k < (l.map IrS.d).length := by simpa using hlt
   rw [List.drop_eq_getElem_cons hlt, namedI]
   by_cases hkd : l[k].kind = 1
   ·by_cases h0 : 0 ≤ l[k].reg
    ·by_cases h1 : l[k].reg ≤ 10
     ·rw [if_pos ⟨hkd, h0, h1⟩]
      exact Rounds.more (rt_yes (l.map IrS.d) n k hb hb2 _ _ _ _ _ _ _ _ _ _ _ _ _ g0 g1 (get_map hx) (beq_iff_eq.mpr hkd) h0 h1) (ih (k + 1) _ (by omega))
     ·rw [if_neg (by rintro ⟨_, _, h⟩; exact h1 h)]
      exact Rounds.more (rt_hi (l.map IrS.d) n k hb hb2 _ _ _ _ _ _ _ _ _ _ _ _ _ g0 g1 (get_map hx) (beq_iff_eq.mpr hkd) (by omega)) (ih (k + 1) _ (by omega))
    ·rw [if_neg (by rintro ⟨_, h, _⟩; exact h0 h)]
     exact Rounds.more (rt_lo (l.map IrS.d) n k hb hb2 _ _ _ _ _ _ _ _ _ _ _ _ _ g0 g1 (get_map hx) (beq_iff_eq.mpr hkd) (by omega)) (ih (k + 1) _ (by omega))
   ·rw [if_neg (by rintro ⟨h, _⟩; exact hkd h)]
    exact Rounds.more (rt_kind (l.map IrS.d) n k hb hb2 _ _ _ _ _ _ _ _ _ _ _ _ _ g0 g1 (get_map hx) (beq_eq_false_iff_ne.mpr hkd)) (ih (k + 1) _ (by omega))
 exact LoopRun.of_rounds (by decide) (key l.length 0 0 (by omega))
theorem rg_run (l : List IrS) (hb : (l.map IrS.d).length ≤ 9223372036854775807) (ho : AllOk l) :
  LoopRun Tryz.prog 0 (.loop (loopB Tryz.f36 0)) [.lst .no 13 (l.map IrS.d), uu, uu, .int .i64 0, .int .i64 0, uu, uu, uu, uu, uu, uu, uu, uu, uu, uu, uu, uu, uu, uu, uu, uu, uu, uu, uu, uu, uu, uu, uu, uu, uu, uu, uu, uu, uu, uu, uu, uu, uu, uu, uu, uu, uu, uu] [] (.exit 0) [uu, uu, uu, .int .i64 (namedI 2 0 l), uu, uu, uu, uu, uu, uu, uu, uu, uu, uu, uu, uu, uu, uu, uu, uu, uu, uu, uu, uu, uu, uu, uu, uu, uu, uu, uu, uu, uu, uu, uu, uu, uu, uu, uu, uu, uu, uu, uu] [] := by
 have key : ∀ (m k : Nat) (n : Int), m + k = l.length → Rounds Tryz.prog (loopB Tryz.f36 0) 0 [.lst .no 13 (l.map IrS.d), uu, uu, .int .i64 n, .int .i64 (k : Int), uu, uu, uu, uu, uu, uu, uu, uu, uu, uu, uu, uu, uu, uu, uu, uu, uu, uu, uu, uu, uu, uu, uu, uu, uu, uu, uu, uu, uu, uu, uu, uu, uu, uu, uu, uu, uu, uu] [] (.exit 0) [uu, uu, uu, .int .i64 (namedI 2 n (l.drop k)), uu, uu, uu, uu, uu, uu, uu, uu, uu, uu, uu, uu, uu, uu, uu, uu, uu, uu, uu, uu, uu, uu, uu, uu, uu, uu, uu, uu, uu, uu, uu, uu, uu, uu, uu, uu, uu, uu, uu] [] := by
  intro m
  induction m with
  | zero =>
   intro k n hk
   rw [List.drop_eq_nil_of_le (by omega)]
   exact Rounds.last (rg_done (l.map IrS.d) n k hb (by simp; omega)) (by simp)
  | succ m ih =>
   intro k n hk
   have hlt : k < l.length := by omega
   have hx : l[k]? = some l[k] := by simp
   obtain ⟨a0, a1, ho', hc, hp, g0, g1⟩ := ho _ (List.getElem_mem hlt)
   have hb2 : k < (l.map IrS.d).length := by simpa using hlt
   rw [List.drop_eq_getElem_cons hlt, namedI]
   by_cases hkd : l[k].kind = 2
   ·by_cases h0 : 0 ≤ l[k].reg
    ·by_cases h1 : l[k].reg ≤ 10
     ·rw [if_pos ⟨hkd, h0, h1⟩]
      exact Rounds.more (rg_yes (l.map IrS.d) n k hb hb2 _ _ _ _ _ _ _ _ _ _ _ _ _ g0 g1 (get_map hx) (beq_iff_eq.mpr hkd) h0 h1) (ih (k + 1) _ (by omega))
     ·rw [if_neg (by rintro ⟨_, _, h⟩; exact h1 h)]
      exact Rounds.more (rg_hi (l.map IrS.d) n k hb hb2 _ _ _ _ _ _ _ _ _ _ _ _ _ g0 g1 (get_map hx) (beq_iff_eq.mpr hkd) (by omega)) (ih (k + 1) _ (by omega))
    ·rw [if_neg (by rintro ⟨_, h, _⟩; exact h0 h)]
     exact Rounds.more (rg_lo (l.map IrS.d) n k hb hb2 _ _ _ _ _ _ _ _ _ _ _ _ _ g0 g1 (get_map hx) (beq_iff_eq.mpr hkd) (by omega)) (ih (k + 1) _ (by omega))
   ·rw [if_neg (by rintro ⟨h, _⟩; exact hkd h)]
    exact Rounds.more (rg_kind (l.map IrS.d) n k hb hb2 _ _ _ _ _ _ _ _ _ _ _ _ _ g0 g1 (get_map hx) (beq_eq_false_iff_ne.mpr hkd)) (ih (k + 1) _ (by omega))
 exact LoopRun.of_rounds (by decide) (key l.length 0 0 (by omega))
end Go.Proofs.YtojgmjfcfpclbaaGreat

namespace Go.Proofs.YtojgmjfcfpclbaaGreat
open Go Go.Ev
set_option maxRecDepth 100000
set_option maxHeartbeats 8000000
theorem rsm_done (a b : List D) (k : Nat) (ha : a.length ≤ 9223372036854775807) (hl : a.length = b.length) (hk : a.length ≤ k) : RoundRun Tryz.prog (loopB Tryz.f38 0) ⟨[], [], []⟩ 0 [.lst .no 13 a, .lst .no 13 b, uu, uu, uu, .int .i64 (↑k : Int), uu, uu, uu, uu, uu, uu, uu, uu, uu, uu, uu, uu, uu, uu, uu, uu, uu, uu, uu, uu] [] (Ex.exit (0 : Nat)) [uu, uu, uu, uu, uu, uu, uu, uu, uu, uu, uu, uu, uu, uu, uu, uu, uu, uu, uu, uu, uu, uu, uu, uu, uu, uu] ([]) := by
 exact (RoundRun.of_eval (sp := ⟨[], [], []⟩) (n0 := 0) (ex := Ex.exit (0 : Nat)) (t' := [uu, uu, uu, uu, uu, uu, uu, uu, uu, uu, uu, uu, uu, uu, uu, uu, uu, uu, uu, uu, uu, uu, uu, uu, uu, uu]) (s' := []) mixed [tC (by (simp only [sl2] at *; omega) : (decide ((↑k : Int) < (↑(List.length a) : Int))) = false)] (by kernel_rfl)).cast (by rfl) (by rfl)
theorem rsm_eq (a b : List D) (k : Nat) (ha : a.length ≤ 9223372036854775807) (hl : a.length = b.length) (hk : k < a.length) (hk2 : k < b.length) (kind1 op1 w1 dst1 src1 base1 disp1 imm1 cc1 reg1 phys1 num1 to1 kind2 op2 w2 dst2 src2 base2 disp2 imm2 cc2 reg2 phys2 num2 to2 : Int) (hx : a[k]? = some (irD kind1 op1 w1 dst1 src1 base1 disp1 imm1 cc1 reg1 phys1 num1 to1)) (hy : b[k]? = some (irD kind2 op2 w2 dst2 src2 base2 disp2 imm2 cc2 reg2 phys2 num2 to2)) (he : eqCells [.int .i8 kind1, .int .i8 op1, .int .i8 w1, .int .i8 dst1, .int .i8 src1, .int .i8 base1, .int .i64 disp1, .int .i64 imm1, .int .i8 cc1, .int .i8 reg1, .int .i8 phys1, .int .i64 num1, .int .i64 to1] [.int .i8 kind2, .int .i8 op2, .int .i8 w2, .int .i8 dst2, .int .i8 src2, .int .i8 base2, .int .i64 disp2, .int .i64 imm2, .int .i8 cc2, .int .i8 reg2, .int .i8 phys2, .int .i64 num2, .int .i64 to2] = true) : RoundRun Tryz.prog (loopB Tryz.f38 0) ⟨[0, 1, 5], [], []⟩ 0 [.lst .no 13 a, .lst .no 13 b, uu, uu, uu, .int .i64 (↑k : Int), uu, uu, uu, uu, uu, uu, uu, uu, uu, uu, uu, uu, uu, uu, uu, uu, uu, uu, uu, uu] [] (Ex.norm) [.lst .no 13 a, .lst .no 13 b, uu, uu, uu, .int .i64 (↑(k + (1 : Nat)) : Int), uu, uu, uu, uu, uu, uu, uu, uu, uu, uu, uu, uu, uu, uu, uu, uu, uu, uu, uu, uu] ([]) := by
 exact (RoundRun.of_eval (sp := ⟨[0, 1, 5], [], []⟩) (n0 := 0) (ex := Ex.norm) (t' := [.lst .no 13 a, .lst .no 13 b, uu, uu, uu, .int .i64 (IntKind.wrap IntKind.i64 ((↑k : Int) + 1)), uu, uu, uu, uu, uu, uu, uu, uu, uu, uu, uu, uu, uu, uu, uu, uu, uu, uu, uu, uu]) (s' := []) mixed [tC (by (simp only [sl2] at *; omega) : (decide ((↑k : Int) < (↑(List.length a) : Int))) = true), tT, .get _ _ _ hx, tT, .get _ _ _ hy, .flat _ _ flat_Ir, tC (nt he)] (by kernel_rfl)).cast (by first | rfl | (congr; rw [w_i64]; omega)) (by first | rfl | (congr; rw [w_i64]; omega))
theorem rsm_ne (a b : List D) (k : Nat) (ha : a.length ≤ 9223372036854775807) (hl : a.length = b.length) (hk : k < a.length) (hk2 : k < b.length) (kind1 op1 w1 dst1 src1 base1 disp1 imm1 cc1 reg1 phys1 num1 to1 kind2 op2 w2 dst2 src2 base2 disp2 imm2 cc2 reg2 phys2 num2 to2 : Int) (hx : a[k]? = some (irD kind1 op1 w1 dst1 src1 base1 disp1 imm1 cc1 reg1 phys1 num1 to1)) (hy : b[k]? = some (irD kind2 op2 w2 dst2 src2 base2 disp2 imm2 cc2 reg2 phys2 num2 to2)) (he : eqCells [.int .i8 kind1, .int .i8 op1, .int .i8 w1, .int .i8 dst1, .int .i8 src1, .int .i8 base1, .int .i64 disp1, .int .i64 imm1, .int .i8 cc1, .int .i8 reg1, .int .i8 phys1, .int .i64 num1, .int .i64 to1] [.int .i8 kind2, .int .i8 op2, .int .i8 w2, .int .i8 dst2, .int .i8 src2, .int .i8 base2, .int .i64 disp2, .int .i64 imm2, .int .i8 cc2, .int .i8 reg2, .int .i8 phys2, .int .i64 num2, .int .i64 to2] = false) : RoundRun Tryz.prog (loopB Tryz.f38 0) ⟨[4], [], []⟩ 0 [.lst .no 13 a, .lst .no 13 b, uu, uu, uu, .int .i64 (↑k : Int), uu, uu, uu, uu, uu, uu, uu, uu, uu, uu, uu, uu, uu, uu, uu, uu, uu, uu, uu, uu] [] (Ex.ret) [uu, uu, uu, uu, .bool false, uu, uu, uu, uu, uu, uu, uu, uu, uu, uu, uu, uu, uu, uu, uu, uu, uu, uu, uu, uu, uu] ([]) := by
 exact (RoundRun.of_eval (sp := ⟨[4], [], []⟩) (n0 := 0) (ex := Ex.ret) (t' := [uu, uu, uu, uu, .bool false, uu, uu, uu, uu, uu, uu, uu, uu, uu, uu, uu, uu, uu, uu, uu, uu, uu, uu, uu, uu, uu]) (s' := []) mixed [tC (by (simp only [sl2] at *; omega) : (decide ((↑k : Int) < (↑(List.length a) : Int))) = true), tT, .get _ _ _ hx, tT, .get _ _ _ hy, .flat _ _ flat_Ir, tC (nt he)] (by kernel_rfl)).cast (by rfl) (by rfl)
theorem seq_done (a b : List D) (k : Nat) (ha : a.length ≤ 9223372036854775807) (hl : a.length = b.length) (hk : a.length ≤ k) : RoundRun Tryz.prog (loopB Tryz.f83 0) ⟨[], [], []⟩ 0 [.lst .no 13 a, .lst .no 13 b, uu, uu, uu, uu, uu, uu, uu, uu, uu, uu, .int .i64 (↑(List.length a) : Int), .int .i64 (↑k : Int), uu, uu, uu, uu, uu, uu, uu, uu, uu, uu, uu, uu] [] (Ex.exit (0 : Nat)) [uu, uu, uu, uu, uu, uu, uu, uu, uu, uu, uu, uu, uu, uu, uu, uu, uu, uu, uu, uu, uu, uu, uu, uu, uu, uu] ([]) := by
 exact (RoundRun.of_eval (sp := ⟨[], [], []⟩) (n0 := 0) (ex := Ex.exit (0 : Nat)) (t' := [uu, uu, uu, uu, uu, uu, uu, uu, uu, uu, uu, uu, uu, uu, uu, uu, uu, uu, uu, uu, uu, uu, uu, uu, uu, uu]) (s' := []) mixed [tC (by (simp only [sl2] at *; omega) : (decide ((↑k : Int) < (↑(List.length a) : Int))) = false)] (by kernel_rfl)).cast (by rfl) (by rfl)
theorem seq_eq (a b : List D) (k : Nat) (ha : a.length ≤ 9223372036854775807) (hl : a.length = b.length) (hk : k < a.length) (hk2 : k < b.length) (kind1 op1 w1 dst1 src1 base1 disp1 imm1 cc1 reg1 phys1 num1 to1 kind2 op2 w2 dst2 src2 base2 disp2 imm2 cc2 reg2 phys2 num2 to2 : Int) (hx : a[k]? = some (irD kind1 op1 w1 dst1 src1 base1 disp1 imm1 cc1 reg1 phys1 num1 to1)) (hy : b[k]? = some (irD kind2 op2 w2 dst2 src2 base2 disp2 imm2 cc2 reg2 phys2 num2 to2)) (he : eqCells [.int .i8 kind1, .int .i8 op1, .int .i8 w1, .int .i8 dst1, .int .i8 src1, .int .i8 base1, .int .i64 disp1, .int .i64 imm1, .int .i8 cc1, .int .i8 reg1, .int .i8 phys1, .int .i64 num1, .int .i64 to1] [.int .i8 kind2, .int .i8 op2, .int .i8 w2, .int .i8 dst2, .int .i8 src2, .int .i8 base2, .int .i64 disp2, .int .i64 imm2, .int .i8 cc2, .int .i8 reg2, .int .i8 phys2, .int .i64 num2, .int .i64 to2] = true) : RoundRun Tryz.prog (loopB Tryz.f83 0) ⟨[0, 1, 12, 13], [], []⟩ 0 [.lst .no 13 a, .lst .no 13 b, uu, uu, uu, uu, uu, uu, uu, uu, uu, uu, .int .i64 (↑(List.length a) : Int), .int .i64 (↑k : Int), uu, uu, uu, uu, uu, uu, uu, uu, uu, uu, uu, uu] [] (Ex.norm) [.lst .no 13 a, .lst .no 13 b, uu, uu, uu, uu, uu, uu, uu, uu, uu, uu, .int .i64 (↑(List.length a) : Int), .int .i64 (↑(k + (1 : Nat)) : Int), uu, uu, uu, uu, uu, uu, uu, uu, uu, uu, uu, uu] ([]) := by
 exact (RoundRun.of_eval (sp := ⟨[0, 1, 12, 13], [], []⟩) (n0 := 0) (ex := Ex.norm) (t' := [.lst .no 13 a, .lst .no 13 b, uu, uu, uu, uu, uu, uu, uu, uu, uu, uu, .int .i64 (↑(List.length a) : Int), .int .i64 (IntKind.wrap IntKind.i64 ((↑k : Int) + 1)), uu, uu, uu, uu, uu, uu, uu, uu, uu, uu, uu, uu]) (s' := []) mixed [tC (by (simp only [sl2] at *; omega) : (decide ((↑k : Int) < (↑(List.length a) : Int))) = true), tT, .get _ _ _ hx, tT, .get _ _ _ hy, .flat _ _ flat_Ir, tC (nt he)] (by kernel_rfl)).cast (by first | rfl | (congr; rw [w_i64]; omega)) (by first | rfl | (congr; rw [w_i64]; omega))
theorem seq_ne (a b : List D) (k : Nat) (ha : a.length ≤ 9223372036854775807) (hl : a.length = b.length) (hk : k < a.length) (hk2 : k < b.length) (kind1 op1 w1 dst1 src1 base1 disp1 imm1 cc1 reg1 phys1 num1 to1 kind2 op2 w2 dst2 src2 base2 disp2 imm2 cc2 reg2 phys2 num2 to2 : Int) (hx : a[k]? = some (irD kind1 op1 w1 dst1 src1 base1 disp1 imm1 cc1 reg1 phys1 num1 to1)) (hy : b[k]? = some (irD kind2 op2 w2 dst2 src2 base2 disp2 imm2 cc2 reg2 phys2 num2 to2)) (he : eqCells [.int .i8 kind1, .int .i8 op1, .int .i8 w1, .int .i8 dst1, .int .i8 src1, .int .i8 base1, .int .i64 disp1, .int .i64 imm1, .int .i8 cc1, .int .i8 reg1, .int .i8 phys1, .int .i64 num1, .int .i64 to1] [.int .i8 kind2, .int .i8 op2, .int .i8 w2, .int .i8 dst2, .int .i8 src2, .int .i8 base2, .int .i64 disp2, .int .i64 imm2, .int .i8 cc2, .int .i8 reg2, .int .i8 phys2, .int .i64 num2, .int .i64 to2] = false) : RoundRun Tryz.prog (loopB Tryz.f83 0) ⟨[4], [], []⟩ 0 [.lst .no 13 a, .lst .no 13 b, uu, uu, uu, uu, uu, uu, uu, uu, uu, uu, .int .i64 (↑(List.length a) : Int), .int .i64 (↑k : Int), uu, uu, uu, uu, uu, uu, uu, uu, uu, uu, uu, uu] [] (Ex.ret) [uu, uu, uu, uu, .bool false, uu, uu, uu, uu, uu, uu, uu, uu, uu, uu, uu, uu, uu, uu, uu, uu, uu, uu, uu, uu, uu] ([]) := by
 exact (RoundRun.of_eval (sp := ⟨[4], [], []⟩) (n0 := 0) (ex := Ex.ret) (t' := [uu, uu, uu, uu, .bool false, uu, uu, uu, uu, uu, uu, uu, uu, uu, uu, uu, uu, uu, uu, uu, uu, uu, uu, uu, uu, uu]) (s' := []) mixed [tC (by (simp only [sl2] at *; omega) : (decide ((↑k : Int) < (↑(List.length a) : Int))) = true), tT, .get _ _ _ hx, tT, .get _ _ _ hy, .flat _ _ flat_Ir, tC (nt he)] (by kernel_rfl)).cast (by rfl) (by rfl)
end Go.Proofs.YtojgmjfcfpclbaaGreat

namespace Go.Proofs.YtojgmjfcfpclbaaGreat
open Go Go.Ev
set_option maxRecDepth 100000
theorem rsm_key (a b : List IrS) (hl : a.length = b.length) (hb : (a.map IrS.d).length ≤ 9223372036854775807) : ∀ (n k : Nat), n + k = a.length →
  (a.drop k = b.drop k → Rounds Tryz.prog (loopB Tryz.f38 0) 0 [.lst .no 13 (a.map IrS.d), .lst .no 13 (b.map IrS.d), uu, uu, uu, .int .i64 (k : Int), uu, uu, uu, uu, uu, uu, uu, uu, uu, uu, uu, uu, uu, uu, uu, uu, uu, uu, uu, uu] [] (.exit 0) [uu, uu, uu, uu, uu, uu, uu, uu, uu, uu, uu, uu, uu, uu, uu, uu, uu, uu, uu, uu, uu, uu, uu, uu, uu, uu] []) ∧ (a.drop k ≠ b.drop k → Rounds Tryz.prog (loopB Tryz.f38 0) 0 [.lst .no 13 (a.map IrS.d), .lst .no 13 (b.map IrS.d), uu, uu, uu, .int .i64 (k : Int), uu, uu, uu, uu, uu, uu, uu, uu, uu, uu, uu, uu, uu, uu, uu, uu, uu, uu, uu, uu] [] .ret [uu, uu, uu, uu, .bool false, uu, uu, uu, uu, uu, uu, uu, uu, uu, uu, uu, uu, uu, uu, uu, uu, uu, uu, uu, uu, uu] []) := by
 have hl' : (a.map IrS.d).length = (b.map IrS.d).length := by simpa using hl
 intro n
 induction n with
 | zero =>
  intro k hk
  rw [List.drop_eq_nil_of_le (by omega), List.drop_eq_nil_of_le (by omega)]
  exact ⟨fun _ => Rounds.last (rsm_done (a.map IrS.d) (b.map IrS.d) k hb hl' (by simp; omega)) (by simp), fun h => absurd rfl h⟩
 | succ n ih =>
  intro k hk
  have hlt : k < a.length := by omega
  have hlt2 : k < b.length := by omega
  have hx : a[k]? = some a[k] := by simp
  have hy : b[k]? = some b[k] := by simp
  rw [List.drop_eq_getElem_cons hlt, List.drop_eq_getElem_cons hlt2]
  by_cases e : a[k] = b[k]
  ·have h1 := rsm_eq (a.map IrS.d) (b.map IrS.d) k hb hl' (by simpa using hlt) (by simpa using hlt2) _ _ _ _ _ _ _ _ _ _ _ _ _ _ _ _ _ _ _ _ _ _ _ _ _ _ (get_map hx) (get_map hy) ((eq_ir a[k] b[k]).trans (decide_eq_true e))
   obtain ⟨p, q⟩ := ih (k + 1) (by omega)
   refine ⟨fun h => Rounds.more h1 (p (List.cons.inj h).2), fun h => Rounds.more h1 (q fun h' => h ?_)⟩
   rw [e, h']
  ·refine ⟨fun h => absurd (List.cons.inj h).1 e, fun _ => ?_⟩
   exact Rounds.last (rsm_ne (a.map IrS.d) (b.map IrS.d) k hb hl' (by simpa using hlt) (by simpa using hlt2) _ _ _ _ _ _ _ _ _ _ _ _ _ _ _ _ _ _ _ _ _ _ _ _ _ _ (get_map hx) (get_map hy) ((eq_ir a[k] b[k]).trans (decide_eq_false e))) (by simp)
theorem rsm_run_t (a b : List IrS) (hl : a.length = b.length) (hb : (a.map IrS.d).length ≤ 9223372036854775807) (h : a = b) : LoopRun Tryz.prog 0 (.loop (loopB Tryz.f38 0)) [.lst .no 13 (a.map IrS.d), .lst .no 13 (b.map IrS.d), uu, uu, uu, .int .i64 0, uu, uu, uu, uu, uu, uu, uu, uu, uu, uu, uu, uu, uu, uu, uu, uu, uu, uu, uu, uu] [] (.exit 0) [uu, uu, uu, uu, uu, uu, uu, uu, uu, uu, uu, uu, uu, uu, uu, uu, uu, uu, uu, uu, uu, uu, uu, uu, uu, uu] [] :=
 LoopRun.of_rounds (by decide) ((rsm_key a b hl hb a.length 0 (by omega)).1 (by rw [h]))
theorem rsm_run_f (a b : List IrS) (hl : a.length = b.length) (hb : (a.map IrS.d).length ≤ 9223372036854775807) (h : ¬ a = b) : LoopRun Tryz.prog 0 (.loop (loopB Tryz.f38 0)) [.lst .no 13 (a.map IrS.d), .lst .no 13 (b.map IrS.d), uu, uu, uu, .int .i64 0, uu, uu, uu, uu, uu, uu, uu, uu, uu, uu, uu, uu, uu, uu, uu, uu, uu, uu, uu, uu] [] .ret [uu, uu, uu, uu, .bool false, uu, uu, uu, uu, uu, uu, uu, uu, uu, uu, uu, uu, uu, uu, uu, uu, uu, uu, uu, uu, uu] [] :=
 LoopRun.of_rounds (by decide) ((rsm_key a b hl hb a.length 0 (by omega)).2 (by simpa using h))
theorem seq_key (a b : List IrS) (hl : a.length = b.length) (hb : (a.map IrS.d).length ≤ 9223372036854775807) : ∀ (n k : Nat), n + k = a.length →
  (a.drop k = b.drop k → Rounds Tryz.prog (loopB Tryz.f83 0) 0 [.lst .no 13 (a.map IrS.d), .lst .no 13 (b.map IrS.d), uu, uu, uu, uu, uu, uu, uu, uu, uu, uu, .int .i64 ((a.map IrS.d).length : Int), .int .i64 (k : Int), uu, uu, uu, uu, uu, uu, uu, uu, uu, uu, uu, uu] [] (.exit 0) [uu, uu, uu, uu, uu, uu, uu, uu, uu, uu, uu, uu, uu, uu, uu, uu, uu, uu, uu, uu, uu, uu, uu, uu, uu, uu] []) ∧ (a.drop k ≠ b.drop k → Rounds Tryz.prog (loopB Tryz.f83 0) 0 [.lst .no 13 (a.map IrS.d), .lst .no 13 (b.map IrS.d), uu, uu, uu, uu, uu, uu, uu, uu, uu, uu, .int .i64 ((a.map IrS.d).length : Int), .int .i64 (k : Int), uu, uu, uu, uu, uu, uu, uu, uu, uu, uu, uu, uu] [] .ret [uu, uu, uu, uu, .bool false, uu, uu, uu, uu, uu, uu, uu, uu, uu, uu, uu, uu, uu, uu, uu, uu, uu, uu, uu, uu, uu] []) := by
 have hl' : (a.map IrS.d).length = (b.map IrS.d).length := by simpa using hl
 intro n
 induction n with
 | zero =>
  intro k hk
  rw [List.drop_eq_nil_of_le (by omega), List.drop_eq_nil_of_le (by omega)]
  exact ⟨fun _ => Rounds.last (seq_done (a.map IrS.d) (b.map IrS.d) k hb hl' (by simp; omega)) (by simp), fun h => absurd rfl h⟩
 | succ n ih =>
  intro k hk
  have hlt : k < a.length := by omega
  have hlt2 : k < b.length := by omega
  have hx : a[k]? = some a[k] := by simp
  have hy : b[k]? = some b[k] := by simp
  rw [List.drop_eq_getElem_cons hlt, List.drop_eq_getElem_cons hlt2]
  by_cases e : a[k] = b[k]
  ·have h1 := seq_eq (a.map IrS.d) (b.map IrS.d) k hb hl' (by simpa using hlt) (by simpa using hlt2) _ _ _ _ _ _ _ _ _ _ _ _ _ _ _ _ _ _ _ _ _ _ _ _ _ _ (get_map hx) (get_map hy) ((eq_ir a[k] b[k]).trans (decide_eq_true e))
   obtain ⟨p, q⟩ := ih (k + 1) (by omega)
   refine ⟨fun h => Rounds.more h1 (p (List.cons.inj h).2), fun h => Rounds.more h1 (q fun h' => h ?_)⟩
   rw [e, h']
  ·refine ⟨fun h => absurd (List.cons.inj h).1 e, fun _ => ?_⟩
   exact Rounds.last (seq_ne (a.map IrS.d) (b.map IrS.d) k hb hl' (by simpa using hlt) (by simpa using hlt2) _ _ _ _ _ _ _ _ _ _ _ _ _ _ _ _ _ _ _ _ _ _ _ _ _ _ (get_map hx) (get_map hy) ((eq_ir a[k] b[k]).trans (decide_eq_false e))) (by simp)
theorem seq_run_t (a b : List IrS) (hl : a.length = b.length) (hb : (a.map IrS.d).length ≤ 9223372036854775807) (h : a = b) : LoopRun Tryz.prog 0 (.loop (loopB Tryz.f83 0)) [.lst .no 13 (a.map IrS.d), .lst .no 13 (b.map IrS.d), uu, uu, uu, uu, uu, uu, uu, uu, uu, uu, .int .i64 ((a.map IrS.d).length : Int), .int .i64 0, uu, uu, uu, uu, uu, uu, uu, uu, uu, uu, uu, uu] [] (.exit 0) [uu, uu, uu, uu, uu, uu, uu, uu, uu, uu, uu, uu, uu, uu, uu, uu, uu, uu, uu, uu, uu, uu, uu, uu, uu, uu] [] :=
 LoopRun.of_rounds (by decide) ((seq_key a b hl hb a.length 0 (by omega)).1 (by rw [h]))
theorem seq_run_f (a b : List IrS) (hl : a.length = b.length) (hb : (a.map IrS.d).length ≤ 9223372036854775807) (h : ¬ a = b) : LoopRun Tryz.prog 0 (.loop (loopB Tryz.f83 0)) [.lst .no 13 (a.map IrS.d), .lst .no 13 (b.map IrS.d), uu, uu, uu, uu, uu, uu, uu, uu, uu, uu, .int .i64 ((a.map IrS.d).length : Int), .int .i64 0, uu, uu, uu, uu, uu, uu, uu, uu, uu, uu, uu, uu] [] .ret [uu, uu, uu, uu, .bool false, uu, uu, uu, uu, uu, uu, uu, uu, uu, uu, uu, uu, uu, uu, uu, uu, uu, uu, uu, uu, uu] [] :=
 LoopRun.of_rounds (by decide) ((seq_key a b hl hb a.length 0 (by omega)).2 (by simpa using h))
end Go.Proofs.YtojgmjfcfpclbaaGreat

namespace Go.Proofs.YtojgmjfcfpclbaaGreat
open Go Go.Ev
set_option maxRecDepth 100000
set_option maxHeartbeats 8000000
theorem rchk_n_ok (l : List IrS) (hb : (l.map IrS.d).length ≤ 9223372036854775807) (ho : AllOk l) (hm : badI l = none) : Ret Tryz.prog 28 ([.lst .no 13 (l.map IrS.d)]) (.tup [.int .i64 0, .int .i64 0]) := by
 have c0 := @rck_run_n l hb ho hm
 exact (o28 (d := .tup [.int .i64 0, .int .i64 0]) [.head ⟨[0, 4], [], []⟩ _ _ _ _ _ _ _ c0] (by kernel_rfl)).to (by simp [wk, wkL])
theorem rchk_s_ok (l : List IrS) (hb : (l.map IrS.d).length ≤ 9223372036854775807) (ho : AllOk l) (j : Nat) (hm : badI l = some j) : Ret Tryz.prog 28 ([.lst .no 13 (l.map IrS.d)]) (.tup [.int .i64 (j : Int), .int .i64 2]) := by
 have c0 := @rck_run_s l _ hb ho hm
 exact (o28 (d := .tup [.int .i64 (↑j : Int), .int .i64 2]) [.head ⟨[0, 4], [], []⟩ _ _ _ _ _ _ _ c0] (by kernel_rfl)).to (by simp [wk, wkL])
theorem rt17_ok (l : List IrS) (hb : (l.map IrS.d).length ≤ 9223372036854775807) (ho : AllOk l)  : Ret Tryz.prog 34 ([.lst .no 13 (l.map IrS.d)]) (.int .i64 (namedI 1 0 l)) := by
 have c0 := @rt_run l hb ho
 exact (o34 (d := .int .i64 (namedI 1 0 l)) [.head ⟨[0, 3, 4], [], []⟩ _ _ _ _ _ _ _ c0] (by kernel_rfl)).to (by simp [wk])
theorem rg17_ok (l : List IrS) (hb : (l.map IrS.d).length ≤ 9223372036854775807) (ho : AllOk l)  : Ret Tryz.prog 36 ([.lst .no 13 (l.map IrS.d)]) (.int .i64 (namedI 2 0 l)) := by
 have c0 := @rg_run l hb ho
 exact (o36 (d := .int .i64 (namedI 2 0 l)) [.head ⟨[0, 3, 4], [], []⟩ _ _ _ _ _ _ _ c0] (by kernel_rfl)).to (by simp [wk])
theorem rsm_t_ok (a b : List IrS) (hb : (a.map IrS.d).length ≤ 9223372036854775807) (hl : a.length = b.length) (hq : ((((a.map IrS.d).length : Int)) == (((b.map IrS.d).length : Int))) = true) (h : a = b) : Ret Tryz.prog 38 ([.lst .no 13 (a.map IrS.d), .lst .no 13 (b.map IrS.d)]) (.bool true) := by
 have c0 := @rsm_run_t a b hl hb h
 exact (o38 (d := .bool true) [tC (nt hq), .head ⟨[0, 1, 5], [], []⟩ _ _ _ _ _ _ _ c0] (by kernel_rfl)).to (by simp [wk])
theorem rsm_f_ok (a b : List IrS) (hb : (a.map IrS.d).length ≤ 9223372036854775807) (hl : a.length = b.length) (hq : ((((a.map IrS.d).length : Int)) == (((b.map IrS.d).length : Int))) = true) (h : ¬ a = b) : Ret Tryz.prog 38 ([.lst .no 13 (a.map IrS.d), .lst .no 13 (b.map IrS.d)]) (.bool false) := by
 have c0 := @rsm_run_f a b hl hb h
 exact (o38 (d := .bool false) [tC (nt hq), .head ⟨[0, 1, 5], [], []⟩ _ _ _ _ _ _ _ c0] (by kernel_rfl)).to (by simp [wk])
theorem rsm_l_ok (a b : List IrS) (hb : (a.map IrS.d).length ≤ 9223372036854775807) (hq : ((((a.map IrS.d).length : Int)) == (((b.map IrS.d).length : Int))) = false)  : Ret Tryz.prog 38 ([.lst .no 13 (a.map IrS.d), .lst .no 13 (b.map IrS.d)]) (.bool false) := by
 exact (o38 (d := .bool false) [tC (nt hq)] (by kernel_rfl)).to (by simp [wk])
theorem seq_t_ok (a b : List IrS) (hb : (a.map IrS.d).length ≤ 9223372036854775807) (hl : a.length = b.length) (hq : ((((a.map IrS.d).length : Int)) == (((b.map IrS.d).length : Int))) = true) (h : a = b) : Ret Tryz.prog 83 ([.lst .no 13 (a.map IrS.d), .lst .no 13 (b.map IrS.d)]) (.bool true) := by
 have c0 := @seq_run_t a b hl hb h
 exact (o83 (d := .bool true) [tC (nt hq), .head ⟨[0, 1, 12, 13], [], []⟩ _ _ _ _ _ _ _ c0] (by kernel_rfl)).to (by simp [wk])
theorem seq_f_ok (a b : List IrS) (hb : (a.map IrS.d).length ≤ 9223372036854775807) (hl : a.length = b.length) (hq : ((((a.map IrS.d).length : Int)) == (((b.map IrS.d).length : Int))) = true) (h : ¬ a = b) : Ret Tryz.prog 83 ([.lst .no 13 (a.map IrS.d), .lst .no 13 (b.map IrS.d)]) (.bool false) := by
 have c0 := @seq_run_f a b hl hb h
 exact (o83 (d := .bool false) [tC (nt hq), .head ⟨[0, 1, 12, 13], [], []⟩ _ _ _ _ _ _ _ c0] (by kernel_rfl)).to (by simp [wk])
theorem seq_l_ok (a b : List IrS) (hb : (a.map IrS.d).length ≤ 9223372036854775807) (hq : ((((a.map IrS.d).length : Int)) == (((b.map IrS.d).length : Int))) = false)  : Ret Tryz.prog 83 ([.lst .no 13 (a.map IrS.d), .lst .no 13 (b.map IrS.d)]) (.bool false) := by
 exact (o83 (d := .bool false) [tC (nt hq)] (by kernel_rfl)).to (by simp [wk])
end Go.Proofs.YtojgmjfcfpclbaaGreat

namespace Go.Proofs.YtojgmjfcfpclbaaGreat
open Go Go.Ev
set_option maxRecDepth 100000
theorem rchk_ok (l : List IrS) (hb : (l.map IrS.d).length ≤ 9223372036854775807) (ho : AllOk l) : Ret Tryz.prog 28 [.lst .no 13 (l.map IrS.d)] (.tup [.int .i64 (chkI l).1, .int .i64 (chkI l).2]) := by
 unfold chkI
 cases h : badI l with
 | none => exact rchk_n_ok l hb ho h
 | some k => exact rchk_s_ok l hb ho k h
theorem rsame_ok (a b : List IrS) (hb : (a.map IrS.d).length ≤ 9223372036854775807) : Ret Tryz.prog 38 [.lst .no 13 (a.map IrS.d), .lst .no 13 (b.map IrS.d)] (.bool (decide (a = b))) := by
 by_cases hl : a.length = b.length
 ·have hq : ((((a.map IrS.d).length : Int)) == (((b.map IrS.d).length : Int))) = true := by rw [beq_iff_eq]; simp [hl]
  by_cases h : a = b
  ·rw [decide_eq_true h]; exact rsm_t_ok a b hb hl hq h
  ·rw [decide_eq_false h]; exact rsm_f_ok a b hb hl hq h
 ·have hq : ((((a.map IrS.d).length : Int)) == (((b.map IrS.d).length : Int))) = false := by rw [beq_eq_false_iff_ne]; simp; omega
  rw [decide_eq_false (fun h => hl (congrArg List.length h))]
  exact rsm_l_ok a b hb hq
theorem equal_ok (a b : List IrS) (hb : (a.map IrS.d).length ≤ 9223372036854775807) : Ret Tryz.prog 83 [.lst .no 13 (a.map IrS.d), .lst .no 13 (b.map IrS.d)] (.bool (decide (a = b))) := by
 by_cases hl : a.length = b.length
 ·have hq : ((((a.map IrS.d).length : Int)) == (((b.map IrS.d).length : Int))) = true := by rw [beq_iff_eq]; simp [hl]
  by_cases h : a = b
  ·rw [decide_eq_true h]; exact seq_t_ok a b hb hl hq h
  ·rw [decide_eq_false h]; exact seq_f_ok a b hb hl hq h
 ·have hq : ((((a.map IrS.d).length : Int)) == (((b.map IrS.d).length : Int))) = false := by rw [beq_eq_false_iff_ne]; simp; omega
  rw [decide_eq_false (fun h => hl (congrArg List.length h))]
  exact seq_l_ok a b hb hq
end Go.Proofs.YtojgmjfcfpclbaaGreat
