/- Contracts and plain laws that a statement's proof leans on (texts merged: XP2A, XD1, MdM, MdP3, XD1A, Az, XOf). -/
import Derived.Test.YtcngafhpodeenaaB04
import Derived.Test.YtcngafhpodeenaaB05
import Derived.Test.YtcngafhpodeenaaB06
set_option linter.unusedVariables false
set_option linter.unusedSimpArgs false
namespace Go.Proofs.Ytcngafhpodeenaa
open Go Go.Ev
set_option maxRecDepth 100000
theorem parse_ok (b : List Int) (hb : isB b) : ∃ x, Ret Try.prog 96 [.lst .no 1 (bD b)] (.tup [rawD x, .bool (parM b).isSome]) ∧ ∀ s, parM b = some s → x = s := by
 have rex : ∀ (half : Bool) (w : Int) (p t : List Int), isB t → (half = true ∧ p = [102] ∧ w = 16 ∨ half = false ∧ p = [] ∧ w = 32 ∧ hd t ≠ 102) → parM (p ++ t) = parRex w t →
   ∃ x, Ret Try.prog 96 [.lst .no 1 (bD (p ++ t))] (.tup [rawD x, .bool (parM (p ++ t)).isSome]) ∧ ∀ s, parM (p ++ t) = some s → x = s := by
  intro half w p t ht hc hp
  rw [hp]
  have out : ∀ (x : RawS) (k : Bool), Ret Try.prog 96 [.lst .no 1 (bD (p ++ t))] (.tup [rawD x, .bool k]) → (k = false ∧ parRex w t = none) ∨ (k = true ∧ parRex w t = some x) →
    ∃ x, Ret Try.prog 96 [.lst .no 1 (bD (p ++ t))] (.tup [rawD x, .bool (parRex w t).isSome]) ∧ ∀ s, parRex w t = some s → x = s := by
   rintro x k h (⟨rfl, e⟩ | ⟨rfl, e⟩)
   ·exact ⟨x, by rw [e]; exact h, fun s hs => by rw [e] at hs; cases hs⟩
   ·exact ⟨x, by rw [e]; exact h, fun s hs => by rw [e] at hs; exact Option.some.inj hs⟩
  match t, ht with
  | [], _ =>
   rcases hc with ⟨-, rfl, rfl⟩ | ⟨-, rfl, rfl, -⟩
   ·exact out _ _ pa_hxe_ok (.inl ⟨rfl, rfl⟩)
   ·exact out _ _ pa_nxe_ok (.inl ⟨rfl, rfl⟩)
  | h :: u, ht =>
   obtain ⟨⟨g0, g1⟩, hu⟩ := isB_cons.1 ht
   by_cases hq : rexQ h = true
   ·
    have e : parRex w (h :: u) = parCode (if h / 8 % 2 = 1 then 64 else w) (h / 4 % 2 * 8) (h % 2 * 8) u := by simp only [parRex, if_pos hq]
    match u, hu with
    | [], _ =>
     rcases hc with ⟨-, rfl, rfl⟩ | ⟨-, rfl, rfl, hh⟩
     ·exact out _ _ (pa_hre_ok h g0 g1 hq) (.inl ⟨rfl, by rw [e]; rfl⟩)
     ·exact out _ _ (pa_nre_ok h g0 g1 hq (by simpa [hd] using hh)) (.inl ⟨rfl, by rw [e]; rfl⟩)
    | c :: v, hu =>
     obtain ⟨⟨k0, k1⟩, hv⟩ := isB_cons.1 hu
     by_cases hc15 : c = 15
     ·subst hc15
      match v, hv with
      | [], _ =>
       rcases hc with ⟨-, rfl, rfl⟩ | ⟨-, rfl, rfl, hh⟩
       ·exact out _ _ (pa_hr0_ok h g0 g1 hq) (.inr ⟨rfl, by rw [e]; rfl⟩)
       ·exact out _ _ (pa_nr0_ok h g0 g1 hq (by simpa [hd] using hh)) (.inr ⟨rfl, by rw [e]; rfl⟩)
      | d :: v, hv =>
       obtain ⟨-, hv⟩ := isB_cons.1 hv
       rcases hc with ⟨-, rfl, rfl⟩ | ⟨-, rfl, rfl, hh⟩
       ·exact out _ _ (pa_hr1_ok h g0 g1 hq d v hv) (.inr ⟨rfl, by rw [e]; rfl⟩)
       ·exact out _ _ (pa_nr1_ok h g0 g1 hq (by simpa [hd] using hh) d v hv) (.inr ⟨rfl, by rw [e]; rfl⟩)
     ·rcases hc with ⟨-, rfl, rfl⟩ | ⟨-, rfl, rfl, hh⟩
      ·exact out _ _ (pa_hrc_ok h g0 g1 hq c hc15 v hv) (.inr ⟨rfl, by rw [e]; exact parCode_c hc15⟩)
      ·exact out _ _ (pa_nrc_ok h g0 g1 hq (by simpa [hd] using hh) c hc15 v hv) (.inr ⟨rfl, by rw [e]; exact parCode_c hc15⟩)
   ·
    have hq' : rexQ h = false := by simpa using hq
    have e : parRex w (h :: u) = parCode w 0 0 (h :: u) := by simp only [parRex, if_neg hq]
    by_cases hc15 : h = 15
    ·subst hc15
     match u, hu with
     | [], _ =>
      rcases hc with ⟨-, rfl, rfl⟩ | ⟨-, rfl, rfl, hh⟩
      ·exact out _ _ pa_hx0_ok (.inr ⟨rfl, by rw [e]; rfl⟩)
      ·exact out _ _ pa_nx0_ok (.inr ⟨rfl, by rw [e]; rfl⟩)
     | d :: v, hu =>
      obtain ⟨-, hv⟩ := isB_cons.1 hu
      rcases hc with ⟨-, rfl, rfl⟩ | ⟨-, rfl, rfl, hh⟩
      ·exact out _ _ (pa_hx1_ok d v hv) (.inr ⟨rfl, by rw [e]; rfl⟩)
      ·exact out _ _ (pa_nx1_ok d v hv) (.inr ⟨rfl, by rw [e]; rfl⟩)
    ·rcases hc with ⟨-, rfl, rfl⟩ | ⟨-, rfl, rfl, hh⟩
     ·exact out _ _ (pa_hxc_ok h g0 g1 hq' hc15 u hu) (.inr ⟨rfl, by rw [e]; exact parCode_c hc15⟩)
     ·exact out _ _ (pa_nxc_ok h g0 g1 hq' (by simpa [hd] using hh) hc15 u hu) (.inr ⟨rfl, by rw [e]; exact parCode_c hc15⟩)
 by_cases h102 : hd b = 102
 ·match b, hb, h102 with
  | a :: t, hb, h102 =>
   have ha : a = 102 := by simpa [hd] using h102
   subst ha
   exact rex true 16 [102] t (isB_cons.1 hb).2 (.inl ⟨rfl, rfl, rfl⟩) (by simp only [parM, List.cons_append, List.nil_append]; rw [if_pos (by rfl)]; rfl)
  | [], _, h => simp [hd] at h
 ·exact rex false 32 [] b hb (.inr ⟨rfl, rfl, rfl, h102⟩) (by simp only [parM, List.nil_append]; rw [if_neg h102])
end Go.Proofs.Ytcngafhpodeenaa

namespace Go.Proofs.Ytcngafhpodeenaa
open Go Go.Ev
set_option maxRecDepth 100000
set_option maxHeartbeats 8000000
theorem as1_ok (s : RawS) (k : Int) (k0 : 0 ≤ k) (k1 : k ≤ 31) (v0 : 0 ≤ s.code) (v1 : s.code ≤ 255) (cd nm : Int) (z0 z1 z2 z3 z4 z5 z6 z8 z9 : Ob)  : CallRun Try.prog 98 ([.ptr false 7 0, .int .i8 (IntKind.i8.wrap k), .agg [.int .i8 1, .int .u8 cd, .int .i8 nm]]) ([z0, z1, z2, z3, z4, z5, z6, .box [.int .i8 (RawS.w s), .bool  (RawS.long s), .int .u8 (RawS.code s), .int .i8 (RawS.r s), .int .i8 (RawS.m s), .int .i64 (RawS.disp s), .int .i64 (RawS.imm s), .int .i64 (RawS.small s), .int .i64 (RawS.near s), .int .i64 (RawS.jump s), .int .i8 (RawS.high s)], z8, z9]) (xD (IntKind.i8.wrap k) (RawS.w s) (RawS.m s) (RawS.r s) 0 0 0 0) ([z0, z1, z2, z3, z4, z5, z6, .box [.int .i8 (RawS.w s), .bool  (RawS.long s), .int .u8 (RawS.code s), .int .i8 (RawS.r s), .int .i8 (RawS.m s), .int .i64 (RawS.disp s), .int .i64 (RawS.imm s), .int .i64 (RawS.small s), .int .i64 (RawS.near s), .int .i64 (RawS.jump s), .int .i8 (RawS.high s)], z8, z9, .dead, .dead, .dead]) := by
 exact (CallRun.of_eval (keep := [0, 1, 2, 3, 4, 5, 6, 7, 8, 9]) (d := (xD (IntKind.wrap IntKind.i8 k) (RawS.w s) (RawS.m s) (RawS.r s) 0 0 0 0)) (s' := [z0, z1, z2, z3, z4, z5, z6, Ob.box [.int .i8 (RawS.w s), .bool (RawS.long s), .int .u8 (RawS.code s), .int .i8 (RawS.r s), .int .i8 (RawS.m s), .int .i64 (RawS.disp s), .int .i64 (RawS.imm s), .int .i64 (RawS.small s), .int .i64 (RawS.near s), .int .i64 (RawS.jump s), .int .i8 (RawS.high s)], z8, z9, Ob.dead, Ob.dead, Ob.dead]) mixed [tT] (by kernel_rfl)).cast (by first | (rfl; done) | (exfalso; (try simp only [decide_eq_true_eq, decide_eq_false_iff_not, beq_iff_eq, beq_eq_false_iff_ne, bne_iff_ne, ne_eq] at *); first | omega | contradiction)) (by rfl)
theorem as2_ok (s : RawS) (k : Int) (k0 : 0 ≤ k) (k1 : k ≤ 31) (v0 : 0 ≤ s.code) (v1 : s.code ≤ 255) (cd nm : Int) (z0 z1 z2 z3 z4 z5 z6 z8 z9 : Ob)  : CallRun Try.prog 98 ([.ptr false 7 0, .int .i8 (IntKind.i8.wrap k), .agg [.int .i8 2, .int .u8 cd, .int .i8 nm]]) ([z0, z1, z2, z3, z4, z5, z6, .box [.int .i8 (RawS.w s), .bool  (RawS.long s), .int .u8 (RawS.code s), .int .i8 (RawS.r s), .int .i8 (RawS.m s), .int .i64 (RawS.disp s), .int .i64 (RawS.imm s), .int .i64 (RawS.small s), .int .i64 (RawS.near s), .int .i64 (RawS.jump s), .int .i8 (RawS.high s)], z8, z9]) (xD (IntKind.i8.wrap k) (RawS.w s) (RawS.r s) (RawS.m s) 0 0 0 0) ([z0, z1, z2, z3, z4, z5, z6, .box [.int .i8 (RawS.w s), .bool  (RawS.long s), .int .u8 (RawS.code s), .int .i8 (RawS.r s), .int .i8 (RawS.m s), .int .i64 (RawS.disp s), .int .i64 (RawS.imm s), .int .i64 (RawS.small s), .int .i64 (RawS.near s), .int .i64 (RawS.jump s), .int .i8 (RawS.high s)], z8, z9, .dead, .dead, .dead]) := by
 exact (CallRun.of_eval (keep := [0, 1, 2, 3, 4, 5, 6, 7, 8, 9]) (d := (xD (IntKind.wrap IntKind.i8 k) (RawS.w s) (RawS.r s) (RawS.m s) 0 0 0 0)) (s' := [z0, z1, z2, z3, z4, z5, z6, Ob.box [.int .i8 (RawS.w s), .bool (RawS.long s), .int .u8 (RawS.code s), .int .i8 (RawS.r s), .int .i8 (RawS.m s), .int .i64 (RawS.disp s), .int .i64 (RawS.imm s), .int .i64 (RawS.small s), .int .i64 (RawS.near s), .int .i64 (RawS.jump s), .int .i8 (RawS.high s)], z8, z9, Ob.dead, Ob.dead, Ob.dead]) mixed [tF, tT] (by kernel_rfl)).cast (by first | (rfl; done) | (exfalso; (try simp only [decide_eq_true_eq, decide_eq_false_iff_not, beq_iff_eq, beq_eq_false_iff_ne, bne_iff_ne, ne_eq] at *); first | omega | contradiction)) (by rfl)
theorem as3n_ok (s : RawS) (k : Int) (k0 : 0 ≤ k) (k1 : k ≤ 31) (v0 : 0 ≤ s.code) (v1 : s.code ≤ 255) (cd nm : Int) (z0 z1 z2 z3 z4 z5 z6 z8 z9 : Ob) (hk : ¬ k = 1)  : CallRun Try.prog 98 ([.ptr false 7 0, .int .i8 (IntKind.i8.wrap k), .agg [.int .i8 3, .int .u8 cd, .int .i8 nm]]) ([z0, z1, z2, z3, z4, z5, z6, .box [.int .i8 (RawS.w s), .bool  (RawS.long s), .int .u8 (RawS.code s), .int .i8 (RawS.r s), .int .i8 (RawS.m s), .int .i64 (RawS.disp s), .int .i64 (RawS.imm s), .int .i64 (RawS.small s), .int .i64 (RawS.near s), .int .i64 (RawS.jump s), .int .i8 (RawS.high s)], z8, z9]) (xD (IntKind.i8.wrap k) (RawS.w s) (RawS.m s) 0 0 0 (RawS.imm s) 0) ([z0, z1, z2, z3, z4, z5, z6, .box [.int .i8 (RawS.w s), .bool  (RawS.long s), .int .u8 (RawS.code s), .int .i8 (RawS.r s), .int .i8 (RawS.m s), .int .i64 (RawS.disp s), .int .i64 (RawS.imm s), .int .i64 (RawS.small s), .int .i64 (RawS.near s), .int .i64 (RawS.jump s), .int .i8 (RawS.high s)], z8, z9, .dead, .dead, .dead]) := by
 exact (CallRun.of_eval (keep := [0, 1, 2, 3, 4, 5, 6, 7, 8, 9]) (d := (xD (IntKind.wrap IntKind.i8 k) (RawS.w s) (RawS.m s) 0 0 0 (RawS.imm s) 0)) (s' := [z0, z1, z2, z3, z4, z5, z6, Ob.box [.int .i8 (RawS.w s), .bool (RawS.long s), .int .u8 (RawS.code s), .int .i8 (RawS.r s), .int .i8 (RawS.m s), .int .i64 (RawS.disp s), .int .i64 (RawS.imm s), .int .i64 (RawS.small s), .int .i64 (RawS.near s), .int .i64 (RawS.jump s), .int .i8 (RawS.high s)], z8, z9, Ob.dead, Ob.dead, Ob.dead]) mixed ([tF, tF, tF, tT, tC (eT (by (simp only [w_i8, w_u8, w_i64, w_u64, decide_eq_true_eq, decide_eq_false_iff_not, beq_iff_eq, bne_iff_ne, beq_eq_false_iff_ne, bne_eq_false_iff_eq, Bool.not_eq_true', Bool.not_eq_false', Bool.and_eq_true, Bool.or_eq_true] at *; omega) : (IntKind.wrap IntKind.i8 k == (1 : Int)) = false)), tC (eT (by (simp only [w_i8, w_u8, w_i64, w_u64, decide_eq_true_eq, decide_eq_false_iff_not, beq_iff_eq, bne_iff_ne, beq_eq_false_iff_ne, bne_eq_false_iff_eq, Bool.not_eq_true', Bool.not_eq_false', Bool.and_eq_true, Bool.or_eq_true] at *; omega) : (IntKind.wrap IntKind.i8 k == (1 : Int)) = false)), tC (eT (by (simp only [w_i8, w_u8, w_i64, w_u64, decide_eq_true_eq, decide_eq_false_iff_not, beq_iff_eq, bne_iff_ne, beq_eq_false_iff_ne, bne_eq_false_iff_eq, Bool.not_eq_true', Bool.not_eq_false', Bool.and_eq_true, Bool.or_eq_true] at *; omega) : (IntKind.wrap IntKind.i8 k == (1 : Int)) = false)), tC (eT (by (simp only [w_i8, w_u8, w_i64, w_u64, decide_eq_true_eq, decide_eq_false_iff_not, beq_iff_eq, bne_iff_ne, beq_eq_false_iff_ne, bne_eq_false_iff_eq, Bool.not_eq_true', Bool.not_eq_false', Bool.and_eq_true, Bool.or_eq_true] at *; omega) : (IntKind.wrap IntKind.i8 k == (1 : Int)) = false)), tC (eT (by (simp only [w_i8, w_u8, w_i64, w_u64, decide_eq_true_eq, decide_eq_false_iff_not, beq_iff_eq, bne_iff_ne, beq_eq_false_iff_ne, bne_eq_false_iff_eq, Bool.not_eq_true', Bool.not_eq_false', Bool.and_eq_true, Bool.or_eq_true] at *; omega) : (IntKind.wrap IntKind.i8 k == (1 : Int)) = false)), tC (by (simp only [w_i8, w_u8, w_i64, w_u64, decide_eq_true_eq, decide_eq_false_iff_not, beq_iff_eq, bne_iff_ne, beq_eq_false_iff_ne, bne_eq_false_iff_eq, Bool.not_eq_true', Bool.not_eq_false', Bool.and_eq_true, Bool.or_eq_true] at *; omega) : (IntKind.wrap IntKind.i8 k == (1 : Int)) = false), tF, tF, tF, tF, tF, tF] ++ [tF]) (by kernel_rfl)).cast (by first | (rfl; done) | (exfalso; (try simp only [decide_eq_true_eq, decide_eq_false_iff_not, beq_iff_eq, beq_eq_false_iff_ne, bne_iff_ne, ne_eq] at *); first | omega | contradiction)) (by rfl)
theorem as3l_ok (s : RawS) (k : Int) (k0 : 0 ≤ k) (k1 : k ≤ 31) (v0 : 0 ≤ s.code) (v1 : s.code ≤ 255) (cd nm : Int) (z0 z1 z2 z3 z4 z5 z6 z8 z9 : Ob) (hk : k = 1) (hc : s.code < 184)  : CallRun Try.prog 98 ([.ptr false 7 0, .int .i8 (IntKind.i8.wrap k), .agg [.int .i8 3, .int .u8 cd, .int .i8 nm]]) ([z0, z1, z2, z3, z4, z5, z6, .box [.int .i8 (RawS.w s), .bool  (RawS.long s), .int .u8 (RawS.code s), .int .i8 (RawS.r s), .int .i8 (RawS.m s), .int .i64 (RawS.disp s), .int .i64 (RawS.imm s), .int .i64 (RawS.small s), .int .i64 (RawS.near s), .int .i64 (RawS.jump s), .int .i8 (RawS.high s)], z8, z9]) (xD (IntKind.i8.wrap k) (RawS.w s) (RawS.m s) 0 0 0 (RawS.imm s) 0) ([z0, z1, z2, z3, z4, z5, z6, .box [.int .i8 (RawS.w s), .bool  (RawS.long s), .int .u8 (RawS.code s), .int .i8 (RawS.r s), .int .i8 (RawS.m s), .int .i64 (RawS.disp s), .int .i64 (RawS.imm s), .int .i64 (RawS.small s), .int .i64 (RawS.near s), .int .i64 (RawS.jump s), .int .i8 (RawS.high s)], z8, z9, .dead, .dead, .dead]) := by
 exact (CallRun.of_eval (keep := [0, 1, 2, 3, 4, 5, 6, 7, 8, 9]) (d := (xD (IntKind.wrap IntKind.i8 k) (RawS.w s) (RawS.m s) 0 0 0 (RawS.imm s) 0)) (s' := [z0, z1, z2, z3, z4, z5, z6, Ob.box [.int .i8 (RawS.w s), .bool (RawS.long s), .int .u8 (RawS.code s), .int .i8 (RawS.r s), .int .i8 (RawS.m s), .int .i64 (RawS.disp s), .int .i64 (RawS.imm s), .int .i64 (RawS.small s), .int .i64 (RawS.near s), .int .i64 (RawS.jump s), .int .i8 (RawS.high s)], z8, z9, Ob.dead, Ob.dead, Ob.dead]) mixed ([tF, tF, tF, tT, tC (eT (eqI 1 true (by (simp only [w_i8, w_u8, w_i64, w_u64, decide_eq_true_eq, decide_eq_false_iff_not, beq_iff_eq, bne_iff_ne, beq_eq_false_iff_ne, bne_eq_false_iff_eq, Bool.not_eq_true', Bool.not_eq_false', Bool.and_eq_true, Bool.or_eq_true] at *; omega) : IntKind.wrap IntKind.i8 k = (1 : Int)))), tC (eT (eqI 1 true (by (simp only [w_i8, w_u8, w_i64, w_u64, decide_eq_true_eq, decide_eq_false_iff_not, beq_iff_eq, bne_iff_ne, beq_eq_false_iff_ne, bne_eq_false_iff_eq, Bool.not_eq_true', Bool.not_eq_false', Bool.and_eq_true, Bool.or_eq_true] at *; omega) : IntKind.wrap IntKind.i8 k = (1 : Int)))), tC (eT (eqI 1 true (by (simp only [w_i8, w_u8, w_i64, w_u64, decide_eq_true_eq, decide_eq_false_iff_not, beq_iff_eq, bne_iff_ne, beq_eq_false_iff_ne, bne_eq_false_iff_eq, Bool.not_eq_true', Bool.not_eq_false', Bool.and_eq_true, Bool.or_eq_true] at *; omega) : IntKind.wrap IntKind.i8 k = (1 : Int)))), tC (eT (eqI 1 true (by (simp only [w_i8, w_u8, w_i64, w_u64, decide_eq_true_eq, decide_eq_false_iff_not, beq_iff_eq, bne_iff_ne, beq_eq_false_iff_ne, bne_eq_false_iff_eq, Bool.not_eq_true', Bool.not_eq_false', Bool.and_eq_true, Bool.or_eq_true] at *; omega) : IntKind.wrap IntKind.i8 k = (1 : Int)))), tC (eT (eqI 1 true (by (simp only [w_i8, w_u8, w_i64, w_u64, decide_eq_true_eq, decide_eq_false_iff_not, beq_iff_eq, bne_iff_ne, beq_eq_false_iff_ne, bne_eq_false_iff_eq, Bool.not_eq_true', Bool.not_eq_false', Bool.and_eq_true, Bool.or_eq_true] at *; omega) : IntKind.wrap IntKind.i8 k = (1 : Int)))), tC (eqI 1 true (by (simp only [w_i8, w_u8, w_i64, w_u64, decide_eq_true_eq, decide_eq_false_iff_not, beq_iff_eq, bne_iff_ne, beq_eq_false_iff_ne, bne_eq_false_iff_eq, Bool.not_eq_true', Bool.not_eq_false', Bool.and_eq_true, Bool.or_eq_true] at *; omega) : IntKind.wrap IntKind.i8 k = (1 : Int))), tC (eT (leL 184 (decide_eq_true hc))), tC (eT (leL 184 (decide_eq_true hc))), tC (eT (leL 184 (decide_eq_true hc))), tC (eT (leL 184 (decide_eq_true hc))), tC (eT (leL 184 (decide_eq_true hc))), tC (leL 184 (decide_eq_true hc))] ++ [tF]) (by kernel_rfl)).cast (by first | (rfl; done) | (exfalso; (try simp only [decide_eq_true_eq, decide_eq_false_iff_not, beq_iff_eq, beq_eq_false_iff_ne, bne_iff_ne, ne_eq] at *); first | omega | contradiction)) (by rfl)
theorem as3h_ok (s : RawS) (k : Int) (k0 : 0 ≤ k) (k1 : k ≤ 31) (v0 : 0 ≤ s.code) (v1 : s.code ≤ 255) (cd nm : Int) (z0 z1 z2 z3 z4 z5 z6 z8 z9 : Ob) (hk : k = 1) (hc : 192 ≤ s.code)  : CallRun Try.prog 98 ([.ptr false 7 0, .int .i8 (IntKind.i8.wrap k), .agg [.int .i8 3, .int .u8 cd, .int .i8 nm]]) ([z0, z1, z2, z3, z4, z5, z6, .box [.int .i8 (RawS.w s), .bool  (RawS.long s), .int .u8 (RawS.code s), .int .i8 (RawS.r s), .int .i8 (RawS.m s), .int .i64 (RawS.disp s), .int .i64 (RawS.imm s), .int .i64 (RawS.small s), .int .i64 (RawS.near s), .int .i64 (RawS.jump s), .int .i8 (RawS.high s)], z8, z9]) (xD (IntKind.i8.wrap k) (RawS.w s) (RawS.m s) 0 0 0 (RawS.imm s) 0) ([z0, z1, z2, z3, z4, z5, z6, .box [.int .i8 (RawS.w s), .bool  (RawS.long s), .int .u8 (RawS.code s), .int .i8 (RawS.r s), .int .i8 (RawS.m s), .int .i64 (RawS.disp s), .int .i64 (RawS.imm s), .int .i64 (RawS.small s), .int .i64 (RawS.near s), .int .i64 (RawS.jump s), .int .i8 (RawS.high s)], z8, z9, .dead, .dead, .dead]) := by
 exact (CallRun.of_eval (keep := [0, 1, 2, 3, 4, 5, 6, 7, 8, 9]) (d := (xD (IntKind.wrap IntKind.i8 k) (RawS.w s) (RawS.m s) 0 0 0 (RawS.imm s) 0)) (s' := [z0, z1, z2, z3, z4, z5, z6, Ob.box [.int .i8 (RawS.w s), .bool (RawS.long s), .int .u8 (RawS.code s), .int .i8 (RawS.r s), .int .i8 (RawS.m s), .int .i64 (RawS.disp s), .int .i64 (RawS.imm s), .int .i64 (RawS.small s), .int .i64 (RawS.near s), .int .i64 (RawS.jump s), .int .i8 (RawS.high s)], z8, z9, Ob.dead, Ob.dead, Ob.dead]) mixed ([tF, tF, tF, tT, tC (eT (eqI 1 true (by (simp only [w_i8, w_u8, w_i64, w_u64, decide_eq_true_eq, decide_eq_false_iff_not, beq_iff_eq, bne_iff_ne, beq_eq_false_iff_ne, bne_eq_false_iff_eq, Bool.not_eq_true', Bool.not_eq_false', Bool.and_eq_true, Bool.or_eq_true] at *; omega) : IntKind.wrap IntKind.i8 k = (1 : Int)))), tC (eT (eqI 1 true (by (simp only [w_i8, w_u8, w_i64, w_u64, decide_eq_true_eq, decide_eq_false_iff_not, beq_iff_eq, bne_iff_ne, beq_eq_false_iff_ne, bne_eq_false_iff_eq, Bool.not_eq_true', Bool.not_eq_false', Bool.and_eq_true, Bool.or_eq_true] at *; omega) : IntKind.wrap IntKind.i8 k = (1 : Int)))), tC (eT (eqI 1 true (by (simp only [w_i8, w_u8, w_i64, w_u64, decide_eq_true_eq, decide_eq_false_iff_not, beq_iff_eq, bne_iff_ne, beq_eq_false_iff_ne, bne_eq_false_iff_eq, Bool.not_eq_true', Bool.not_eq_false', Bool.and_eq_true, Bool.or_eq_true] at *; omega) : IntKind.wrap IntKind.i8 k = (1 : Int)))), tC (eT (eqI 1 true (by (simp only [w_i8, w_u8, w_i64, w_u64, decide_eq_true_eq, decide_eq_false_iff_not, beq_iff_eq, bne_iff_ne, beq_eq_false_iff_ne, bne_eq_false_iff_eq, Bool.not_eq_true', Bool.not_eq_false', Bool.and_eq_true, Bool.or_eq_true] at *; omega) : IntKind.wrap IntKind.i8 k = (1 : Int)))), tC (eT (eqI 1 true (by (simp only [w_i8, w_u8, w_i64, w_u64, decide_eq_true_eq, decide_eq_false_iff_not, beq_iff_eq, bne_iff_ne, beq_eq_false_iff_ne, bne_eq_false_iff_eq, Bool.not_eq_true', Bool.not_eq_false', Bool.and_eq_true, Bool.or_eq_true] at *; omega) : IntKind.wrap IntKind.i8 k = (1 : Int)))), tC (eqI 1 true (by (simp only [w_i8, w_u8, w_i64, w_u64, decide_eq_true_eq, decide_eq_false_iff_not, beq_iff_eq, bne_iff_ne, beq_eq_false_iff_ne, bne_eq_false_iff_eq, Bool.not_eq_true', Bool.not_eq_false', Bool.and_eq_true, Bool.or_eq_true] at *; omega) : IntKind.wrap IntKind.i8 k = (1 : Int))), tC (eT (leL 184 (ltD 184 (decide_eq_false (Int.not_lt.2 hc))))), tC (eT (leL 184 (ltD 184 (decide_eq_false (Int.not_lt.2 hc))))), tC (eT (leL 184 (ltD 184 (decide_eq_false (Int.not_lt.2 hc))))), tC (eT (leL 184 (ltD 184 (decide_eq_false (Int.not_lt.2 hc))))), tC (eT (leL 184 (ltD 184 (decide_eq_false (Int.not_lt.2 hc))))), tC (leL 184 (ltD 184 (decide_eq_false (Int.not_lt.2 hc))))] ++ [tC (decide_eq_false (Int.not_lt.2 hc))]) (by kernel_rfl)).cast (by first | (rfl; done) | (exfalso; (try simp only [decide_eq_true_eq, decide_eq_false_iff_not, beq_iff_eq, beq_eq_false_iff_ne, bne_iff_ne, ne_eq] at *); first | omega | contradiction)) (by rfl)
theorem as3m_ok (s : RawS) (k : Int) (k0 : 0 ≤ k) (k1 : k ≤ 31) (v0 : 0 ≤ s.code) (v1 : s.code ≤ 255) (cd nm : Int) (z0 z1 z2 z3 z4 z5 z6 z8 z9 : Ob) (hk : k = 1) (hc : 184 ≤ s.code) (hd : s.code < 192) (hh : s.high = 0 ∨ s.high = 8)  : CallRun Try.prog 98 ([.ptr false 7 0, .int .i8 (IntKind.i8.wrap k), .agg [.int .i8 3, .int .u8 cd, .int .i8 nm]]) ([z0, z1, z2, z3, z4, z5, z6, .box [.int .i8 (RawS.w s), .bool  (RawS.long s), .int .u8 (RawS.code s), .int .i8 (RawS.r s), .int .i8 (RawS.m s), .int .i64 (RawS.disp s), .int .i64 (RawS.imm s), .int .i64 (RawS.small s), .int .i64 (RawS.near s), .int .i64 (RawS.jump s), .int .i8 (RawS.high s)], z8, z9]) (xD (IntKind.i8.wrap k) (RawS.w s) (s.code % 8 + s.high) 0 0 0 (RawS.near s) 0) ([z0, z1, z2, z3, z4, z5, z6, .box [.int .i8 (RawS.w s), .bool  (RawS.long s), .int .u8 (RawS.code s), .int .i8 (RawS.r s), .int .i8 (RawS.m s), .int .i64 (RawS.disp s), .int .i64 (RawS.imm s), .int .i64 (RawS.small s), .int .i64 (RawS.near s), .int .i64 (RawS.jump s), .int .i8 (RawS.high s)], z8, z9, .dead, .dead, .dead]) := by
 exact (CallRun.of_eval (keep := [0, 1, 2, 3, 4, 5, 6, 7, 8, 9]) (d := (xD (IntKind.wrap IntKind.i8 k) (RawS.w s) (IntKind.wrap IntKind.i8 (↑(BitVec.toNat (BitVec.ofInt (8 : Nat) (IntKind.wrap IntKind.i8 (IntKind.wrap IntKind.u8 (↑(BitVec.toNat (BitVec.ofInt (8 : Nat) (RawS.code s) &&& BitVec.ofInt (8 : Nat) (7 : Int))) : Int))) ||| BitVec.ofInt (8 : Nat) (RawS.high s))) : Int)) 0 0 0 (RawS.near s) 0)) (s' := [z0, z1, z2, z3, z4, z5, z6, Ob.box [.int .i8 (RawS.w s), .bool (RawS.long s), .int .u8 (RawS.code s), .int .i8 (RawS.r s), .int .i8 (RawS.m s), .int .i64 (RawS.disp s), .int .i64 (RawS.imm s), .int .i64 (RawS.small s), .int .i64 (RawS.near s), .int .i64 (RawS.jump s), .int .i8 (RawS.high s)], z8, z9, Ob.dead, Ob.dead, Ob.dead]) mixed ([tF, tF, tF, tT, tC (eT (eqI 1 true (by (simp only [w_i8, w_u8, w_i64, w_u64, decide_eq_true_eq, decide_eq_false_iff_not, beq_iff_eq, bne_iff_ne, beq_eq_false_iff_ne, bne_eq_false_iff_eq, Bool.not_eq_true', Bool.not_eq_false', Bool.and_eq_true, Bool.or_eq_true] at *; omega) : IntKind.wrap IntKind.i8 k = (1 : Int)))), tC (eT (eqI 1 true (by (simp only [w_i8, w_u8, w_i64, w_u64, decide_eq_true_eq, decide_eq_false_iff_not, beq_iff_eq, bne_iff_ne, beq_eq_false_iff_ne, bne_eq_false_iff_eq, Bool.not_eq_true', Bool.not_eq_false', Bool.and_eq_true, Bool.or_eq_true] at *; omega) : IntKind.wrap IntKind.i8 k = (1 : Int)))), tC (eT (eqI 1 true (by (simp only [w_i8, w_u8, w_i64, w_u64, decide_eq_true_eq, decide_eq_false_iff_not, beq_iff_eq, bne_iff_ne, beq_eq_false_iff_ne, bne_eq_false_iff_eq, Bool.not_eq_true', Bool.not_eq_false', Bool.and_eq_true, Bool.or_eq_true] at *; omega) : IntKind.wrap IntKind.i8 k = (1 : Int)))), tC (eT (eqI 1 true (by (simp only [w_i8, w_u8, w_i64, w_u64, decide_eq_true_eq, decide_eq_false_iff_not, beq_iff_eq, bne_iff_ne, beq_eq_false_iff_ne, bne_eq_false_iff_eq, Bool.not_eq_true', Bool.not_eq_false', Bool.and_eq_true, Bool.or_eq_true] at *; omega) : IntKind.wrap IntKind.i8 k = (1 : Int)))), tC (eT (eqI 1 true (by (simp only [w_i8, w_u8, w_i64, w_u64, decide_eq_true_eq, decide_eq_false_iff_not, beq_iff_eq, bne_iff_ne, beq_eq_false_iff_ne, bne_eq_false_iff_eq, Bool.not_eq_true', Bool.not_eq_false', Bool.and_eq_true, Bool.or_eq_true] at *; omega) : IntKind.wrap IntKind.i8 k = (1 : Int)))), tC (eqI 1 true (by (simp only [w_i8, w_u8, w_i64, w_u64, decide_eq_true_eq, decide_eq_false_iff_not, beq_iff_eq, bne_iff_ne, beq_eq_false_iff_ne, bne_eq_false_iff_eq, Bool.not_eq_true', Bool.not_eq_false', Bool.and_eq_true, Bool.or_eq_true] at *; omega) : IntKind.wrap IntKind.i8 k = (1 : Int))), tC (eT (leL 184 (decide_eq_false (Int.not_lt.2 hc)))), tC (eT (leL 184 (decide_eq_false (Int.not_lt.2 hc)))), tC (eT (leL 184 (decide_eq_false (Int.not_lt.2 hc)))), tC (eT (leL 184 (decide_eq_false (Int.not_lt.2 hc)))), tC (eT (leL 184 (decide_eq_false (Int.not_lt.2 hc)))), tC (leL 184 (decide_eq_false (Int.not_lt.2 hc)))] ++ [tC (decide_eq_true hd)]) (by kernel_rfl)).cast (by first | (simp only [xD, D.agg.injEq, List.cons.injEq, D.int.injEq, true_and, and_true]; exact low_or v0 v1 hh; done) | (exfalso; (try simp only [decide_eq_true_eq, decide_eq_false_iff_not, beq_iff_eq, beq_eq_false_iff_ne, bne_iff_ne, ne_eq] at *); first | omega | contradiction)) (by rfl)
theorem as4_ok (s : RawS) (k : Int) (k0 : 0 ≤ k) (k1 : k ≤ 31) (v0 : 0 ≤ s.code) (v1 : s.code ≤ 255) (cd nm : Int) (z0 z1 z2 z3 z4 z5 z6 z8 z9 : Ob)  : CallRun Try.prog 98 ([.ptr false 7 0, .int .i8 (IntKind.i8.wrap k), .agg [.int .i8 4, .int .u8 cd, .int .i8 nm]]) ([z0, z1, z2, z3, z4, z5, z6, .box [.int .i8 (RawS.w s), .bool  (RawS.long s), .int .u8 (RawS.code s), .int .i8 (RawS.r s), .int .i8 (RawS.m s), .int .i64 (RawS.disp s), .int .i64 (RawS.imm s), .int .i64 (RawS.small s), .int .i64 (RawS.near s), .int .i64 (RawS.jump s), .int .i8 (RawS.high s)], z8, z9]) (xD (IntKind.i8.wrap k) (RawS.w s) (RawS.m s) 0 0 0 (RawS.small s) 0) ([z0, z1, z2, z3, z4, z5, z6, .box [.int .i8 (RawS.w s), .bool  (RawS.long s), .int .u8 (RawS.code s), .int .i8 (RawS.r s), .int .i8 (RawS.m s), .int .i64 (RawS.disp s), .int .i64 (RawS.imm s), .int .i64 (RawS.small s), .int .i64 (RawS.near s), .int .i64 (RawS.jump s), .int .i8 (RawS.high s)], z8, z9, .dead, .dead, .dead]) := by
 exact (CallRun.of_eval (keep := [0, 1, 2, 3, 4, 5, 6, 7, 8, 9]) (d := (xD (IntKind.wrap IntKind.i8 k) (RawS.w s) (RawS.m s) 0 0 0 (RawS.small s) 0)) (s' := [z0, z1, z2, z3, z4, z5, z6, Ob.box [.int .i8 (RawS.w s), .bool (RawS.long s), .int .u8 (RawS.code s), .int .i8 (RawS.r s), .int .i8 (RawS.m s), .int .i64 (RawS.disp s), .int .i64 (RawS.imm s), .int .i64 (RawS.small s), .int .i64 (RawS.near s), .int .i64 (RawS.jump s), .int .i8 (RawS.high s)], z8, z9, Ob.dead, Ob.dead, Ob.dead]) mixed [tF, tF, tF, tF, tT] (by kernel_rfl)).cast (by first | (rfl; done) | (exfalso; (try simp only [decide_eq_true_eq, decide_eq_false_iff_not, beq_iff_eq, beq_eq_false_iff_ne, bne_iff_ne, ne_eq] at *); first | omega | contradiction)) (by rfl)
theorem as5_ok (s : RawS) (k : Int) (k0 : 0 ≤ k) (k1 : k ≤ 31) (v0 : 0 ≤ s.code) (v1 : s.code ≤ 255) (cd nm : Int) (z0 z1 z2 z3 z4 z5 z6 z8 z9 : Ob)  : CallRun Try.prog 98 ([.ptr false 7 0, .int .i8 (IntKind.i8.wrap k), .agg [.int .i8 5, .int .u8 cd, .int .i8 nm]]) ([z0, z1, z2, z3, z4, z5, z6, .box [.int .i8 (RawS.w s), .bool  (RawS.long s), .int .u8 (RawS.code s), .int .i8 (RawS.r s), .int .i8 (RawS.m s), .int .i64 (RawS.disp s), .int .i64 (RawS.imm s), .int .i64 (RawS.small s), .int .i64 (RawS.near s), .int .i64 (RawS.jump s), .int .i8 (RawS.high s)], z8, z9]) (xD (IntKind.i8.wrap k) (RawS.w s) (RawS.m s) 0 0 0 0 0) ([z0, z1, z2, z3, z4, z5, z6, .box [.int .i8 (RawS.w s), .bool  (RawS.long s), .int .u8 (RawS.code s), .int .i8 (RawS.r s), .int .i8 (RawS.m s), .int .i64 (RawS.disp s), .int .i64 (RawS.imm s), .int .i64 (RawS.small s), .int .i64 (RawS.near s), .int .i64 (RawS.jump s), .int .i8 (RawS.high s)], z8, z9, .dead, .dead, .dead]) := by
 exact (CallRun.of_eval (keep := [0, 1, 2, 3, 4, 5, 6, 7, 8, 9]) (d := (xD (IntKind.wrap IntKind.i8 k) (RawS.w s) (RawS.m s) 0 0 0 0 0)) (s' := [z0, z1, z2, z3, z4, z5, z6, Ob.box [.int .i8 (RawS.w s), .bool (RawS.long s), .int .u8 (RawS.code s), .int .i8 (RawS.r s), .int .i8 (RawS.m s), .int .i64 (RawS.disp s), .int .i64 (RawS.imm s), .int .i64 (RawS.small s), .int .i64 (RawS.near s), .int .i64 (RawS.jump s), .int .i8 (RawS.high s)], z8, z9, Ob.dead, Ob.dead, Ob.dead]) mixed [tF, tF, tF, tF, tF, tT] (by kernel_rfl)).cast (by first | (rfl; done) | (exfalso; (try simp only [decide_eq_true_eq, decide_eq_false_iff_not, beq_iff_eq, beq_eq_false_iff_ne, bne_iff_ne, ne_eq] at *); first | omega | contradiction)) (by rfl)
theorem as6_ok (s : RawS) (k : Int) (k0 : 0 ≤ k) (k1 : k ≤ 31) (v0 : 0 ≤ s.code) (v1 : s.code ≤ 255) (cd nm : Int) (z0 z1 z2 z3 z4 z5 z6 z8 z9 : Ob)  : CallRun Try.prog 98 ([.ptr false 7 0, .int .i8 (IntKind.i8.wrap k), .agg [.int .i8 6, .int .u8 cd, .int .i8 nm]]) ([z0, z1, z2, z3, z4, z5, z6, .box [.int .i8 (RawS.w s), .bool  (RawS.long s), .int .u8 (RawS.code s), .int .i8 (RawS.r s), .int .i8 (RawS.m s), .int .i64 (RawS.disp s), .int .i64 (RawS.imm s), .int .i64 (RawS.small s), .int .i64 (RawS.near s), .int .i64 (RawS.jump s), .int .i8 (RawS.high s)], z8, z9]) (xD (IntKind.i8.wrap k) (RawS.w s) (RawS.r s) (RawS.m s) 0 0 0 (signed1 (s.code - cd))) ([z0, z1, z2, z3, z4, z5, z6, .box [.int .i8 (RawS.w s), .bool  (RawS.long s), .int .u8 (RawS.code s), .int .i8 (RawS.r s), .int .i8 (RawS.m s), .int .i64 (RawS.disp s), .int .i64 (RawS.imm s), .int .i64 (RawS.small s), .int .i64 (RawS.near s), .int .i64 (RawS.jump s), .int .i8 (RawS.high s)], z8, z9, .dead, .dead, .dead]) := by
 exact (CallRun.of_eval (keep := [0, 1, 2, 3, 4, 5, 6, 7, 8, 9]) (d := (xD (IntKind.wrap IntKind.i8 k) (RawS.w s) (RawS.r s) (RawS.m s) 0 0 0 (IntKind.wrap IntKind.i8 (IntKind.wrap IntKind.u8 (RawS.code s - cd))))) (s' := [z0, z1, z2, z3, z4, z5, z6, Ob.box [.int .i8 (RawS.w s), .bool (RawS.long s), .int .u8 (RawS.code s), .int .i8 (RawS.r s), .int .i8 (RawS.m s), .int .i64 (RawS.disp s), .int .i64 (RawS.imm s), .int .i64 (RawS.small s), .int .i64 (RawS.near s), .int .i64 (RawS.jump s), .int .i8 (RawS.high s)], z8, z9, Ob.dead, Ob.dead, Ob.dead]) mixed [tF, tF, tT] (by kernel_rfl)).cast (by first | (simp only [xD, D.agg.injEq, List.cons.injEq, D.int.injEq, true_and, and_true]; rw [w_i8, w_u8, signed1]; omega; done) | (exfalso; (try simp only [decide_eq_true_eq, decide_eq_false_iff_not, beq_iff_eq, beq_eq_false_iff_ne, bne_iff_ne, ne_eq] at *); first | omega | contradiction)) (by rfl)
theorem as7t_ok (s : RawS) (k : Int) (k0 : 0 ≤ k) (k1 : k ≤ 31) (v0 : 0 ≤ s.code) (v1 : s.code ≤ 255) (cd nm : Int) (z0 z1 z2 z3 z4 z5 z6 z8 z9 : Ob) (hl : s.long = true)  : CallRun Try.prog 98 ([.ptr false 7 0, .int .i8 (IntKind.i8.wrap k), .agg [.int .i8 7, .int .u8 cd, .int .i8 nm]]) ([z0, z1, z2, z3, z4, z5, z6, .box [.int .i8 (RawS.w s), .bool  (RawS.long s), .int .u8 (RawS.code s), .int .i8 (RawS.r s), .int .i8 (RawS.m s), .int .i64 (RawS.disp s), .int .i64 (RawS.imm s), .int .i64 (RawS.small s), .int .i64 (RawS.near s), .int .i64 (RawS.jump s), .int .i8 (RawS.high s)], z8, z9]) (xD (IntKind.i8.wrap k) (if s.code % 2 = 1 then 16 else 8) (RawS.r s) 0 (RawS.m s) (RawS.disp s) 0 0) ([z0, z1, z2, z3, z4, z5, z6, .box [.int .i8 (RawS.w s), .bool  (RawS.long s), .int .u8 (RawS.code s), .int .i8 (RawS.r s), .int .i8 (RawS.m s), .int .i64 (RawS.disp s), .int .i64 (RawS.imm s), .int .i64 (RawS.small s), .int .i64 (RawS.near s), .int .i64 (RawS.jump s), .int .i8 (RawS.high s)], z8, z9, .dead, .dead, .dead]) := by
 exact (CallRun.of_eval (keep := [0, 1, 2, 3, 4, 5, 6, 7, 8, 9]) (d := (xD (IntKind.wrap IntKind.i8 k) (IntKind.wrap IntKind.i8 ((8 : Int) * (2 : Int) ^ min (Int.toNat (IntKind.wrap IntKind.u8 (↑(BitVec.toNat (BitVec.ofInt (8 : Nat) (RawS.code s) &&& BitVec.ofInt (8 : Nat) (1 : Int))) : Int))) (8 : Nat))) (RawS.r s) 0 (RawS.m s) (RawS.disp s) 0 0)) (s' := [z0, z1, z2, z3, z4, z5, z6, Ob.box [.int .i8 (RawS.w s), .bool (RawS.long s), .int .u8 (RawS.code s), .int .i8 (RawS.r s), .int .i8 (RawS.m s), .int .i64 (RawS.disp s), .int .i64 (RawS.imm s), .int .i64 (RawS.small s), .int .i64 (RawS.near s), .int .i64 (RawS.jump s), .int .i8 (RawS.high s)], z8, z9, Ob.dead, Ob.dead, Ob.dead]) mixed [tF, tF, tF, tF, tF, tF, tT, tC hl, tT] (by kernel_rfl)).cast (by first | (simp only [xD, D.agg.injEq, List.cons.injEq, D.int.injEq, true_and, and_true]; exact shl_one v0 v1; done) | (exfalso; (try simp only [decide_eq_true_eq, decide_eq_false_iff_not, beq_iff_eq, beq_eq_false_iff_ne, bne_iff_ne, ne_eq] at *); first | omega | contradiction)) (by rfl)
theorem as7f_ok (s : RawS) (k : Int) (k0 : 0 ≤ k) (k1 : k ≤ 31) (v0 : 0 ≤ s.code) (v1 : s.code ≤ 255) (cd nm : Int) (z0 z1 z2 z3 z4 z5 z6 z8 z9 : Ob) (hl : s.long = false)  : CallRun Try.prog 98 ([.ptr false 7 0, .int .i8 (IntKind.i8.wrap k), .agg [.int .i8 7, .int .u8 cd, .int .i8 nm]]) ([z0, z1, z2, z3, z4, z5, z6, .box [.int .i8 (RawS.w s), .bool  (RawS.long s), .int .u8 (RawS.code s), .int .i8 (RawS.r s), .int .i8 (RawS.m s), .int .i64 (RawS.disp s), .int .i64 (RawS.imm s), .int .i64 (RawS.small s), .int .i64 (RawS.near s), .int .i64 (RawS.jump s), .int .i8 (RawS.high s)], z8, z9]) (xD (IntKind.i8.wrap k) (RawS.w s) (RawS.r s) 0 (RawS.m s) (RawS.disp s) 0 0) ([z0, z1, z2, z3, z4, z5, z6, .box [.int .i8 (RawS.w s), .bool  (RawS.long s), .int .u8 (RawS.code s), .int .i8 (RawS.r s), .int .i8 (RawS.m s), .int .i64 (RawS.disp s), .int .i64 (RawS.imm s), .int .i64 (RawS.small s), .int .i64 (RawS.near s), .int .i64 (RawS.jump s), .int .i8 (RawS.high s)], z8, z9, .dead, .dead, .dead]) := by
 exact (CallRun.of_eval (keep := [0, 1, 2, 3, 4, 5, 6, 7, 8, 9]) (d := (xD (IntKind.wrap IntKind.i8 k) (RawS.w s) (RawS.r s) 0 (RawS.m s) (RawS.disp s) 0 0)) (s' := [z0, z1, z2, z3, z4, z5, z6, Ob.box [.int .i8 (RawS.w s), .bool (RawS.long s), .int .u8 (RawS.code s), .int .i8 (RawS.r s), .int .i8 (RawS.m s), .int .i64 (RawS.disp s), .int .i64 (RawS.imm s), .int .i64 (RawS.small s), .int .i64 (RawS.near s), .int .i64 (RawS.jump s), .int .i8 (RawS.high s)], z8, z9, Ob.dead, Ob.dead, Ob.dead]) mixed [tF, tF, tF, tF, tF, tF, tT, tC hl] (by kernel_rfl)).cast (by first | (rfl; done) | (exfalso; (try simp only [decide_eq_true_eq, decide_eq_false_iff_not, beq_iff_eq, beq_eq_false_iff_ne, bne_iff_ne, ne_eq] at *); first | omega | contradiction)) (by rfl)
theorem as8t_ok (s : RawS) (k : Int) (k0 : 0 ≤ k) (k1 : k ≤ 31) (v0 : 0 ≤ s.code) (v1 : s.code ≤ 255) (cd nm : Int) (z0 z1 z2 z3 z4 z5 z6 z8 z9 : Ob) (hc : s.code = 136)  : CallRun Try.prog 98 ([.ptr false 7 0, .int .i8 (IntKind.i8.wrap k), .agg [.int .i8 8, .int .u8 cd, .int .i8 nm]]) ([z0, z1, z2, z3, z4, z5, z6, .box [.int .i8 (RawS.w s), .bool  (RawS.long s), .int .u8 (RawS.code s), .int .i8 (RawS.r s), .int .i8 (RawS.m s), .int .i64 (RawS.disp s), .int .i64 (RawS.imm s), .int .i64 (RawS.small s), .int .i64 (RawS.near s), .int .i64 (RawS.jump s), .int .i8 (RawS.high s)], z8, z9]) (xD (IntKind.i8.wrap k) 8 0 (RawS.r s) (RawS.m s) (RawS.disp s) 0 0) ([z0, z1, z2, z3, z4, z5, z6, .box [.int .i8 (RawS.w s), .bool  (RawS.long s), .int .u8 (RawS.code s), .int .i8 (RawS.r s), .int .i8 (RawS.m s), .int .i64 (RawS.disp s), .int .i64 (RawS.imm s), .int .i64 (RawS.small s), .int .i64 (RawS.near s), .int .i64 (RawS.jump s), .int .i8 (RawS.high s)], z8, z9, .dead, .dead, .dead]) := by
 by_cases h0 : RawS.code s = 136
 ·skip
  exact (CallRun.of_eval (keep := [0, 1, 2, 3, 4, 5, 6, 7, 8, 9]) (d := (xD (IntKind.wrap IntKind.i8 k) 8 0 (RawS.r s) (RawS.m s) (RawS.disp s) 0 0)) (s' := [z0, z1, z2, z3, z4, z5, z6, Ob.box [.int .i8 (RawS.w s), .bool (RawS.long s), .int .u8 (RawS.code s), .int .i8 (RawS.r s), .int .i8 (RawS.m s), .int .i64 (RawS.disp s), .int .i64 (RawS.imm s), .int .i64 (RawS.small s), .int .i64 (RawS.near s), .int .i64 (RawS.jump s), .int .i8 (RawS.high s)], z8, z9, Ob.dead, Ob.dead, Ob.dead]) mixed [tF, tF, tF, tF, tF, tF, tF, tT, tC (eqI 136 true h0)] (by kernel_rfl)).cast (by first | (rfl; done) | (exfalso; (try simp only [decide_eq_true_eq, decide_eq_false_iff_not, beq_iff_eq, beq_eq_false_iff_ne, bne_iff_ne, ne_eq] at *); first | omega | contradiction)) (by rfl)
 ·skip
  exact (CallRun.of_eval (keep := [0, 1, 2, 3, 4, 5, 6, 7, 8, 9]) (d := (xD (IntKind.wrap IntKind.i8 k) (RawS.w s) 0 (RawS.r s) (RawS.m s) (RawS.disp s) 0 0)) (s' := [z0, z1, z2, z3, z4, z5, z6, Ob.box [.int .i8 (RawS.w s), .bool (RawS.long s), .int .u8 (RawS.code s), .int .i8 (RawS.r s), .int .i8 (RawS.m s), .int .i64 (RawS.disp s), .int .i64 (RawS.imm s), .int .i64 (RawS.small s), .int .i64 (RawS.near s), .int .i64 (RawS.jump s), .int .i8 (RawS.high s)], z8, z9, Ob.dead, Ob.dead, Ob.dead]) mixed [tF, tF, tF, tF, tF, tF, tF, tT, tC (neOf h0)] (by kernel_rfl)).cast (by first | (rfl; done) | (exfalso; (try simp only [decide_eq_true_eq, decide_eq_false_iff_not, beq_iff_eq, beq_eq_false_iff_ne, bne_iff_ne, ne_eq] at *); first | omega | contradiction)) (by rfl)
theorem as8f_ok (s : RawS) (k : Int) (k0 : 0 ≤ k) (k1 : k ≤ 31) (v0 : 0 ≤ s.code) (v1 : s.code ≤ 255) (cd nm : Int) (z0 z1 z2 z3 z4 z5 z6 z8 z9 : Ob) (hc : ¬ s.code = 136)  : CallRun Try.prog 98 ([.ptr false 7 0, .int .i8 (IntKind.i8.wrap k), .agg [.int .i8 8, .int .u8 cd, .int .i8 nm]]) ([z0, z1, z2, z3, z4, z5, z6, .box [.int .i8 (RawS.w s), .bool  (RawS.long s), .int .u8 (RawS.code s), .int .i8 (RawS.r s), .int .i8 (RawS.m s), .int .i64 (RawS.disp s), .int .i64 (RawS.imm s), .int .i64 (RawS.small s), .int .i64 (RawS.near s), .int .i64 (RawS.jump s), .int .i8 (RawS.high s)], z8, z9]) (xD (IntKind.i8.wrap k) (RawS.w s) 0 (RawS.r s) (RawS.m s) (RawS.disp s) 0 0) ([z0, z1, z2, z3, z4, z5, z6, .box [.int .i8 (RawS.w s), .bool  (RawS.long s), .int .u8 (RawS.code s), .int .i8 (RawS.r s), .int .i8 (RawS.m s), .int .i64 (RawS.disp s), .int .i64 (RawS.imm s), .int .i64 (RawS.small s), .int .i64 (RawS.near s), .int .i64 (RawS.jump s), .int .i8 (RawS.high s)], z8, z9, .dead, .dead, .dead]) := by
 exact (CallRun.of_eval (keep := [0, 1, 2, 3, 4, 5, 6, 7, 8, 9]) (d := (xD (IntKind.wrap IntKind.i8 k) (RawS.w s) 0 (RawS.r s) (RawS.m s) (RawS.disp s) 0 0)) (s' := [z0, z1, z2, z3, z4, z5, z6, Ob.box [.int .i8 (RawS.w s), .bool (RawS.long s), .int .u8 (RawS.code s), .int .i8 (RawS.r s), .int .i8 (RawS.m s), .int .i64 (RawS.disp s), .int .i64 (RawS.imm s), .int .i64 (RawS.small s), .int .i64 (RawS.near s), .int .i64 (RawS.jump s), .int .i8 (RawS.high s)], z8, z9, Ob.dead, Ob.dead, Ob.dead]) mixed [tF, tF, tF, tF, tF, tF, tF, tT, tC (by (simp only [w_i8, w_u8, w_i64, w_u64, decide_eq_true_eq, decide_eq_false_iff_not, beq_iff_eq, bne_iff_ne, beq_eq_false_iff_ne, bne_eq_false_iff_eq, Bool.not_eq_true', Bool.not_eq_false', Bool.and_eq_true, Bool.or_eq_true] at *; omega) : (RawS.code s == (136 : Int)) = false)] (by kernel_rfl)).cast (by first | (rfl; done) | (exfalso; (try simp only [decide_eq_true_eq, decide_eq_false_iff_not, beq_iff_eq, beq_eq_false_iff_ne, bne_iff_ne, ne_eq] at *); first | omega | contradiction)) (by rfl)
theorem as9l_ok (s : RawS) (k : Int) (k0 : 0 ≤ k) (k1 : k ≤ 31) (v0 : 0 ≤ s.code) (v1 : s.code ≤ 255) (cd nm : Int) (z0 z1 z2 z3 z4 z5 z6 z8 z9 : Ob) (hl : s.long = true)  : CallRun Try.prog 98 ([.ptr false 7 0, .int .i8 (IntKind.i8.wrap k), .agg [.int .i8 9, .int .u8 cd, .int .i8 nm]]) ([z0, z1, z2, z3, z4, z5, z6, .box [.int .i8 (RawS.w s), .bool  (RawS.long s), .int .u8 (RawS.code s), .int .i8 (RawS.r s), .int .i8 (RawS.m s), .int .i64 (RawS.disp s), .int .i64 (RawS.imm s), .int .i64 (RawS.small s), .int .i64 (RawS.near s), .int .i64 (RawS.jump s), .int .i8 (RawS.high s)], z8, z9]) (xD (IntKind.i8.wrap k) 32 0 0 0 0 (RawS.near s) 0) ([z0, z1, z2, z3, z4, z5, z6, .box [.int .i8 (RawS.w s), .bool  (RawS.long s), .int .u8 (RawS.code s), .int .i8 (RawS.r s), .int .i8 (RawS.m s), .int .i64 (RawS.disp s), .int .i64 (RawS.imm s), .int .i64 (RawS.small s), .int .i64 (RawS.near s), .int .i64 (RawS.jump s), .int .i8 (RawS.high s)], z8, z9, .dead, .dead, .dead]) := by
 exact (CallRun.of_eval (keep := [0, 1, 2, 3, 4, 5, 6, 7, 8, 9]) (d := (xD (IntKind.wrap IntKind.i8 k) 32 0 0 0 0 (RawS.near s) 0)) (s' := [z0, z1, z2, z3, z4, z5, z6, Ob.box [.int .i8 (RawS.w s), .bool (RawS.long s), .int .u8 (RawS.code s), .int .i8 (RawS.r s), .int .i8 (RawS.m s), .int .i64 (RawS.disp s), .int .i64 (RawS.imm s), .int .i64 (RawS.small s), .int .i64 (RawS.near s), .int .i64 (RawS.jump s), .int .i8 (RawS.high s)], z8, z9, Ob.dead, Ob.dead, Ob.dead]) mixed ([tF, tF, tF, tF, tF, tF, tF, tF, tT, tT, tF, tC (eT (nt hl)), tC (eT (nt hl)), tC (eT (nt hl)), tC (eT (nt hl)), tC (eT (nt hl))] ++ [tC (nt hl), tF]) (by kernel_rfl)).cast (by first | (rfl; done) | (exfalso; (try simp only [decide_eq_true_eq, decide_eq_false_iff_not, beq_iff_eq, beq_eq_false_iff_ne, bne_iff_ne, ne_eq] at *); first | omega | contradiction)) (by rfl)
theorem as9n_ok (s : RawS) (k : Int) (k0 : 0 ≤ k) (k1 : k ≤ 31) (v0 : 0 ≤ s.code) (v1 : s.code ≤ 255) (cd nm : Int) (z0 z1 z2 z3 z4 z5 z6 z8 z9 : Ob) (hl : s.long = false) (hc : s.code = 233)  : CallRun Try.prog 98 ([.ptr false 7 0, .int .i8 (IntKind.i8.wrap k), .agg [.int .i8 9, .int .u8 cd, .int .i8 nm]]) ([z0, z1, z2, z3, z4, z5, z6, .box [.int .i8 (RawS.w s), .bool  (RawS.long s), .int .u8 (RawS.code s), .int .i8 (RawS.r s), .int .i8 (RawS.m s), .int .i64 (RawS.disp s), .int .i64 (RawS.imm s), .int .i64 (RawS.small s), .int .i64 (RawS.near s), .int .i64 (RawS.jump s), .int .i8 (RawS.high s)], z8, z9]) (xD (IntKind.i8.wrap k) 32 0 0 0 0 (RawS.near s) 0) ([z0, z1, z2, z3, z4, z5, z6, .box [.int .i8 (RawS.w s), .bool  (RawS.long s), .int .u8 (RawS.code s), .int .i8 (RawS.r s), .int .i8 (RawS.m s), .int .i64 (RawS.disp s), .int .i64 (RawS.imm s), .int .i64 (RawS.small s), .int .i64 (RawS.near s), .int .i64 (RawS.jump s), .int .i8 (RawS.high s)], z8, z9, .dead, .dead, .dead]) := by
 by_cases h0 : RawS.code s = 233
 ·skip
  exact (CallRun.of_eval (keep := [0, 1, 2, 3, 4, 5, 6, 7, 8, 9]) (d := (xD (IntKind.wrap IntKind.i8 k) 32 0 0 0 0 (RawS.near s) 0)) (s' := [z0, z1, z2, z3, z4, z5, z6, Ob.box [.int .i8 (RawS.w s), .bool (RawS.long s), .int .u8 (RawS.code s), .int .i8 (RawS.r s), .int .i8 (RawS.m s), .int .i64 (RawS.disp s), .int .i64 (RawS.imm s), .int .i64 (RawS.small s), .int .i64 (RawS.near s), .int .i64 (RawS.jump s), .int .i8 (RawS.high s)], z8, z9, Ob.dead, Ob.dead, Ob.dead]) mixed ([tF, tF, tF, tF, tF, tF, tF, tF, tT, tT, tF, tC (eT (nt hl)), tC (eT (nt hl)), tC (eT (nt hl)), tC (eT (nt hl)), tC (eT (nt hl))] ++ [tC (nt hl), tC (nt (eqI 233 true h0))]) (by kernel_rfl)).cast (by first | (rfl; done) | (exfalso; (try simp only [decide_eq_true_eq, decide_eq_false_iff_not, beq_iff_eq, beq_eq_false_iff_ne, bne_iff_ne, ne_eq] at *); first | omega | contradiction)) (by rfl)
 ·skip
  exact (CallRun.of_eval (keep := [0, 1, 2, 3, 4, 5, 6, 7, 8, 9]) (d := (xD (IntKind.wrap IntKind.i8 k) 8 0 0 0 0 (RawS.jump s) 0)) (s' := [z0, z1, z2, z3, z4, z5, z6, Ob.box [.int .i8 (RawS.w s), .bool (RawS.long s), .int .u8 (RawS.code s), .int .i8 (RawS.r s), .int .i8 (RawS.m s), .int .i64 (RawS.disp s), .int .i64 (RawS.imm s), .int .i64 (RawS.small s), .int .i64 (RawS.near s), .int .i64 (RawS.jump s), .int .i8 (RawS.high s)], z8, z9, Ob.dead, Ob.dead, Ob.dead]) mixed ([tF, tF, tF, tF, tF, tF, tF, tF, tT, tT, tF, tC (eT (nt hl)), tC (eT (nt hl)), tC (eT (nt hl)), tC (eT (nt hl)), tC (eT (nt hl))] ++ [tC (nt hl), tC (nt (neOf h0))]) (by kernel_rfl)).cast (by first | (rfl; done) | (exfalso; (try simp only [decide_eq_true_eq, decide_eq_false_iff_not, beq_iff_eq, beq_eq_false_iff_ne, bne_iff_ne, ne_eq] at *); first | omega | contradiction)) (by rfl)
theorem as9s_ok (s : RawS) (k : Int) (k0 : 0 ≤ k) (k1 : k ≤ 31) (v0 : 0 ≤ s.code) (v1 : s.code ≤ 255) (cd nm : Int) (z0 z1 z2 z3 z4 z5 z6 z8 z9 : Ob) (hl : s.long = false) (hc : ¬ s.code = 233)  : CallRun Try.prog 98 ([.ptr false 7 0, .int .i8 (IntKind.i8.wrap k), .agg [.int .i8 9, .int .u8 cd, .int .i8 nm]]) ([z0, z1, z2, z3, z4, z5, z6, .box [.int .i8 (RawS.w s), .bool  (RawS.long s), .int .u8 (RawS.code s), .int .i8 (RawS.r s), .int .i8 (RawS.m s), .int .i64 (RawS.disp s), .int .i64 (RawS.imm s), .int .i64 (RawS.small s), .int .i64 (RawS.near s), .int .i64 (RawS.jump s), .int .i8 (RawS.high s)], z8, z9]) (xD (IntKind.i8.wrap k) 8 0 0 0 0 (RawS.jump s) 0) ([z0, z1, z2, z3, z4, z5, z6, .box [.int .i8 (RawS.w s), .bool  (RawS.long s), .int .u8 (RawS.code s), .int .i8 (RawS.r s), .int .i8 (RawS.m s), .int .i64 (RawS.disp s), .int .i64 (RawS.imm s), .int .i64 (RawS.small s), .int .i64 (RawS.near s), .int .i64 (RawS.jump s), .int .i8 (RawS.high s)], z8, z9, .dead, .dead, .dead]) := by
 exact (CallRun.of_eval (keep := [0, 1, 2, 3, 4, 5, 6, 7, 8, 9]) (d := (xD (IntKind.wrap IntKind.i8 k) 8 0 0 0 0 (RawS.jump s) 0)) (s' := [z0, z1, z2, z3, z4, z5, z6, Ob.box [.int .i8 (RawS.w s), .bool (RawS.long s), .int .u8 (RawS.code s), .int .i8 (RawS.r s), .int .i8 (RawS.m s), .int .i64 (RawS.disp s), .int .i64 (RawS.imm s), .int .i64 (RawS.small s), .int .i64 (RawS.near s), .int .i64 (RawS.jump s), .int .i8 (RawS.high s)], z8, z9, Ob.dead, Ob.dead, Ob.dead]) mixed ([tF, tF, tF, tF, tF, tF, tF, tF, tT, tT, tF, tC (eT (nt hl)), tC (eT (nt hl)), tC (eT (nt hl)), tC (eT (nt hl)), tC (eT (nt hl))] ++ [tC (nt hl), tC (nt (by (simp only [w_i8, w_u8, w_i64, w_u64, decide_eq_true_eq, decide_eq_false_iff_not, beq_iff_eq, bne_iff_ne, beq_eq_false_iff_ne, bne_eq_false_iff_eq, Bool.not_eq_true', Bool.not_eq_false', Bool.and_eq_true, Bool.or_eq_true] at *; omega) : (RawS.code s == (233 : Int)) = false))]) (by kernel_rfl)).cast (by first | (rfl; done) | (exfalso; (try simp only [decide_eq_true_eq, decide_eq_false_iff_not, beq_iff_eq, beq_eq_false_iff_ne, bne_iff_ne, ne_eq] at *); first | omega | contradiction)) (by rfl)
theorem as10l_ok (s : RawS) (k : Int) (k0 : 0 ≤ k) (k1 : k ≤ 31) (v0 : 0 ≤ s.code) (v1 : s.code ≤ 255) (cd nm : Int) (z0 z1 z2 z3 z4 z5 z6 z8 z9 : Ob) (hl : s.long = true)  : CallRun Try.prog 98 ([.ptr false 7 0, .int .i8 (IntKind.i8.wrap k), .agg [.int .i8 10, .int .u8 cd, .int .i8 nm]]) ([z0, z1, z2, z3, z4, z5, z6, .box [.int .i8 (RawS.w s), .bool  (RawS.long s), .int .u8 (RawS.code s), .int .i8 (RawS.r s), .int .i8 (RawS.m s), .int .i64 (RawS.disp s), .int .i64 (RawS.imm s), .int .i64 (RawS.small s), .int .i64 (RawS.near s), .int .i64 (RawS.jump s), .int .i8 (RawS.high s)], z8, z9]) (xD (IntKind.i8.wrap k) 32 0 0 0 0 (RawS.near s) (s.code % 16)) ([z0, z1, z2, z3, z4, z5, z6, .box [.int .i8 (RawS.w s), .bool  (RawS.long s), .int .u8 (RawS.code s), .int .i8 (RawS.r s), .int .i8 (RawS.m s), .int .i64 (RawS.disp s), .int .i64 (RawS.imm s), .int .i64 (RawS.small s), .int .i64 (RawS.near s), .int .i64 (RawS.jump s), .int .i8 (RawS.high s)], z8, z9, .dead, .dead, .dead]) := by
 exact (CallRun.of_eval (keep := [0, 1, 2, 3, 4, 5, 6, 7, 8, 9]) (d := (xD (IntKind.wrap IntKind.i8 k) 32 0 0 0 0 (RawS.near s) (IntKind.wrap IntKind.i8 (IntKind.wrap IntKind.u8 (↑(BitVec.toNat (BitVec.ofInt (8 : Nat) (RawS.code s) &&& BitVec.ofInt (8 : Nat) (15 : Int))) : Int))))) (s' := [z0, z1, z2, z3, z4, z5, z6, Ob.box [.int .i8 (RawS.w s), .bool (RawS.long s), .int .u8 (RawS.code s), .int .i8 (RawS.r s), .int .i8 (RawS.m s), .int .i64 (RawS.disp s), .int .i64 (RawS.imm s), .int .i64 (RawS.small s), .int .i64 (RawS.near s), .int .i64 (RawS.jump s), .int .i8 (RawS.high s)], z8, z9, Ob.dead, Ob.dead, Ob.dead]) mixed ([tF, tF, tF, tF, tF, tF, tF, tF, tF, tT, tT, tC (eT (nt hl)), tC (eT (nt hl)), tC (eT (nt hl)), tC (eT (nt hl)), tC (eT (nt hl))] ++ [tC (nt hl), tF]) (by kernel_rfl)).cast (by first | (simp only [xD, D.agg.injEq, List.cons.injEq, D.int.injEq, true_and, and_true]; exact low15 v0 v1; done) | (exfalso; (try simp only [decide_eq_true_eq, decide_eq_false_iff_not, beq_iff_eq, beq_eq_false_iff_ne, bne_iff_ne, ne_eq] at *); first | omega | contradiction)) (by rfl)
theorem as10n_ok (s : RawS) (k : Int) (k0 : 0 ≤ k) (k1 : k ≤ 31) (v0 : 0 ≤ s.code) (v1 : s.code ≤ 255) (cd nm : Int) (z0 z1 z2 z3 z4 z5 z6 z8 z9 : Ob) (hl : s.long = false) (hc : s.code = 233)  : CallRun Try.prog 98 ([.ptr false 7 0, .int .i8 (IntKind.i8.wrap k), .agg [.int .i8 10, .int .u8 cd, .int .i8 nm]]) ([z0, z1, z2, z3, z4, z5, z6, .box [.int .i8 (RawS.w s), .bool  (RawS.long s), .int .u8 (RawS.code s), .int .i8 (RawS.r s), .int .i8 (RawS.m s), .int .i64 (RawS.disp s), .int .i64 (RawS.imm s), .int .i64 (RawS.small s), .int .i64 (RawS.near s), .int .i64 (RawS.jump s), .int .i8 (RawS.high s)], z8, z9]) (xD (IntKind.i8.wrap k) 32 0 0 0 0 (RawS.near s) (s.code % 16)) ([z0, z1, z2, z3, z4, z5, z6, .box [.int .i8 (RawS.w s), .bool  (RawS.long s), .int .u8 (RawS.code s), .int .i8 (RawS.r s), .int .i8 (RawS.m s), .int .i64 (RawS.disp s), .int .i64 (RawS.imm s), .int .i64 (RawS.small s), .int .i64 (RawS.near s), .int .i64 (RawS.jump s), .int .i8 (RawS.high s)], z8, z9, .dead, .dead, .dead]) := by
 by_cases h0 : RawS.code s = 233
 ·skip
  exact (CallRun.of_eval (keep := [0, 1, 2, 3, 4, 5, 6, 7, 8, 9]) (d := (xD (IntKind.wrap IntKind.i8 k) 32 0 0 0 0 (RawS.near s) (IntKind.wrap IntKind.i8 (IntKind.wrap IntKind.u8 (↑(BitVec.toNat (BitVec.ofInt (8 : Nat) (RawS.code s) &&& BitVec.ofInt (8 : Nat) (15 : Int))) : Int))))) (s' := [z0, z1, z2, z3, z4, z5, z6, Ob.box [.int .i8 (RawS.w s), .bool (RawS.long s), .int .u8 (RawS.code s), .int .i8 (RawS.r s), .int .i8 (RawS.m s), .int .i64 (RawS.disp s), .int .i64 (RawS.imm s), .int .i64 (RawS.small s), .int .i64 (RawS.near s), .int .i64 (RawS.jump s), .int .i8 (RawS.high s)], z8, z9, Ob.dead, Ob.dead, Ob.dead]) mixed ([tF, tF, tF, tF, tF, tF, tF, tF, tF, tT, tT, tC (eT (nt hl)), tC (eT (nt hl)), tC (eT (nt hl)), tC (eT (nt hl)), tC (eT (nt hl))] ++ [tC (nt hl), tC (nt (eqI 233 true h0))]) (by kernel_rfl)).cast (by first | (simp only [xD, D.agg.injEq, List.cons.injEq, D.int.injEq, true_and, and_true]; exact low15 v0 v1; done) | (exfalso; (try simp only [decide_eq_true_eq, decide_eq_false_iff_not, beq_iff_eq, beq_eq_false_iff_ne, bne_iff_ne, ne_eq] at *); first | omega | contradiction)) (by rfl)
 ·skip
  exact (CallRun.of_eval (keep := [0, 1, 2, 3, 4, 5, 6, 7, 8, 9]) (d := (xD (IntKind.wrap IntKind.i8 k) 8 0 0 0 0 (RawS.jump s) (IntKind.wrap IntKind.i8 (IntKind.wrap IntKind.u8 (↑(BitVec.toNat (BitVec.ofInt (8 : Nat) (RawS.code s) &&& BitVec.ofInt (8 : Nat) (15 : Int))) : Int))))) (s' := [z0, z1, z2, z3, z4, z5, z6, Ob.box [.int .i8 (RawS.w s), .bool (RawS.long s), .int .u8 (RawS.code s), .int .i8 (RawS.r s), .int .i8 (RawS.m s), .int .i64 (RawS.disp s), .int .i64 (RawS.imm s), .int .i64 (RawS.small s), .int .i64 (RawS.near s), .int .i64 (RawS.jump s), .int .i8 (RawS.high s)], z8, z9, Ob.dead, Ob.dead, Ob.dead]) mixed ([tF, tF, tF, tF, tF, tF, tF, tF, tF, tT, tT, tC (eT (nt hl)), tC (eT (nt hl)), tC (eT (nt hl)), tC (eT (nt hl)), tC (eT (nt hl))] ++ [tC (nt hl), tC (nt (neOf h0))]) (by kernel_rfl)).cast (by first | (simp only [xD, D.agg.injEq, List.cons.injEq, D.int.injEq, true_and, and_true]; exact low15 v0 v1; done) | (exfalso; (try simp only [decide_eq_true_eq, decide_eq_false_iff_not, beq_iff_eq, beq_eq_false_iff_ne, bne_iff_ne, ne_eq] at *); first | omega | contradiction)) (by rfl)
theorem as10s_ok (s : RawS) (k : Int) (k0 : 0 ≤ k) (k1 : k ≤ 31) (v0 : 0 ≤ s.code) (v1 : s.code ≤ 255) (cd nm : Int) (z0 z1 z2 z3 z4 z5 z6 z8 z9 : Ob) (hl : s.long = false) (hc : ¬ s.code = 233)  : CallRun Try.prog 98 ([.ptr false 7 0, .int .i8 (IntKind.i8.wrap k), .agg [.int .i8 10, .int .u8 cd, .int .i8 nm]]) ([z0, z1, z2, z3, z4, z5, z6, .box [.int .i8 (RawS.w s), .bool  (RawS.long s), .int .u8 (RawS.code s), .int .i8 (RawS.r s), .int .i8 (RawS.m s), .int .i64 (RawS.disp s), .int .i64 (RawS.imm s), .int .i64 (RawS.small s), .int .i64 (RawS.near s), .int .i64 (RawS.jump s), .int .i8 (RawS.high s)], z8, z9]) (xD (IntKind.i8.wrap k) 8 0 0 0 0 (RawS.jump s) (s.code % 16)) ([z0, z1, z2, z3, z4, z5, z6, .box [.int .i8 (RawS.w s), .bool  (RawS.long s), .int .u8 (RawS.code s), .int .i8 (RawS.r s), .int .i8 (RawS.m s), .int .i64 (RawS.disp s), .int .i64 (RawS.imm s), .int .i64 (RawS.small s), .int .i64 (RawS.near s), .int .i64 (RawS.jump s), .int .i8 (RawS.high s)], z8, z9, .dead, .dead, .dead]) := by
 exact (CallRun.of_eval (keep := [0, 1, 2, 3, 4, 5, 6, 7, 8, 9]) (d := (xD (IntKind.wrap IntKind.i8 k) 8 0 0 0 0 (RawS.jump s) (IntKind.wrap IntKind.i8 (IntKind.wrap IntKind.u8 (↑(BitVec.toNat (BitVec.ofInt (8 : Nat) (RawS.code s) &&& BitVec.ofInt (8 : Nat) (15 : Int))) : Int))))) (s' := [z0, z1, z2, z3, z4, z5, z6, Ob.box [.int .i8 (RawS.w s), .bool (RawS.long s), .int .u8 (RawS.code s), .int .i8 (RawS.r s), .int .i8 (RawS.m s), .int .i64 (RawS.disp s), .int .i64 (RawS.imm s), .int .i64 (RawS.small s), .int .i64 (RawS.near s), .int .i64 (RawS.jump s), .int .i8 (RawS.high s)], z8, z9, Ob.dead, Ob.dead, Ob.dead]) mixed ([tF, tF, tF, tF, tF, tF, tF, tF, tF, tT, tT, tC (eT (nt hl)), tC (eT (nt hl)), tC (eT (nt hl)), tC (eT (nt hl)), tC (eT (nt hl))] ++ [tC (nt hl), tC (nt (by (simp only [w_i8, w_u8, w_i64, w_u64, decide_eq_true_eq, decide_eq_false_iff_not, beq_iff_eq, bne_iff_ne, beq_eq_false_iff_ne, bne_eq_false_iff_eq, Bool.not_eq_true', Bool.not_eq_false', Bool.and_eq_true, Bool.or_eq_true] at *; omega) : (RawS.code s == (233 : Int)) = false))]) (by kernel_rfl)).cast (by first | (simp only [xD, D.agg.injEq, List.cons.injEq, D.int.injEq, true_and, and_true]; exact low15 v0 v1; done) | (exfalso; (try simp only [decide_eq_true_eq, decide_eq_false_iff_not, beq_iff_eq, beq_eq_false_iff_ne, bne_iff_ne, ne_eq] at *); first | omega | contradiction)) (by rfl)
theorem as11_ok (s : RawS) (k : Int) (k0 : 0 ≤ k) (k1 : k ≤ 31) (v0 : 0 ≤ s.code) (v1 : s.code ≤ 255) (cd nm : Int) (z0 z1 z2 z3 z4 z5 z6 z8 z9 : Ob)  : CallRun Try.prog 98 ([.ptr false 7 0, .int .i8 (IntKind.i8.wrap k), .agg [.int .i8 11, .int .u8 cd, .int .i8 nm]]) ([z0, z1, z2, z3, z4, z5, z6, .box [.int .i8 (RawS.w s), .bool  (RawS.long s), .int .u8 (RawS.code s), .int .i8 (RawS.r s), .int .i8 (RawS.m s), .int .i64 (RawS.disp s), .int .i64 (RawS.imm s), .int .i64 (RawS.small s), .int .i64 (RawS.near s), .int .i64 (RawS.jump s), .int .i8 (RawS.high s)], z8, z9]) (xD (IntKind.i8.wrap k) 0 0 0 0 0 0 0) ([z0, z1, z2, z3, z4, z5, z6, .box [.int .i8 (RawS.w s), .bool  (RawS.long s), .int .u8 (RawS.code s), .int .i8 (RawS.r s), .int .i8 (RawS.m s), .int .i64 (RawS.disp s), .int .i64 (RawS.imm s), .int .i64 (RawS.small s), .int .i64 (RawS.near s), .int .i64 (RawS.jump s), .int .i8 (RawS.high s)], z8, z9, .dead, .dead, .dead]) := by
 exact (CallRun.of_eval (keep := [0, 1, 2, 3, 4, 5, 6, 7, 8, 9]) (d := (xD (IntKind.wrap IntKind.i8 k) 0 0 0 0 0 0 0)) (s' := [z0, z1, z2, z3, z4, z5, z6, Ob.box [.int .i8 (RawS.w s), .bool (RawS.long s), .int .u8 (RawS.code s), .int .i8 (RawS.r s), .int .i8 (RawS.m s), .int .i64 (RawS.disp s), .int .i64 (RawS.imm s), .int .i64 (RawS.small s), .int .i64 (RawS.near s), .int .i64 (RawS.jump s), .int .i8 (RawS.high s)], z8, z9, Ob.dead, Ob.dead, Ob.dead]) mixed [tF, tF, tF, tF, tF, tF, tF, tF, tF, tF, tT] (by kernel_rfl)).cast (by first | (rfl; done) | (exfalso; (try simp only [decide_eq_true_eq, decide_eq_false_iff_not, beq_iff_eq, beq_eq_false_iff_ne, bne_iff_ne, ne_eq] at *); first | omega | contradiction)) (by rfl)
end Go.Proofs.Ytcngafhpodeenaa

namespace Go.Ev
open Go
def u64 (n : Int) : Int := IntKind.u64.wrap n
def cutM (v w : Int) : Int := if w = 8 then v % 256 else if w = 16 then v % 65536 else if w = 32 then v % 4294967296 else v
def signM (v w : Int) : Int :=
  if w = 8 then u64 (IntKind.i8.wrap v) else if w = 16 then u64 (IntKind.i16.wrap v) else if w = 32 then u64 (IntKind.i32.wrap v) else v
def negM (v w : Int) : Bool := decide (IntKind.i64.wrap (signM v w) < 0)
def xor64 (a b : Int) : Int := u64 ((BitVec.ofInt 64 a ^^^ BitVec.ofInt 64 b).toNat : Int)
def and64u (a b : Int) : Int := u64 ((BitVec.ofInt 64 a &&& BitVec.ofInt 64 b).toNat : Int)
def or64u (a b : Int) : Int := u64 ((BitVec.ofInt 64 a ||| BitVec.ofInt 64 b).toNat : Int)
def fD (k c z s o : Bool) : D := .agg [.bool k, .bool c, .bool z, .bool s, .bool o]
def byM (b w : Int) : Int := and64u b (u64 (IntKind.i8.wrap (w - 1)))
def opM (op a b by' w : Int) : Int :=
  if op = 0 then u64 (a + b)
  else if op = 1 then u64 (a - b)
  else if op = 2 then u64 (a * b)
  else if op = 3 then (if b = 0 then 0 else u64 (a.tdiv b))
  else if op = 4 then or64u a b
  else if op = 5 then and64u a b
  else if op = 6 then u64 (a * 2 ^ (min by'.toNat 64))
  else if op = 7 then a.fdiv (2 ^ (min by'.toNat 64))
  else if op = 8 then u64 (0 - a)
  else if op = 9 then (if b = 0 then a else a.tmod b)
  else if op = 10 then xor64 a b
  else if op = 11 then b
  else u64 ((IntKind.i64.wrap (signM a w)).fdiv (2 ^ (min by'.toNat 64)))
def doM (op w a b : Int) : Int := cutM (opM op (cutM a w) (cutM b w) (byM (cutM b w) w) w) w
def rg (l : List Int) (i : Int) : Int := l.getD i.toNat 0
def st (j i v r : Int) : Int := if i = j then v else r
def putD (i v r0 r1 r2 r3 r4 r5 r6 r7 r8 r9 r10 r11 r12 r13 r14 r15 : Int) (tl : List D) : List D := .int .u64 (st 0 i v r0) :: .int .u64 (st 1 i v r1) :: .int .u64 (st 2 i v r2) :: .int .u64 (st 3 i v r3) :: .int .u64 (st 4 i v r4) :: .int .u64 (st 5 i v r5) :: .int .u64 (st 6 i v r6) :: .int .u64 (st 7 i v r7) :: .int .u64 (st 8 i v r8) :: .int .u64 (st 9 i v r9) :: .int .u64 (st 10 i v r10) :: .int .u64 (st 11 i v r11) :: .int .u64 (st 12 i v r12) :: .int .u64 (st 13 i v r13) :: .int .u64 (st 14 i v r14) :: .int .u64 (st 15 i v r15) :: tl
abbrev uu : D := .undef
abbrev PutsA (l : List D) (i : Nat) (xs l' : List D) : Prop := l.take i ++ (xs ++ l.drop (i + xs.length)) = l' ∧ i + xs.length ≤ l.length
abbrev GetsA (l : List D) (i n : Nat) (l' : List D) : Prop := (l.drop i).take n = l' ∧ i + n ≤ l.length
section
variable {r0 r1 r2 r3 r4 r5 r6 r7 r8 r9 r10 r11 r12 r13 r14 r15 i v : Int} {tl : List D}
end
end Go.Ev

namespace Go.Ev
open Go
def xsD (x : XS) : D := xD x.op x.w x.dst x.src x.base x.disp x.imm x.cc
def mayXS (x : XS) : Bool := mayX x.op x.w x.dst x.src x.base x.disp x.imm x.cc
def bytesXS (x : XS) : List Int := bytesM x.op x.w x.dst x.src x.base x.disp x.imm x.cc
theorem shape_range : ∀ n : Fin 32, 1 ≤ shapeM (n.val : Int) ∧ shapeM (n.val : Int) ≤ 11 := by decide +kernel
theorem shape_some {k : Int} (k0 : 0 ≤ k) (k1 : k ≤ 31) : shapeM k = 1 ∨ shapeM k = 2 ∨ shapeM k = 3 ∨ shapeM k = 4 ∨ shapeM k = 5 ∨ shapeM k = 6 ∨ shapeM k = 7 ∨ shapeM k = 8 ∨ shapeM k = 9 ∨ shapeM k = 10 ∨ shapeM k = 11 := by
 have := shape_range ⟨k.toNat, by omega⟩
 have e : ((⟨k.toNat, by omega⟩ : Fin 32).val : Int) = k := by simp; omega
 rw [e] at this
 omega
theorem wr_op {k : Int} (k0 : 0 ≤ k) (k1 : k ≤ 31) : IntKind.i8.wrap k = k := by rw [w_i8]; omega
theorem par_small {b : List Int} (hb : isB b) {s : RawS} (h : parM b = some s) : 0 ≤ s.code ∧ s.code ≤ 255 ∧ (s.high = 0 ∨ s.high = 8) := by
 have code : ∀ {w R M : Int} {u : List Int}, isB u → (M = 0 ∨ M = 8) → parCode w R M u = some s → 0 ≤ s.code ∧ s.code ≤ 255 ∧ (s.high = 0 ∨ s.high = 8) := by
  intro w R M u hu hM h
  match u, hu with
  | [], _ => cases h
  | c :: v, hu =>
   obtain ⟨⟨c0, c1⟩, hv⟩ := isB_cons.1 hu
   by_cases hc : c = 15
   ·subst hc
    match v, hv, h with
    | [], _, h => rw [show parCode w R M [15] = some (parRest w R M false 15 []) from rfl] at h; cases h; exact ⟨by simp [parRest], by simp [parRest], hM⟩
    | d :: z, hv, h => rw [parCode_15] at h; cases h; exact ⟨(hv d (by simp)).1, (hv d (by simp)).2, hM⟩
   ·rw [parCode_c hc] at h; cases h; exact ⟨c0, c1, hM⟩
 have rex : ∀ {w : Int} {u : List Int}, isB u → parRex w u = some s → 0 ≤ s.code ∧ s.code ≤ 255 ∧ (s.high = 0 ∨ s.high = 8) := by
  intro w u hu h
  match u, hu with
  | [], _ => cases h
  | c :: v, hu =>
   by_cases hq : rexQ c = true
   ·simp only [parRex, if_pos hq] at h
    exact code (isB_cons.1 hu).2 (by omega) h
   ·simp only [parRex, if_neg hq] at h
    exact code hu (.inl rfl) h
 unfold parM at h
 split at h
 ·exact rex (fun x hx => hb x (List.mem_of_mem_drop hx)) h
 ·exact rex hb h
def fitsX (b : List Int) (x : XS) : Bool := mayXS x && (bytesXS x).isPrefixOf b
def firstX (b : List Int) (s : RawS) : List Int → Option XS
  | [] => none
  | k :: r => if fitsX b (asM s k) then some (asM s k) else firstX b s r
def readM (b : List Int) : Option XS := if fitsX b (decM b) then some (decM b) else none
theorem fits_back {b : List Int} {x : XS} (h : fitsX b x = true) : decM b = x ∧ ∃ s, parM b = some s ∧ asM s x.op = x := by
 unfold fitsX at h
 rw [Bool.and_eq_true, List.isPrefixOf_iff_prefix] at h
 obtain ⟨hm, t, rfl⟩ := h
 exact ⟨dec_back hm t, par_back hm t⟩
theorem first_some {b : List Int} {s : RawS} {x : XS} : ∀ {l : List Int}, firstX b s l = some x → fitsX b x = true
 | [], h => by cases h
 | k :: r, h => by
  unfold firstX at h
  split at h
  ·rename_i hf; cases h; exact hf
  ·exact first_some h
theorem first_none {b : List Int} {s : RawS} : ∀ {l : List Int}, firstX b s l = none → ∀ k ∈ l, fitsX b (asM s k) = false
 | [], _, k, hk => by cases hk
 | a :: r, h, k, hk => by
  unfold firstX at h
  split at h
  ·cases h
  ·rename_i hf
   rcases List.mem_cons.1 hk with rfl | hk
   ·simpa using hf
   ·exact first_none h k hk
theorem may_op {x : XS} (h : mayXS x = true) : x.op ∈ ops32 := by
 have hs := (mayX_parts h).2
 have hsh : shapeM x.op ≠ 0 := by intro e; rw [e] at hs; simp [mayS] at hs
 have := shape_ops hsh
 unfold ops32
 simp only [List.mem_cons, List.not_mem_nil, or_false]
 exact this
theorem first_read {b : List Int} {s : RawS} (hs : parM b = some s) : firstX b s ops32 = readM b := by
 unfold readM
 cases h : firstX b s ops32 with
 | some x =>
  have hf := first_some h
  rw [(fits_back hf).1, if_pos hf]
 | none =>
  split
  ·rename_i hf
   obtain ⟨_, s', hs', ha⟩ := fits_back hf
   rw [hs] at hs'
   obtain rfl := Option.some.inj hs'
   have hop := may_op (by unfold fitsX at hf; rw [Bool.and_eq_true] at hf; exact hf.1)
   have := first_none h _ hop
   rw [ha, hf] at this
   cases this
  ·rfl
theorem read_none {b : List Int} (hs : parM b = none) : readM b = none := by
 unfold readM
 split
 ·rename_i hf
  obtain ⟨_, s', hs', _⟩ := fits_back hf
  rw [hs] at hs'
  cases hs'
 ·rfl
theorem allB (l : List Int) : (bD l).all isByte = true := by simp [bD, isByte]
theorem allB_take (l : List Int) (n : Nat) : ((bD l).take n).all isByte = true := by
 rw [show (bD l).take n = bD (l.take n) by simp [bD, List.map_take]]
 exact allB _
def formsL : List D := [.int .i8 1, .int .u8 137, .int .i8 0, .int .i8 3, .int .u8 199, .int .i8 0, .int .i8 1, .int .u8 1, .int .i8 0, .int .i8 1, .int .u8 9, .int .i8 0, .int .i8 1, .int .u8 33, .int .i8 0, .int .i8 1, .int .u8 41, .int .i8 0, .int .i8 1, .int .u8 49, .int .i8 0, .int .i8 1, .int .u8 57, .int .i8 0, .int .i8 1, .int .u8 133, .int .i8 0, .int .i8 3, .int .u8 129, .int .i8 0, .int .i8 3, .int .u8 129, .int .i8 1, .int .i8 3, .int .u8 129, .int .i8 4, .int .i8 3, .int .u8 129, .int .i8 5, .int .i8 3, .int .u8 129, .int .i8 6, .int .i8 3, .int .u8 129, .int .i8 7, .int .i8 3, .int .u8 247, .int .i8 0, .int .i8 2, .int .u8 175, .int .i8 0, .int .i8 4, .int .u8 193, .int .i8 4, .int .i8 4, .int .u8 193, .int .i8 5, .int .i8 4, .int .u8 193, .int .i8 7, .int .i8 5, .int .u8 211, .int .i8 4, .int .i8 5, .int .u8 211, .int .i8 5, .int .i8 5, .int .u8 211, .int .i8 7, .int .i8 5, .int .u8 247, .int .i8 3, .int .i8 5, .int .u8 247, .int .i8 6, .int .i8 6, .int .u8 64, .int .i8 0, .int .i8 7, .int .u8 139, .int .i8 0, .int .i8 8, .int .u8 137, .int .i8 0, .int .i8 9, .int .u8 233, .int .i8 0, .int .i8 10, .int .u8 128, .int .i8 0, .int .i8 11, .int .u8 195, .int .i8 0, .int .i8 11, .int .u8 5, .int .i8 0]
theorem formsL_at (n : Nat) (hn : n < 32) : (formsL.drop (n * 3)).take 3 = [D.int .i8 (shapeM (n : Int)), D.int .u8 (codeM (n : Int)), D.int .i8 (numM (n : Int))] := by
 have : n = 0 ∨ n = 1 ∨ n = 2 ∨ n = 3 ∨ n = 4 ∨ n = 5 ∨ n = 6 ∨ n = 7 ∨ n = 8 ∨ n = 9 ∨ n = 10 ∨ n = 11 ∨ n = 12 ∨ n = 13 ∨ n = 14 ∨ n = 15 ∨ n = 16 ∨ n = 17 ∨ n = 18 ∨ n = 19 ∨ n = 20 ∨ n = 21 ∨ n = 22 ∨ n = 23 ∨ n = 24 ∨ n = 25 ∨ n = 26 ∨ n = 27 ∨ n = 28 ∨ n = 29 ∨ n = 30 ∨ n = 31 := by omega
 rcases this with rfl | rfl | rfl | rfl | rfl | rfl | rfl | rfl | rfl | rfl | rfl | rfl | rfl | rfl | rfl | rfl | rfl | rfl | rfl | rfl | rfl | rfl | rfl | rfl | rfl | rfl | rfl | rfl | rfl | rfl | rfl | rfl <;> rfl
theorem get_form {k : Int} (k0 : 0 ≤ k) (k1 : k ≤ 31) : GetsA formsL (k.toNat * 3) 3 [D.int .i8 (shapeM k), D.int .u8 (codeM k), D.int .i8 (numM k)] := by
 have h := formsL_at k.toNat (by omega)
 have e : (k.toNat : Int) = k := by omega
 rw [e] at h
 refine ⟨h, ?_⟩
 have hl : formsL.length = 96 := rfl
 rw [hl]
 omega
theorem A255_isB {l : List Int} (h : A255 l) : isB l := by
 intro x hx
 exact h x hx
theorem bytesXS_isB {x : XS} (h : mayXS x = true) : isB (bytesXS x) := A255_isB (bytesM_range h)
theorem fit_str {own b : List Int} (ho : isB own) (hb : isB b) : (own.isPrefixOf b = true ↔ ((bD own).length : Int) ≤ ((bD b).length : Int) ∧ ((strD (bD own)).toList == (strD (List.take (Int.toNat ((List.length (bD own) : Nat) : Int)) (bD b))).toList) = true) := by
 rw [List.isPrefixOf_iff_prefix, List.prefix_iff_eq_take, len_bD, len_bD, Int.toNat_natCast, show (bD b).take own.length = bD (b.take own.length) by simp [bD, List.map_take], beq_iff_eq]
 constructor
 ·intro h
  refine ⟨?_, by rw [← h]⟩
  have := congrArg List.length h
  rw [List.length_take] at this
  omega
 ·rintro ⟨_, h2⟩
  exact bD_inj ho (fun x hx => hb x (List.mem_of_mem_take hx)) h2
theorem ops_drop {n : Nat} (hn : n < 32) : ops32.drop n = (n : Int) :: ops32.drop (n + 1) := by
 have : n = 0 ∨ n = 1 ∨ n = 2 ∨ n = 3 ∨ n = 4 ∨ n = 5 ∨ n = 6 ∨ n = 7 ∨ n = 8 ∨ n = 9 ∨ n = 10 ∨ n = 11 ∨ n = 12 ∨ n = 13 ∨ n = 14 ∨ n = 15 ∨ n = 16 ∨ n = 17 ∨ n = 18 ∨ n = 19 ∨ n = 20 ∨ n = 21 ∨ n = 22 ∨ n = 23 ∨ n = 24 ∨ n = 25 ∨ n = 26 ∨ n = 27 ∨ n = 28 ∨ n = 29 ∨ n = 30 ∨ n = 31 := by omega
 rcases this with rfl | rfl | rfl | rfl | rfl | rfl | rfl | rfl | rfl | rfl | rfl | rfl | rfl | rfl | rfl | rfl | rfl | rfl | rfl | rfl | rfl | rfl | rfl | rfl | rfl | rfl | rfl | rfl | rfl | rfl | rfl | rfl <;> rfl
theorem asM_op (s : RawS) (k : Int) : (asM s k).op = k := by
 simp only [asM, asS, apply_ite XS.op, ite_self]
def readD : Option XS → D
  | none => .tup [xD 0 0 0 0 0 0 0 0, .int .i64 0, .int .i64 30]
  | some x => .tup [xsD x, .int .i64 (bytesXS x).length, .int .i64 0]
end Go.Ev

namespace Go.Proofs.Ytcngafhpodeenaa
open Go Go.Ev
set_option maxRecDepth 100000
theorem as_ok (s : RawS) (k : Int) (k0 : 0 ≤ k) (k1 : k ≤ 31) (v0 : 0 ≤ s.code) (v1 : s.code ≤ 255) (hh : s.high = 0 ∨ s.high = 8) (z0 z1 z2 z3 z4 z5 z6 z8 z9 : Ob) :
  CallRun Try.prog 98 [.ptr false 7 0, .int .i8 (IntKind.i8.wrap k), .agg [.int .i8 (shapeM k), .int .u8 (codeM k), .int .i8 (numM k)]]
   [z0, z1, z2, z3, z4, z5, z6, .box [.int .i8 s.w, .bool s.long, .int .u8 s.code, .int .i8 s.r, .int .i8 s.m, .int .i64 s.disp, .int .i64 s.imm, .int .i64 s.small, .int .i64 s.near, .int .i64 s.jump, .int .i8 s.high], z8, z9] (xsD (asM s k))
   [z0, z1, z2, z3, z4, z5, z6, .box [.int .i8 s.w, .bool s.long, .int .u8 s.code, .int .i8 s.r, .int .i8 s.m, .int .i64 s.disp, .int .i64 s.imm, .int .i64 s.small, .int .i64 s.near, .int .i64 s.jump, .int .i8 s.high], z8, z9, .dead, .dead, .dead] := by
 have hw := wr_op k0 k1
 have fin : ∀ {sh : Int} {d : D} {S1 S2 : List Ob}, shapeM k = sh → CallRun Try.prog 98 [.ptr false 7 0, .int .i8 (IntKind.i8.wrap k), .agg [.int .i8 sh, .int .u8 (codeM k), .int .i8 (numM k)]] S1 d S2 → d = xsD (asM s k) →
   CallRun Try.prog 98 [.ptr false 7 0, .int .i8 (IntKind.i8.wrap k), .agg [.int .i8 (shapeM k), .int .u8 (codeM k), .int .i8 (numM k)]] S1 (xsD (asM s k)) S2 := by
  intro sh d S1 S2 e h hd
  rw [e, ← hd]
  exact h
 rcases shape_some k0 k1 with h | h | h | h | h | h | h | h | h | h | h
 ·exact fin h (as1_ok s k k0 k1 v0 v1 _ _ z0 z1 z2 z3 z4 z5 z6 z8 z9) (by simp [asM, asS, xsD, h, hw])
 ·exact fin h (as2_ok s k k0 k1 v0 v1 _ _ z0 z1 z2 z3 z4 z5 z6 z8 z9) (by simp [asM, asS, xsD, h, hw])
 ·by_cases hk : k = 1
  ·by_cases hc : s.code < 184
   ·exact fin h (as3l_ok s k k0 k1 v0 v1 _ _ z0 z1 z2 z3 z4 z5 z6 z8 z9 hk hc) (by simp [asM, asS, xsD, h, hw]; rw [if_neg (by omega)]; simp)
   ·by_cases hd : s.code < 192
    ·exact fin h (as3m_ok s k k0 k1 v0 v1 _ _ z0 z1 z2 z3 z4 z5 z6 z8 z9 hk (by omega) hd hh) (by simp [asM, asS, xsD, h, hw]; rw [if_pos (by omega)]; simp)
    ·exact fin h (as3h_ok s k k0 k1 v0 v1 _ _ z0 z1 z2 z3 z4 z5 z6 z8 z9 hk (by omega)) (by simp [asM, asS, xsD, h, hw]; rw [if_neg (by omega)]; simp)
  ·exact fin h (as3n_ok s k k0 k1 v0 v1 _ _ z0 z1 z2 z3 z4 z5 z6 z8 z9 hk) (by simp [asM, asS, xsD, h, hw, hk])
 ·exact fin h (as4_ok s k k0 k1 v0 v1 _ _ z0 z1 z2 z3 z4 z5 z6 z8 z9) (by simp [asM, asS, xsD, h, hw])
 ·exact fin h (as5_ok s k k0 k1 v0 v1 _ _ z0 z1 z2 z3 z4 z5 z6 z8 z9) (by simp [asM, asS, xsD, h, hw])
 ·exact fin h (as6_ok s k k0 k1 v0 v1 _ _ z0 z1 z2 z3 z4 z5 z6 z8 z9) (by simp [asM, asS, xsD, h, hw])
 ·cases hl : s.long
  ·refine fin h (hl ▸ as7f_ok s k k0 k1 v0 v1 _ _ z0 z1 z2 z3 z4 z5 z6 z8 z9 hl) (by simp [asM, asS, xsD, h, hw, hl])
  ·refine fin h (hl ▸ as7t_ok s k k0 k1 v0 v1 _ _ z0 z1 z2 z3 z4 z5 z6 z8 z9 hl) (by simp [asM, asS, xsD, h, hw, hl])
 ·by_cases hc : s.code = 136
  ·exact fin h (as8t_ok s k k0 k1 v0 v1 _ _ z0 z1 z2 z3 z4 z5 z6 z8 z9 hc) (by simp [asM, asS, xsD, h, hw, hc])
  ·exact fin h (as8f_ok s k k0 k1 v0 v1 _ _ z0 z1 z2 z3 z4 z5 z6 z8 z9 hc) (by simp [asM, asS, xsD, h, hw, hc])
 ·cases hl : s.long
  ·by_cases hc : s.code = 233
   ·exact fin h (hl ▸ as9n_ok s k k0 k1 v0 v1 _ _ z0 z1 z2 z3 z4 z5 z6 z8 z9 hl hc) (by simp [asM, asS, xsD, h, hw, hc])
   ·exact fin h (hl ▸ as9s_ok s k k0 k1 v0 v1 _ _ z0 z1 z2 z3 z4 z5 z6 z8 z9 hl hc) (by simp [asM, asS, xsD, h, hw, hl, hc])
  ·exact fin h (hl ▸ as9l_ok s k k0 k1 v0 v1 _ _ z0 z1 z2 z3 z4 z5 z6 z8 z9 hl) (by simp [asM, asS, xsD, h, hw, hl])
 ·cases hl : s.long
  ·by_cases hc : s.code = 233
   ·exact fin h (hl ▸ as10n_ok s k k0 k1 v0 v1 _ _ z0 z1 z2 z3 z4 z5 z6 z8 z9 hl hc) (by simp [asM, asS, xsD, h, hw, hc])
   ·exact fin h (hl ▸ as10s_ok s k k0 k1 v0 v1 _ _ z0 z1 z2 z3 z4 z5 z6 z8 z9 hl hc) (by simp [asM, asS, xsD, h, hw, hl, hc])
  ·exact fin h (hl ▸ as10l_ok s k k0 k1 v0 v1 _ _ z0 z1 z2 z3 z4 z5 z6 z8 z9 hl) (by simp [asM, asS, xsD, h, hw, hl])
 ·exact fin h (as11_ok s k k0 k1 v0 v1 _ _ z0 z1 z2 z3 z4 z5 z6 z8 z9) (by simp [asM, asS, xsD, h, hw])
end Go.Proofs.Ytcngafhpodeenaa

namespace Go.Proofs.Ytcngafhpodeenaa
open Go Go.Ev
abbrev EL := List (Ev Try.prog)
theorem bft (b : Bool) : b = true ∨ b = false := Bool.eq_false_or_eq_true b
theorem sl0 : (∀ {p : Prop} [Decidable p], (decide p = true) = p) ∧ (∀ {p : Prop} [Decidable p], (decide p = false) ↔ ¬p) ∧ (∀ (b : Bool), (¬(b = true)) = (b = false)) ∧ (∀ {α : Type} [BEq α] [LawfulBEq α] {a b : α}, (a == b) = true ↔ a = b) ∧ (∀ {α : Type} [BEq α] [LawfulBEq α] {a b : α}, (a == b) = false ↔ a ≠ b) ∧ (∀ (a b : Bool), (D.bool a = D.bool b) = (a = b)) := ⟨@decide_eq_true_eq, @decide_eq_false_iff_not, @Bool.not_eq_true, @beq_iff_eq, @beq_eq_false_iff_ne, @D.bool.injEq⟩
theorem sl2 : (∀ n : Int, IntKind.i8.wrap n = (n + 128) % 256 - 128) ∧ (∀ n : Int, IntKind.u8.wrap n = n % 256) ∧ (∀ n : Int, IntKind.i64.wrap n = (n + 9223372036854775808) % 18446744073709551616 - 9223372036854775808) ∧ (∀ n : Int, IntKind.u64.wrap n = n % 18446744073709551616) ∧ (∀ {p : Prop} [Decidable p], (decide p = true) = p) ∧ (∀ {p : Prop} [Decidable p], (decide p = false) ↔ ¬p) ∧ (∀ {α : Type} [BEq α] [LawfulBEq α] {a b : α}, (a == b) = true ↔ a = b) ∧ (∀ {α : Type} [BEq α] [LawfulBEq α] {a b : α}, (a != b) = true ↔ a ≠ b) ∧ (∀ {α : Type} [BEq α] [LawfulBEq α] {a b : α}, (a == b) = false ↔ a ≠ b) ∧ (∀ {α : Type} [BEq α] [LawfulBEq α] {a b : α}, (a != b) = false ↔ a = b) ∧ (∀ (b : Bool), ((!b) = true) = (b = false)) ∧ (∀ (b : Bool), ((!b) = false) = (b = true)) ∧ (∀ (a b : Bool), ((a && b) = true) = (a = true ∧ b = true)) ∧ (∀ (a b : Bool), ((a || b) = true) = (a = true ∨ b = true)) := ⟨@w_i8, @w_u8, @w_i64, @w_u64, @decide_eq_true_eq, @decide_eq_false_iff_not, @beq_iff_eq, @bne_iff_ne, @beq_eq_false_iff_ne, @bne_eq_false_iff_eq, @Bool.not_eq_true', @Bool.not_eq_false', @Bool.and_eq_true, @Bool.or_eq_true⟩
def OE (n : Nat) (f : Func) : Prop := ∀ {x : List D} {d : D} (o : EL), evalRet Try.prog f x o = some (d, selfs o True) → Ret Try.prog n x d
theorem o0 : OE 0 Try.f0 := Ret.of_eval mixed Try.func0 (by kernel_rfl)
theorem o1 : OE 1 Try.f1 := Ret.of_eval mixed Try.func1 (by kernel_rfl)
theorem o2 : OE 2 Try.f2 := Ret.of_eval mixed Try.func2 (by kernel_rfl)
theorem o3 : OE 3 Try.f3 := Ret.of_eval mixed Try.func3 (by kernel_rfl)
theorem o21 : OE 21 Try.f21 := Ret.of_eval mixed Try.func21 (by kernel_rfl)
theorem o22 : OE 22 Try.f22 := Ret.of_eval mixed Try.func22 (by kernel_rfl)
theorem o56 : OE 56 Try.f56 := Ret.of_eval mixed Try.func56 (by kernel_rfl)
theorem o57 : OE 57 Try.f57 := Ret.of_eval mixed Try.func57 (by kernel_rfl)
theorem o59 : OE 59 Try.f59 := Ret.of_eval mixed Try.func59 (by kernel_rfl)
theorem o60 : OE 60 Try.f60 := Ret.of_eval mixed Try.func60 (by kernel_rfl)
theorem o61 : OE 61 Try.f61 := Ret.of_eval mixed Try.func61 (by kernel_rfl)
theorem o113 : OE 113 Try.f113 := Ret.of_eval mixed Try.func113 (by kernel_rfl)
theorem o114 : OE 114 Try.f114 := Ret.of_eval mixed Try.func114 (by kernel_rfl)
theorem o115 : OE 115 Try.f115 := Ret.of_eval mixed Try.func115 (by kernel_rfl)
theorem o116 : OE 116 Try.f116 := Ret.of_eval mixed Try.func116 (by kernel_rfl)
theorem o117 : OE 117 Try.f117 := Ret.of_eval mixed Try.func117 (by kernel_rfl)
theorem o118 : OE 118 Try.f118 := Ret.of_eval mixed Try.func118 (by kernel_rfl)
theorem o119 : OE 119 Try.f119 := Ret.of_eval mixed Try.func119 (by kernel_rfl)
theorem o120 : OE 120 Try.f120 := Ret.of_eval mixed Try.func120 (by kernel_rfl)
theorem o122 : OE 122 Try.f122 := Ret.of_eval mixed Try.func122 (by kernel_rfl)
theorem o154 : OE 154 Try.f154 := Ret.of_eval mixed Try.func154 (by kernel_rfl)
theorem o155 : OE 155 Try.f155 := Ret.of_eval mixed Try.func155 (by kernel_rfl)
theorem o156 : OE 156 Try.f156 := Ret.of_eval mixed Try.func156 (by kernel_rfl)
end Go.Proofs.Ytcngafhpodeenaa

namespace Go.Proofs.Ytcngafhpodeenaa
open Go Go.Ev
set_option maxRecDepth 100000
set_option maxHeartbeats 8000000
def tab_XOf_0 : List D := [.int .i8 1, .int .u8 137, .int .i8 0, .int .i8 3, .int .u8 199, .int .i8 0, .int .i8 1, .int .u8 1, .int .i8 0, .int .i8 1, .int .u8 9, .int .i8 0, .int .i8 1, .int .u8 33, .int .i8 0, .int .i8 1, .int .u8 41, .int .i8 0, .int .i8 1, .int .u8 49, .int .i8 0, .int .i8 1, .int .u8 57, .int .i8 0, .int .i8 1, .int .u8 133, .int .i8 0, .int .i8 3, .int .u8 129, .int .i8 0, .int .i8 3, .int .u8 129, .int .i8 1, .int .i8 3, .int .u8 129, .int .i8 4, .int .i8 3, .int .u8 129, .int .i8 5, .int .i8 3, .int .u8 129, .int .i8 6, .int .i8 3, .int .u8 129, .int .i8 7, .int .i8 3, .int .u8 247, .int .i8 0, .int .i8 2, .int .u8 175, .int .i8 0, .int .i8 4, .int .u8 193, .int .i8 4, .int .i8 4, .int .u8 193, .int .i8 5, .int .i8 4, .int .u8 193, .int .i8 7, .int .i8 5, .int .u8 211, .int .i8 4, .int .i8 5, .int .u8 211, .int .i8 5, .int .i8 5, .int .u8 211, .int .i8 7, .int .i8 5, .int .u8 247, .int .i8 3, .int .i8 5, .int .u8 247, .int .i8 6, .int .i8 6, .int .u8 64, .int .i8 0, .int .i8 7, .int .u8 139, .int .i8 0, .int .i8 8, .int .u8 137, .int .i8 0, .int .i8 9, .int .u8 233, .int .i8 0, .int .i8 10, .int .u8 128, .int .i8 0, .int .i8 11, .int .u8 195, .int .i8 0, .int .i8 11, .int .u8 5, .int .i8 0]
def SpXOf0 (k0_ : Int) : Prop := Ret Try.prog 57 ([.int .i8 k0_]) (.tup [.agg [.int .i8 (shapeM k0_), .int .u8 (codeM k0_), .int .i8 (numM k0_)], .bool true])
theorem of_0_ok : SpXOf0 0 := by
 exact (o57 (d := .tup [.agg [.int .i8 1, .int .u8 137, .int .i8 0], .bool true]) [.inl, tT, tT, tT, tF, tF, tT, .getA tab_XOf_0 0 3 ([.int .i8 1, .int .u8 137, .int .i8 0]) ⟨rfl, by decide⟩] (by kernel_rfl)).to (by simp [wk, wkL]; decide)
theorem of_1_ok : SpXOf0 1 := by
 exact (o57 (d := .tup [.agg [.int .i8 3, .int .u8 199, .int .i8 0], .bool true]) [.inl, tT, tT, tT, tF, tF, tT, .getA tab_XOf_0 3 3 ([.int .i8 3, .int .u8 199, .int .i8 0]) ⟨rfl, by decide⟩] (by kernel_rfl)).to (by simp [wk, wkL]; decide)
theorem of_2_ok : SpXOf0 2 := by
 exact (o57 (d := .tup [.agg [.int .i8 1, .int .u8 1, .int .i8 0], .bool true]) [.inl, tT, tT, tT, tF, tF, tT, .getA tab_XOf_0 6 3 ([.int .i8 1, .int .u8 1, .int .i8 0]) ⟨rfl, by decide⟩] (by kernel_rfl)).to (by simp [wk, wkL]; decide)
theorem of_3_ok : SpXOf0 3 := by
 exact (o57 (d := .tup [.agg [.int .i8 1, .int .u8 9, .int .i8 0], .bool true]) [.inl, tT, tT, tT, tF, tF, tT, .getA tab_XOf_0 9 3 ([.int .i8 1, .int .u8 9, .int .i8 0]) ⟨rfl, by decide⟩] (by kernel_rfl)).to (by simp [wk, wkL]; decide)
theorem of_4_ok : SpXOf0 4 := by
 exact (o57 (d := .tup [.agg [.int .i8 1, .int .u8 33, .int .i8 0], .bool true]) [.inl, tT, tT, tT, tF, tF, tT, .getA tab_XOf_0 12 3 ([.int .i8 1, .int .u8 33, .int .i8 0]) ⟨rfl, by decide⟩] (by kernel_rfl)).to (by simp [wk, wkL]; decide)
theorem of_5_ok : SpXOf0 5 := by
 exact (o57 (d := .tup [.agg [.int .i8 1, .int .u8 41, .int .i8 0], .bool true]) [.inl, tT, tT, tT, tF, tF, tT, .getA tab_XOf_0 15 3 ([.int .i8 1, .int .u8 41, .int .i8 0]) ⟨rfl, by decide⟩] (by kernel_rfl)).to (by simp [wk, wkL]; decide)
theorem of_6_ok : SpXOf0 6 := by
 exact (o57 (d := .tup [.agg [.int .i8 1, .int .u8 49, .int .i8 0], .bool true]) [.inl, tT, tT, tT, tF, tF, tT, .getA tab_XOf_0 18 3 ([.int .i8 1, .int .u8 49, .int .i8 0]) ⟨rfl, by decide⟩] (by kernel_rfl)).to (by simp [wk, wkL]; decide)
theorem of_7_ok : SpXOf0 7 := by
 exact (o57 (d := .tup [.agg [.int .i8 1, .int .u8 57, .int .i8 0], .bool true]) [.inl, tT, tT, tT, tF, tF, tT, .getA tab_XOf_0 21 3 ([.int .i8 1, .int .u8 57, .int .i8 0]) ⟨rfl, by decide⟩] (by kernel_rfl)).to (by simp [wk, wkL]; decide)
theorem of_8_ok : SpXOf0 8 := by
 exact (o57 (d := .tup [.agg [.int .i8 1, .int .u8 133, .int .i8 0], .bool true]) [.inl, tT, tT, tT, tF, tF, tT, .getA tab_XOf_0 24 3 ([.int .i8 1, .int .u8 133, .int .i8 0]) ⟨rfl, by decide⟩] (by kernel_rfl)).to (by simp [wk, wkL]; decide)
theorem of_9_ok : SpXOf0 9 := by
 exact (o57 (d := .tup [.agg [.int .i8 3, .int .u8 129, .int .i8 0], .bool true]) [.inl, tT, tT, tT, tF, tF, tT, .getA tab_XOf_0 27 3 ([.int .i8 3, .int .u8 129, .int .i8 0]) ⟨rfl, by decide⟩] (by kernel_rfl)).to (by simp [wk, wkL]; decide)
theorem of_10_ok : SpXOf0 10 := by
 exact (o57 (d := .tup [.agg [.int .i8 3, .int .u8 129, .int .i8 1], .bool true]) [.inl, tT, tT, tT, tF, tF, tT, .getA tab_XOf_0 30 3 ([.int .i8 3, .int .u8 129, .int .i8 1]) ⟨rfl, by decide⟩] (by kernel_rfl)).to (by simp [wk, wkL]; decide)
theorem of_11_ok : SpXOf0 11 := by
 exact (o57 (d := .tup [.agg [.int .i8 3, .int .u8 129, .int .i8 4], .bool true]) [.inl, tT, tT, tT, tF, tF, tT, .getA tab_XOf_0 33 3 ([.int .i8 3, .int .u8 129, .int .i8 4]) ⟨rfl, by decide⟩] (by kernel_rfl)).to (by simp [wk, wkL]; decide)
theorem of_12_ok : SpXOf0 12 := by
 exact (o57 (d := .tup [.agg [.int .i8 3, .int .u8 129, .int .i8 5], .bool true]) [.inl, tT, tT, tT, tF, tF, tT, .getA tab_XOf_0 36 3 ([.int .i8 3, .int .u8 129, .int .i8 5]) ⟨rfl, by decide⟩] (by kernel_rfl)).to (by simp [wk, wkL]; decide)
theorem of_13_ok : SpXOf0 13 := by
 exact (o57 (d := .tup [.agg [.int .i8 3, .int .u8 129, .int .i8 6], .bool true]) [.inl, tT, tT, tT, tF, tF, tT, .getA tab_XOf_0 39 3 ([.int .i8 3, .int .u8 129, .int .i8 6]) ⟨rfl, by decide⟩] (by kernel_rfl)).to (by simp [wk, wkL]; decide)
theorem of_14_ok : SpXOf0 14 := by
 exact (o57 (d := .tup [.agg [.int .i8 3, .int .u8 129, .int .i8 7], .bool true]) [.inl, tT, tT, tT, tF, tF, tT, .getA tab_XOf_0 42 3 ([.int .i8 3, .int .u8 129, .int .i8 7]) ⟨rfl, by decide⟩] (by kernel_rfl)).to (by simp [wk, wkL]; decide)
theorem of_15_ok : SpXOf0 15 := by
 exact (o57 (d := .tup [.agg [.int .i8 3, .int .u8 247, .int .i8 0], .bool true]) [.inl, tT, tT, tT, tF, tF, tT, .getA tab_XOf_0 45 3 ([.int .i8 3, .int .u8 247, .int .i8 0]) ⟨rfl, by decide⟩] (by kernel_rfl)).to (by simp [wk, wkL]; decide)
theorem of_16_ok : SpXOf0 16 := by
 exact (o57 (d := .tup [.agg [.int .i8 2, .int .u8 175, .int .i8 0], .bool true]) [.inl, tT, tT, tT, tF, tF, tT, .getA tab_XOf_0 48 3 ([.int .i8 2, .int .u8 175, .int .i8 0]) ⟨rfl, by decide⟩] (by kernel_rfl)).to (by simp [wk, wkL]; decide)
theorem of_17_ok : SpXOf0 17 := by
 exact (o57 (d := .tup [.agg [.int .i8 4, .int .u8 193, .int .i8 4], .bool true]) [.inl, tT, tT, tT, tF, tF, tT, .getA tab_XOf_0 51 3 ([.int .i8 4, .int .u8 193, .int .i8 4]) ⟨rfl, by decide⟩] (by kernel_rfl)).to (by simp [wk, wkL]; decide)
theorem of_18_ok : SpXOf0 18 := by
 exact (o57 (d := .tup [.agg [.int .i8 4, .int .u8 193, .int .i8 5], .bool true]) [.inl, tT, tT, tT, tF, tF, tT, .getA tab_XOf_0 54 3 ([.int .i8 4, .int .u8 193, .int .i8 5]) ⟨rfl, by decide⟩] (by kernel_rfl)).to (by simp [wk, wkL]; decide)
theorem of_19_ok : SpXOf0 19 := by
 exact (o57 (d := .tup [.agg [.int .i8 4, .int .u8 193, .int .i8 7], .bool true]) [.inl, tT, tT, tT, tF, tF, tT, .getA tab_XOf_0 57 3 ([.int .i8 4, .int .u8 193, .int .i8 7]) ⟨rfl, by decide⟩] (by kernel_rfl)).to (by simp [wk, wkL]; decide)
theorem of_20_ok : SpXOf0 20 := by
 exact (o57 (d := .tup [.agg [.int .i8 5, .int .u8 211, .int .i8 4], .bool true]) [.inl, tT, tT, tT, tF, tF, tT, .getA tab_XOf_0 60 3 ([.int .i8 5, .int .u8 211, .int .i8 4]) ⟨rfl, by decide⟩] (by kernel_rfl)).to (by simp [wk, wkL]; decide)
theorem of_21_ok : SpXOf0 21 := by
 exact (o57 (d := .tup [.agg [.int .i8 5, .int .u8 211, .int .i8 5], .bool true]) [.inl, tT, tT, tT, tF, tF, tT, .getA tab_XOf_0 63 3 ([.int .i8 5, .int .u8 211, .int .i8 5]) ⟨rfl, by decide⟩] (by kernel_rfl)).to (by simp [wk, wkL]; decide)
theorem of_22_ok : SpXOf0 22 := by
 exact (o57 (d := .tup [.agg [.int .i8 5, .int .u8 211, .int .i8 7], .bool true]) [.inl, tT, tT, tT, tF, tF, tT, .getA tab_XOf_0 66 3 ([.int .i8 5, .int .u8 211, .int .i8 7]) ⟨rfl, by decide⟩] (by kernel_rfl)).to (by simp [wk, wkL]; decide)
theorem of_23_ok : SpXOf0 23 := by
 exact (o57 (d := .tup [.agg [.int .i8 5, .int .u8 247, .int .i8 3], .bool true]) [.inl, tT, tT, tT, tF, tF, tT, .getA tab_XOf_0 69 3 ([.int .i8 5, .int .u8 247, .int .i8 3]) ⟨rfl, by decide⟩] (by kernel_rfl)).to (by simp [wk, wkL]; decide)
theorem of_24_ok : SpXOf0 24 := by
 exact (o57 (d := .tup [.agg [.int .i8 5, .int .u8 247, .int .i8 6], .bool true]) [.inl, tT, tT, tT, tF, tF, tT, .getA tab_XOf_0 72 3 ([.int .i8 5, .int .u8 247, .int .i8 6]) ⟨rfl, by decide⟩] (by kernel_rfl)).to (by simp [wk, wkL]; decide)
theorem of_25_ok : SpXOf0 25 := by
 exact (o57 (d := .tup [.agg [.int .i8 6, .int .u8 64, .int .i8 0], .bool true]) [.inl, tT, tT, tT, tF, tF, tT, .getA tab_XOf_0 75 3 ([.int .i8 6, .int .u8 64, .int .i8 0]) ⟨rfl, by decide⟩] (by kernel_rfl)).to (by simp [wk, wkL]; decide)
theorem of_26_ok : SpXOf0 26 := by
 exact (o57 (d := .tup [.agg [.int .i8 7, .int .u8 139, .int .i8 0], .bool true]) [.inl, tT, tT, tT, tF, tF, tT, .getA tab_XOf_0 78 3 ([.int .i8 7, .int .u8 139, .int .i8 0]) ⟨rfl, by decide⟩] (by kernel_rfl)).to (by simp [wk, wkL]; decide)
theorem of_27_ok : SpXOf0 27 := by
 exact (o57 (d := .tup [.agg [.int .i8 8, .int .u8 137, .int .i8 0], .bool true]) [.inl, tT, tT, tT, tF, tF, tT, .getA tab_XOf_0 81 3 ([.int .i8 8, .int .u8 137, .int .i8 0]) ⟨rfl, by decide⟩] (by kernel_rfl)).to (by simp [wk, wkL]; decide)
theorem of_28_ok : SpXOf0 28 := by
 exact (o57 (d := .tup [.agg [.int .i8 9, .int .u8 233, .int .i8 0], .bool true]) [.inl, tT, tT, tT, tF, tF, tT, .getA tab_XOf_0 84 3 ([.int .i8 9, .int .u8 233, .int .i8 0]) ⟨rfl, by decide⟩] (by kernel_rfl)).to (by simp [wk, wkL]; decide)
theorem of_29_ok : SpXOf0 29 := by
 exact (o57 (d := .tup [.agg [.int .i8 10, .int .u8 128, .int .i8 0], .bool true]) [.inl, tT, tT, tT, tF, tF, tT, .getA tab_XOf_0 87 3 ([.int .i8 10, .int .u8 128, .int .i8 0]) ⟨rfl, by decide⟩] (by kernel_rfl)).to (by simp [wk, wkL]; decide)
theorem of_30_ok : SpXOf0 30 := by
 exact (o57 (d := .tup [.agg [.int .i8 11, .int .u8 195, .int .i8 0], .bool true]) [.inl, tT, tT, tT, tF, tF, tT, .getA tab_XOf_0 90 3 ([.int .i8 11, .int .u8 195, .int .i8 0]) ⟨rfl, by decide⟩] (by kernel_rfl)).to (by simp [wk, wkL]; decide)
theorem of_31_ok : SpXOf0 31 := by
 exact (o57 (d := .tup [.agg [.int .i8 11, .int .u8 5, .int .i8 0], .bool true]) [.inl, tT, tT, tT, tF, tF, tT, .getA tab_XOf_0 93 3 ([.int .i8 11, .int .u8 5, .int .i8 0]) ⟨rfl, by decide⟩] (by kernel_rfl)).to (by simp [wk, wkL]; decide)
theorem of_low_ok (op : Int) (h : op < 0) : Ret Try.prog 57 ([.int .i8 op]) (.tup [.agg [.int .i8 0, .int .u8 0, .int .i8 0], .bool false]) := by
 exact (o57 (d := .tup [.agg [.int .i8 0, .int .u8 0, .int .i8 0], .bool false]) ([.inl] ++ List.replicate 3 (tC (eF (decide_eq_true h))) ++ [tC (decide_eq_true h), tT]) (by kernel_rfl)).to (by simp [wk, wkL])
theorem of_high_ok (op : Int) (h : 32 ≤ op) (ho : op ≤ 127) : Ret Try.prog 57 ([.int .i8 op]) (.tup [.agg [.int .i8 0, .int .u8 0, .int .i8 0], .bool false]) := by
 exact (o57 (d := .tup [.agg [.int .i8 0, .int .u8 0, .int .i8 0], .bool false]) ([.inl] ++ List.replicate 3 (tC (eF (ltD 0 (decide_eq_false (Int.not_lt.2 h))))) ++ [tC (ltD 0 (decide_eq_false (Int.not_lt.2 h))), tC (leL 32 (by (simp only [sl2] at *; omega) : (decide (IntKind.wrap IntKind.i64 op < 32)) = false))]) (by kernel_rfl)).to (by simp [wk, wkL])
theorem reg_ok (n : Int) : Ret Try.prog 114 ([.int .i8 n]) (.bool (regM n)) := by
 rcases bft (decide (n < 0)) with h0 | h0
 ·exact (o114 (d := .bool false) [tC (eT (leL 0 h0)), tC (eT (leL 0 h0)), tC (leL 0 h0)] (by kernel_rfl)).to (by (try simp only [sl0, wk, wkL, wkO, eqCells, eqCell, regM, ccM, widthM, longM] at *); first | (simp [wk, wkL, wkO, eqCells, eqCell, regM, ccM, widthM, longM, *]; done) | (simp [wk, wkL, wkO, eqCells, eqCell, regM, ccM, widthM, longM, *]; omega) | (rw [Bool.eq_iff_iff]; simp [wk, wkL, wkO, eqCells, eqCell, regM, ccM, widthM, longM, *]; done) | (rw [Bool.eq_iff_iff]; simp [wk, wkL, wkO, eqCells, eqCell, regM, ccM, widthM, longM, *]; omega) | (rw [Bool.eq_iff_iff]; simp [wk, wkL, wkO, eqCells, eqCell, regM, ccM, widthM, longM, *]; grind) | (subst_vars; rw [Bool.eq_iff_iff]; simp; grind))
 exact (o114 (d := .bool (decide (n < 16))) [tC (eT (leL 0 h0)), tC (eT (leL 0 h0)), tC (leL 0 h0)] (by kernel_rfl)).to (by (try simp only [sl0, wk, wkL, wkO, eqCells, eqCell, regM, ccM, widthM, longM] at *); first | (simp [wk, wkL, wkO, eqCells, eqCell, regM, ccM, widthM, longM, *]; done) | (simp [wk, wkL, wkO, eqCells, eqCell, regM, ccM, widthM, longM, *]; omega) | (rw [Bool.eq_iff_iff]; simp [wk, wkL, wkO, eqCells, eqCell, regM, ccM, widthM, longM, *]; done) | (rw [Bool.eq_iff_iff]; simp [wk, wkL, wkO, eqCells, eqCell, regM, ccM, widthM, longM, *]; omega) | (rw [Bool.eq_iff_iff]; simp [wk, wkL, wkO, eqCells, eqCell, regM, ccM, widthM, longM, *]; grind) | (subst_vars; rw [Bool.eq_iff_iff]; simp; grind))
theorem cond_ok (n : Int) : Ret Try.prog 116 ([.int .i8 n]) (.bool (ccM n)) := by
 rcases bft (decide (n < 2)) with h0 | h0
 ·exact (o116 (d := .bool false) [tC (eT (leL 2 h0)), tC (eT (leL 2 h0)), tC (leL 2 h0), tT, tT, tT, tC (eT (leL 12 (ltU 12 h0))), tC (eT (leL 12 (ltU 12 h0))), tT, tC (leL 12 (ltU 12 h0)), tF] (by kernel_rfl)).to (by (try simp only [sl0, wk, wkL, wkO, eqCells, eqCell, regM, ccM, widthM, longM] at *); first | (simp [wk, wkL, wkO, eqCells, eqCell, regM, ccM, widthM, longM, *]; done) | (simp [wk, wkL, wkO, eqCells, eqCell, regM, ccM, widthM, longM, *]; omega) | (rw [Bool.eq_iff_iff]; simp [wk, wkL, wkO, eqCells, eqCell, regM, ccM, widthM, longM, *]; done) | (rw [Bool.eq_iff_iff]; simp [wk, wkL, wkO, eqCells, eqCell, regM, ccM, widthM, longM, *]; omega) | (rw [Bool.eq_iff_iff]; simp [wk, wkL, wkO, eqCells, eqCell, regM, ccM, widthM, longM, *]; grind) | (subst_vars; rw [Bool.eq_iff_iff]; simp; grind))
 let E1 : EL := [tC (eT (leL 2 h0)), tC (eT (leL 2 h0)), tC (leL 2 h0)]
 rcases bft (decide (n < 8)) with h1 | h1
 ·exact (o116 (d := .bool true) (E1 ++ List.replicate 4 (tC (eF (leC 7 h1))) ++ [tC (leC 7 h1)]) (by kernel_rfl)).to (by clear E1; (try simp only [sl0, wk, wkL, wkO, eqCells, eqCell, regM, ccM, widthM, longM] at *); first | (simp [wk, wkL, wkO, eqCells, eqCell, regM, ccM, widthM, longM, *]; done) | (simp [wk, wkL, wkO, eqCells, eqCell, regM, ccM, widthM, longM, *]; omega) | (rw [Bool.eq_iff_iff]; simp [wk, wkL, wkO, eqCells, eqCell, regM, ccM, widthM, longM, *]; done) | (rw [Bool.eq_iff_iff]; simp [wk, wkL, wkO, eqCells, eqCell, regM, ccM, widthM, longM, *]; omega) | (rw [Bool.eq_iff_iff]; simp [wk, wkL, wkO, eqCells, eqCell, regM, ccM, widthM, longM, *]; grind) | (subst_vars; rw [Bool.eq_iff_iff]; simp; grind))
 rcases bft (decide (n < 12)) with h2 | h2
 ·exact (o116 (d := .bool false) (E1 ++ List.replicate 3 (tC (eF (leC 7 h1))) ++ [tC (eT (leL 12 h2)), tC (eT (leL 12 h2)), tC (eF (leC 7 h1)), tC (leL 12 h2), tC (leC 7 h1)]) (by kernel_rfl)).to (by clear E1; (try simp only [sl0, wk, wkL, wkO, eqCells, eqCell, regM, ccM, widthM, longM] at *); first | (simp [wk, wkL, wkO, eqCells, eqCell, regM, ccM, widthM, longM, *]; done) | (simp [wk, wkL, wkO, eqCells, eqCell, regM, ccM, widthM, longM, *]; omega) | (rw [Bool.eq_iff_iff]; simp [wk, wkL, wkO, eqCells, eqCell, regM, ccM, widthM, longM, *]; done) | (rw [Bool.eq_iff_iff]; simp [wk, wkL, wkO, eqCells, eqCell, regM, ccM, widthM, longM, *]; omega) | (rw [Bool.eq_iff_iff]; simp [wk, wkL, wkO, eqCells, eqCell, regM, ccM, widthM, longM, *]; grind) | (subst_vars; rw [Bool.eq_iff_iff]; simp; grind))
 exact (o116 (d := .bool (decide (n ≤ 15))) (E1 ++ List.replicate 3 (tC (eF (leC 7 h1))) ++ [tC (eT (leL 12 h2)), tC (eT (leL 12 h2)), tC (eF (leC 7 h1)), tC (leL 12 h2), tC (leC 7 h1)]) (by kernel_rfl)).to (by clear E1; (try simp only [sl0, wk, wkL, wkO, eqCells, eqCell, regM, ccM, widthM, longM] at *); first | (simp [wk, wkL, wkO, eqCells, eqCell, regM, ccM, widthM, longM, *]; done) | (simp [wk, wkL, wkO, eqCells, eqCell, regM, ccM, widthM, longM, *]; omega) | (rw [Bool.eq_iff_iff]; simp [wk, wkL, wkO, eqCells, eqCell, regM, ccM, widthM, longM, *]; done) | (rw [Bool.eq_iff_iff]; simp [wk, wkL, wkO, eqCells, eqCell, regM, ccM, widthM, longM, *]; omega) | (rw [Bool.eq_iff_iff]; simp [wk, wkL, wkO, eqCells, eqCell, regM, ccM, widthM, longM, *]; grind) | (subst_vars; rw [Bool.eq_iff_iff]; simp; grind))
theorem within_ok (n a b : Int) : Ret Try.prog 115 ([.int .i64 n, .int .i64 a, .int .i64 b]) (.bool (decide (a ≤ n) && decide (n ≤ b))) := by
 rcases bft (decide (n ≥ a)) with h0 | h0
 ·exact (o115 (d := .bool (decide (n ≤ b))) [tC (eT h0), tC (eT h0), tC (eT h0), tC h0] (by kernel_rfl)).to (by (try simp only [sl0, wk, wkL, wkO, eqCells, eqCell, regM, ccM, widthM, longM] at *); (simp [wk, wkL, wkO, eqCells, eqCell, regM, ccM, widthM, longM, *]; done))
 exact (o115 (d := .bool false) [tC (eT h0), tC (eT h0), tC (eT h0), tC h0] (by kernel_rfl)).to (by (try simp only [sl0, wk, wkL, wkO, eqCells, eqCell, regM, ccM, widthM, longM] at *); (simp [wk, wkL, wkO, eqCells, eqCell, regM, ccM, widthM, longM, *]; done))
theorem width_ok (n : Int) : Ret Try.prog 117 ([.int .i8 n]) (.bool (widthM n)) := by
 by_cases h0 : n = 8
 ·subst h0
  exact (o117 (d := .bool true) [tT, tT] (by kernel_rfl)).to (by (try simp only [sl0, wk, wkL, wkO, eqCells, eqCell, regM, ccM, widthM, longM] at *); (simp [wk, wkL, wkO, eqCells, eqCell, regM, ccM, widthM, longM, *]; done))
 by_cases h1 : n = 16
 ·subst h1
  exact (o117 (d := .bool true) [tC (neOf h0), tT, tT] (by kernel_rfl)).to (by (try simp only [sl0, wk, wkL, wkO, eqCells, eqCell, regM, ccM, widthM, longM] at *); (simp [wk, wkL, wkO, eqCells, eqCell, regM, ccM, widthM, longM, *]; done))
 by_cases h2 : n = 32
 ·subst h2
  exact (o117 (d := .bool true) [tC (neOf h0), tC (neOf h1), tT, tT] (by kernel_rfl)).to (by (try simp only [sl0, wk, wkL, wkO, eqCells, eqCell, regM, ccM, widthM, longM] at *); (simp [wk, wkL, wkO, eqCells, eqCell, regM, ccM, widthM, longM, *]; done))
 by_cases h3 : n = 64
 ·subst h3
  exact (o117 (d := .bool true) [tC (neOf h0), tC (neOf h1), tC (neOf h2), tT] (by kernel_rfl)).to (by (try simp only [sl0, wk, wkL, wkO, eqCells, eqCell, regM, ccM, widthM, longM] at *); (simp [wk, wkL, wkO, eqCells, eqCell, regM, ccM, widthM, longM, *]; done))
 exact (o117 (d := .bool false) [tC (neOf h0), tC (neOf h1), tC (neOf h2), tC (neOf h3)] (by kernel_rfl)).to (by (try simp only [sl0, wk, wkL, wkO, eqCells, eqCell, regM, ccM, widthM, longM] at *); (simp [wk, wkL, wkO, eqCells, eqCell, regM, ccM, widthM, longM, *]; done))
theorem bareL_1_ok (op w dst src base disp imm cc : Int) : Ret Try.prog 113 ([xD op w dst src base disp imm cc, .int .i8 1]) (xD 0 0 0 0 base disp imm cc) := by
 let E1 : EL := [tT, tT, tT, tT, tF, tF, .flat _ _ flat_X]
 by_cases h0 : base = 0
 ·subst h0
  by_cases h1 : disp = 0
  ·subst h1
   by_cases h2 : imm = 0
   ·subst h2
    by_cases h3 : cc = 0
    ·subst h3
     exact (o113 (d := (xD 0 0 0 0 0 0 0 0)) (E1 ++ [tF]) (by kernel_rfl)).to (by (simp [wk, wkL, ]; done))
    exact (o113 (d := (xD 0 0 0 0 0 0 0 cc)) (E1 ++ [tC (nt (andT rfl (andT rfl (andT rfl (andT rfl (andT rfl (andT rfl (andT rfl (andF (y := true) (neOf h3))))))))))]) (by kernel_rfl)).to (by (simp [wk, wkL, h3]; done))
   exact (o113 (d := (xD 0 0 0 0 0 0 imm cc)) (E1 ++ [tC (nt (andT rfl (andT rfl (andT rfl (andT rfl (andT rfl (andT rfl (andF (y := eqCells [.int .i8 cc] [.int .i8 0]) (neOf h2)))))))))]) (by kernel_rfl)).to (by (simp [wk, wkL, h2]; done))
  exact (o113 (d := (xD 0 0 0 0 0 disp imm cc)) (E1 ++ [tC (nt (andT rfl (andT rfl (andT rfl (andT rfl (andT rfl (andF (y := eqCells [.int .i64 imm, .int .i8 cc] [.int .i64 0, .int .i8 0]) (neOf h1))))))))]) (by kernel_rfl)).to (by (simp [wk, wkL, h1]; done))
 exact (o113 (d := (xD 0 0 0 0 base disp imm cc)) (E1 ++ [tC (nt (andT rfl (andT rfl (andT rfl (andT rfl (andF (y := eqCells [.int .i64 disp, .int .i64 imm, .int .i8 cc] [.int .i64 0, .int .i64 0, .int .i8 0]) (neOf h0)))))))]) (by kernel_rfl)).to (by (simp [wk, wkL, h0]; done))
theorem bareL_2_ok (op w dst src base disp imm cc : Int) : Ret Try.prog 113 ([xD op w dst src base disp imm cc, .int .i8 2]) (xD 0 0 0 0 base disp imm cc) := by
 let E1 : EL := [tF, tT, tT, tT, tT, tF, tF, .flat _ _ flat_X]
 by_cases h0 : base = 0
 ·subst h0
  by_cases h1 : disp = 0
  ·subst h1
   by_cases h2 : imm = 0
   ·subst h2
    by_cases h3 : cc = 0
    ·subst h3
     exact (o113 (d := (xD 0 0 0 0 0 0 0 0)) (E1 ++ [tF]) (by kernel_rfl)).to (by (simp [wk, wkL, ]; done))
    exact (o113 (d := (xD 0 0 0 0 0 0 0 cc)) (E1 ++ [tC (nt (andT rfl (andT rfl (andT rfl (andT rfl (andT rfl (andT rfl (andT rfl (andF (y := true) (neOf h3))))))))))]) (by kernel_rfl)).to (by (simp [wk, wkL, h3]; done))
   exact (o113 (d := (xD 0 0 0 0 0 0 imm cc)) (E1 ++ [tC (nt (andT rfl (andT rfl (andT rfl (andT rfl (andT rfl (andT rfl (andF (y := eqCells [.int .i8 cc] [.int .i8 0]) (neOf h2)))))))))]) (by kernel_rfl)).to (by (simp [wk, wkL, h2]; done))
  exact (o113 (d := (xD 0 0 0 0 0 disp imm cc)) (E1 ++ [tC (nt (andT rfl (andT rfl (andT rfl (andT rfl (andT rfl (andF (y := eqCells [.int .i64 imm, .int .i8 cc] [.int .i64 0, .int .i8 0]) (neOf h1))))))))]) (by kernel_rfl)).to (by (simp [wk, wkL, h1]; done))
 exact (o113 (d := (xD 0 0 0 0 base disp imm cc)) (E1 ++ [tC (nt (andT rfl (andT rfl (andT rfl (andT rfl (andF (y := eqCells [.int .i64 disp, .int .i64 imm, .int .i8 cc] [.int .i64 0, .int .i64 0, .int .i8 0]) (neOf h0)))))))]) (by kernel_rfl)).to (by (simp [wk, wkL, h0]; done))
theorem bareL_3_ok (op w dst src base disp imm cc : Int) : Ret Try.prog 113 ([xD op w dst src base disp imm cc, .int .i8 3]) (xD 0 0 0 src base disp 0 cc) := by
 let E1 : EL := [tF, tF, tF, tT, tT, tT, tT, tF, tF, .flat _ _ flat_X]
 by_cases h0 : src = 0
 ·subst h0
  by_cases h1 : base = 0
  ·subst h1
   by_cases h2 : disp = 0
   ·subst h2
    by_cases h3 : cc = 0
    ·subst h3
     exact (o113 (d := (xD 0 0 0 0 0 0 0 0)) (E1 ++ [tF]) (by kernel_rfl)).to (by (simp [wk, wkL, ]; done))
    exact (o113 (d := (xD 0 0 0 0 0 0 0 cc)) (E1 ++ [tC (nt (andT rfl (andT rfl (andT rfl (andT rfl (andT rfl (andT rfl (andT rfl (andF (y := true) (neOf h3))))))))))]) (by kernel_rfl)).to (by (simp [wk, wkL, h3]; done))
   exact (o113 (d := (xD 0 0 0 0 0 disp 0 cc)) (E1 ++ [tC (nt (andT rfl (andT rfl (andT rfl (andT rfl (andT rfl (andF (y := eqCells [.int .i64 0, .int .i8 cc] [.int .i64 0, .int .i8 0]) (neOf h2))))))))]) (by kernel_rfl)).to (by (simp [wk, wkL, h2]; done))
  exact (o113 (d := (xD 0 0 0 0 base disp 0 cc)) (E1 ++ [tC (nt (andT rfl (andT rfl (andT rfl (andT rfl (andF (y := eqCells [.int .i64 disp, .int .i64 0, .int .i8 cc] [.int .i64 0, .int .i64 0, .int .i8 0]) (neOf h1)))))))]) (by kernel_rfl)).to (by (simp [wk, wkL, h1]; done))
 exact (o113 (d := (xD 0 0 0 src base disp 0 cc)) (E1 ++ [tC (nt (andT rfl (andT rfl (andT rfl (andF (y := eqCells [.int .i8 base, .int .i64 disp, .int .i64 0, .int .i8 cc] [.int .i8 0, .int .i64 0, .int .i64 0, .int .i8 0]) (neOf h0))))))]) (by kernel_rfl)).to (by (simp [wk, wkL, h0]; done))
theorem bareL_4_ok (op w dst src base disp imm cc : Int) : Ret Try.prog 113 ([xD op w dst src base disp imm cc, .int .i8 4]) (xD 0 0 0 src base disp 0 cc) := by
 let E1 : EL := [tF, tF, tF, tF, tT, tT, tT, tF, tF, .flat _ _ flat_X]
 by_cases h0 : src = 0
 ·subst h0
  by_cases h1 : base = 0
  ·subst h1
   by_cases h2 : disp = 0
   ·subst h2
    by_cases h3 : cc = 0
    ·subst h3
     exact (o113 (d := (xD 0 0 0 0 0 0 0 0)) (E1 ++ [tF]) (by kernel_rfl)).to (by (simp [wk, wkL, ]; done))
    exact (o113 (d := (xD 0 0 0 0 0 0 0 cc)) (E1 ++ [tC (nt (andT rfl (andT rfl (andT rfl (andT rfl (andT rfl (andT rfl (andT rfl (andF (y := true) (neOf h3))))))))))]) (by kernel_rfl)).to (by (simp [wk, wkL, h3]; done))
   exact (o113 (d := (xD 0 0 0 0 0 disp 0 cc)) (E1 ++ [tC (nt (andT rfl (andT rfl (andT rfl (andT rfl (andT rfl (andF (y := eqCells [.int .i64 0, .int .i8 cc] [.int .i64 0, .int .i8 0]) (neOf h2))))))))]) (by kernel_rfl)).to (by (simp [wk, wkL, h2]; done))
  exact (o113 (d := (xD 0 0 0 0 base disp 0 cc)) (E1 ++ [tC (nt (andT rfl (andT rfl (andT rfl (andT rfl (andF (y := eqCells [.int .i64 disp, .int .i64 0, .int .i8 cc] [.int .i64 0, .int .i64 0, .int .i8 0]) (neOf h1)))))))]) (by kernel_rfl)).to (by (simp [wk, wkL, h1]; done))
 exact (o113 (d := (xD 0 0 0 src base disp 0 cc)) (E1 ++ [tC (nt (andT rfl (andT rfl (andT rfl (andF (y := eqCells [.int .i8 base, .int .i64 disp, .int .i64 0, .int .i8 cc] [.int .i8 0, .int .i64 0, .int .i64 0, .int .i8 0]) (neOf h0))))))]) (by kernel_rfl)).to (by (simp [wk, wkL, h0]; done))
theorem bareL_5_ok (op w dst src base disp imm cc : Int) : Ret Try.prog 113 ([xD op w dst src base disp imm cc, .int .i8 5]) (xD 0 0 0 src base disp imm cc) := by
 let E1 : EL := [tF, tF, tF, tF, tF, tT, tT, tT, tF, tF, .flat _ _ flat_X]
 by_cases h0 : src = 0
 ·subst h0
  by_cases h1 : base = 0
  ·subst h1
   by_cases h2 : disp = 0
   ·subst h2
    by_cases h3 : imm = 0
    ·subst h3
     by_cases h4 : cc = 0
     ·subst h4
      exact (o113 (d := (xD 0 0 0 0 0 0 0 0)) (E1 ++ [tF]) (by kernel_rfl)).to (by (simp [wk, wkL, ]; done))
     exact (o113 (d := (xD 0 0 0 0 0 0 0 cc)) (E1 ++ [tC (nt (andT rfl (andT rfl (andT rfl (andT rfl (andT rfl (andT rfl (andT rfl (andF (y := true) (neOf h4))))))))))]) (by kernel_rfl)).to (by (simp [wk, wkL, h4]; done))
    exact (o113 (d := (xD 0 0 0 0 0 0 imm cc)) (E1 ++ [tC (nt (andT rfl (andT rfl (andT rfl (andT rfl (andT rfl (andT rfl (andF (y := eqCells [.int .i8 cc] [.int .i8 0]) (neOf h3)))))))))]) (by kernel_rfl)).to (by (simp [wk, wkL, h3]; done))
   exact (o113 (d := (xD 0 0 0 0 0 disp imm cc)) (E1 ++ [tC (nt (andT rfl (andT rfl (andT rfl (andT rfl (andT rfl (andF (y := eqCells [.int .i64 imm, .int .i8 cc] [.int .i64 0, .int .i8 0]) (neOf h2))))))))]) (by kernel_rfl)).to (by (simp [wk, wkL, h2]; done))
  exact (o113 (d := (xD 0 0 0 0 base disp imm cc)) (E1 ++ [tC (nt (andT rfl (andT rfl (andT rfl (andT rfl (andF (y := eqCells [.int .i64 disp, .int .i64 imm, .int .i8 cc] [.int .i64 0, .int .i64 0, .int .i8 0]) (neOf h1)))))))]) (by kernel_rfl)).to (by (simp [wk, wkL, h1]; done))
 exact (o113 (d := (xD 0 0 0 src base disp imm cc)) (E1 ++ [tC (nt (andT rfl (andT rfl (andT rfl (andF (y := eqCells [.int .i8 base, .int .i64 disp, .int .i64 imm, .int .i8 cc] [.int .i8 0, .int .i64 0, .int .i64 0, .int .i8 0]) (neOf h0))))))]) (by kernel_rfl)).to (by (simp [wk, wkL, h0]; done))
theorem bareL_6_ok (op w dst src base disp imm cc : Int) : Ret Try.prog 113 ([xD op w dst src base disp imm cc, .int .i8 6]) (xD 0 0 0 0 base disp imm 0) := by
 let E1 : EL := [tF, tF, tT, tF, tF, tT, tT, .flat _ _ flat_X]
 by_cases h0 : base = 0
 ·subst h0
  by_cases h1 : disp = 0
  ·subst h1
   by_cases h2 : imm = 0
   ·subst h2
    exact (o113 (d := (xD 0 0 0 0 0 0 0 0)) (E1 ++ [tF]) (by kernel_rfl)).to (by (simp [wk, wkL, ]; done))
   exact (o113 (d := (xD 0 0 0 0 0 0 imm 0)) (E1 ++ [tC (nt (andT rfl (andT rfl (andT rfl (andT rfl (andT rfl (andT rfl (andF (y := true) (neOf h2)))))))))]) (by kernel_rfl)).to (by (simp [wk, wkL, h2]; done))
  exact (o113 (d := (xD 0 0 0 0 0 disp imm 0)) (E1 ++ [tC (nt (andT rfl (andT rfl (andT rfl (andT rfl (andT rfl (andF (y := eqCells [.int .i64 imm, .int .i8 0] [.int .i64 0, .int .i8 0]) (neOf h1))))))))]) (by kernel_rfl)).to (by (simp [wk, wkL, h1]; done))
 exact (o113 (d := (xD 0 0 0 0 base disp imm 0)) (E1 ++ [tC (nt (andT rfl (andT rfl (andT rfl (andT rfl (andF (y := eqCells [.int .i64 disp, .int .i64 imm, .int .i8 0] [.int .i64 0, .int .i64 0, .int .i8 0]) (neOf h0)))))))]) (by kernel_rfl)).to (by (simp [wk, wkL, h0]; done))
theorem bareL_7_ok (op w dst src base disp imm cc : Int) : Ret Try.prog 113 ([xD op w dst src base disp imm cc, .int .i8 7]) (xD 0 0 0 src 0 0 imm cc) := by
 let E1 : EL := [tF, tF, tF, tF, tF, tF, tT, tT, tT, tF, tF, .flat _ _ flat_X]
 by_cases h0 : src = 0
 ·subst h0
  by_cases h1 : imm = 0
  ·subst h1
   by_cases h2 : cc = 0
   ·subst h2
    exact (o113 (d := (xD 0 0 0 0 0 0 0 0)) (E1 ++ [tF]) (by kernel_rfl)).to (by (simp [wk, wkL, ]; done))
   exact (o113 (d := (xD 0 0 0 0 0 0 0 cc)) (E1 ++ [tC (nt (andT rfl (andT rfl (andT rfl (andT rfl (andT rfl (andT rfl (andT rfl (andF (y := true) (neOf h2))))))))))]) (by kernel_rfl)).to (by (simp [wk, wkL, h2]; done))
  exact (o113 (d := (xD 0 0 0 0 0 0 imm cc)) (E1 ++ [tC (nt (andT rfl (andT rfl (andT rfl (andT rfl (andT rfl (andT rfl (andF (y := eqCells [.int .i8 cc] [.int .i8 0]) (neOf h1)))))))))]) (by kernel_rfl)).to (by (simp [wk, wkL, h1]; done))
 exact (o113 (d := (xD 0 0 0 src 0 0 imm cc)) (E1 ++ [tC (nt (andT rfl (andT rfl (andT rfl (andF (y := eqCells [.int .i8 0, .int .i64 0, .int .i64 imm, .int .i8 cc] [.int .i8 0, .int .i64 0, .int .i64 0, .int .i8 0]) (neOf h0))))))]) (by kernel_rfl)).to (by (simp [wk, wkL, h0]; done))
theorem bareL_8_ok (op w dst src base disp imm cc : Int) : Ret Try.prog 113 ([xD op w dst src base disp imm cc, .int .i8 8]) (xD 0 0 dst 0 0 0 imm cc) := by
 let E1 : EL := [tF, tF, tF, tF, tF, tF, tF, tT, tT, tT, tF, tF, .flat _ _ flat_X]
 by_cases h0 : dst = 0
 ·subst h0
  by_cases h1 : imm = 0
  ·subst h1
   by_cases h2 : cc = 0
   ·subst h2
    exact (o113 (d := (xD 0 0 0 0 0 0 0 0)) (E1 ++ [tF]) (by kernel_rfl)).to (by (simp [wk, wkL, ]; done))
   exact (o113 (d := (xD 0 0 0 0 0 0 0 cc)) (E1 ++ [tC (nt (andT rfl (andT rfl (andT rfl (andT rfl (andT rfl (andT rfl (andT rfl (andF (y := true) (neOf h2))))))))))]) (by kernel_rfl)).to (by (simp [wk, wkL, h2]; done))
  exact (o113 (d := (xD 0 0 0 0 0 0 imm cc)) (E1 ++ [tC (nt (andT rfl (andT rfl (andT rfl (andT rfl (andT rfl (andT rfl (andF (y := eqCells [.int .i8 cc] [.int .i8 0]) (neOf h1)))))))))]) (by kernel_rfl)).to (by (simp [wk, wkL, h1]; done))
 exact (o113 (d := (xD 0 0 dst 0 0 0 imm cc)) (E1 ++ [tC (nt (andT rfl (andT rfl (andF (y := eqCells [.int .i8 0, .int .i8 0, .int .i64 0, .int .i64 imm, .int .i8 cc] [.int .i8 0, .int .i8 0, .int .i64 0, .int .i64 0, .int .i8 0]) (neOf h0)))))]) (by kernel_rfl)).to (by (simp [wk, wkL, h0]; done))
theorem bareL_9_ok (op w dst src base disp imm cc : Int) : Ret Try.prog 113 ([xD op w dst src base disp imm cc, .int .i8 9]) (xD 0 0 dst src base disp 0 cc) := by
 let E1 : EL := (List.replicate 8 tF ++ [tT, tT, tT, tT, tF, tF, .flat _ _ flat_X])
 by_cases h0 : dst = 0
 ·subst h0
  by_cases h1 : src = 0
  ·subst h1
   by_cases h2 : base = 0
   ·subst h2
    by_cases h3 : disp = 0
    ·subst h3
     by_cases h4 : cc = 0
     ·subst h4
      exact (o113 (d := (xD 0 0 0 0 0 0 0 0)) (E1 ++ [tF]) (by kernel_rfl)).to (by (simp [wk, wkL, ]; done))
     exact (o113 (d := (xD 0 0 0 0 0 0 0 cc)) (E1 ++ [tC (nt (andT rfl (andT rfl (andT rfl (andT rfl (andT rfl (andT rfl (andT rfl (andF (y := true) (neOf h4))))))))))]) (by kernel_rfl)).to (by (simp [wk, wkL, h4]; done))
    exact (o113 (d := (xD 0 0 0 0 0 disp 0 cc)) (E1 ++ [tC (nt (andT rfl (andT rfl (andT rfl (andT rfl (andT rfl (andF (y := eqCells [.int .i64 0, .int .i8 cc] [.int .i64 0, .int .i8 0]) (neOf h3))))))))]) (by kernel_rfl)).to (by (simp [wk, wkL, h3]; done))
   exact (o113 (d := (xD 0 0 0 0 base disp 0 cc)) (E1 ++ [tC (nt (andT rfl (andT rfl (andT rfl (andT rfl (andF (y := eqCells [.int .i64 disp, .int .i64 0, .int .i8 cc] [.int .i64 0, .int .i64 0, .int .i8 0]) (neOf h2)))))))]) (by kernel_rfl)).to (by (simp [wk, wkL, h2]; done))
  exact (o113 (d := (xD 0 0 0 src base disp 0 cc)) (E1 ++ [tC (nt (andT rfl (andT rfl (andT rfl (andF (y := eqCells [.int .i8 base, .int .i64 disp, .int .i64 0, .int .i8 cc] [.int .i8 0, .int .i64 0, .int .i64 0, .int .i8 0]) (neOf h1))))))]) (by kernel_rfl)).to (by (simp [wk, wkL, h1]; done))
 exact (o113 (d := (xD 0 0 dst src base disp 0 cc)) (E1 ++ [tC (nt (andT rfl (andT rfl (andF (y := eqCells [.int .i8 src, .int .i8 base, .int .i64 disp, .int .i64 0, .int .i8 cc] [.int .i8 0, .int .i8 0, .int .i64 0, .int .i64 0, .int .i8 0]) (neOf h0)))))]) (by kernel_rfl)).to (by (simp [wk, wkL, h0]; done))
theorem bareL_10_ok (op w dst src base disp imm cc : Int) : Ret Try.prog 113 ([xD op w dst src base disp imm cc, .int .i8 10]) (xD 0 0 dst src base disp 0 0) := by
 let E1 : EL := (List.replicate 9 tF ++ [tT, tT, tT, tF, tT, .flat _ _ flat_X])
 by_cases h0 : dst = 0
 ·subst h0
  by_cases h1 : src = 0
  ·subst h1
   by_cases h2 : base = 0
   ·subst h2
    by_cases h3 : disp = 0
    ·subst h3
     exact (o113 (d := (xD 0 0 0 0 0 0 0 0)) (E1 ++ [tF]) (by kernel_rfl)).to (by (simp [wk, wkL, ]; done))
    exact (o113 (d := (xD 0 0 0 0 0 disp 0 0)) (E1 ++ [tC (nt (andT rfl (andT rfl (andT rfl (andT rfl (andT rfl (andF (y := true) (neOf h3))))))))]) (by kernel_rfl)).to (by (simp [wk, wkL, h3]; done))
   exact (o113 (d := (xD 0 0 0 0 base disp 0 0)) (E1 ++ [tC (nt (andT rfl (andT rfl (andT rfl (andT rfl (andF (y := eqCells [.int .i64 disp, .int .i64 0, .int .i8 0] [.int .i64 0, .int .i64 0, .int .i8 0]) (neOf h2)))))))]) (by kernel_rfl)).to (by (simp [wk, wkL, h2]; done))
  exact (o113 (d := (xD 0 0 0 src base disp 0 0)) (E1 ++ [tC (nt (andT rfl (andT rfl (andT rfl (andF (y := eqCells [.int .i8 base, .int .i64 disp, .int .i64 0, .int .i8 0] [.int .i8 0, .int .i64 0, .int .i64 0, .int .i8 0]) (neOf h1))))))]) (by kernel_rfl)).to (by (simp [wk, wkL, h1]; done))
 exact (o113 (d := (xD 0 0 dst src base disp 0 0)) (E1 ++ [tC (nt (andT rfl (andT rfl (andF (y := eqCells [.int .i8 src, .int .i8 base, .int .i64 disp, .int .i64 0, .int .i8 0] [.int .i8 0, .int .i8 0, .int .i64 0, .int .i64 0, .int .i8 0]) (neOf h0)))))]) (by kernel_rfl)).to (by (simp [wk, wkL, h0]; done))
theorem bareL_11_ok (op w dst src base disp imm cc : Int) : Ret Try.prog 113 ([xD op w dst src base disp imm cc, .int .i8 11]) (xD 0 w dst src base disp imm cc) := by
 let E1 : EL := (List.replicate 10 tF ++ [tT, tT, tF, tF, .flat _ _ flat_X])
 by_cases h0 : w = 0
 ·subst h0
  by_cases h1 : dst = 0
  ·subst h1
   by_cases h2 : src = 0
   ·subst h2
    by_cases h3 : base = 0
    ·subst h3
     by_cases h4 : disp = 0
     ·subst h4
      by_cases h5 : imm = 0
      ·subst h5
       by_cases h6 : cc = 0
       ·subst h6
        exact (o113 (d := (xD 0 0 0 0 0 0 0 0)) (E1 ++ [tF]) (by kernel_rfl)).to (by (simp [wk, wkL, ]; done))
       exact (o113 (d := (xD 0 0 0 0 0 0 0 cc)) (E1 ++ [tC (nt (andT rfl (andT rfl (andT rfl (andT rfl (andT rfl (andT rfl (andT rfl (andF (y := true) (neOf h6))))))))))]) (by kernel_rfl)).to (by (simp [wk, wkL, h6]; done))
      exact (o113 (d := (xD 0 0 0 0 0 0 imm cc)) (E1 ++ [tC (nt (andT rfl (andT rfl (andT rfl (andT rfl (andT rfl (andT rfl (andF (y := eqCells [.int .i8 cc] [.int .i8 0]) (neOf h5)))))))))]) (by kernel_rfl)).to (by (simp [wk, wkL, h5]; done))
     exact (o113 (d := (xD 0 0 0 0 0 disp imm cc)) (E1 ++ [tC (nt (andT rfl (andT rfl (andT rfl (andT rfl (andT rfl (andF (y := eqCells [.int .i64 imm, .int .i8 cc] [.int .i64 0, .int .i8 0]) (neOf h4))))))))]) (by kernel_rfl)).to (by (simp [wk, wkL, h4]; done))
    exact (o113 (d := (xD 0 0 0 0 base disp imm cc)) (E1 ++ [tC (nt (andT rfl (andT rfl (andT rfl (andT rfl (andF (y := eqCells [.int .i64 disp, .int .i64 imm, .int .i8 cc] [.int .i64 0, .int .i64 0, .int .i8 0]) (neOf h3)))))))]) (by kernel_rfl)).to (by (simp [wk, wkL, h3]; done))
   exact (o113 (d := (xD 0 0 0 src base disp imm cc)) (E1 ++ [tC (nt (andT rfl (andT rfl (andT rfl (andF (y := eqCells [.int .i8 base, .int .i64 disp, .int .i64 imm, .int .i8 cc] [.int .i8 0, .int .i64 0, .int .i64 0, .int .i8 0]) (neOf h2))))))]) (by kernel_rfl)).to (by (simp [wk, wkL, h2]; done))
  exact (o113 (d := (xD 0 0 dst src base disp imm cc)) (E1 ++ [tC (nt (andT rfl (andT rfl (andF (y := eqCells [.int .i8 src, .int .i8 base, .int .i64 disp, .int .i64 imm, .int .i8 cc] [.int .i8 0, .int .i8 0, .int .i64 0, .int .i64 0, .int .i8 0]) (neOf h1)))))]) (by kernel_rfl)).to (by (simp [wk, wkL, h1]; done))
 exact (o113 (d := (xD 0 w dst src base disp imm cc)) (E1 ++ [tC (nt (andT rfl (andF (y := eqCells [.int .i8 dst, .int .i8 src, .int .i8 base, .int .i64 disp, .int .i64 imm, .int .i8 cc] [.int .i8 0, .int .i8 0, .int .i8 0, .int .i64 0, .int .i64 0, .int .i8 0]) (neOf h0))))]) (by kernel_rfl)).to (by (simp [wk, wkL, h0]; done))
end Go.Proofs.Ytcngafhpodeenaa
