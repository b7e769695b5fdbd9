/- Contracts and plain laws that a statement's proof leans on (texts merged: NumA, XB1, XR1, XR2a, XR2b, XR2c, XR2d, XR2e, XR2f, XRB, XS1, XS2, XW). -/
import Derived.WalkKit
import Derived.IntWalk
import Derived.KernelRfl
import Derived.LoopN
import Derived.Test.YtcngafhpodeenaaGreatG05
import Derived.Test.YtcngafhpodeenaaGreatG06
import Derived.Test.YtcngafhpodeenaaGreatG11
set_option linter.unusedVariables false
set_option linter.unusedSimpArgs false
namespace Go.Proofs.YtcngafhpodeenaaGreat
open Go Go.RowKit Go.Ev
set_option maxRecDepth 100000
set_option maxHeartbeats 4000000 in
theorem num4_walk (v : Int) (h0 : -2147483648 ≤ v) (h1 : v ≤ 2147483647) (w : World) :
  Calls Tryz.prog 79 #[.int .i64 v, .int .i64 4] w fun e w' => e = .returned (.tuple #[.slice (some ⟨w.heap.size, 0, none⟩) 4 4, .int .i64 0]) ∧
   w' = w.alloc (.cells #[.int .u8 (v % 256), .int .u8 (v / 256 % 256), .int .u8 (v / 65536 % 256), .int .u8 (v / 16777216 % 256)] 5) := by
 have hmk : ∀ w, (Instr.makeSlice 22 (.int .i64 4) (.int .i64 4)).run Tryz.prog w = .ok (.slice (some ⟨w.heap.size, 0, none⟩) 4 4) (w.alloc (.cells #[.int .u8 0, .int .u8 0, .int .u8 0, .int .u8 0] 5)) := fun _ => by kernel_rfl
 go_enter Tryz.func79, Tryz.ntmps79
 go_wp2
 refine wp_loop_rounds 5 ?_
 rw [rounds_succ]; go_wp2
 rw [rounds_succ]; go_wp2
 rw [rounds_succ]; go_wp2
 rw [rounds_succ]; go_wp2
 rw [rounds_succ]; go_wp2
 go_ret2
 exact ⟨rfl, rfl⟩
theorem ext_alloc {C : Nat → Nat → Option Value} {w : World} (hC : ∀ b o v, C b o = some v → w.cell? ⟨b, o, none⟩ = some v) (cells : Array Value) (ty : TypeId) :
  Ext (bareOf C) w (bareOf fun b o => if b = w.heap.size then cells[o]? else C b o) (w.alloc (.cells cells ty)) := by
 have hlt : ∀ b o v, C b o = some v → b < w.heap.size := fun b o v h => World.block_lt_of_cell? w _ (hC b o v h)
 refine ⟨(Below.refl _ _).alloc (Nat.le_refl _) _, ?_, ?_, ?_⟩
 ·intro b o v h
  have := hlt b o v h
  show (if b = w.heap.size then cells[o]? else C b o) = some v
  rw [if_neg (by omega)]
  exact h
 ·intro b o v h hb
  have h' : (if b = w.heap.size then cells[o]? else C b o) = some v := h
  rw [if_neg (by omega)] at h'
  exact h'
 ·intro b o v h
  have h' : (if b = w.heap.size then cells[o]? else C b o) = some v := h
  split at h'
  ·rename_i e
   subst e
   have hh : (w.alloc (.cells cells ty)).heap[w.heap.size]? = some (.cells cells ty) := by
    show (w.heap.push _)[w.heap.size]? = _
    simp
   simp only [World.cell?, hh]
   exact h'
  ·have hb := hlt b o v h'
   rw [World.cell?_alloc_lt _ _ _ hb]
   exact hC b o v h'
theorem rep_new {C : Nat → Nat → Option Value} {b : Nat} {k : IntKind} (xs : List Int) (cells : Array Value) (hc : cells = (xs.map fun n => Value.int k n).toArray) :
  Rep (bareOf fun b' o => if b' = b then cells[o]? else C b' o) (.lst .tight 1 (xs.map fun n => .int k n)) (.slice (some ⟨b, 0, none⟩) xs.length xs.length) := by
 subst hc
 have key : ∀ (i : Nat) (x : D) (cs : List D) (j : Nat) (c : D), (xs.map fun n => D.int k n)[i]? = some x → x.cells = some cs → cs[j]? = some c → ∃ n, xs[i]? = some n ∧ c = .int k n ∧ j = 0 := by
  intro i x cs j c h1 h2 h3
  rw [List.getElem?_map, Option.map_eq_some_iff] at h1
  obtain ⟨n, hn, rfl⟩ := h1
  simp only [D.cells, Option.some.injEq] at h2
  subst h2
  cases j with
  | zero => simp at h3; exact ⟨n, hn, h3.symm, rfl⟩
  | succ j => simp at h3
 refine .lst b 0 (fun i _ => .int k (xs.getD i 0)) (by simp) (Nat.le_refl _) (fun _ => rfl) ?_ ?_ ?_ ?_ rfl
 ·intro i x hx
  rw [List.getElem?_map, Option.map_eq_some_iff] at hx
  obtain ⟨n, hn, rfl⟩ := hx
  exact ⟨[.int k n], rfl, rfl⟩
 ·intro i x cs j c h1 h2 h3
  obtain ⟨n, hn, rfl, rfl⟩ := key i x cs j c h1 h2 h3
  simp [bareOf, hn]
 ·intro i x cs j c h1 h2 h3
  obtain ⟨n, hn, rfl, rfl⟩ := key i x cs j c h1 h2 h3
  simp only [List.getD_eq_getElem?_getD, hn, Option.getD_some]
  exact .int k n
 ·intro i x cs c h1 h2 h3
  rw [List.getElem?_map, Option.map_eq_some_iff] at h1
  obtain ⟨n, hn, rfl⟩ := h1
  simp only [D.cells, Option.some.injEq] at h2
  subst h2
  simp at h3
  subst h3
  rfl
theorem num4_ok (v : Int) (h0 : -2147483648 ≤ v) (h1 : v ≤ 2147483647) : Ret Tryz.prog 79 [.int .i64 v, .int .i64 4] (.tup [.lst .tight 1 [.int .u8 (v % 256), .int .u8 (v / 256 % 256), .int .u8 (v / 65536 % 256), .int .u8 (v / 16777216 % 256)], .int .i64 0]) := by
 refine ⟨⟨_, _, Tryz.func79, rfl, by kernel_rfl⟩, fun w C vs hC ha => ?_⟩
 obtain ⟨hl, hr⟩ := ha
 obtain ⟨a, b, rfl⟩ : ∃ a b, vs = #[a, b] := by
  rcases vs with ⟨l⟩
  match l, hl with
  | [a, b], _ => exact ⟨a, b, rfl⟩
 have ra := hr 0 _ a rfl rfl
 have rb := hr 1 _ b rfl rfl
 cases ra
 cases rb
 refine Calls.mono (num4_walk v h0 h1 w) ?_
 rintro e w' ⟨rfl, rfl⟩
 have rl := rep_new (C := C) (b := w.heap.size) (k := .u8) [v % 256, v / 256 % 256, v / 65536 % 256, v / 16777216 % 256] _ rfl
 refine ⟨_, _, rfl, ext_alloc hC _ _, .tup rfl ?_, ?_⟩
 ·intro i d u p q
  match i, p, q with
  | 0, p, q => simp at p q; subst p q; exact rl
  | 1, p, q => simp at p q; subst p q; exact .int _ _
 ·refine ⟨fun sz sz' xs h => (by cases h), ?_⟩
  intro ds vs hd hv i sz sz' xs hi
  simp only [D.tup.injEq] at hd
  subst hd
  match i, hi with
  | 0, hi => simp at hi
  | 1, hi => simp at hi
end Go.Proofs.YtcngafhpodeenaaGreat

namespace Go.Proofs.YtcngafhpodeenaaGreat
open Go Go.Ev
set_option maxRecDepth 100000
set_option maxHeartbeats 8000000
theorem mRex_f_ok (r m : Int) (r0 : 0 ≤ r) (r1 : r ≤ 15) (m0 : 0 ≤ m) (m1 : m ≤ 15) : Ret Tryz.prog 65 ([.bool false, .int .i8 r, .int .i8 m]) (.tup [.int .u8 (rexB false r m), .int .i64 0]) := by
 have c0 := @mregister_ok r
 rw [show (regM r) = true from (@reg_yes r r0 r1)] at c0
 have c1 := @mregister_ok m
 rw [show (regM m) = true from (@reg_yes m m0 m1)] at c1
 have c2 := @mhigh2_ok r r0 r1
 have c3 := @mhigh0_ok m m0 m1
 exact (o65 (d := .tup [.int .u8 (IntKind.wrap IntKind.u8 (↑(BitVec.toNat (BitVec.ofInt (8 : Nat) (IntKind.wrap IntKind.u8 (↑(BitVec.toNat (BitVec.ofInt (8 : Nat) 64 ||| BitVec.ofInt (8 : Nat) (4 * (r / 8)))) : Int)) ||| BitVec.ofInt (8 : Nat) (m / 8))) : Int)), .int .i64 0]) [.ret _ _ _ c0, tT, tT, .ret _ _ _ c1, tT, tF, tF, .ret _ _ _ c2, .ret _ _ _ c3, tF] (by kernel_rfl)).to (by simp only [wk, wkL, D.int.injEq, true_and, and_true]; exact rex_raw0 r0 r1 m0 m1)
theorem mRex_t_ok (r m : Int) (r0 : 0 ≤ r) (r1 : r ≤ 15) (m0 : 0 ≤ m) (m1 : m ≤ 15) : Ret Tryz.prog 65 ([.bool true, .int .i8 r, .int .i8 m]) (.tup [.int .u8 (rexB true r m), .int .i64 0]) := by
 have c0 := @mregister_ok r
 rw [show (regM r) = true from (@reg_yes r r0 r1)] at c0
 have c1 := @mregister_ok m
 rw [show (regM m) = true from (@reg_yes m m0 m1)] at c1
 have c2 := @mhigh2_ok r r0 r1
 have c3 := @mhigh0_ok m m0 m1
 exact (o65 (d := .tup [.int .u8 (IntKind.wrap IntKind.u8 (↑(BitVec.toNat (BitVec.ofInt (8 : Nat) (IntKind.wrap IntKind.u8 (↑(BitVec.toNat (BitVec.ofInt (8 : Nat) (IntKind.wrap IntKind.u8 (↑(BitVec.toNat (BitVec.ofInt (8 : Nat) 64 ||| BitVec.ofInt (8 : Nat) (4 * (r / 8)))) : Int)) ||| BitVec.ofInt (8 : Nat) (m / 8))) : Int)) ||| BitVec.ofInt (8 : Nat) 8)) : Int)), .int .i64 0]) [.ret _ _ _ c0, tT, tT, .ret _ _ _ c1, tT, tF, tF, .ret _ _ _ c2, .ret _ _ _ c3, tT] (by kernel_rfl)).to (by simp only [wk, wkL, D.int.injEq, true_and, and_true]; exact rex_raw1 r0 r1 m0 m1)
theorem mRegs_ok (r m : Int) (r0 : 0 ≤ r) (r1 : r ≤ 15) (m0 : 0 ≤ m) (m1 : m ≤ 15) : Ret Tryz.prog 66 ([.int .i8 r, .int .i8 m]) (.tup [.lst .tight 1 [.int .u8 (regsM r m)], .int .i64 0]) := by
 have c0 := @mregister_ok r
 rw [show (regM r) = true from (@reg_yes r r0 r1)] at c0
 have c1 := @mregister_ok m
 rw [show (regM m) = true from (@reg_yes m m0 m1)] at c1
 have c2 := @mlow192_ok r m r0 r1 m0 m1
 generalize g4 : regsM r m = r3 at c2
 exact (o66 (d := .tup [.lst .tight 1 [.int .u8 r3], .int .i64 0]) [.ret _ _ _ c0, tT, tT, .ret _ _ _ c1, tT, tF, tF, .ret _ _ _ c2] (by kernel_rfl)).to (by subst_vars; simp [wk, wkL, wkO])
theorem mMem_4_ok (r b disp : Int) (r0 : 0 ≤ r) (r1 : r ≤ 15) (m0 : 0 ≤ b) (m1 : b ≤ 15) (h0 : -2147483648 ≤ disp) (h1 : disp ≤ 2147483647) (hb : decide (b % 8 = 4) = true) : Ret Tryz.prog 68 ([.int .i8 r, .int .i8 b, .int .i64 disp]) (.tup [.lst .no 1 [.int .u8 (128 + 8 * (r % 8) + b % 8), .int .u8 36, .int .u8 (disp % 256), .int .u8 (disp / 256 % 256), .int .u8 (disp / 65536 % 256), .int .u8 (disp / 16777216 % 256)], .int .i64 0]) := by
 have c0 := @num4_ok disp h0 h1
 have c1 := @mregister_ok r
 rw [show (regM r) = true from (@reg_yes r r0 r1)] at c1
 have c2 := @mregister_ok b
 rw [show (regM b) = true from (@reg_yes b m0 m1)] at c2
 have c3 := @mlow128_ok r b r0 r1 m0 m1
 exact (o68 (d := .tup [.lst (.fresh 1) 1 [.int .u8 (128 + 8 * (r % 8) + b % 8), .int .u8 36, .int .u8 (disp % 256), .int .u8 (disp / 256 % 256), .int .u8 (disp / 65536 % 256), .int .u8 (disp / 16777216 % 256)], .int .i64 0]) [.ret _ _ _ c0, tT, tT, .ret _ _ _ c1, tT, tF, tT, tT, .ret _ _ _ c2, tT, tF, tF, tC (eqI 4 true (eq_of_beq (@sib_t b hb))), .ret _ _ _ c3, .inl, .go 64, tT, tT, .get ([.lst .tight 1 [.int .u8 (128 + 8 * (r % 8) + b % 8)], .lst .tight 1 [.int .u8 36], .lst .tight 1 [.int .u8 (disp % 256), .int .u8 (disp / 256 % 256), .int .u8 (disp / 65536 % 256), .int .u8 (disp / 16777216 % 256)]]) 0 (.lst .tight 1 [.int .u8 (128 + 8 * (r % 8) + b % 8)]) rfl, .len 1 2147483648 (by decide), tT, tT, .get ([.lst .tight 1 [.int .u8 (128 + 8 * (r % 8) + b % 8)], .lst .tight 1 [.int .u8 36], .lst .tight 1 [.int .u8 (disp % 256), .int .u8 (disp / 256 % 256), .int .u8 (disp / 65536 % 256), .int .u8 (disp / 16777216 % 256)]]) 1 (.lst .tight 1 [.int .u8 36]) rfl, .len 2 2147483648 (by decide), tT, tT, .get ([.lst .tight 1 [.int .u8 (128 + 8 * (r % 8) + b % 8)], .lst .tight 1 [.int .u8 36], .lst .tight 1 [.int .u8 (disp % 256), .int .u8 (disp / 256 % 256), .int .u8 (disp / 65536 % 256), .int .u8 (disp / 16777216 % 256)]]) 2 (.lst .tight 1 [.int .u8 (disp % 256), .int .u8 (disp / 256 % 256), .int .u8 (disp / 65536 % 256), .int .u8 (disp / 16777216 % 256)]) rfl, .len 6 2147483648 (by decide), tF] (by kernel_rfl)).to (by subst_vars; simp [wk, wkL, wkO])
theorem mMem_n_ok (r b disp : Int) (r0 : 0 ≤ r) (r1 : r ≤ 15) (m0 : 0 ≤ b) (m1 : b ≤ 15) (h0 : -2147483648 ≤ disp) (h1 : disp ≤ 2147483647) (hb : decide (b % 8 = 4) = false) : Ret Tryz.prog 68 ([.int .i8 r, .int .i8 b, .int .i64 disp]) (.tup [.lst .no 1 [.int .u8 (128 + 8 * (r % 8) + b % 8), .int .u8 (disp % 256), .int .u8 (disp / 256 % 256), .int .u8 (disp / 65536 % 256), .int .u8 (disp / 16777216 % 256)], .int .i64 0]) := by
 have c0 := @num4_ok disp h0 h1
 have c1 := @mregister_ok r
 rw [show (regM r) = true from (@reg_yes r r0 r1)] at c1
 have c2 := @mregister_ok b
 rw [show (regM b) = true from (@reg_yes b m0 m1)] at c2
 have c3 := @mlow128_ok r b r0 r1 m0 m1
 exact (o68 (d := .tup [.lst (.fresh 1) 1 [.int .u8 (128 + 8 * (r % 8) + b % 8), .int .u8 (disp % 256), .int .u8 (disp / 256 % 256), .int .u8 (disp / 65536 % 256), .int .u8 (disp / 16777216 % 256)], .int .i64 0]) [.ret _ _ _ c0, tT, tT, .ret _ _ _ c1, tT, tF, tT, tT, .ret _ _ _ c2, tT, tF, tF, tC (@sib_f b hb), .ret _ _ _ c3, .inl, .go 64, tT, tT, .get ([.lst .tight 1 [.int .u8 (128 + 8 * (r % 8) + b % 8)], .lst .tight 0 [], .lst .tight 1 [.int .u8 (disp % 256), .int .u8 (disp / 256 % 256), .int .u8 (disp / 65536 % 256), .int .u8 (disp / 16777216 % 256)]]) 0 (.lst .tight 1 [.int .u8 (128 + 8 * (r % 8) + b % 8)]) rfl, .len 1 2147483648 (by decide), tT, tT, .get ([.lst .tight 1 [.int .u8 (128 + 8 * (r % 8) + b % 8)], .lst .tight 0 [], .lst .tight 1 [.int .u8 (disp % 256), .int .u8 (disp / 256 % 256), .int .u8 (disp / 65536 % 256), .int .u8 (disp / 16777216 % 256)]]) 1 (.lst .tight 0 []) rfl, .len 1 2147483648 (by decide), tT, tT, .get ([.lst .tight 1 [.int .u8 (128 + 8 * (r % 8) + b % 8)], .lst .tight 0 [], .lst .tight 1 [.int .u8 (disp % 256), .int .u8 (disp / 256 % 256), .int .u8 (disp / 65536 % 256), .int .u8 (disp / 16777216 % 256)]]) 2 (.lst .tight 1 [.int .u8 (disp % 256), .int .u8 (disp / 256 % 256), .int .u8 (disp / 65536 % 256), .int .u8 (disp / 16777216 % 256)]) rfl, .len 5 2147483648 (by decide), tF] (by kernel_rfl)).to (by subst_vars; simp [wk, wkL, wkO])
theorem rex_no_ok (r m : Int) (r0 : 0 ≤ r) (r1 : r ≤ 15) (m0 : 0 ≤ m) (m1 : m ≤ 15) (wide al : Bool) (hn : needM wide r m al = false) : Ret Tryz.prog 36 ([.bool wide, .int .i8 r, .int .i8 m, .bool al]) (.lst .tight 1 []) := by
 cases wide
 ·cases al
  ·have c0 := @mneeds_f_ok r m r0 r1 m0 m1 hn
   exact (o36 (d := .lst .tight 0 []) [tT, tT, tT, tT, tT, tT, .ret _ _ _ c0, tT, tT, tT] (by kernel_rfl)).to (by simp [wk, wkL, wkO]; done)
  have c1 := @mRex_f_ok r m r0 r1 m0 m1
  generalize g3 : rexB false r m = r2 at c1
  exact (o36 (d := .lst .tight 1 [.int .u8 r2]) [tT, tT, tT, tF, tF, tF, tF, tF, tF, .ret _ _ _ c1] (by kernel_rfl)).to (by exfalso; simp [needM] at hn)
 have c4 := @mRex_t_ok r m r0 r1 m0 m1
 generalize g6 : rexB true r m = r5 at c4
 exact (o36 (d := .lst .tight 1 [.int .u8 r5]) (List.replicate 9 tF ++ [.ret _ _ _ c4]) (by kernel_rfl)).to (by exfalso; simp [needM] at hn)
theorem rex_yes_ok (r m : Int) (r0 : 0 ≤ r) (r1 : r ≤ 15) (m0 : 0 ≤ m) (m1 : m ≤ 15) (wide al : Bool) (hn : needM wide r m al = true) : Ret Tryz.prog 36 ([.bool wide, .int .i8 r, .int .i8 m, .bool al]) (.lst .tight 1 [.int .u8 (rexB wide r m)]) := by
 cases wide
 ·cases al
  ·have c0 := @mneeds_t_ok r m r0 r1 m0 m1 hn
   have c1 := @mRex_f_ok r m r0 r1 m0 m1
   generalize g3 : rexB false r m = r2 at c1
   exact (o36 (d := .lst .tight 1 [.int .u8 r2]) [tT, tT, tT, tT, tT, tT, .ret _ _ _ c0, tT, tT, tF, .ret _ _ _ c1] (by kernel_rfl)).to (by subst_vars; simp [wk, wkL, wkO]; done)
  have c4 := @mRex_f_ok r m r0 r1 m0 m1
  generalize g6 : rexB false r m = r5 at c4
  exact (o36 (d := .lst .tight 1 [.int .u8 r5]) [tT, tT, tT, tF, tF, tF, tF, tF, tF, .ret _ _ _ c4] (by kernel_rfl)).to (by subst_vars; simp [wk, wkL, wkO]; done)
 have c7 := @mRex_t_ok r m r0 r1 m0 m1
 generalize g9 : rexB true r m = r8 at c7
 exact (o36 (d := .lst .tight 1 [.int .u8 r8]) (List.replicate 9 tF ++ [.ret _ _ _ c7]) (by kernel_rfl)).to (by subst_vars; simp [wk, wkL, wkO]; done)
theorem two_ok (r m : Int) (r0 : 0 ≤ r) (r1 : r ≤ 15) (m0 : 0 ≤ m) (m1 : m ≤ 15) : Ret Tryz.prog 37 ([.int .i8 r, .int .i8 m]) (.lst .tight 1 [.int .u8 (regsM r m)]) := by
 have c0 := @mRegs_ok r m r0 r1 m0 m1
 generalize g2 : regsM r m = r1 at c0
 exact (o37 (d := .lst .tight 1 [.int .u8 r1]) [.ret _ _ _ c0] (by kernel_rfl)).to (by subst_vars; simp [wk, wkL, wkO])
theorem four_ok (n : Int) : Ret Tryz.prog 38 ([.int .i64 n]) (.lst .no 1 [.int .u8 (n % 256), .int .u8 (n / 256 % 256), .int .u8 (n / 65536 % 256), .int .u8 (n / 16777216 % 256)]) := by
 exact (o38 (d := .lst (.fresh 1) 1 [.int .u8 (IntKind.wrap IntKind.u8 (IntKind.wrap IntKind.u64 n)), .int .u8 (IntKind.wrap IntKind.u8 (Int.fdiv (IntKind.wrap IntKind.u64 n) 256)), .int .u8 (IntKind.wrap IntKind.u8 (Int.fdiv (Int.fdiv (IntKind.wrap IntKind.u64 n) 256) 256)), .int .u8 (IntKind.wrap IntKind.u8 (Int.fdiv (Int.fdiv (Int.fdiv (IntKind.wrap IntKind.u64 n) 256) 256) 256))]) [.inl, .go 64, tT, .len 1 2147483648 (by decide), tT, .len 2 2147483648 (by decide), tT, .len 3 2147483648 (by decide), tT, .len 4 2147483648 (by decide), tF] (by kernel_rfl)).to (by simp only [wk, wkL, wkO, D.int.injEq, D.lst.injEq, List.cons.injEq, true_and, and_true, w_u8, w_u64, true_or, fd1, fd256, fd65536, fd16777216]; simp; omega)
theorem rdir2_ok (n : Int) : Ret Tryz.prog 55 ([.int .u64 (n % 18446744073709551616), .int .i64 4]) (.lst .no 1 [.int .u8 (n % 256), .int .u8 (n / 256 % 256), .int .u8 (n / 65536 % 256), .int .u8 (n / 16777216 % 256)]) := by
 exact (o55 (d := .lst (.fresh 1) 1 [.int .u8 (IntKind.wrap IntKind.u8 (Int.fdiv (n % 18446744073709551616) 1)), .int .u8 (IntKind.wrap IntKind.u8 (Int.fdiv (n % 18446744073709551616) 256)), .int .u8 (IntKind.wrap IntKind.u8 (Int.fdiv (n % 18446744073709551616) 65536)), .int .u8 (IntKind.wrap IntKind.u8 (Int.fdiv (n % 18446744073709551616) 16777216))]) [.go 64, tT, tT, .len 1 2147483648 (by decide), tT, tT, .len 2 2147483648 (by decide), tT, tT, .len 3 2147483648 (by decide), tT, tT, .len 4 2147483648 (by decide), tF] (by kernel_rfl)).to (by simp only [wk, wkL, wkO, D.int.injEq, D.lst.injEq, List.cons.injEq, true_and, and_true, w_u8, w_u64, true_or, fd1, fd256, fd65536, fd16777216]; simp; omega)
end Go.Proofs.YtcngafhpodeenaaGreat

namespace Go.Proofs.YtcngafhpodeenaaGreat
open Go Go.Ev
set_option maxRecDepth 100000
set_option maxHeartbeats 8000000
theorem rrex_ok (r m : Int) (r0 : 0 ≤ r) (r1 : r ≤ 15) (m0 : 0 ≤ m) (m1 : m ≤ 15) (wide al : Bool) (hn : needM wide r m al = true) : Ret Tryz.prog 53 ([.bool wide, .int .i8 r, .int .i8 m, .bool al]) (.lst .tight 1 [.int .u8 (rexB wide r m)]) := by
 cases wide
 ·rcases bft (decide (r < 8)) with h0 | h0
  ·rcases bft (decide (m < 8)) with h1 | h1
   ·cases al
    ·exact (o53 (d := .lst .tight 0 []) [tF, tC (ltL 7 h0), tC (ltL 7 h1), tT, tT, tT, tT] (by kernel_rfl)).to (by (simp only [wk, wkL, wkO, D.int.injEq, D.lst.injEq, List.cons.injEq, true_and, and_true, w_u8, w_i64, rexB, true_or]; (try simp only [decide_eq_true_eq, decide_eq_false_iff_not, needM, Bool.or_eq_true, Bool.or_eq_false_iff] at *); first | omega | (simp; omega) | (exfalso; simp at *; omega)))
    exact (o53 (d := .lst .tight 1 [.int .u8 64]) [tF, tC (ltL 7 h0), tC (ltL 7 h1), tT, tT, tT, tF] (by kernel_rfl)).to (by (simp only [wk, wkL, wkO, D.int.injEq, D.lst.injEq, List.cons.injEq, true_and, and_true, w_u8, w_i64, rexB, true_or]; (try simp only [decide_eq_true_eq, decide_eq_false_iff_not, needM, Bool.or_eq_true, Bool.or_eq_false_iff] at *); first | omega | (simp; omega) | (exfalso; simp at *; omega)))
   exact (o53 (d := .lst .tight 1 [.int .u8 65]) [tF, tC (ltL 7 h0), tC (ltL 7 h1), tF, tF, tF, tF] (by kernel_rfl)).to (by (simp only [wk, wkL, wkO, D.int.injEq, D.lst.injEq, List.cons.injEq, true_and, and_true, w_u8, w_i64, rexB, true_or]; (try simp only [decide_eq_true_eq, decide_eq_false_iff_not, needM, Bool.or_eq_true, Bool.or_eq_false_iff] at *); first | omega | (simp; omega) | (exfalso; simp at *; omega)))
  rcases bft (decide (m < 8)) with h2 | h2
  ·exact (o53 (d := .lst .tight 1 [.int .u8 68]) [tF, tC (ltL 7 h0), tC (ltL 7 h2), tF, tF, tF, tF] (by kernel_rfl)).to (by (simp only [wk, wkL, wkO, D.int.injEq, D.lst.injEq, List.cons.injEq, true_and, and_true, w_u8, w_i64, rexB, true_or]; (try simp only [decide_eq_true_eq, decide_eq_false_iff_not, needM, Bool.or_eq_true, Bool.or_eq_false_iff] at *); first | omega | (simp; omega) | (exfalso; simp at *; omega)))
  exact (o53 (d := .lst .tight 1 [.int .u8 69]) [tF, tC (ltL 7 h0), tC (ltL 7 h2), tF, tF, tF, tF] (by kernel_rfl)).to (by (simp only [wk, wkL, wkO, D.int.injEq, D.lst.injEq, List.cons.injEq, true_and, and_true, w_u8, w_i64, rexB, true_or]; (try simp only [decide_eq_true_eq, decide_eq_false_iff_not, needM, Bool.or_eq_true, Bool.or_eq_false_iff] at *); first | omega | (simp; omega) | (exfalso; simp at *; omega)))
 rcases bft (decide (r < 8)) with h3 | h3
 ·rcases bft (decide (m < 8)) with h4 | h4
  ·exact (o53 (d := .lst .tight 1 [.int .u8 72]) [tT, tC (ltL 7 h3), tC (ltL 7 h4), tF, tF, tF, tF] (by kernel_rfl)).to (by (simp only [wk, wkL, wkO, D.int.injEq, D.lst.injEq, List.cons.injEq, true_and, and_true, w_u8, w_i64, rexB, true_or]; (try simp only [decide_eq_true_eq, decide_eq_false_iff_not, needM, Bool.or_eq_true, Bool.or_eq_false_iff] at *); first | omega | (simp; omega) | (exfalso; simp at *; omega)))
  exact (o53 (d := .lst .tight 1 [.int .u8 73]) [tT, tC (ltL 7 h3), tC (ltL 7 h4), tF, tF, tF, tF] (by kernel_rfl)).to (by (simp only [wk, wkL, wkO, D.int.injEq, D.lst.injEq, List.cons.injEq, true_and, and_true, w_u8, w_i64, rexB, true_or]; (try simp only [decide_eq_true_eq, decide_eq_false_iff_not, needM, Bool.or_eq_true, Bool.or_eq_false_iff] at *); first | omega | (simp; omega) | (exfalso; simp at *; omega)))
 rcases bft (decide (m < 8)) with h5 | h5
 ·exact (o53 (d := .lst .tight 1 [.int .u8 76]) [tT, tC (ltL 7 h3), tC (ltL 7 h5), tF, tF, tF, tF] (by kernel_rfl)).to (by (simp only [wk, wkL, wkO, D.int.injEq, D.lst.injEq, List.cons.injEq, true_and, and_true, w_u8, w_i64, rexB, true_or]; (try simp only [decide_eq_true_eq, decide_eq_false_iff_not, needM, Bool.or_eq_true, Bool.or_eq_false_iff] at *); first | omega | (simp; omega) | (exfalso; simp at *; omega)))
 exact (o53 (d := .lst .tight 1 [.int .u8 77]) [tT, tC (ltL 7 h3), tC (ltL 7 h5), tF, tF, tF, tF] (by kernel_rfl)).to (by (simp only [wk, wkL, wkO, D.int.injEq, D.lst.injEq, List.cons.injEq, true_and, and_true, w_u8, w_i64, rexB, true_or]; (try simp only [decide_eq_true_eq, decide_eq_false_iff_not, needM, Bool.or_eq_true, Bool.or_eq_false_iff] at *); first | omega | (simp; omega) | (exfalso; simp at *; omega)))
theorem rrexn_ok (r m : Int) (r0 : 0 ≤ r) (r1 : r ≤ 15) (m0 : 0 ≤ m) (m1 : m ≤ 15) (wide al : Bool) (hn : needM wide r m al = false) : Ret Tryz.prog 53 ([.bool wide, .int .i8 r, .int .i8 m, .bool al]) (.lst .tight 1 []) := by
 cases wide
 ·rcases bft (decide (r < 8)) with h0 | h0
  ·rcases bft (decide (m < 8)) with h1 | h1
   ·cases al
    ·exact (o53 (d := .lst .tight 0 []) [tF, tC (ltL 7 h0), tC (ltL 7 h1), tT, tT, tT, tT] (by kernel_rfl)).to (by (simp [wk, wkL, wkO]; done))
    exact (o53 (d := .lst .tight 1 [.int .u8 64]) [tF, tC (ltL 7 h0), tC (ltL 7 h1), tT, tT, tT, tF] (by kernel_rfl)).to (by (exfalso; simp [needM] at *; done))
   exact (o53 (d := .lst .tight 1 [.int .u8 65]) [tF, tC (ltL 7 h0), tC (ltL 7 h1), tF, tF, tF, tF] (by kernel_rfl)).to (by (simp only [wk, wkL, wkO, D.int.injEq, D.lst.injEq, List.cons.injEq, true_and, and_true, w_u8, w_i64, rexB, true_or]; (try simp only [decide_eq_true_eq, decide_eq_false_iff_not, needM, Bool.or_eq_true, Bool.or_eq_false_iff] at *); first | omega | (simp; omega) | (exfalso; simp at *; omega)))
  rcases bft (decide (m < 8)) with h2 | h2
  ·exact (o53 (d := .lst .tight 1 [.int .u8 68]) [tF, tC (ltL 7 h0), tC (ltL 7 h2), tF, tF, tF, tF] (by kernel_rfl)).to (by (simp only [wk, wkL, wkO, D.int.injEq, D.lst.injEq, List.cons.injEq, true_and, and_true, w_u8, w_i64, rexB, true_or]; (try simp only [decide_eq_true_eq, decide_eq_false_iff_not, needM, Bool.or_eq_true, Bool.or_eq_false_iff] at *); first | omega | (simp; omega) | (exfalso; simp at *; omega)))
  exact (o53 (d := .lst .tight 1 [.int .u8 69]) [tF, tC (ltL 7 h0), tC (ltL 7 h2), tF, tF, tF, tF] (by kernel_rfl)).to (by (simp only [wk, wkL, wkO, D.int.injEq, D.lst.injEq, List.cons.injEq, true_and, and_true, w_u8, w_i64, rexB, true_or]; (try simp only [decide_eq_true_eq, decide_eq_false_iff_not, needM, Bool.or_eq_true, Bool.or_eq_false_iff] at *); first | omega | (simp; omega) | (exfalso; simp at *; omega)))
 rcases bft (decide (r < 8)) with h3 | h3
 ·rcases bft (decide (m < 8)) with h4 | h4
  ·exact (o53 (d := .lst .tight 1 [.int .u8 72]) [tT, tC (ltL 7 h3), tC (ltL 7 h4), tF, tF, tF, tF] (by kernel_rfl)).to (by (exfalso; simp [needM] at *; done))
  exact (o53 (d := .lst .tight 1 [.int .u8 73]) [tT, tC (ltL 7 h3), tC (ltL 7 h4), tF, tF, tF, tF] (by kernel_rfl)).to (by (simp only [wk, wkL, wkO, D.int.injEq, D.lst.injEq, List.cons.injEq, true_and, and_true, w_u8, w_i64, rexB, true_or]; (try simp only [decide_eq_true_eq, decide_eq_false_iff_not, needM, Bool.or_eq_true, Bool.or_eq_false_iff] at *); first | omega | (simp; omega) | (exfalso; simp at *; omega)))
 rcases bft (decide (m < 8)) with h5 | h5
 ·exact (o53 (d := .lst .tight 1 [.int .u8 76]) [tT, tC (ltL 7 h3), tC (ltL 7 h5), tF, tF, tF, tF] (by kernel_rfl)).to (by (simp only [wk, wkL, wkO, D.int.injEq, D.lst.injEq, List.cons.injEq, true_and, and_true, w_u8, w_i64, rexB, true_or]; (try simp only [decide_eq_true_eq, decide_eq_false_iff_not, needM, Bool.or_eq_true, Bool.or_eq_false_iff] at *); first | omega | (simp; omega) | (exfalso; simp at *; omega)))
 exact (o53 (d := .lst .tight 1 [.int .u8 77]) [tT, tC (ltL 7 h3), tC (ltL 7 h5), tF, tF, tF, tF] (by kernel_rfl)).to (by (simp only [wk, wkL, wkO, D.int.injEq, D.lst.injEq, List.cons.injEq, true_and, and_true, w_u8, w_i64, rexB, true_or]; (try simp only [decide_eq_true_eq, decide_eq_false_iff_not, needM, Bool.or_eq_true, Bool.or_eq_false_iff] at *); first | omega | (simp; omega) | (exfalso; simp at *; omega)))
theorem rmem4_ok (r b disp : Int) (r0 : 0 ≤ r) (r1 : r ≤ 15) (m0 : 0 ≤ b) (m1 : b ≤ 15) (h0 : -2147483648 ≤ disp) (h1 : disp ≤ 2147483647) (hb : decide (b % 8 = 4) = true) : Ret Tryz.prog 56 ([.int .i8 r, .int .i8 b, .int .i64 disp]) (.lst .no 1 [.int .u8 (128 + 8 * (r % 8) + b % 8), .int .u8 36, .int .u8 (disp % 256), .int .u8 (disp / 256 % 256), .int .u8 (disp / 65536 % 256), .int .u8 (disp / 16777216 % 256)]) := by
 have c0 := @rdir2_ok disp
 exact (o56 (d := .lst (.fresh 1) 1 [.int .u8 (IntKind.wrap IntKind.u8 (IntKind.wrap IntKind.i64 (IntKind.wrap IntKind.i64 (128 + IntKind.wrap IntKind.i64 (8 * IntKind.wrap IntKind.i64 (IntKind.wrap IntKind.i8 (↑(BitVec.toNat (BitVec.ofInt (8 : Nat) r &&& BitVec.ofInt (8 : Nat) 7)) : Int)))) + IntKind.wrap IntKind.i64 (IntKind.wrap IntKind.i8 (↑(BitVec.toNat (BitVec.ofInt (8 : Nat) b &&& BitVec.ofInt (8 : Nat) 7)) : Int))))), .int .u8 36, .int .u8 (disp % 256), .int .u8 (disp / 256 % 256), .int .u8 (disp / 65536 % 256), .int .u8 (disp / 16777216 % 256)]) [tC (eqI 4 true (eq_of_beq (@sib_t b hb))), .len 2 2147483648 (by decide), .ret _ _ _ c0, .len 6 2147483648 (by decide)] (by kernel_rfl)).to (by simp only [wk, wkL, wkO, D.int.injEq, D.lst.injEq, List.cons.injEq, true_and, and_true, and7, w_u8, w_i8, w_i64, w_u64, true_or]; (simp; omega))
theorem rmemn_ok (r b disp : Int) (r0 : 0 ≤ r) (r1 : r ≤ 15) (m0 : 0 ≤ b) (m1 : b ≤ 15) (h0 : -2147483648 ≤ disp) (h1 : disp ≤ 2147483647) (hb : decide (b % 8 = 4) = false) : Ret Tryz.prog 56 ([.int .i8 r, .int .i8 b, .int .i64 disp]) (.lst .no 1 [.int .u8 (128 + 8 * (r % 8) + b % 8), .int .u8 (disp % 256), .int .u8 (disp / 256 % 256), .int .u8 (disp / 65536 % 256), .int .u8 (disp / 16777216 % 256)]) := by
 have c0 := @rdir2_ok disp
 exact (o56 (d := .lst (.fresh 1) 1 [.int .u8 (IntKind.wrap IntKind.u8 (IntKind.wrap IntKind.i64 (IntKind.wrap IntKind.i64 (128 + IntKind.wrap IntKind.i64 (8 * IntKind.wrap IntKind.i64 (IntKind.wrap IntKind.i8 (↑(BitVec.toNat (BitVec.ofInt (8 : Nat) r &&& BitVec.ofInt (8 : Nat) 7)) : Int)))) + IntKind.wrap IntKind.i64 (IntKind.wrap IntKind.i8 (↑(BitVec.toNat (BitVec.ofInt (8 : Nat) b &&& BitVec.ofInt (8 : Nat) 7)) : Int))))), .int .u8 (disp % 256), .int .u8 (disp / 256 % 256), .int .u8 (disp / 65536 % 256), .int .u8 (disp / 16777216 % 256)]) [tC (@sib_f b hb), .ret _ _ _ c0, .len 5 2147483648 (by decide)] (by kernel_rfl)).to (by simp only [wk, wkL, wkO, D.int.injEq, D.lst.injEq, List.cons.injEq, true_and, and_true, and7, w_u8, w_i8, w_i64, w_u64, true_or]; (simp; omega))
end Go.Proofs.YtcngafhpodeenaaGreat

namespace Go.Proofs.YtcngafhpodeenaaGreat
open Go Go.Ev
set_option maxRecDepth 100000
set_option maxHeartbeats 8000000
def SpXR2a0 (k0_ : Int) : Prop := ∀ (w dst src base disp imm cc : Int) (d0 : 0 ≤ dst) (d1 : dst ≤ 15) (s0 : 0 ≤ src) (s1 : src ≤ 15) (b0 : 0 ≤ base) (b1 : base ≤ 15) (p0 : -2147483648 ≤ disp) (p1 : disp ≤ 2147483647) (i0 : -2147483648 ≤ imm) (i1 : imm ≤ 2147483647) (c0 : 0 ≤ cc) (c1 : cc ≤ 15) (hm : mayX k0_ w dst src base disp imm cc = true), Ret Tryz.prog 26 ([xD k0_ w dst src base disp imm cc]) (.tup [.lst .no 1 (bD (bytesM k0_ w dst src base disp imm cc)), .int .i64 0])
theorem rbytes_0_ok : SpXR2a0 0 := by
 intro w dst src base disp imm cc d0 d1 s0 s1 b0 b1 p0 p1 i0 i1 c0 c1 hm
 have c0 := @rmayX_ok 0 w dst src base disp imm cc
 rw [hm] at c0
 have c1 := @class_ok 0
 rcases bft (needM (w == 64) src dst false) with h2 | h2
 ·have c3 := @rrex_ok src dst s0 s1 d0 d1 (w == 64) false h2
  generalize g5 : rexB (w == 64) src dst = r4 at c3
  have c6 := @rdirect_ok src dst s0 s1 d0 d1
  generalize g8 : regsM src dst = r7 at c6
  exact (o26 (d := .tup [.lst (.fresh 1) 1 [.int .u8 r4, .int .u8 137, .int .u8 r7], .int .i64 0]) [.ret _ _ _ c0, tF, .inl, tT, tF, .ret _ _ _ c1, tT, .ret _ _ _ c3, .ret _ _ _ c6, .len 3 2147483648 (by decide)] (by kernel_rfl)).to (by (subst_vars; (try simp only [beq_dec] at *); (try simp only [beq_iff_eq] at h); (try simp only [decide_eq_true_eq, decide_eq_false_iff_not] at *); simp_all [wk, wkL, wkO, bytesM, show shapeM 0 = 1 from rfl, bD, rexM, memM, fourM, w_u8, w_i64, codeM, numM]; done))
 have c9 := @rrexn_ok src dst s0 s1 d0 d1 (w == 64) false h2
 have c10 := @rdirect_ok src dst s0 s1 d0 d1
 generalize g12 : regsM src dst = r11 at c10
 exact (o26 (d := .tup [.lst (.fresh 1) 1 [.int .u8 137, .int .u8 r11], .int .i64 0]) [.ret _ _ _ c0, tF, .inl, tT, tF, .ret _ _ _ c1, tT, .ret _ _ _ c9, .ret _ _ _ c10, .len 2 2147483648 (by decide)] (by kernel_rfl)).to (by (subst_vars; (try simp only [beq_dec] at *); (try simp only [beq_iff_eq] at h); (try simp only [decide_eq_true_eq, decide_eq_false_iff_not] at *); simp_all [wk, wkL, wkO, bytesM, show shapeM 0 = 1 from rfl, bD, rexM, memM, fourM, w_u8, w_i64, codeM, numM]; done))
theorem rbytes_2_ok : SpXR2a0 2 := by
 intro w dst src base disp imm cc d0 d1 s0 s1 b0 b1 p0 p1 i0 i1 c0 c1 hm
 have c0 := @rmayX_ok 2 w dst src base disp imm cc
 rw [hm] at c0
 have c1 := @class_ok 2
 rcases bft (needM (w == 64) src dst false) with h2 | h2
 ·have c3 := @rrex_ok src dst s0 s1 d0 d1 (w == 64) false h2
  generalize g5 : rexB (w == 64) src dst = r4 at c3
  have c6 := @rdirect_ok src dst s0 s1 d0 d1
  generalize g8 : regsM src dst = r7 at c6
  exact (o26 (d := .tup [.lst (.fresh 1) 1 [.int .u8 r4, .int .u8 1, .int .u8 r7], .int .i64 0]) [.ret _ _ _ c0, tF, .inl, tF, tT, tF, .ret _ _ _ c1, tT, .ret _ _ _ c3, .ret _ _ _ c6, .len 3 2147483648 (by decide)] (by kernel_rfl)).to (by (subst_vars; (try simp only [beq_dec] at *); (try simp only [beq_iff_eq] at h); (try simp only [decide_eq_true_eq, decide_eq_false_iff_not] at *); simp_all [wk, wkL, wkO, bytesM, show shapeM 2 = 1 from rfl, bD, rexM, memM, fourM, w_u8, w_i64, codeM, numM]; done))
 have c9 := @rrexn_ok src dst s0 s1 d0 d1 (w == 64) false h2
 have c10 := @rdirect_ok src dst s0 s1 d0 d1
 generalize g12 : regsM src dst = r11 at c10
 exact (o26 (d := .tup [.lst (.fresh 1) 1 [.int .u8 1, .int .u8 r11], .int .i64 0]) [.ret _ _ _ c0, tF, .inl, tF, tT, tF, .ret _ _ _ c1, tT, .ret _ _ _ c9, .ret _ _ _ c10, .len 2 2147483648 (by decide)] (by kernel_rfl)).to (by (subst_vars; (try simp only [beq_dec] at *); (try simp only [beq_iff_eq] at h); (try simp only [decide_eq_true_eq, decide_eq_false_iff_not] at *); simp_all [wk, wkL, wkO, bytesM, show shapeM 2 = 1 from rfl, bD, rexM, memM, fourM, w_u8, w_i64, codeM, numM]; done))
theorem rbytes_3_ok : SpXR2a0 3 := by
 intro w dst src base disp imm cc d0 d1 s0 s1 b0 b1 p0 p1 i0 i1 c0 c1 hm
 have c0 := @rmayX_ok 3 w dst src base disp imm cc
 rw [hm] at c0
 have c1 := @class_ok 3
 rcases bft (needM (w == 64) src dst false) with h2 | h2
 ·have c3 := @rrex_ok src dst s0 s1 d0 d1 (w == 64) false h2
  generalize g5 : rexB (w == 64) src dst = r4 at c3
  have c6 := @rdirect_ok src dst s0 s1 d0 d1
  generalize g8 : regsM src dst = r7 at c6
  exact (o26 (d := .tup [.lst (.fresh 1) 1 [.int .u8 r4, .int .u8 9, .int .u8 r7], .int .i64 0]) [.ret _ _ _ c0, tF, .inl, tF, tF, tT, tF, .ret _ _ _ c1, tT, .ret _ _ _ c3, .ret _ _ _ c6, .len 3 2147483648 (by decide)] (by kernel_rfl)).to (by (subst_vars; (try simp only [beq_dec] at *); (try simp only [beq_iff_eq] at h); (try simp only [decide_eq_true_eq, decide_eq_false_iff_not] at *); simp_all [wk, wkL, wkO, bytesM, show shapeM 3 = 1 from rfl, bD, rexM, memM, fourM, w_u8, w_i64, codeM, numM]; done))
 have c9 := @rrexn_ok src dst s0 s1 d0 d1 (w == 64) false h2
 have c10 := @rdirect_ok src dst s0 s1 d0 d1
 generalize g12 : regsM src dst = r11 at c10
 exact (o26 (d := .tup [.lst (.fresh 1) 1 [.int .u8 9, .int .u8 r11], .int .i64 0]) [.ret _ _ _ c0, tF, .inl, tF, tF, tT, tF, .ret _ _ _ c1, tT, .ret _ _ _ c9, .ret _ _ _ c10, .len 2 2147483648 (by decide)] (by kernel_rfl)).to (by (subst_vars; (try simp only [beq_dec] at *); (try simp only [beq_iff_eq] at h); (try simp only [decide_eq_true_eq, decide_eq_false_iff_not] at *); simp_all [wk, wkL, wkO, bytesM, show shapeM 3 = 1 from rfl, bD, rexM, memM, fourM, w_u8, w_i64, codeM, numM]; done))
theorem rbytes_4_ok : SpXR2a0 4 := by
 intro w dst src base disp imm cc d0 d1 s0 s1 b0 b1 p0 p1 i0 i1 c0 c1 hm
 have c0 := @rmayX_ok 4 w dst src base disp imm cc
 rw [hm] at c0
 have c1 := @class_ok 4
 rcases bft (needM (w == 64) src dst false) with h2 | h2
 ·have c3 := @rrex_ok src dst s0 s1 d0 d1 (w == 64) false h2
  generalize g5 : rexB (w == 64) src dst = r4 at c3
  have c6 := @rdirect_ok src dst s0 s1 d0 d1
  generalize g8 : regsM src dst = r7 at c6
  exact (o26 (d := .tup [.lst (.fresh 1) 1 [.int .u8 r4, .int .u8 33, .int .u8 r7], .int .i64 0]) [.ret _ _ _ c0, tF, .inl, tF, tF, tF, tT, tF, .ret _ _ _ c1, tT, .ret _ _ _ c3, .ret _ _ _ c6, .len 3 2147483648 (by decide)] (by kernel_rfl)).to (by (subst_vars; (try simp only [beq_dec] at *); (try simp only [beq_iff_eq] at h); (try simp only [decide_eq_true_eq, decide_eq_false_iff_not] at *); simp_all [wk, wkL, wkO, bytesM, show shapeM 4 = 1 from rfl, bD, rexM, memM, fourM, w_u8, w_i64, codeM, numM]; done))
 have c9 := @rrexn_ok src dst s0 s1 d0 d1 (w == 64) false h2
 have c10 := @rdirect_ok src dst s0 s1 d0 d1
 generalize g12 : regsM src dst = r11 at c10
 exact (o26 (d := .tup [.lst (.fresh 1) 1 [.int .u8 33, .int .u8 r11], .int .i64 0]) [.ret _ _ _ c0, tF, .inl, tF, tF, tF, tT, tF, .ret _ _ _ c1, tT, .ret _ _ _ c9, .ret _ _ _ c10, .len 2 2147483648 (by decide)] (by kernel_rfl)).to (by (subst_vars; (try simp only [beq_dec] at *); (try simp only [beq_iff_eq] at h); (try simp only [decide_eq_true_eq, decide_eq_false_iff_not] at *); simp_all [wk, wkL, wkO, bytesM, show shapeM 4 = 1 from rfl, bD, rexM, memM, fourM, w_u8, w_i64, codeM, numM]; done))
theorem rbytes_5_ok : SpXR2a0 5 := by
 intro w dst src base disp imm cc d0 d1 s0 s1 b0 b1 p0 p1 i0 i1 c0 c1 hm
 have c0 := @rmayX_ok 5 w dst src base disp imm cc
 rw [hm] at c0
 have c1 := @class_ok 5
 rcases bft (needM (w == 64) src dst false) with h2 | h2
 ·have c3 := @rrex_ok src dst s0 s1 d0 d1 (w == 64) false h2
  generalize g5 : rexB (w == 64) src dst = r4 at c3
  have c6 := @rdirect_ok src dst s0 s1 d0 d1
  generalize g8 : regsM src dst = r7 at c6
  exact (o26 (d := .tup [.lst (.fresh 1) 1 [.int .u8 r4, .int .u8 41, .int .u8 r7], .int .i64 0]) [.ret _ _ _ c0, tF, .inl, tF, tF, tF, tF, tT, tF, .ret _ _ _ c1, tT, .ret _ _ _ c3, .ret _ _ _ c6, .len 3 2147483648 (by decide)] (by kernel_rfl)).to (by (subst_vars; (try simp only [beq_dec] at *); (try simp only [beq_iff_eq] at h); (try simp only [decide_eq_true_eq, decide_eq_false_iff_not] at *); simp_all [wk, wkL, wkO, bytesM, show shapeM 5 = 1 from rfl, bD, rexM, memM, fourM, w_u8, w_i64, codeM, numM]; done))
 have c9 := @rrexn_ok src dst s0 s1 d0 d1 (w == 64) false h2
 have c10 := @rdirect_ok src dst s0 s1 d0 d1
 generalize g12 : regsM src dst = r11 at c10
 exact (o26 (d := .tup [.lst (.fresh 1) 1 [.int .u8 41, .int .u8 r11], .int .i64 0]) [.ret _ _ _ c0, tF, .inl, tF, tF, tF, tF, tT, tF, .ret _ _ _ c1, tT, .ret _ _ _ c9, .ret _ _ _ c10, .len 2 2147483648 (by decide)] (by kernel_rfl)).to (by (subst_vars; (try simp only [beq_dec] at *); (try simp only [beq_iff_eq] at h); (try simp only [decide_eq_true_eq, decide_eq_false_iff_not] at *); simp_all [wk, wkL, wkO, bytesM, show shapeM 5 = 1 from rfl, bD, rexM, memM, fourM, w_u8, w_i64, codeM, numM]; done))
theorem rbytes_6_ok : SpXR2a0 6 := by
 intro w dst src base disp imm cc d0 d1 s0 s1 b0 b1 p0 p1 i0 i1 c0 c1 hm
 have c0 := @rmayX_ok 6 w dst src base disp imm cc
 rw [hm] at c0
 have c1 := @class_ok 6
 let E1 : EL := [.ret _ _ _ c0, tF, .inl, tF, tF, tF, tF, tF, tT, tF, .ret _ _ _ c1, tT]
 rcases bft (needM (w == 64) src dst false) with h2 | h2
 ·have c3 := @rrex_ok src dst s0 s1 d0 d1 (w == 64) false h2
  generalize g5 : rexB (w == 64) src dst = r4 at c3
  have c6 := @rdirect_ok src dst s0 s1 d0 d1
  generalize g8 : regsM src dst = r7 at c6
  exact (o26 (d := .tup [.lst (.fresh 1) 1 [.int .u8 r4, .int .u8 49, .int .u8 r7], .int .i64 0]) (E1 ++ [.ret _ _ _ c3, .ret _ _ _ c6, .len 3 2147483648 (by decide)]) (by kernel_rfl)).to (by clear E1; (subst_vars; (try simp only [beq_dec] at *); (try simp only [beq_iff_eq] at h); (try simp only [decide_eq_true_eq, decide_eq_false_iff_not] at *); simp_all [wk, wkL, wkO, bytesM, show shapeM 6 = 1 from rfl, bD, rexM, memM, fourM, w_u8, w_i64, codeM, numM]; done))
 have c9 := @rrexn_ok src dst s0 s1 d0 d1 (w == 64) false h2
 have c10 := @rdirect_ok src dst s0 s1 d0 d1
 generalize g12 : regsM src dst = r11 at c10
 exact (o26 (d := .tup [.lst (.fresh 1) 1 [.int .u8 49, .int .u8 r11], .int .i64 0]) (E1 ++ [.ret _ _ _ c9, .ret _ _ _ c10, .len 2 2147483648 (by decide)]) (by kernel_rfl)).to (by clear E1; (subst_vars; (try simp only [beq_dec] at *); (try simp only [beq_iff_eq] at h); (try simp only [decide_eq_true_eq, decide_eq_false_iff_not] at *); simp_all [wk, wkL, wkO, bytesM, show shapeM 6 = 1 from rfl, bD, rexM, memM, fourM, w_u8, w_i64, codeM, numM]; done))
theorem rbytes_7_ok : SpXR2a0 7 := by
 intro w dst src base disp imm cc d0 d1 s0 s1 b0 b1 p0 p1 i0 i1 c0 c1 hm
 have c0 := @rmayX_ok 7 w dst src base disp imm cc
 rw [hm] at c0
 have c1 := @class_ok 7
 let E1 : EL := [.ret _ _ _ c0, tF, .inl, tF, tF, tF, tF, tF, tF, tT, tF, .ret _ _ _ c1, tT]
 rcases bft (needM (w == 64) src dst false) with h2 | h2
 ·have c3 := @rrex_ok src dst s0 s1 d0 d1 (w == 64) false h2
  generalize g5 : rexB (w == 64) src dst = r4 at c3
  have c6 := @rdirect_ok src dst s0 s1 d0 d1
  generalize g8 : regsM src dst = r7 at c6
  exact (o26 (d := .tup [.lst (.fresh 1) 1 [.int .u8 r4, .int .u8 57, .int .u8 r7], .int .i64 0]) (E1 ++ [.ret _ _ _ c3, .ret _ _ _ c6, .len 3 2147483648 (by decide)]) (by kernel_rfl)).to (by clear E1; (subst_vars; (try simp only [beq_dec] at *); (try simp only [beq_iff_eq] at h); (try simp only [decide_eq_true_eq, decide_eq_false_iff_not] at *); simp_all [wk, wkL, wkO, bytesM, show shapeM 7 = 1 from rfl, bD, rexM, memM, fourM, w_u8, w_i64, codeM, numM]; done))
 have c9 := @rrexn_ok src dst s0 s1 d0 d1 (w == 64) false h2
 have c10 := @rdirect_ok src dst s0 s1 d0 d1
 generalize g12 : regsM src dst = r11 at c10
 exact (o26 (d := .tup [.lst (.fresh 1) 1 [.int .u8 57, .int .u8 r11], .int .i64 0]) (E1 ++ [.ret _ _ _ c9, .ret _ _ _ c10, .len 2 2147483648 (by decide)]) (by kernel_rfl)).to (by clear E1; (subst_vars; (try simp only [beq_dec] at *); (try simp only [beq_iff_eq] at h); (try simp only [decide_eq_true_eq, decide_eq_false_iff_not] at *); simp_all [wk, wkL, wkO, bytesM, show shapeM 7 = 1 from rfl, bD, rexM, memM, fourM, w_u8, w_i64, codeM, numM]; done))
theorem rbytes_8_ok : SpXR2a0 8 := by
 intro w dst src base disp imm cc d0 d1 s0 s1 b0 b1 p0 p1 i0 i1 c0 c1 hm
 have c0 := @rmayX_ok 8 w dst src base disp imm cc
 rw [hm] at c0
 have c1 := @class_ok 8
 let E1 : EL := [.ret _ _ _ c0, tF, .inl, tF, tF, tF, tF, tF, tF, tF, tT, tF, .ret _ _ _ c1, tT]
 rcases bft (needM (w == 64) src dst false) with h2 | h2
 ·have c3 := @rrex_ok src dst s0 s1 d0 d1 (w == 64) false h2
  generalize g5 : rexB (w == 64) src dst = r4 at c3
  have c6 := @rdirect_ok src dst s0 s1 d0 d1
  generalize g8 : regsM src dst = r7 at c6
  exact (o26 (d := .tup [.lst (.fresh 1) 1 [.int .u8 r4, .int .u8 133, .int .u8 r7], .int .i64 0]) (E1 ++ [.ret _ _ _ c3, .ret _ _ _ c6, .len 3 2147483648 (by decide)]) (by kernel_rfl)).to (by clear E1; (subst_vars; (try simp only [beq_dec] at *); (try simp only [beq_iff_eq] at h); (try simp only [decide_eq_true_eq, decide_eq_false_iff_not] at *); simp_all [wk, wkL, wkO, bytesM, show shapeM 8 = 1 from rfl, bD, rexM, memM, fourM, w_u8, w_i64, codeM, numM]; done))
 have c9 := @rrexn_ok src dst s0 s1 d0 d1 (w == 64) false h2
 have c10 := @rdirect_ok src dst s0 s1 d0 d1
 generalize g12 : regsM src dst = r11 at c10
 exact (o26 (d := .tup [.lst (.fresh 1) 1 [.int .u8 133, .int .u8 r11], .int .i64 0]) (E1 ++ [.ret _ _ _ c9, .ret _ _ _ c10, .len 2 2147483648 (by decide)]) (by kernel_rfl)).to (by clear E1; (subst_vars; (try simp only [beq_dec] at *); (try simp only [beq_iff_eq] at h); (try simp only [decide_eq_true_eq, decide_eq_false_iff_not] at *); simp_all [wk, wkL, wkO, bytesM, show shapeM 8 = 1 from rfl, bD, rexM, memM, fourM, w_u8, w_i64, codeM, numM]; done))
theorem rbytes_16_ok : SpXR2a0 16 := by
 intro w dst src base disp imm cc d0 d1 s0 s1 b0 b1 p0 p1 i0 i1 c0 c1 hm
 have c0 := @rmayX_ok 16 w dst src base disp imm cc
 rw [hm] at c0
 rcases bft (needM (w == 64) dst src false) with h1 | h1
 ·have c2 := @rrex_ok dst src d0 d1 s0 s1 (w == 64) false h1
  generalize g4 : rexB (w == 64) dst src = r3 at c2
  have c5 := @rdirect_ok dst src d0 d1 s0 s1
  generalize g7 : regsM dst src = r6 at c5
  exact (o26 (d := .tup [.lst (.fresh 1) 1 [.int .u8 r3, .int .u8 15, .int .u8 175, .int .u8 r6], .int .i64 0]) ([.ret _ _ _ c0, tF, .inl] ++ List.replicate 23 tF ++ [tT, .ret _ _ _ c2, .ret _ _ _ c5, .len 4 2147483648 (by decide)]) (by kernel_rfl)).to (by (subst_vars; (try simp only [beq_dec] at *); (try simp only [beq_iff_eq] at h); (try simp only [decide_eq_true_eq, decide_eq_false_iff_not] at *); simp_all [wk, wkL, wkO, bytesM, show shapeM 16 = 2 from rfl, bD, rexM, memM, fourM, w_u8, w_i64, codeM, numM]; done))
 have c8 := @rrexn_ok dst src d0 d1 s0 s1 (w == 64) false h1
 have c9 := @rdirect_ok dst src d0 d1 s0 s1
 generalize g11 : regsM dst src = r10 at c9
 exact (o26 (d := .tup [.lst (.fresh 1) 1 [.int .u8 15, .int .u8 175, .int .u8 r10], .int .i64 0]) ([.ret _ _ _ c0, tF, .inl] ++ List.replicate 23 tF ++ [tT, .ret _ _ _ c8, .ret _ _ _ c9, .len 3 2147483648 (by decide)]) (by kernel_rfl)).to (by (subst_vars; (try simp only [beq_dec] at *); (try simp only [beq_iff_eq] at h); (try simp only [decide_eq_true_eq, decide_eq_false_iff_not] at *); simp_all [wk, wkL, wkO, bytesM, show shapeM 16 = 2 from rfl, bD, rexM, memM, fourM, w_u8, w_i64, codeM, numM]; done))
theorem rbytes_25_ok : SpXR2a0 25 := by
 intro w dst src base disp imm cc d0 d1 s0 s1 b0 b1 p0 p1 i0 i1 c0 c1 hm
 have c0 := @rmayX_ok 25 w dst src base disp imm cc
 rw [hm] at c0
 have c1 := @class_ok 25
 have c2 := @class_ok 25
 have c3 := @class_ok 25
 have c4 := @class_ok 25
 let E1 : EL := ([.ret _ _ _ c0, tF, .inl] ++ List.replicate 24 tF ++ [.ret _ _ _ c1, tF, tF, .ret _ _ _ c2, tF, .ret _ _ _ c3, tF, .ret _ _ _ c4, tF, tT])
 rcases bft (needM (w == 64) dst src false) with h5 | h5
 ·have c6 := @rrex_ok dst src d0 d1 s0 s1 (w == 64) false h5
  generalize g8 : rexB (w == 64) dst src = r7 at c6
  have c9 := @rdirect_ok dst src d0 d1 s0 s1
  generalize g11 : regsM dst src = r10 at c9
  exact (o26 (d := .tup [.lst (.fresh 1) 1 [.int .u8 r7, .int .u8 15, .int .u8 (IntKind.wrap IntKind.u8 (IntKind.wrap IntKind.i64 (64 + IntKind.wrap IntKind.i64 cc))), .int .u8 r10], .int .i64 0]) (E1 ++ [.ret _ _ _ c6, .ret _ _ _ c9, .len 4 2147483648 (by decide)]) (by kernel_rfl)).to (by clear E1; (subst_vars; (try simp only [beq_dec] at *); (try simp only [beq_iff_eq] at h); (try simp only [decide_eq_true_eq, decide_eq_false_iff_not] at *); simp_all [wk, wkL, wkO, bytesM, show shapeM 25 = 6 from rfl, bD, rexM, memM, fourM, w_u8, w_i64]; omega))
 have c12 := @rrexn_ok dst src d0 d1 s0 s1 (w == 64) false h5
 have c13 := @rdirect_ok dst src d0 d1 s0 s1
 generalize g15 : regsM dst src = r14 at c13
 exact (o26 (d := .tup [.lst (.fresh 1) 1 [.int .u8 15, .int .u8 (IntKind.wrap IntKind.u8 (IntKind.wrap IntKind.i64 (64 + IntKind.wrap IntKind.i64 cc))), .int .u8 r14], .int .i64 0]) (E1 ++ [.ret _ _ _ c12, .ret _ _ _ c13, .len 3 2147483648 (by decide)]) (by kernel_rfl)).to (by clear E1; (subst_vars; (try simp only [beq_dec] at *); (try simp only [beq_iff_eq] at h); (try simp only [decide_eq_true_eq, decide_eq_false_iff_not] at *); simp_all [wk, wkL, wkO, bytesM, show shapeM 25 = 6 from rfl, bD, rexM, memM, fourM, w_u8, w_i64]; omega))
end Go.Proofs.YtcngafhpodeenaaGreat

namespace Go.Proofs.YtcngafhpodeenaaGreat
open Go Go.Ev
set_option maxRecDepth 100000
set_option maxHeartbeats 8000000
theorem rbytes_1_ok (w dst src base disp imm cc : Int) (d0 : 0 ≤ dst) (d1 : dst ≤ 15) (s0 : 0 ≤ src) (s1 : src ≤ 15) (b0 : 0 ≤ base) (b1 : base ≤ 15) (p0 : -2147483648 ≤ disp) (p1 : disp ≤ 2147483647) (i0 : -2147483648 ≤ imm) (i1 : imm ≤ 2147483647) (c0 : 0 ≤ cc) (c1 : cc ≤ 15) (hw : w = 32 ∨ w = 64) (hm : mayX 1 w dst src base disp imm cc = true) : Ret Tryz.prog 26 ([xD 1 w dst src base disp imm cc]) (.tup [.lst .no 1 (bD (bytesM 1 w dst src base disp imm cc)), .int .i64 0]) := by
 have c0 := @rmayX_ok 1 w dst src base disp imm cc
 rw [hm] at c0
 have c1 := @class_ok 1
 let E1 : EL := ([.ret _ _ _ c0, tF, .inl] ++ List.replicate 24 tF ++ [.ret _ _ _ c1, tF, tT])
 rcases bft (needM (w == 64) 0 dst false) with h2 | h2
 ·have c3 := @rrex_ok 0 dst (by decide) (by decide) d0 d1 (w == 64) false h2
  generalize g5 : rexB (w == 64) 0 dst = r4 at c3
  by_cases h6 : w = 64
  ·subst h6
   have c7 := @rdirect_ok 0 dst (by decide) (by decide) d0 d1
   generalize g9 : regsM 0 dst = r8 at c7
   have c10 := @rdir2_ok imm
   exact (o26 (d := .tup [.lst (.fresh 1) 1 [.int .u8 r4, .int .u8 199, .int .u8 r8, .int .u8 (imm % 256), .int .u8 (imm / 256 % 256), .int .u8 (imm / 65536 % 256), .int .u8 (imm / 16777216 % 256)], .int .i64 0]) (E1 ++ [.ret _ _ _ c3, tT, .ret _ _ _ c7, .len 3 2147483648 (by decide), .ret _ _ _ c10, .len 7 2147483648 (by decide)]) (by kernel_rfl)).to (by clear E1; ((try simp only [and7]); subst_vars; (try simp only [beq_dec] at *); (try simp only [beq_iff_eq] at h); (try simp only [decide_eq_true_eq, decide_eq_false_iff_not] at *); simp_all [wk, wkL, wkO, bytesM, show shapeM 1 = 3 from rfl, bD, rexM, memM, fourM, w_u8, w_i64, w_i8, codeM, numM]; done))
  have c11 := @rdir2_ok imm
  exact (o26 (d := .tup [.lst (.fresh 1) 1 [.int .u8 r4, .int .u8 (IntKind.wrap IntKind.u8 (IntKind.wrap IntKind.i64 (184 + IntKind.wrap IntKind.i64 (IntKind.wrap IntKind.i8 (↑(BitVec.toNat (BitVec.ofInt (8 : Nat) dst &&& BitVec.ofInt (8 : Nat) 7)) : Int))))), .int .u8 (imm % 256), .int .u8 (imm / 256 % 256), .int .u8 (imm / 65536 % 256), .int .u8 (imm / 16777216 % 256)], .int .i64 0]) (E1 ++ [.ret _ _ _ c3, tC (neOf h6), .len 2 2147483648 (by decide), .ret _ _ _ c11, .len 6 2147483648 (by decide)]) (by kernel_rfl)).to (by clear E1; ((try simp only [and7]); subst_vars; (try simp only [beq_dec] at *); (try simp only [beq_iff_eq] at h); (try simp only [decide_eq_true_eq, decide_eq_false_iff_not] at *); simp_all [wk, wkL, wkO, bytesM, show shapeM 1 = 3 from rfl, bD, rexM, memM, fourM, w_u8, w_i64, w_i8]; omega))
 have c12 := @rrexn_ok 0 dst (by decide) (by decide) d0 d1 (w == 64) false h2
 by_cases h13 : w = 64
 ·subst h13
  have c14 := @rdirect_ok 0 dst (by decide) (by decide) d0 d1
  generalize g16 : regsM 0 dst = r15 at c14
  have c17 := @rdir2_ok imm
  exact (o26 (d := .tup [.lst (.fresh 1) 1 [.int .u8 199, .int .u8 r15, .int .u8 (imm % 256), .int .u8 (imm / 256 % 256), .int .u8 (imm / 65536 % 256), .int .u8 (imm / 16777216 % 256)], .int .i64 0]) (E1 ++ [.ret _ _ _ c12, tT, .ret _ _ _ c14, .len 2 2147483648 (by decide), .ret _ _ _ c17, .len 6 2147483648 (by decide)]) (by kernel_rfl)).to (by clear E1; ((try simp only [and7]); subst_vars; (try simp only [beq_dec] at *); (try simp only [beq_iff_eq] at h); (try simp only [decide_eq_true_eq, decide_eq_false_iff_not] at *); simp_all [wk, wkL, wkO, bytesM, show shapeM 1 = 3 from rfl, bD, rexM, memM, fourM, w_u8, w_i64, w_i8, codeM, numM]; done))
 have c18 := @rdir2_ok imm
 exact (o26 (d := .tup [.lst (.fresh 1) 1 [.int .u8 (IntKind.wrap IntKind.u8 (IntKind.wrap IntKind.i64 (184 + IntKind.wrap IntKind.i64 (IntKind.wrap IntKind.i8 (↑(BitVec.toNat (BitVec.ofInt (8 : Nat) dst &&& BitVec.ofInt (8 : Nat) 7)) : Int))))), .int .u8 (imm % 256), .int .u8 (imm / 256 % 256), .int .u8 (imm / 65536 % 256), .int .u8 (imm / 16777216 % 256)], .int .i64 0]) (E1 ++ [.ret _ _ _ c12, tC (neOf h13), .len 1 2147483648 (by decide), .ret _ _ _ c18, .len 5 2147483648 (by decide)]) (by kernel_rfl)).to (by clear E1; ((try simp only [and7]); subst_vars; (try simp only [beq_dec] at *); (try simp only [beq_iff_eq] at h); (try simp only [decide_eq_true_eq, decide_eq_false_iff_not] at *); simp_all [wk, wkL, wkO, bytesM, show shapeM 1 = 3 from rfl, bD, rexM, memM, fourM, w_u8, w_i64, w_i8]; omega))
def SpXR2b0 (k0_ : Int) : Prop := ∀ (w dst src base disp imm cc : Int) (d0 : 0 ≤ dst) (d1 : dst ≤ 15) (s0 : 0 ≤ src) (s1 : src ≤ 15) (b0 : 0 ≤ base) (b1 : base ≤ 15) (p0 : -2147483648 ≤ disp) (p1 : disp ≤ 2147483647) (i0 : -2147483648 ≤ imm) (i1 : imm ≤ 2147483647) (c0 : 0 ≤ cc) (c1 : cc ≤ 15) (hm : mayX k0_ w dst src base disp imm cc = true), Ret Tryz.prog 26 ([xD k0_ w dst src base disp imm cc]) (.tup [.lst .no 1 (bD (bytesM k0_ w dst src base disp imm cc)), .int .i64 0])
theorem rbytes_9_ok : SpXR2b0 9 := by
 intro w dst src base disp imm cc d0 d1 s0 s1 b0 b1 p0 p1 i0 i1 c0 c1 hm
 have c0 := @rmayX_ok 9 w dst src base disp imm cc
 rw [hm] at c0
 have c1 := @class_ok 9
 have c2 := @class_ok 9
 let E1 : EL := ([.ret _ _ _ c0, tF, .inl] ++ List.replicate 8 tF ++ [tT, tT, tF, .ret _ _ _ c1, tF, tF, .ret _ _ _ c2, tT])
 rcases bft (needM (w == 64) 0 dst false) with h3 | h3
 ·have c4 := @rrex_ok 0 dst (by decide) (by decide) d0 d1 (w == 64) false h3
  generalize g6 : rexB (w == 64) 0 dst = r5 at c4
  have c7 := @rdirect_ok 0 dst (by decide) (by decide) d0 d1
  generalize g9 : regsM 0 dst = r8 at c7
  have c10 := @rdir2_ok imm
  exact (o26 (d := .tup [.lst (.fresh 1) 1 [.int .u8 r5, .int .u8 129, .int .u8 r8, .int .u8 (imm % 256), .int .u8 (imm / 256 % 256), .int .u8 (imm / 65536 % 256), .int .u8 (imm / 16777216 % 256)], .int .i64 0]) (E1 ++ [.ret _ _ _ c4, tF, .len 2 2147483648 (by decide), .ret _ _ _ c7, .len 3 2147483648 (by decide), .ret _ _ _ c10, .len 7 2147483648 (by decide)]) (by kernel_rfl)).to (by clear E1; ((try simp only [and7]); subst_vars; (try simp only [beq_dec] at *); (try simp only [beq_iff_eq] at h); (try simp only [decide_eq_true_eq, decide_eq_false_iff_not] at *); simp_all [wk, wkL, wkO, bytesM, show shapeM 9 = 3 from rfl, bD, rexM, memM, fourM, w_u8, w_i64, w_i8, codeM, numM]; done))
 have c11 := @rrexn_ok 0 dst (by decide) (by decide) d0 d1 (w == 64) false h3
 have c12 := @rdirect_ok 0 dst (by decide) (by decide) d0 d1
 generalize g14 : regsM 0 dst = r13 at c12
 have c15 := @rdir2_ok imm
 exact (o26 (d := .tup [.lst (.fresh 1) 1 [.int .u8 129, .int .u8 r13, .int .u8 (imm % 256), .int .u8 (imm / 256 % 256), .int .u8 (imm / 65536 % 256), .int .u8 (imm / 16777216 % 256)], .int .i64 0]) (E1 ++ [.ret _ _ _ c11, tF, .len 1 2147483648 (by decide), .ret _ _ _ c12, .len 2 2147483648 (by decide), .ret _ _ _ c15, .len 6 2147483648 (by decide)]) (by kernel_rfl)).to (by clear E1; ((try simp only [and7]); subst_vars; (try simp only [beq_dec] at *); (try simp only [beq_iff_eq] at h); (try simp only [decide_eq_true_eq, decide_eq_false_iff_not] at *); simp_all [wk, wkL, wkO, bytesM, show shapeM 9 = 3 from rfl, bD, rexM, memM, fourM, w_u8, w_i64, w_i8, codeM, numM]; done))
theorem rbytes_10_ok : SpXR2b0 10 := by
 intro w dst src base disp imm cc d0 d1 s0 s1 b0 b1 p0 p1 i0 i1 c0 c1 hm
 have c0 := @rmayX_ok 10 w dst src base disp imm cc
 rw [hm] at c0
 have c1 := @class_ok 10
 have c2 := @class_ok 10
 let E1 : EL := ([.ret _ _ _ c0, tF, .inl] ++ List.replicate 10 tF ++ [tT, tF, .ret _ _ _ c1, tF, tF, .ret _ _ _ c2, tT])
 rcases bft (needM (w == 64) 0 dst false) with h3 | h3
 ·have c4 := @rrex_ok 0 dst (by decide) (by decide) d0 d1 (w == 64) false h3
  generalize g6 : rexB (w == 64) 0 dst = r5 at c4
  have c7 := @rdirect_ok 1 dst (by decide) (by decide) d0 d1
  generalize g9 : regsM 1 dst = r8 at c7
  have c10 := @rdir2_ok imm
  exact (o26 (d := .tup [.lst (.fresh 1) 1 [.int .u8 r5, .int .u8 129, .int .u8 r8, .int .u8 (imm % 256), .int .u8 (imm / 256 % 256), .int .u8 (imm / 65536 % 256), .int .u8 (imm / 16777216 % 256)], .int .i64 0]) (E1 ++ [.ret _ _ _ c4, tF, .len 2 2147483648 (by decide), .ret _ _ _ c7, .len 3 2147483648 (by decide), .ret _ _ _ c10, .len 7 2147483648 (by decide)]) (by kernel_rfl)).to (by clear E1; ((try simp only [and7]); subst_vars; (try simp only [beq_dec] at *); (try simp only [beq_iff_eq] at h); (try simp only [decide_eq_true_eq, decide_eq_false_iff_not] at *); simp_all [wk, wkL, wkO, bytesM, show shapeM 10 = 3 from rfl, bD, rexM, memM, fourM, w_u8, w_i64, w_i8, codeM, numM]; done))
 have c11 := @rrexn_ok 0 dst (by decide) (by decide) d0 d1 (w == 64) false h3
 have c12 := @rdirect_ok 1 dst (by decide) (by decide) d0 d1
 generalize g14 : regsM 1 dst = r13 at c12
 have c15 := @rdir2_ok imm
 exact (o26 (d := .tup [.lst (.fresh 1) 1 [.int .u8 129, .int .u8 r13, .int .u8 (imm % 256), .int .u8 (imm / 256 % 256), .int .u8 (imm / 65536 % 256), .int .u8 (imm / 16777216 % 256)], .int .i64 0]) (E1 ++ [.ret _ _ _ c11, tF, .len 1 2147483648 (by decide), .ret _ _ _ c12, .len 2 2147483648 (by decide), .ret _ _ _ c15, .len 6 2147483648 (by decide)]) (by kernel_rfl)).to (by clear E1; ((try simp only [and7]); subst_vars; (try simp only [beq_dec] at *); (try simp only [beq_iff_eq] at h); (try simp only [decide_eq_true_eq, decide_eq_false_iff_not] at *); simp_all [wk, wkL, wkO, bytesM, show shapeM 10 = 3 from rfl, bD, rexM, memM, fourM, w_u8, w_i64, w_i8, codeM, numM]; done))
theorem rbytes_11_ok : SpXR2b0 11 := by
 intro w dst src base disp imm cc d0 d1 s0 s1 b0 b1 p0 p1 i0 i1 c0 c1 hm
 have c0 := @rmayX_ok 11 w dst src base disp imm cc
 rw [hm] at c0
 have c1 := @class_ok 11
 have c2 := @class_ok 11
 let E1 : EL := ([.ret _ _ _ c0, tF, .inl] ++ List.replicate 11 tF ++ [tT, tT, tF, .ret _ _ _ c1, tF, tF, .ret _ _ _ c2, tT])
 rcases bft (needM (w == 64) 0 dst false) with h3 | h3
 ·have c4 := @rrex_ok 0 dst (by decide) (by decide) d0 d1 (w == 64) false h3
  generalize g6 : rexB (w == 64) 0 dst = r5 at c4
  have c7 := @rdirect_ok 4 dst (by decide) (by decide) d0 d1
  generalize g9 : regsM 4 dst = r8 at c7
  have c10 := @rdir2_ok imm
  exact (o26 (d := .tup [.lst (.fresh 1) 1 [.int .u8 r5, .int .u8 129, .int .u8 r8, .int .u8 (imm % 256), .int .u8 (imm / 256 % 256), .int .u8 (imm / 65536 % 256), .int .u8 (imm / 16777216 % 256)], .int .i64 0]) (E1 ++ [.ret _ _ _ c4, tF, .len 2 2147483648 (by decide), .ret _ _ _ c7, .len 3 2147483648 (by decide), .ret _ _ _ c10, .len 7 2147483648 (by decide)]) (by kernel_rfl)).to (by clear E1; ((try simp only [and7]); subst_vars; (try simp only [beq_dec] at *); (try simp only [beq_iff_eq] at h); (try simp only [decide_eq_true_eq, decide_eq_false_iff_not] at *); simp_all [wk, wkL, wkO, bytesM, show shapeM 11 = 3 from rfl, bD, rexM, memM, fourM, w_u8, w_i64, w_i8, codeM, numM]; done))
 have c11 := @rrexn_ok 0 dst (by decide) (by decide) d0 d1 (w == 64) false h3
 have c12 := @rdirect_ok 4 dst (by decide) (by decide) d0 d1
 generalize g14 : regsM 4 dst = r13 at c12
 have c15 := @rdir2_ok imm
 exact (o26 (d := .tup [.lst (.fresh 1) 1 [.int .u8 129, .int .u8 r13, .int .u8 (imm % 256), .int .u8 (imm / 256 % 256), .int .u8 (imm / 65536 % 256), .int .u8 (imm / 16777216 % 256)], .int .i64 0]) (E1 ++ [.ret _ _ _ c11, tF, .len 1 2147483648 (by decide), .ret _ _ _ c12, .len 2 2147483648 (by decide), .ret _ _ _ c15, .len 6 2147483648 (by decide)]) (by kernel_rfl)).to (by clear E1; ((try simp only [and7]); subst_vars; (try simp only [beq_dec] at *); (try simp only [beq_iff_eq] at h); (try simp only [decide_eq_true_eq, decide_eq_false_iff_not] at *); simp_all [wk, wkL, wkO, bytesM, show shapeM 11 = 3 from rfl, bD, rexM, memM, fourM, w_u8, w_i64, w_i8, codeM, numM]; done))
theorem rbytes_12_ok : SpXR2b0 12 := by
 intro w dst src base disp imm cc d0 d1 s0 s1 b0 b1 p0 p1 i0 i1 c0 c1 hm
 have c0 := @rmayX_ok 12 w dst src base disp imm cc
 rw [hm] at c0
 have c1 := @class_ok 12
 have c2 := @class_ok 12
 let E1 : EL := ([.ret _ _ _ c0, tF, .inl] ++ List.replicate 14 tF ++ [tT, tT, tF, .ret _ _ _ c1, tF, tF, .ret _ _ _ c2, tT])
 rcases bft (needM (w == 64) 0 dst false) with h3 | h3
 ·have c4 := @rrex_ok 0 dst (by decide) (by decide) d0 d1 (w == 64) false h3
  generalize g6 : rexB (w == 64) 0 dst = r5 at c4
  have c7 := @rdirect_ok 5 dst (by decide) (by decide) d0 d1
  generalize g9 : regsM 5 dst = r8 at c7
  have c10 := @rdir2_ok imm
  exact (o26 (d := .tup [.lst (.fresh 1) 1 [.int .u8 r5, .int .u8 129, .int .u8 r8, .int .u8 (imm % 256), .int .u8 (imm / 256 % 256), .int .u8 (imm / 65536 % 256), .int .u8 (imm / 16777216 % 256)], .int .i64 0]) (E1 ++ [.ret _ _ _ c4, tF, .len 2 2147483648 (by decide), .ret _ _ _ c7, .len 3 2147483648 (by decide), .ret _ _ _ c10, .len 7 2147483648 (by decide)]) (by kernel_rfl)).to (by clear E1; ((try simp only [and7]); subst_vars; (try simp only [beq_dec] at *); (try simp only [beq_iff_eq] at h); (try simp only [decide_eq_true_eq, decide_eq_false_iff_not] at *); simp_all [wk, wkL, wkO, bytesM, show shapeM 12 = 3 from rfl, bD, rexM, memM, fourM, w_u8, w_i64, w_i8, codeM, numM]; done))
 have c11 := @rrexn_ok 0 dst (by decide) (by decide) d0 d1 (w == 64) false h3
 have c12 := @rdirect_ok 5 dst (by decide) (by decide) d0 d1
 generalize g14 : regsM 5 dst = r13 at c12
 have c15 := @rdir2_ok imm
 exact (o26 (d := .tup [.lst (.fresh 1) 1 [.int .u8 129, .int .u8 r13, .int .u8 (imm % 256), .int .u8 (imm / 256 % 256), .int .u8 (imm / 65536 % 256), .int .u8 (imm / 16777216 % 256)], .int .i64 0]) (E1 ++ [.ret _ _ _ c11, tF, .len 1 2147483648 (by decide), .ret _ _ _ c12, .len 2 2147483648 (by decide), .ret _ _ _ c15, .len 6 2147483648 (by decide)]) (by kernel_rfl)).to (by clear E1; ((try simp only [and7]); subst_vars; (try simp only [beq_dec] at *); (try simp only [beq_iff_eq] at h); (try simp only [decide_eq_true_eq, decide_eq_false_iff_not] at *); simp_all [wk, wkL, wkO, bytesM, show shapeM 12 = 3 from rfl, bD, rexM, memM, fourM, w_u8, w_i64, w_i8, codeM, numM]; done))
theorem rbytes_13_ok : SpXR2b0 13 := by
 intro w dst src base disp imm cc d0 d1 s0 s1 b0 b1 p0 p1 i0 i1 c0 c1 hm
 have c0 := @rmayX_ok 13 w dst src base disp imm cc
 rw [hm] at c0
 have c1 := @class_ok 13
 have c2 := @class_ok 13
 let E1 : EL := ([.ret _ _ _ c0, tF, .inl] ++ List.replicate 17 tF ++ [tT, tT, tF, .ret _ _ _ c1, tF, tF, .ret _ _ _ c2, tT])
 rcases bft (needM (w == 64) 0 dst false) with h3 | h3
 ·have c4 := @rrex_ok 0 dst (by decide) (by decide) d0 d1 (w == 64) false h3
  generalize g6 : rexB (w == 64) 0 dst = r5 at c4
  have c7 := @rdirect_ok 6 dst (by decide) (by decide) d0 d1
  generalize g9 : regsM 6 dst = r8 at c7
  have c10 := @rdir2_ok imm
  exact (o26 (d := .tup [.lst (.fresh 1) 1 [.int .u8 r5, .int .u8 129, .int .u8 r8, .int .u8 (imm % 256), .int .u8 (imm / 256 % 256), .int .u8 (imm / 65536 % 256), .int .u8 (imm / 16777216 % 256)], .int .i64 0]) (E1 ++ [.ret _ _ _ c4, tF, .len 2 2147483648 (by decide), .ret _ _ _ c7, .len 3 2147483648 (by decide), .ret _ _ _ c10, .len 7 2147483648 (by decide)]) (by kernel_rfl)).to (by clear E1; ((try simp only [and7]); subst_vars; (try simp only [beq_dec] at *); (try simp only [beq_iff_eq] at h); (try simp only [decide_eq_true_eq, decide_eq_false_iff_not] at *); simp_all [wk, wkL, wkO, bytesM, show shapeM 13 = 3 from rfl, bD, rexM, memM, fourM, w_u8, w_i64, w_i8, codeM, numM]; done))
 have c11 := @rrexn_ok 0 dst (by decide) (by decide) d0 d1 (w == 64) false h3
 have c12 := @rdirect_ok 6 dst (by decide) (by decide) d0 d1
 generalize g14 : regsM 6 dst = r13 at c12
 have c15 := @rdir2_ok imm
 exact (o26 (d := .tup [.lst (.fresh 1) 1 [.int .u8 129, .int .u8 r13, .int .u8 (imm % 256), .int .u8 (imm / 256 % 256), .int .u8 (imm / 65536 % 256), .int .u8 (imm / 16777216 % 256)], .int .i64 0]) (E1 ++ [.ret _ _ _ c11, tF, .len 1 2147483648 (by decide), .ret _ _ _ c12, .len 2 2147483648 (by decide), .ret _ _ _ c15, .len 6 2147483648 (by decide)]) (by kernel_rfl)).to (by clear E1; ((try simp only [and7]); subst_vars; (try simp only [beq_dec] at *); (try simp only [beq_iff_eq] at h); (try simp only [decide_eq_true_eq, decide_eq_false_iff_not] at *); simp_all [wk, wkL, wkO, bytesM, show shapeM 13 = 3 from rfl, bD, rexM, memM, fourM, w_u8, w_i64, w_i8, codeM, numM]; done))
theorem rbytes_14_ok : SpXR2b0 14 := by
 intro w dst src base disp imm cc d0 d1 s0 s1 b0 b1 p0 p1 i0 i1 c0 c1 hm
 have c0 := @rmayX_ok 14 w dst src base disp imm cc
 rw [hm] at c0
 have c1 := @class_ok 14
 have c2 := @class_ok 14
 let E1 : EL := ([.ret _ _ _ c0, tF, .inl] ++ List.replicate 19 tF ++ [tT, tT, tF, .ret _ _ _ c1, tF, tF, .ret _ _ _ c2, tT])
 rcases bft (needM (w == 64) 0 dst false) with h3 | h3
 ·have c4 := @rrex_ok 0 dst (by decide) (by decide) d0 d1 (w == 64) false h3
  generalize g6 : rexB (w == 64) 0 dst = r5 at c4
  have c7 := @rdirect_ok 7 dst (by decide) (by decide) d0 d1
  generalize g9 : regsM 7 dst = r8 at c7
  have c10 := @rdir2_ok imm
  exact (o26 (d := .tup [.lst (.fresh 1) 1 [.int .u8 r5, .int .u8 129, .int .u8 r8, .int .u8 (imm % 256), .int .u8 (imm / 256 % 256), .int .u8 (imm / 65536 % 256), .int .u8 (imm / 16777216 % 256)], .int .i64 0]) (E1 ++ [.ret _ _ _ c4, tF, .len 2 2147483648 (by decide), .ret _ _ _ c7, .len 3 2147483648 (by decide), .ret _ _ _ c10, .len 7 2147483648 (by decide)]) (by kernel_rfl)).to (by clear E1; ((try simp only [and7]); subst_vars; (try simp only [beq_dec] at *); (try simp only [beq_iff_eq] at h); (try simp only [decide_eq_true_eq, decide_eq_false_iff_not] at *); simp_all [wk, wkL, wkO, bytesM, show shapeM 14 = 3 from rfl, bD, rexM, memM, fourM, w_u8, w_i64, w_i8, codeM, numM]; done))
 have c11 := @rrexn_ok 0 dst (by decide) (by decide) d0 d1 (w == 64) false h3
 have c12 := @rdirect_ok 7 dst (by decide) (by decide) d0 d1
 generalize g14 : regsM 7 dst = r13 at c12
 have c15 := @rdir2_ok imm
 exact (o26 (d := .tup [.lst (.fresh 1) 1 [.int .u8 129, .int .u8 r13, .int .u8 (imm % 256), .int .u8 (imm / 256 % 256), .int .u8 (imm / 65536 % 256), .int .u8 (imm / 16777216 % 256)], .int .i64 0]) (E1 ++ [.ret _ _ _ c11, tF, .len 1 2147483648 (by decide), .ret _ _ _ c12, .len 2 2147483648 (by decide), .ret _ _ _ c15, .len 6 2147483648 (by decide)]) (by kernel_rfl)).to (by clear E1; ((try simp only [and7]); subst_vars; (try simp only [beq_dec] at *); (try simp only [beq_iff_eq] at h); (try simp only [decide_eq_true_eq, decide_eq_false_iff_not] at *); simp_all [wk, wkL, wkO, bytesM, show shapeM 14 = 3 from rfl, bD, rexM, memM, fourM, w_u8, w_i64, w_i8, codeM, numM]; done))
theorem rbytes_15_ok : SpXR2b0 15 := by
 intro w dst src base disp imm cc d0 d1 s0 s1 b0 b1 p0 p1 i0 i1 c0 c1 hm
 have c0 := @rmayX_ok 15 w dst src base disp imm cc
 rw [hm] at c0
 have c1 := @class_ok 15
 have c2 := @class_ok 15
 let E1 : EL := ([.ret _ _ _ c0, tF, .inl] ++ List.replicate 9 tF ++ [tT, tF, .ret _ _ _ c1, tF, tF, .ret _ _ _ c2, tT])
 rcases bft (needM (w == 64) 0 dst false) with h3 | h3
 ·have c4 := @rrex_ok 0 dst (by decide) (by decide) d0 d1 (w == 64) false h3
  generalize g6 : rexB (w == 64) 0 dst = r5 at c4
  have c7 := @rdirect_ok 0 dst (by decide) (by decide) d0 d1
  generalize g9 : regsM 0 dst = r8 at c7
  have c10 := @rdir2_ok imm
  exact (o26 (d := .tup [.lst (.fresh 1) 1 [.int .u8 r5, .int .u8 247, .int .u8 r8, .int .u8 (imm % 256), .int .u8 (imm / 256 % 256), .int .u8 (imm / 65536 % 256), .int .u8 (imm / 16777216 % 256)], .int .i64 0]) (E1 ++ [.ret _ _ _ c4, tT, .len 2 2147483648 (by decide), .ret _ _ _ c7, .len 3 2147483648 (by decide), .ret _ _ _ c10, .len 7 2147483648 (by decide)]) (by kernel_rfl)).to (by clear E1; ((try simp only [and7]); subst_vars; (try simp only [beq_dec] at *); (try simp only [beq_iff_eq] at h); (try simp only [decide_eq_true_eq, decide_eq_false_iff_not] at *); simp_all [wk, wkL, wkO, bytesM, show shapeM 15 = 3 from rfl, bD, rexM, memM, fourM, w_u8, w_i64, w_i8, codeM, numM]; done))
 have c11 := @rrexn_ok 0 dst (by decide) (by decide) d0 d1 (w == 64) false h3
 have c12 := @rdirect_ok 0 dst (by decide) (by decide) d0 d1
 generalize g14 : regsM 0 dst = r13 at c12
 have c15 := @rdir2_ok imm
 exact (o26 (d := .tup [.lst (.fresh 1) 1 [.int .u8 247, .int .u8 r13, .int .u8 (imm % 256), .int .u8 (imm / 256 % 256), .int .u8 (imm / 65536 % 256), .int .u8 (imm / 16777216 % 256)], .int .i64 0]) (E1 ++ [.ret _ _ _ c11, tT, .len 1 2147483648 (by decide), .ret _ _ _ c12, .len 2 2147483648 (by decide), .ret _ _ _ c15, .len 6 2147483648 (by decide)]) (by kernel_rfl)).to (by clear E1; ((try simp only [and7]); subst_vars; (try simp only [beq_dec] at *); (try simp only [beq_iff_eq] at h); (try simp only [decide_eq_true_eq, decide_eq_false_iff_not] at *); simp_all [wk, wkL, wkO, bytesM, show shapeM 15 = 3 from rfl, bD, rexM, memM, fourM, w_u8, w_i64, w_i8, codeM, numM]; done))
end Go.Proofs.YtcngafhpodeenaaGreat

namespace Go.Proofs.YtcngafhpodeenaaGreat
open Go Go.Ev
set_option maxRecDepth 100000
set_option maxHeartbeats 8000000
def SpXR2c0 (k0_ : Int) : Prop := ∀ (w dst src base disp imm cc : Int) (d0 : 0 ≤ dst) (d1 : dst ≤ 15) (s0 : 0 ≤ src) (s1 : src ≤ 15) (b0 : 0 ≤ base) (b1 : base ≤ 15) (p0 : -2147483648 ≤ disp) (p1 : disp ≤ 2147483647) (i0 : -2147483648 ≤ imm) (i1 : imm ≤ 2147483647) (c0 : 0 ≤ cc) (c1 : cc ≤ 15) (hm : mayX k0_ w dst src base disp imm cc = true), Ret Tryz.prog 26 ([xD k0_ w dst src base disp imm cc]) (.tup [.lst .no 1 (bD (bytesM k0_ w dst src base disp imm cc)), .int .i64 0])
theorem rbytes_17_ok : SpXR2c0 17 := by
 intro w dst src base disp imm cc d0 d1 s0 s1 b0 b1 p0 p1 i0 i1 c0 c1 hm
 have c0 := @rmayX_ok 17 w dst src base disp imm cc
 rw [hm] at c0
 have c1 := @class_ok 17
 have c2 := @class_ok 17
 have c3 := @class_ok 17
 let E1 : EL := ([.ret _ _ _ c0, tF, .inl] ++ List.replicate 12 tF ++ [tT, tT, tF, .ret _ _ _ c1, tF, tF, .ret _ _ _ c2, tF, .ret _ _ _ c3, tT])
 rcases bft (needM (w == 64) 0 dst false) with h4 | h4
 ·have c5 := @rrex_ok 0 dst (by decide) (by decide) d0 d1 (w == 64) false h4
  generalize g7 : rexB (w == 64) 0 dst = r6 at c5
  have c8 := @rdirect_ok 4 dst (by decide) (by decide) d0 d1
  generalize g10 : regsM 4 dst = r9 at c8
  exact (o26 (d := .tup [.lst (.fresh 1) 1 [.int .u8 r6, .int .u8 193, .int .u8 r9, .int .u8 (IntKind.wrap IntKind.u8 imm)], .int .i64 0]) (E1 ++ [.ret _ _ _ c5, .ret _ _ _ c8, .len 4 2147483648 (by decide)]) (by kernel_rfl)).to (by clear E1; (subst_vars; (try simp only [beq_dec] at *); (try simp only [beq_iff_eq] at h); (try simp only [decide_eq_true_eq, decide_eq_false_iff_not] at *); simp_all [wk, wkL, wkO, bytesM, show shapeM 17 = 4 from rfl, bD, rexM, memM, fourM, w_u8, codeM, numM]; done))
 have c11 := @rrexn_ok 0 dst (by decide) (by decide) d0 d1 (w == 64) false h4
 have c12 := @rdirect_ok 4 dst (by decide) (by decide) d0 d1
 generalize g14 : regsM 4 dst = r13 at c12
 exact (o26 (d := .tup [.lst (.fresh 1) 1 [.int .u8 193, .int .u8 r13, .int .u8 (IntKind.wrap IntKind.u8 imm)], .int .i64 0]) (E1 ++ [.ret _ _ _ c11, .ret _ _ _ c12, .len 3 2147483648 (by decide)]) (by kernel_rfl)).to (by clear E1; (subst_vars; (try simp only [beq_dec] at *); (try simp only [beq_iff_eq] at h); (try simp only [decide_eq_true_eq, decide_eq_false_iff_not] at *); simp_all [wk, wkL, wkO, bytesM, show shapeM 17 = 4 from rfl, bD, rexM, memM, fourM, w_u8, codeM, numM]; done))
theorem rbytes_18_ok : SpXR2c0 18 := by
 intro w dst src base disp imm cc d0 d1 s0 s1 b0 b1 p0 p1 i0 i1 c0 c1 hm
 have c0 := @rmayX_ok 18 w dst src base disp imm cc
 rw [hm] at c0
 have c1 := @class_ok 18
 have c2 := @class_ok 18
 have c3 := @class_ok 18
 let E1 : EL := ([.ret _ _ _ c0, tF, .inl] ++ List.replicate 15 tF ++ [tT, tT, tF, .ret _ _ _ c1, tF, tF, .ret _ _ _ c2, tF, .ret _ _ _ c3, tT])
 rcases bft (needM (w == 64) 0 dst false) with h4 | h4
 ·have c5 := @rrex_ok 0 dst (by decide) (by decide) d0 d1 (w == 64) false h4
  generalize g7 : rexB (w == 64) 0 dst = r6 at c5
  have c8 := @rdirect_ok 5 dst (by decide) (by decide) d0 d1
  generalize g10 : regsM 5 dst = r9 at c8
  exact (o26 (d := .tup [.lst (.fresh 1) 1 [.int .u8 r6, .int .u8 193, .int .u8 r9, .int .u8 (IntKind.wrap IntKind.u8 imm)], .int .i64 0]) (E1 ++ [.ret _ _ _ c5, .ret _ _ _ c8, .len 4 2147483648 (by decide)]) (by kernel_rfl)).to (by clear E1; (subst_vars; (try simp only [beq_dec] at *); (try simp only [beq_iff_eq] at h); (try simp only [decide_eq_true_eq, decide_eq_false_iff_not] at *); simp_all [wk, wkL, wkO, bytesM, show shapeM 18 = 4 from rfl, bD, rexM, memM, fourM, w_u8, codeM, numM]; done))
 have c11 := @rrexn_ok 0 dst (by decide) (by decide) d0 d1 (w == 64) false h4
 have c12 := @rdirect_ok 5 dst (by decide) (by decide) d0 d1
 generalize g14 : regsM 5 dst = r13 at c12
 exact (o26 (d := .tup [.lst (.fresh 1) 1 [.int .u8 193, .int .u8 r13, .int .u8 (IntKind.wrap IntKind.u8 imm)], .int .i64 0]) (E1 ++ [.ret _ _ _ c11, .ret _ _ _ c12, .len 3 2147483648 (by decide)]) (by kernel_rfl)).to (by clear E1; (subst_vars; (try simp only [beq_dec] at *); (try simp only [beq_iff_eq] at h); (try simp only [decide_eq_true_eq, decide_eq_false_iff_not] at *); simp_all [wk, wkL, wkO, bytesM, show shapeM 18 = 4 from rfl, bD, rexM, memM, fourM, w_u8, codeM, numM]; done))
theorem rbytes_19_ok : SpXR2c0 19 := by
 intro w dst src base disp imm cc d0 d1 s0 s1 b0 b1 p0 p1 i0 i1 c0 c1 hm
 have c0 := @rmayX_ok 19 w dst src base disp imm cc
 rw [hm] at c0
 have c1 := @class_ok 19
 have c2 := @class_ok 19
 have c3 := @class_ok 19
 let E1 : EL := ([.ret _ _ _ c0, tF, .inl] ++ List.replicate 20 tF ++ [tT, tT, tF, .ret _ _ _ c1, tF, tF, .ret _ _ _ c2, tF, .ret _ _ _ c3, tT])
 rcases bft (needM (w == 64) 0 dst false) with h4 | h4
 ·have c5 := @rrex_ok 0 dst (by decide) (by decide) d0 d1 (w == 64) false h4
  generalize g7 : rexB (w == 64) 0 dst = r6 at c5
  have c8 := @rdirect_ok 7 dst (by decide) (by decide) d0 d1
  generalize g10 : regsM 7 dst = r9 at c8
  exact (o26 (d := .tup [.lst (.fresh 1) 1 [.int .u8 r6, .int .u8 193, .int .u8 r9, .int .u8 (IntKind.wrap IntKind.u8 imm)], .int .i64 0]) (E1 ++ [.ret _ _ _ c5, .ret _ _ _ c8, .len 4 2147483648 (by decide)]) (by kernel_rfl)).to (by clear E1; (subst_vars; (try simp only [beq_dec] at *); (try simp only [beq_iff_eq] at h); (try simp only [decide_eq_true_eq, decide_eq_false_iff_not] at *); simp_all [wk, wkL, wkO, bytesM, show shapeM 19 = 4 from rfl, bD, rexM, memM, fourM, w_u8, codeM, numM]; done))
 have c11 := @rrexn_ok 0 dst (by decide) (by decide) d0 d1 (w == 64) false h4
 have c12 := @rdirect_ok 7 dst (by decide) (by decide) d0 d1
 generalize g14 : regsM 7 dst = r13 at c12
 exact (o26 (d := .tup [.lst (.fresh 1) 1 [.int .u8 193, .int .u8 r13, .int .u8 (IntKind.wrap IntKind.u8 imm)], .int .i64 0]) (E1 ++ [.ret _ _ _ c11, .ret _ _ _ c12, .len 3 2147483648 (by decide)]) (by kernel_rfl)).to (by clear E1; (subst_vars; (try simp only [beq_dec] at *); (try simp only [beq_iff_eq] at h); (try simp only [decide_eq_true_eq, decide_eq_false_iff_not] at *); simp_all [wk, wkL, wkO, bytesM, show shapeM 19 = 4 from rfl, bD, rexM, memM, fourM, w_u8, codeM, numM]; done))
theorem rbytes_20_ok : SpXR2c0 20 := by
 intro w dst src base disp imm cc d0 d1 s0 s1 b0 b1 p0 p1 i0 i1 c0 c1 hm
 have c0 := @rmayX_ok 20 w dst src base disp imm cc
 rw [hm] at c0
 have c1 := @class_ok 20
 have c2 := @class_ok 20
 have c3 := @class_ok 20
 have c4 := @class_ok 20
 let E1 : EL := ([.ret _ _ _ c0, tF, .inl] ++ List.replicate 13 tF ++ [tT, tF, .ret _ _ _ c1, tF, tF, .ret _ _ _ c2, tF, .ret _ _ _ c3, tF, .ret _ _ _ c4, tT])
 rcases bft (needM (w == 64) 0 dst false) with h5 | h5
 ·have c6 := @rrex_ok 0 dst (by decide) (by decide) d0 d1 (w == 64) false h5
  generalize g8 : rexB (w == 64) 0 dst = r7 at c6
  have c9 := @rdirect_ok 4 dst (by decide) (by decide) d0 d1
  generalize g11 : regsM 4 dst = r10 at c9
  exact (o26 (d := .tup [.lst (.fresh 1) 1 [.int .u8 r7, .int .u8 211, .int .u8 r10], .int .i64 0]) (E1 ++ [.ret _ _ _ c6, tT, tT, tT, tF, tF, .ret _ _ _ c9, .len 3 2147483648 (by decide)]) (by kernel_rfl)).to (by clear E1; (subst_vars; (try simp only [beq_dec] at *); (try simp only [beq_iff_eq] at h); (try simp only [decide_eq_true_eq, decide_eq_false_iff_not] at *); simp_all [wk, wkL, wkO, bytesM, show shapeM 20 = 5 from rfl, bD, rexM, memM, fourM, w_u8, codeM, numM]; done))
 have c12 := @rrexn_ok 0 dst (by decide) (by decide) d0 d1 (w == 64) false h5
 have c13 := @rdirect_ok 4 dst (by decide) (by decide) d0 d1
 generalize g15 : regsM 4 dst = r14 at c13
 exact (o26 (d := .tup [.lst (.fresh 1) 1 [.int .u8 211, .int .u8 r14], .int .i64 0]) (E1 ++ [.ret _ _ _ c12, tT, tT, tT, tF, tF, .ret _ _ _ c13, .len 2 2147483648 (by decide)]) (by kernel_rfl)).to (by clear E1; (subst_vars; (try simp only [beq_dec] at *); (try simp only [beq_iff_eq] at h); (try simp only [decide_eq_true_eq, decide_eq_false_iff_not] at *); simp_all [wk, wkL, wkO, bytesM, show shapeM 20 = 5 from rfl, bD, rexM, memM, fourM, w_u8, codeM, numM]; done))
theorem rbytes_21_ok : SpXR2c0 21 := by
 intro w dst src base disp imm cc d0 d1 s0 s1 b0 b1 p0 p1 i0 i1 c0 c1 hm
 have c0 := @rmayX_ok 21 w dst src base disp imm cc
 rw [hm] at c0
 have c1 := @class_ok 21
 have c2 := @class_ok 21
 have c3 := @class_ok 21
 have c4 := @class_ok 21
 let E1 : EL := ([.ret _ _ _ c0, tF, .inl] ++ List.replicate 16 tF ++ [tT, tF, .ret _ _ _ c1, tF, tF, .ret _ _ _ c2, tF, .ret _ _ _ c3, tF, .ret _ _ _ c4, tT])
 rcases bft (needM (w == 64) 0 dst false) with h5 | h5
 ·have c6 := @rrex_ok 0 dst (by decide) (by decide) d0 d1 (w == 64) false h5
  generalize g8 : rexB (w == 64) 0 dst = r7 at c6
  have c9 := @rdirect_ok 5 dst (by decide) (by decide) d0 d1
  generalize g11 : regsM 5 dst = r10 at c9
  exact (o26 (d := .tup [.lst (.fresh 1) 1 [.int .u8 r7, .int .u8 211, .int .u8 r10], .int .i64 0]) (E1 ++ [.ret _ _ _ c6, tT, tT, tT, tF, tF, .ret _ _ _ c9, .len 3 2147483648 (by decide)]) (by kernel_rfl)).to (by clear E1; (subst_vars; (try simp only [beq_dec] at *); (try simp only [beq_iff_eq] at h); (try simp only [decide_eq_true_eq, decide_eq_false_iff_not] at *); simp_all [wk, wkL, wkO, bytesM, show shapeM 21 = 5 from rfl, bD, rexM, memM, fourM, w_u8, codeM, numM]; done))
 have c12 := @rrexn_ok 0 dst (by decide) (by decide) d0 d1 (w == 64) false h5
 have c13 := @rdirect_ok 5 dst (by decide) (by decide) d0 d1
 generalize g15 : regsM 5 dst = r14 at c13
 exact (o26 (d := .tup [.lst (.fresh 1) 1 [.int .u8 211, .int .u8 r14], .int .i64 0]) (E1 ++ [.ret _ _ _ c12, tT, tT, tT, tF, tF, .ret _ _ _ c13, .len 2 2147483648 (by decide)]) (by kernel_rfl)).to (by clear E1; (subst_vars; (try simp only [beq_dec] at *); (try simp only [beq_iff_eq] at h); (try simp only [decide_eq_true_eq, decide_eq_false_iff_not] at *); simp_all [wk, wkL, wkO, bytesM, show shapeM 21 = 5 from rfl, bD, rexM, memM, fourM, w_u8, codeM, numM]; done))
theorem rbytes_22_ok : SpXR2c0 22 := by
 intro w dst src base disp imm cc d0 d1 s0 s1 b0 b1 p0 p1 i0 i1 c0 c1 hm
 have c0 := @rmayX_ok 22 w dst src base disp imm cc
 rw [hm] at c0
 have c1 := @class_ok 22
 have c2 := @class_ok 22
 have c3 := @class_ok 22
 have c4 := @class_ok 22
 let E1 : EL := ([.ret _ _ _ c0, tF, .inl] ++ List.replicate 21 tF ++ [tT, tF, .ret _ _ _ c1, tF, tF, .ret _ _ _ c2, tF, .ret _ _ _ c3, tF, .ret _ _ _ c4, tT])
 rcases bft (needM (w == 64) 0 dst false) with h5 | h5
 ·have c6 := @rrex_ok 0 dst (by decide) (by decide) d0 d1 (w == 64) false h5
  generalize g8 : rexB (w == 64) 0 dst = r7 at c6
  have c9 := @rdirect_ok 7 dst (by decide) (by decide) d0 d1
  generalize g11 : regsM 7 dst = r10 at c9
  exact (o26 (d := .tup [.lst (.fresh 1) 1 [.int .u8 r7, .int .u8 211, .int .u8 r10], .int .i64 0]) (E1 ++ [.ret _ _ _ c6, tT, tT, tT, tF, tF, .ret _ _ _ c9, .len 3 2147483648 (by decide)]) (by kernel_rfl)).to (by clear E1; (subst_vars; (try simp only [beq_dec] at *); (try simp only [beq_iff_eq] at h); (try simp only [decide_eq_true_eq, decide_eq_false_iff_not] at *); simp_all [wk, wkL, wkO, bytesM, show shapeM 22 = 5 from rfl, bD, rexM, memM, fourM, w_u8, codeM, numM]; done))
 have c12 := @rrexn_ok 0 dst (by decide) (by decide) d0 d1 (w == 64) false h5
 have c13 := @rdirect_ok 7 dst (by decide) (by decide) d0 d1
 generalize g15 : regsM 7 dst = r14 at c13
 exact (o26 (d := .tup [.lst (.fresh 1) 1 [.int .u8 211, .int .u8 r14], .int .i64 0]) (E1 ++ [.ret _ _ _ c12, tT, tT, tT, tF, tF, .ret _ _ _ c13, .len 2 2147483648 (by decide)]) (by kernel_rfl)).to (by clear E1; (subst_vars; (try simp only [beq_dec] at *); (try simp only [beq_iff_eq] at h); (try simp only [decide_eq_true_eq, decide_eq_false_iff_not] at *); simp_all [wk, wkL, wkO, bytesM, show shapeM 22 = 5 from rfl, bD, rexM, memM, fourM, w_u8, codeM, numM]; done))
theorem rbytes_23_ok : SpXR2c0 23 := by
 intro w dst src base disp imm cc d0 d1 s0 s1 b0 b1 p0 p1 i0 i1 c0 c1 hm
 have c0 := @rmayX_ok 23 w dst src base disp imm cc
 rw [hm] at c0
 have c1 := @class_ok 23
 have c2 := @class_ok 23
 have c3 := @class_ok 23
 have c4 := @class_ok 23
 let E1 : EL := ([.ret _ _ _ c0, tF, .inl] ++ List.replicate 22 tF ++ [tT, tF, .ret _ _ _ c1, tF, tF, .ret _ _ _ c2, tF, .ret _ _ _ c3, tF, .ret _ _ _ c4, tT])
 rcases bft (needM (w == 64) 0 dst false) with h5 | h5
 ·have c6 := @rrex_ok 0 dst (by decide) (by decide) d0 d1 (w == 64) false h5
  generalize g8 : rexB (w == 64) 0 dst = r7 at c6
  have c9 := @rdirect_ok 3 dst (by decide) (by decide) d0 d1
  generalize g11 : regsM 3 dst = r10 at c9
  exact (o26 (d := .tup [.lst (.fresh 1) 1 [.int .u8 r7, .int .u8 247, .int .u8 r10], .int .i64 0]) (E1 ++ [.ret _ _ _ c6, tF, tF, tF, tT, tT, .ret _ _ _ c9, .len 3 2147483648 (by decide)]) (by kernel_rfl)).to (by clear E1; (subst_vars; (try simp only [beq_dec] at *); (try simp only [beq_iff_eq] at h); (try simp only [decide_eq_true_eq, decide_eq_false_iff_not] at *); simp_all [wk, wkL, wkO, bytesM, show shapeM 23 = 5 from rfl, bD, rexM, memM, fourM, w_u8, codeM, numM]; done))
 have c12 := @rrexn_ok 0 dst (by decide) (by decide) d0 d1 (w == 64) false h5
 have c13 := @rdirect_ok 3 dst (by decide) (by decide) d0 d1
 generalize g15 : regsM 3 dst = r14 at c13
 exact (o26 (d := .tup [.lst (.fresh 1) 1 [.int .u8 247, .int .u8 r14], .int .i64 0]) (E1 ++ [.ret _ _ _ c12, tF, tF, tF, tT, tT, .ret _ _ _ c13, .len 2 2147483648 (by decide)]) (by kernel_rfl)).to (by clear E1; (subst_vars; (try simp only [beq_dec] at *); (try simp only [beq_iff_eq] at h); (try simp only [decide_eq_true_eq, decide_eq_false_iff_not] at *); simp_all [wk, wkL, wkO, bytesM, show shapeM 23 = 5 from rfl, bD, rexM, memM, fourM, w_u8, codeM, numM]; done))
theorem rbytes_24_ok : SpXR2c0 24 := by
 intro w dst src base disp imm cc d0 d1 s0 s1 b0 b1 p0 p1 i0 i1 c0 c1 hm
 have c0 := @rmayX_ok 24 w dst src base disp imm cc
 rw [hm] at c0
 have c1 := @class_ok 24
 have c2 := @class_ok 24
 have c3 := @class_ok 24
 have c4 := @class_ok 24
 let E1 : EL := ([.ret _ _ _ c0, tF, .inl] ++ List.replicate 18 tF ++ [tT, tF, .ret _ _ _ c1, tF, tF, .ret _ _ _ c2, tF, .ret _ _ _ c3, tF, .ret _ _ _ c4, tT])
 rcases bft (needM (w == 64) 0 dst false) with h5 | h5
 ·have c6 := @rrex_ok 0 dst (by decide) (by decide) d0 d1 (w == 64) false h5
  generalize g8 : rexB (w == 64) 0 dst = r7 at c6
  have c9 := @rdirect_ok 6 dst (by decide) (by decide) d0 d1
  generalize g11 : regsM 6 dst = r10 at c9
  exact (o26 (d := .tup [.lst (.fresh 1) 1 [.int .u8 r7, .int .u8 247, .int .u8 r10], .int .i64 0]) (E1 ++ [.ret _ _ _ c6, tT, tT, tT, tF, tT, .ret _ _ _ c9, .len 3 2147483648 (by decide)]) (by kernel_rfl)).to (by clear E1; (subst_vars; (try simp only [beq_dec] at *); (try simp only [beq_iff_eq] at h); (try simp only [decide_eq_true_eq, decide_eq_false_iff_not] at *); simp_all [wk, wkL, wkO, bytesM, show shapeM 24 = 5 from rfl, bD, rexM, memM, fourM, w_u8, codeM, numM]; done))
 have c12 := @rrexn_ok 0 dst (by decide) (by decide) d0 d1 (w == 64) false h5
 have c13 := @rdirect_ok 6 dst (by decide) (by decide) d0 d1
 generalize g15 : regsM 6 dst = r14 at c13
 exact (o26 (d := .tup [.lst (.fresh 1) 1 [.int .u8 247, .int .u8 r14], .int .i64 0]) (E1 ++ [.ret _ _ _ c12, tT, tT, tT, tF, tT, .ret _ _ _ c13, .len 2 2147483648 (by decide)]) (by kernel_rfl)).to (by clear E1; (subst_vars; (try simp only [beq_dec] at *); (try simp only [beq_iff_eq] at h); (try simp only [decide_eq_true_eq, decide_eq_false_iff_not] at *); simp_all [wk, wkL, wkO, bytesM, show shapeM 24 = 5 from rfl, bD, rexM, memM, fourM, w_u8, codeM, numM]; done))
end Go.Proofs.YtcngafhpodeenaaGreat

namespace Go.Proofs.YtcngafhpodeenaaGreat
open Go Go.Ev
set_option maxRecDepth 100000
set_option maxHeartbeats 8000000
theorem rbytes_26_ok (w dst src base disp imm cc : Int) (d0 : 0 ≤ dst) (d1 : dst ≤ 15) (s0 : 0 ≤ src) (s1 : src ≤ 15) (b0 : 0 ≤ base) (b1 : base ≤ 15) (p0 : -2147483648 ≤ disp) (p1 : disp ≤ 2147483647) (i0 : -2147483648 ≤ imm) (i1 : imm ≤ 2147483647) (c0 : 0 ≤ cc) (c1 : cc ≤ 15) (hm : mayX 26 w dst src base disp imm cc = true) : Ret Tryz.prog 26 ([xD 26 w dst src base disp imm cc]) (.tup [.lst .no 1 (bD (bytesM 26 w dst src base disp imm cc)), .int .i64 0]) := by
 have c0 := @rmayX_ok 26 w dst src base disp imm cc
 rw [hm] at c0
 have c1 := @class_ok 26
 have c2 := @class_ok 26
 have c3 := @class_ok 26
 have c4 := @class_ok 26
 let E1 : EL := ([.ret _ _ _ c0, tF, .inl] ++ List.replicate 24 tF ++ [.ret _ _ _ c1, tF, tF, .ret _ _ _ c2, tF, .ret _ _ _ c3, tF, .ret _ _ _ c4, tF, tF, tT])
 rcases bft (needM (w == 64) dst base false) with h5 | h5
 ·have c6 := @rrex_ok dst base d0 d1 b0 b1 (w == 64) false h5
  generalize g8 : rexB (w == 64) dst base = r7 at c6
  let E2 : EL := E1 ++ [.ret _ _ _ c6]
  by_cases h9 : w = 8
  ·subst h9
   let E3 : EL := E2 ++ [tT, .len 3 2147483648 (by decide)]
   rcases bft (decide (base % 8 = 4)) with h10 | h10
   ·have c11 := @rmem4_ok dst base disp d0 d1 b0 b1 p0 p1 h10
    exact (o26 (d := .tup [.lst (.fresh 1) 1 [.int .u8 r7, .int .u8 15, .int .u8 182, .int .u8 (128 + 8 * (dst % 8) + base % 8), .int .u8 36, .int .u8 (disp % 256), .int .u8 (disp / 256 % 256), .int .u8 (disp / 65536 % 256), .int .u8 (disp / 16777216 % 256)], .int .i64 0]) (E3 ++ [.ret _ _ _ c11, .len 9 2147483648 (by decide)]) (by kernel_rfl)).to (by clear E1 E2 E3; (subst_vars; (try simp only [beq_dec] at *); (try simp only [beq_iff_eq] at h); (try simp only [decide_eq_true_eq, decide_eq_false_iff_not] at *); simp_all [wk, wkL, wkO, bytesM, show shapeM 26 = 7 from rfl, bD, rexM, memM, fourM, w_u8, w_i64]; done))
   have c12 := @rmemn_ok dst base disp d0 d1 b0 b1 p0 p1 h10
   exact (o26 (d := .tup [.lst (.fresh 1) 1 [.int .u8 r7, .int .u8 15, .int .u8 182, .int .u8 (128 + 8 * (dst % 8) + base % 8), .int .u8 (disp % 256), .int .u8 (disp / 256 % 256), .int .u8 (disp / 65536 % 256), .int .u8 (disp / 16777216 % 256)], .int .i64 0]) (E3 ++ [.ret _ _ _ c12, .len 8 2147483648 (by decide)]) (by kernel_rfl)).to (by clear E1 E2 E3; (subst_vars; (try simp only [beq_dec] at *); (try simp only [beq_iff_eq] at h); (try simp only [decide_eq_true_eq, decide_eq_false_iff_not] at *); simp_all [wk, wkL, wkO, bytesM, show shapeM 26 = 7 from rfl, bD, rexM, memM, fourM, w_u8, w_i64]; done))
  by_cases h13 : w = 16
  ·subst h13
   let E4 : EL := E2 ++ [tC (neOf h9), tT, .len 3 2147483648 (by decide)]
   rcases bft (decide (base % 8 = 4)) with h14 | h14
   ·have c15 := @rmem4_ok dst base disp d0 d1 b0 b1 p0 p1 h14
    exact (o26 (d := .tup [.lst (.fresh 1) 1 [.int .u8 r7, .int .u8 15, .int .u8 183, .int .u8 (128 + 8 * (dst % 8) + base % 8), .int .u8 36, .int .u8 (disp % 256), .int .u8 (disp / 256 % 256), .int .u8 (disp / 65536 % 256), .int .u8 (disp / 16777216 % 256)], .int .i64 0]) (E4 ++ [.ret _ _ _ c15, .len 9 2147483648 (by decide)]) (by kernel_rfl)).to (by clear E1 E2 E4; (subst_vars; (try simp only [beq_dec] at *); (try simp only [beq_iff_eq] at h); (try simp only [decide_eq_true_eq, decide_eq_false_iff_not] at *); simp_all [wk, wkL, wkO, bytesM, show shapeM 26 = 7 from rfl, bD, rexM, memM, fourM, w_u8, w_i64]; done))
   have c16 := @rmemn_ok dst base disp d0 d1 b0 b1 p0 p1 h14
   exact (o26 (d := .tup [.lst (.fresh 1) 1 [.int .u8 r7, .int .u8 15, .int .u8 183, .int .u8 (128 + 8 * (dst % 8) + base % 8), .int .u8 (disp % 256), .int .u8 (disp / 256 % 256), .int .u8 (disp / 65536 % 256), .int .u8 (disp / 16777216 % 256)], .int .i64 0]) (E4 ++ [.ret _ _ _ c16, .len 8 2147483648 (by decide)]) (by kernel_rfl)).to (by clear E1 E2 E4; (subst_vars; (try simp only [beq_dec] at *); (try simp only [beq_iff_eq] at h); (try simp only [decide_eq_true_eq, decide_eq_false_iff_not] at *); simp_all [wk, wkL, wkO, bytesM, show shapeM 26 = 7 from rfl, bD, rexM, memM, fourM, w_u8, w_i64]; done))
  let E5 : EL := E2 ++ [tC (neOf h9), tC (neOf h13), .len 2 2147483648 (by decide)]
  rcases bft (decide (base % 8 = 4)) with h17 | h17
  ·have c18 := @rmem4_ok dst base disp d0 d1 b0 b1 p0 p1 h17
   exact (o26 (d := .tup [.lst (.fresh 1) 1 [.int .u8 r7, .int .u8 139, .int .u8 (128 + 8 * (dst % 8) + base % 8), .int .u8 36, .int .u8 (disp % 256), .int .u8 (disp / 256 % 256), .int .u8 (disp / 65536 % 256), .int .u8 (disp / 16777216 % 256)], .int .i64 0]) (E5 ++ [.ret _ _ _ c18, .len 8 2147483648 (by decide)]) (by kernel_rfl)).to (by clear E1 E2 E5; (subst_vars; (try simp only [beq_dec] at *); (try simp only [beq_iff_eq] at h); (try simp only [decide_eq_true_eq, decide_eq_false_iff_not] at *); simp_all [wk, wkL, wkO, bytesM, show shapeM 26 = 7 from rfl, bD, rexM, memM, fourM, w_u8, w_i64]; done))
  have c19 := @rmemn_ok dst base disp d0 d1 b0 b1 p0 p1 h17
  exact (o26 (d := .tup [.lst (.fresh 1) 1 [.int .u8 r7, .int .u8 139, .int .u8 (128 + 8 * (dst % 8) + base % 8), .int .u8 (disp % 256), .int .u8 (disp / 256 % 256), .int .u8 (disp / 65536 % 256), .int .u8 (disp / 16777216 % 256)], .int .i64 0]) (E5 ++ [.ret _ _ _ c19, .len 7 2147483648 (by decide)]) (by kernel_rfl)).to (by clear E1 E2 E5; (subst_vars; (try simp only [beq_dec] at *); (try simp only [beq_iff_eq] at h); (try simp only [decide_eq_true_eq, decide_eq_false_iff_not] at *); simp_all [wk, wkL, wkO, bytesM, show shapeM 26 = 7 from rfl, bD, rexM, memM, fourM, w_u8, w_i64]; done))
 have c20 := @rrexn_ok dst base d0 d1 b0 b1 (w == 64) false h5
 let E6 : EL := E1 ++ [.ret _ _ _ c20]
 by_cases h21 : w = 8
 ·subst h21
  let E7 : EL := E6 ++ [tT, .len 2 2147483648 (by decide)]
  rcases bft (decide (base % 8 = 4)) with h22 | h22
  ·have c23 := @rmem4_ok dst base disp d0 d1 b0 b1 p0 p1 h22
   exact (o26 (d := .tup [.lst (.fresh 1) 1 [.int .u8 15, .int .u8 182, .int .u8 (128 + 8 * (dst % 8) + base % 8), .int .u8 36, .int .u8 (disp % 256), .int .u8 (disp / 256 % 256), .int .u8 (disp / 65536 % 256), .int .u8 (disp / 16777216 % 256)], .int .i64 0]) (E7 ++ [.ret _ _ _ c23, .len 8 2147483648 (by decide)]) (by kernel_rfl)).to (by clear E1 E6 E7; (subst_vars; (try simp only [beq_dec] at *); (try simp only [beq_iff_eq] at h); (try simp only [decide_eq_true_eq, decide_eq_false_iff_not] at *); simp_all [wk, wkL, wkO, bytesM, show shapeM 26 = 7 from rfl, bD, rexM, memM, fourM, w_u8, w_i64]; done))
  have c24 := @rmemn_ok dst base disp d0 d1 b0 b1 p0 p1 h22
  exact (o26 (d := .tup [.lst (.fresh 1) 1 [.int .u8 15, .int .u8 182, .int .u8 (128 + 8 * (dst % 8) + base % 8), .int .u8 (disp % 256), .int .u8 (disp / 256 % 256), .int .u8 (disp / 65536 % 256), .int .u8 (disp / 16777216 % 256)], .int .i64 0]) (E7 ++ [.ret _ _ _ c24, .len 7 2147483648 (by decide)]) (by kernel_rfl)).to (by clear E1 E6 E7; (subst_vars; (try simp only [beq_dec] at *); (try simp only [beq_iff_eq] at h); (try simp only [decide_eq_true_eq, decide_eq_false_iff_not] at *); simp_all [wk, wkL, wkO, bytesM, show shapeM 26 = 7 from rfl, bD, rexM, memM, fourM, w_u8, w_i64]; done))
 by_cases h25 : w = 16
 ·subst h25
  let E8 : EL := E6 ++ [tC (neOf h21), tT, .len 2 2147483648 (by decide)]
  rcases bft (decide (base % 8 = 4)) with h26 | h26
  ·have c27 := @rmem4_ok dst base disp d0 d1 b0 b1 p0 p1 h26
   exact (o26 (d := .tup [.lst (.fresh 1) 1 [.int .u8 15, .int .u8 183, .int .u8 (128 + 8 * (dst % 8) + base % 8), .int .u8 36, .int .u8 (disp % 256), .int .u8 (disp / 256 % 256), .int .u8 (disp / 65536 % 256), .int .u8 (disp / 16777216 % 256)], .int .i64 0]) (E8 ++ [.ret _ _ _ c27, .len 8 2147483648 (by decide)]) (by kernel_rfl)).to (by clear E1 E6 E8; (subst_vars; (try simp only [beq_dec] at *); (try simp only [beq_iff_eq] at h); (try simp only [decide_eq_true_eq, decide_eq_false_iff_not] at *); simp_all [wk, wkL, wkO, bytesM, show shapeM 26 = 7 from rfl, bD, rexM, memM, fourM, w_u8, w_i64]; done))
  have c28 := @rmemn_ok dst base disp d0 d1 b0 b1 p0 p1 h26
  exact (o26 (d := .tup [.lst (.fresh 1) 1 [.int .u8 15, .int .u8 183, .int .u8 (128 + 8 * (dst % 8) + base % 8), .int .u8 (disp % 256), .int .u8 (disp / 256 % 256), .int .u8 (disp / 65536 % 256), .int .u8 (disp / 16777216 % 256)], .int .i64 0]) (E8 ++ [.ret _ _ _ c28, .len 7 2147483648 (by decide)]) (by kernel_rfl)).to (by clear E1 E6 E8; (subst_vars; (try simp only [beq_dec] at *); (try simp only [beq_iff_eq] at h); (try simp only [decide_eq_true_eq, decide_eq_false_iff_not] at *); simp_all [wk, wkL, wkO, bytesM, show shapeM 26 = 7 from rfl, bD, rexM, memM, fourM, w_u8, w_i64]; done))
 let E9 : EL := E6 ++ [tC (neOf h21), tC (neOf h25), .len 1 2147483648 (by decide)]
 rcases bft (decide (base % 8 = 4)) with h29 | h29
 ·have c30 := @rmem4_ok dst base disp d0 d1 b0 b1 p0 p1 h29
  exact (o26 (d := .tup [.lst (.fresh 1) 1 [.int .u8 139, .int .u8 (128 + 8 * (dst % 8) + base % 8), .int .u8 36, .int .u8 (disp % 256), .int .u8 (disp / 256 % 256), .int .u8 (disp / 65536 % 256), .int .u8 (disp / 16777216 % 256)], .int .i64 0]) (E9 ++ [.ret _ _ _ c30, .len 7 2147483648 (by decide)]) (by kernel_rfl)).to (by clear E1 E6 E9; (subst_vars; (try simp only [beq_dec] at *); (try simp only [beq_iff_eq] at h); (try simp only [decide_eq_true_eq, decide_eq_false_iff_not] at *); simp_all [wk, wkL, wkO, bytesM, show shapeM 26 = 7 from rfl, bD, rexM, memM, fourM, w_u8, w_i64]; done))
 have c31 := @rmemn_ok dst base disp d0 d1 b0 b1 p0 p1 h29
 exact (o26 (d := .tup [.lst (.fresh 1) 1 [.int .u8 139, .int .u8 (128 + 8 * (dst % 8) + base % 8), .int .u8 (disp % 256), .int .u8 (disp / 256 % 256), .int .u8 (disp / 65536 % 256), .int .u8 (disp / 16777216 % 256)], .int .i64 0]) (E9 ++ [.ret _ _ _ c31, .len 6 2147483648 (by decide)]) (by kernel_rfl)).to (by clear E1 E6 E9; (subst_vars; (try simp only [beq_dec] at *); (try simp only [beq_iff_eq] at h); (try simp only [decide_eq_true_eq, decide_eq_false_iff_not] at *); simp_all [wk, wkL, wkO, bytesM, show shapeM 26 = 7 from rfl, bD, rexM, memM, fourM, w_u8, w_i64]; done))
end Go.Proofs.YtcngafhpodeenaaGreat

namespace Go.Proofs.YtcngafhpodeenaaGreat
open Go Go.Ev
set_option maxRecDepth 100000
set_option maxHeartbeats 8000000
theorem rbytes_27_ok (w dst src base disp imm cc : Int) (d0 : 0 ≤ dst) (d1 : dst ≤ 15) (s0 : 0 ≤ src) (s1 : src ≤ 15) (b0 : 0 ≤ base) (b1 : base ≤ 15) (p0 : -2147483648 ≤ disp) (p1 : disp ≤ 2147483647) (i0 : -2147483648 ≤ imm) (i1 : imm ≤ 2147483647) (c0 : 0 ≤ cc) (c1 : cc ≤ 15) (hm : mayX 27 w dst src base disp imm cc = true) : Ret Tryz.prog 26 ([xD 27 w dst src base disp imm cc]) (.tup [.lst .no 1 (bD (bytesM 27 w dst src base disp imm cc)), .int .i64 0]) := by
 have c0 := @rmayX_ok 27 w dst src base disp imm cc
 rw [hm] at c0
 have c1 := @class_ok 27
 have c2 := @class_ok 27
 have c3 := @class_ok 27
 have c4 := @class_ok 27
 let E1 : EL := ([.ret _ _ _ c0, tF, .inl] ++ List.replicate 24 tF ++ [.ret _ _ _ c1, tF, tF, .ret _ _ _ c2, tF, .ret _ _ _ c3, tF, .ret _ _ _ c4, tF, tF, tF, tT])
 by_cases h5 : w = 16
 ·subst h5
  let E2 : EL := E1 ++ [tT, .len 1 2147483648 (by decide)]
  rcases bft (needM false src base false) with h6 | h6
  ·have c7 := @rrex_ok src base s0 s1 b0 b1 false false h6
   generalize g9 : rexB false src base = r8 at c7
   let E3 : EL := E2 ++ [.ret _ _ _ c7, .len 2 2147483648 (by decide), tF, .len 3 2147483648 (by decide)]
   rcases bft (decide (base % 8 = 4)) with h10 | h10
   ·have c11 := @rmem4_ok src base disp s0 s1 b0 b1 p0 p1 h10
    exact (o26 (d := .tup [.lst (.fresh (1 : Nat)) (1 : Nat) [.int .u8 102, .int .u8 r8, .int .u8 137, .int .u8 (128 + 8 * (src % 8) + base % 8), .int .u8 36, .int .u8 (disp % 256), .int .u8 (disp / 256 % 256), .int .u8 (disp / 65536 % 256), .int .u8 (disp / 16777216 % 256)], .int .i64 0]) (E3 ++ [.ret _ _ _ c11, .len 9 2147483648 (by decide)]) (by kernel_rfl)).to (by clear E1 E2 E3; ((try simp only [and7]); subst_vars; (try simp only [beq_dec] at *); (try simp only [beq_iff_eq] at h); (try simp only [decide_eq_true_eq, decide_eq_false_iff_not] at *); simp_all [wk, wkL, wkO, bytesM, show shapeM 27 = 8 from rfl, bD, rexM, memM, fourM, w_u8, w_i64, w_i8]; done))
   have c12 := @rmemn_ok src base disp s0 s1 b0 b1 p0 p1 h10
   exact (o26 (d := .tup [.lst (.fresh (1 : Nat)) (1 : Nat) [.int .u8 102, .int .u8 r8, .int .u8 137, .int .u8 (128 + 8 * (src % 8) + base % 8), .int .u8 (disp % 256), .int .u8 (disp / 256 % 256), .int .u8 (disp / 65536 % 256), .int .u8 (disp / 16777216 % 256)], .int .i64 0]) (E3 ++ [.ret _ _ _ c12, .len 8 2147483648 (by decide)]) (by kernel_rfl)).to (by clear E1 E2 E3; ((try simp only [and7]); subst_vars; (try simp only [beq_dec] at *); (try simp only [beq_iff_eq] at h); (try simp only [decide_eq_true_eq, decide_eq_false_iff_not] at *); simp_all [wk, wkL, wkO, bytesM, show shapeM 27 = 8 from rfl, bD, rexM, memM, fourM, w_u8, w_i64, w_i8]; done))
  have c13 := @rrexn_ok src base s0 s1 b0 b1 false false h6
  let E4 : EL := E2 ++ [.ret _ _ _ c13, .len 1 2147483648 (by decide), tF, .len 2 2147483648 (by decide)]
  rcases bft (decide (base % 8 = 4)) with h14 | h14
  ·have c15 := @rmem4_ok src base disp s0 s1 b0 b1 p0 p1 h14
   exact (o26 (d := .tup [.lst (.fresh (1 : Nat)) (1 : Nat) [.int .u8 102, .int .u8 137, .int .u8 (128 + 8 * (src % 8) + base % 8), .int .u8 36, .int .u8 (disp % 256), .int .u8 (disp / 256 % 256), .int .u8 (disp / 65536 % 256), .int .u8 (disp / 16777216 % 256)], .int .i64 0]) (E4 ++ [.ret _ _ _ c15, .len 8 2147483648 (by decide)]) (by kernel_rfl)).to (by clear E1 E2 E4; ((try simp only [and7]); subst_vars; (try simp only [beq_dec] at *); (try simp only [beq_iff_eq] at h); (try simp only [decide_eq_true_eq, decide_eq_false_iff_not] at *); simp_all [wk, wkL, wkO, bytesM, show shapeM 27 = 8 from rfl, bD, rexM, memM, fourM, w_u8, w_i64, w_i8]; done))
  have c16 := @rmemn_ok src base disp s0 s1 b0 b1 p0 p1 h14
  exact (o26 (d := .tup [.lst (.fresh (1 : Nat)) (1 : Nat) [.int .u8 102, .int .u8 137, .int .u8 (128 + 8 * (src % 8) + base % 8), .int .u8 (disp % 256), .int .u8 (disp / 256 % 256), .int .u8 (disp / 65536 % 256), .int .u8 (disp / 16777216 % 256)], .int .i64 0]) (E4 ++ [.ret _ _ _ c16, .len 7 2147483648 (by decide)]) (by kernel_rfl)).to (by clear E1 E2 E4; ((try simp only [and7]); subst_vars; (try simp only [beq_dec] at *); (try simp only [beq_iff_eq] at h); (try simp only [decide_eq_true_eq, decide_eq_false_iff_not] at *); simp_all [wk, wkL, wkO, bytesM, show shapeM 27 = 8 from rfl, bD, rexM, memM, fourM, w_u8, w_i64, w_i8]; done))
 let E5 : EL := E1 ++ [tC (neOf h5)]
 rcases bft (needM (w == 64) src base (w == 8)) with h17 | h17
 ·have c18 := @rrex_ok src base s0 s1 b0 b1 (w == 64) (w == 8) h17
  generalize g20 : rexB (w == 64) src base = r19 at c18
  let E6 : EL := E5 ++ [.ret _ _ _ c18, .len 1 2147483648 (by decide)]
  by_cases h21 : w = 8
  ·subst h21
   let E7 : EL := E6 ++ [tT, .len 2 2147483648 (by decide)]
   rcases bft (decide (base % 8 = 4)) with h22 | h22
   ·have c23 := @rmem4_ok src base disp s0 s1 b0 b1 p0 p1 h22
    exact (o26 (d := .tup [.lst (.fresh (1 : Nat)) (1 : Nat) [.int .u8 r19, .int .u8 136, .int .u8 (128 + 8 * (src % 8) + base % 8), .int .u8 36, .int .u8 (disp % 256), .int .u8 (disp / 256 % 256), .int .u8 (disp / 65536 % 256), .int .u8 (disp / 16777216 % 256)], .int .i64 0]) (E7 ++ [.ret _ _ _ c23, .len 8 2147483648 (by decide)]) (by kernel_rfl)).to (by clear E1 E5 E6 E7; ((try simp only [and7]); subst_vars; (try simp only [beq_dec] at *); (try simp only [beq_iff_eq] at h); (try simp only [decide_eq_true_eq, decide_eq_false_iff_not] at *); simp_all [wk, wkL, wkO, bytesM, show shapeM 27 = 8 from rfl, bD, rexM, memM, fourM, w_u8, w_i64, w_i8]; done))
   have c24 := @rmemn_ok src base disp s0 s1 b0 b1 p0 p1 h22
   exact (o26 (d := .tup [.lst (.fresh (1 : Nat)) (1 : Nat) [.int .u8 r19, .int .u8 136, .int .u8 (128 + 8 * (src % 8) + base % 8), .int .u8 (disp % 256), .int .u8 (disp / 256 % 256), .int .u8 (disp / 65536 % 256), .int .u8 (disp / 16777216 % 256)], .int .i64 0]) (E7 ++ [.ret _ _ _ c24, .len 7 2147483648 (by decide)]) (by kernel_rfl)).to (by clear E1 E5 E6 E7; ((try simp only [and7]); subst_vars; (try simp only [beq_dec] at *); (try simp only [beq_iff_eq] at h); (try simp only [decide_eq_true_eq, decide_eq_false_iff_not] at *); simp_all [wk, wkL, wkO, bytesM, show shapeM 27 = 8 from rfl, bD, rexM, memM, fourM, w_u8, w_i64, w_i8]; done))
  let E8 : EL := E6 ++ [tC (neOf h21), .len 2 2147483648 (by decide)]
  rcases bft (decide (base % 8 = 4)) with h25 | h25
  ·have c26 := @rmem4_ok src base disp s0 s1 b0 b1 p0 p1 h25
   exact (o26 (d := .tup [.lst (.fresh (1 : Nat)) (1 : Nat) [.int .u8 r19, .int .u8 137, .int .u8 (128 + 8 * (src % 8) + base % 8), .int .u8 36, .int .u8 (disp % 256), .int .u8 (disp / 256 % 256), .int .u8 (disp / 65536 % 256), .int .u8 (disp / 16777216 % 256)], .int .i64 0]) (E8 ++ [.ret _ _ _ c26, .len 8 2147483648 (by decide)]) (by kernel_rfl)).to (by clear E1 E5 E6 E8; ((try simp only [and7]); subst_vars; (try simp only [beq_dec] at *); (try simp only [beq_iff_eq] at h); (try simp only [decide_eq_true_eq, decide_eq_false_iff_not] at *); simp_all [wk, wkL, wkO, bytesM, show shapeM 27 = 8 from rfl, bD, rexM, memM, fourM, w_u8, w_i64, w_i8]; done))
  have c27 := @rmemn_ok src base disp s0 s1 b0 b1 p0 p1 h25
  exact (o26 (d := .tup [.lst (.fresh (1 : Nat)) (1 : Nat) [.int .u8 r19, .int .u8 137, .int .u8 (128 + 8 * (src % 8) + base % 8), .int .u8 (disp % 256), .int .u8 (disp / 256 % 256), .int .u8 (disp / 65536 % 256), .int .u8 (disp / 16777216 % 256)], .int .i64 0]) (E8 ++ [.ret _ _ _ c27, .len 7 2147483648 (by decide)]) (by kernel_rfl)).to (by clear E1 E5 E6 E8; ((try simp only [and7]); subst_vars; (try simp only [beq_dec] at *); (try simp only [beq_iff_eq] at h); (try simp only [decide_eq_true_eq, decide_eq_false_iff_not] at *); simp_all [wk, wkL, wkO, bytesM, show shapeM 27 = 8 from rfl, bD, rexM, memM, fourM, w_u8, w_i64, w_i8]; done))
 have c28 := @rrexn_ok src base s0 s1 b0 b1 (w == 64) (w == 8) h17
 let E9 : EL := E5 ++ [.ret _ _ _ c28, .len 0 2147483648 (by decide)]
 by_cases h29 : w = 8
 ·subst h29
  let E10 : EL := E9 ++ [tT, .len 1 2147483648 (by decide)]
  rcases bft (decide (base % 8 = 4)) with h30 | h30
  ·have c31 := @rmem4_ok src base disp s0 s1 b0 b1 p0 p1 h30
   exact (o26 (d := .tup [.lst (.fresh (1 : Nat)) (1 : Nat) [.int .u8 136, .int .u8 (128 + 8 * (src % 8) + base % 8), .int .u8 36, .int .u8 (disp % 256), .int .u8 (disp / 256 % 256), .int .u8 (disp / 65536 % 256), .int .u8 (disp / 16777216 % 256)], .int .i64 0]) (E10 ++ [.ret _ _ _ c31, .len 7 2147483648 (by decide)]) (by kernel_rfl)).to (by clear E1 E5 E9 E10; ((try simp only [and7]); subst_vars; (try simp only [beq_dec] at *); (try simp only [beq_iff_eq] at h); (try simp only [decide_eq_true_eq, decide_eq_false_iff_not] at *); simp_all [wk, wkL, wkO, bytesM, show shapeM 27 = 8 from rfl, bD, rexM, memM, fourM, w_u8, w_i64, w_i8]; done))
  have c32 := @rmemn_ok src base disp s0 s1 b0 b1 p0 p1 h30
  exact (o26 (d := .tup [.lst (.fresh (1 : Nat)) (1 : Nat) [.int .u8 136, .int .u8 (128 + 8 * (src % 8) + base % 8), .int .u8 (disp % 256), .int .u8 (disp / 256 % 256), .int .u8 (disp / 65536 % 256), .int .u8 (disp / 16777216 % 256)], .int .i64 0]) (E10 ++ [.ret _ _ _ c32, .len 6 2147483648 (by decide)]) (by kernel_rfl)).to (by clear E1 E5 E9 E10; ((try simp only [and7]); subst_vars; (try simp only [beq_dec] at *); (try simp only [beq_iff_eq] at h); (try simp only [decide_eq_true_eq, decide_eq_false_iff_not] at *); simp_all [wk, wkL, wkO, bytesM, show shapeM 27 = 8 from rfl, bD, rexM, memM, fourM, w_u8, w_i64, w_i8]; done))
 let E11 : EL := E9 ++ [tC (neOf h29), .len 1 2147483648 (by decide)]
 rcases bft (decide (base % 8 = 4)) with h33 | h33
 ·have c34 := @rmem4_ok src base disp s0 s1 b0 b1 p0 p1 h33
  exact (o26 (d := .tup [.lst (.fresh (1 : Nat)) (1 : Nat) [.int .u8 137, .int .u8 (128 + 8 * (src % 8) + base % 8), .int .u8 36, .int .u8 (disp % 256), .int .u8 (disp / 256 % 256), .int .u8 (disp / 65536 % 256), .int .u8 (disp / 16777216 % 256)], .int .i64 0]) (E11 ++ [.ret _ _ _ c34, .len 7 2147483648 (by decide)]) (by kernel_rfl)).to (by clear E1 E5 E9 E11; ((try simp only [and7]); subst_vars; (try simp only [beq_dec] at *); (try simp only [beq_iff_eq] at h); (try simp only [decide_eq_true_eq, decide_eq_false_iff_not] at *); simp_all [wk, wkL, wkO, bytesM, show shapeM 27 = 8 from rfl, bD, rexM, memM, fourM, w_u8, w_i64, w_i8]; done))
 have c35 := @rmemn_ok src base disp s0 s1 b0 b1 p0 p1 h33
 exact (o26 (d := .tup [.lst (.fresh (1 : Nat)) (1 : Nat) [.int .u8 137, .int .u8 (128 + 8 * (src % 8) + base % 8), .int .u8 (disp % 256), .int .u8 (disp / 256 % 256), .int .u8 (disp / 65536 % 256), .int .u8 (disp / 16777216 % 256)], .int .i64 0]) (E11 ++ [.ret _ _ _ c35, .len 6 2147483648 (by decide)]) (by kernel_rfl)).to (by clear E1 E5 E9 E11; ((try simp only [and7]); subst_vars; (try simp only [beq_dec] at *); (try simp only [beq_iff_eq] at h); (try simp only [decide_eq_true_eq, decide_eq_false_iff_not] at *); simp_all [wk, wkL, wkO, bytesM, show shapeM 27 = 8 from rfl, bD, rexM, memM, fourM, w_u8, w_i64, w_i8]; done))
end Go.Proofs.YtcngafhpodeenaaGreat

namespace Go.Proofs.YtcngafhpodeenaaGreat
open Go Go.Ev
set_option maxRecDepth 100000
set_option maxHeartbeats 8000000
def SpXR2f0 (k0_ : Int) : Prop := ∀ (w dst src base disp imm cc : Int) (d0 : 0 ≤ dst) (d1 : dst ≤ 15) (s0 : 0 ≤ src) (s1 : src ≤ 15) (b0 : 0 ≤ base) (b1 : base ≤ 15) (p0 : -2147483648 ≤ disp) (p1 : disp ≤ 2147483647) (i0 : -2147483648 ≤ imm) (i1 : imm ≤ 2147483647) (c0 : 0 ≤ cc) (c1 : cc ≤ 15) (hm : mayX k0_ w dst src base disp imm cc = true), Ret Tryz.prog 26 ([xD k0_ w dst src base disp imm cc]) (.tup [.lst .no 1 (bD (bytesM k0_ w dst src base disp imm cc)), .int .i64 0])
theorem rbytes_28_ok : SpXR2f0 28 := by
 intro w dst src base disp imm cc d0 d1 s0 s1 b0 b1 p0 p1 i0 i1 c0 c1 hm
 have c0 := @Proofs.YtcngafhpodeenaaGreat.rmayX_ok 28 w dst src base disp imm cc
 rw [show (mayX 28 w dst src base disp imm cc) = true from hm] at c0
 have c1 := @Proofs.YtcngafhpodeenaaGreat.class_ok 28
 have c2 := @Proofs.YtcngafhpodeenaaGreat.class_ok 28
 have c3 := @Proofs.YtcngafhpodeenaaGreat.class_ok 28
 have c4 := @Proofs.YtcngafhpodeenaaGreat.class_ok 28
 let E1 : EL := ([.ret _ _ _ c0, tF, .inl] ++ List.replicate 24 tF ++ [.ret _ _ _ c1, tF, tF, .ret _ _ _ c2, tF, .ret _ _ _ c3, tF, .ret _ _ _ c4, tF, tF, tF, tF, .inl, tT, tT, tT, tT])
 by_cases h5 : w = 8
 ·subst h5
  exact (o26 (d := D.tup [D.lst Own.tight 1 [D.int IntKind.u8 235, D.int IntKind.u8 (IntKind.wrap IntKind.u8 imm)], D.int IntKind.i64 0]) (E1 ++ [tT]) (by kernel_rfl)).to (by clear E1; ((try simp only [and7]); subst_vars; (try simp only [beq_dec] at *); (try simp only [beq_iff_eq] at h); (try simp only [decide_eq_true_eq, decide_eq_false_iff_not] at *); simp_all [wk, wkL, wkO, bytesM, show shapeM 28 = 9 from rfl, bD, rexM, memM, fourM, w_u8, w_i64, w_i8]; done))
 have c6 := @Proofs.YtcngafhpodeenaaGreat.rdir2_ok imm
 exact (o26 (d := D.tup [D.lst (Own.fresh (1 : Nat)) (1 : Nat) [D.int IntKind.u8 233, D.int IntKind.u8 (imm % 256), D.int IntKind.u8 (imm / 256 % 256), D.int IntKind.u8 (imm / 65536 % 256), D.int IntKind.u8 (imm / 16777216 % 256)], D.int IntKind.i64 0]) (E1 ++ [tC (neOf h5), tT, .ret _ _ _ c6, .len 5 2147483648 (by decide)]) (by kernel_rfl)).to (by clear E1; ((try simp only [and7]); subst_vars; (try simp only [beq_dec] at *); (try simp only [beq_iff_eq] at h); (try simp only [decide_eq_true_eq, decide_eq_false_iff_not] at *); simp_all [wk, wkL, wkO, bytesM, show shapeM 28 = 9 from rfl, bD, rexM, memM, fourM, w_u8, w_i64, w_i8]; done))
theorem rbytes_29_ok : SpXR2f0 29 := by
 intro w dst src base disp imm cc d0 d1 s0 s1 b0 b1 p0 p1 i0 i1 c0 c1 hm
 have c0 := @Proofs.YtcngafhpodeenaaGreat.rmayX_ok 29 w dst src base disp imm cc
 rw [show (mayX 29 w dst src base disp imm cc) = true from hm] at c0
 have c1 := @Proofs.YtcngafhpodeenaaGreat.class_ok 29
 have c2 := @Proofs.YtcngafhpodeenaaGreat.class_ok 29
 have c3 := @Proofs.YtcngafhpodeenaaGreat.class_ok 29
 have c4 := @Proofs.YtcngafhpodeenaaGreat.class_ok 29
 let E1 : EL := ([.ret _ _ _ c0, tF, .inl] ++ List.replicate 24 tF ++ [.ret _ _ _ c1, tF, tF, .ret _ _ _ c2, tF, .ret _ _ _ c3, tF, .ret _ _ _ c4, tF, tF, tF, tF, .inl, tF, tF, tF, tF, tF, tF, tT, tT, tT, tT])
 by_cases h5 : w = 8
 ·subst h5
  exact (o26 (d := D.tup [D.lst Own.tight 1 [D.int IntKind.u8 (IntKind.wrap IntKind.u8 (IntKind.wrap IntKind.i64 (112 + IntKind.wrap IntKind.i64 cc))), D.int IntKind.u8 (IntKind.wrap IntKind.u8 imm)], D.int IntKind.i64 0]) (E1 ++ [tT]) (by kernel_rfl)).to (by clear E1; ((try simp only [and7]); subst_vars; (try simp only [beq_dec] at *); (try simp only [beq_iff_eq] at h); (try simp only [decide_eq_true_eq, decide_eq_false_iff_not] at *); simp_all [wk, wkL, wkO, bytesM, show shapeM 29 = 10 from rfl, bD, rexM, memM, fourM, w_u8, w_i64, w_i8]; omega))
 have c6 := @Proofs.YtcngafhpodeenaaGreat.rdir2_ok imm
 exact (o26 (d := D.tup [D.lst (Own.fresh (1 : Nat)) (1 : Nat) [D.int IntKind.u8 15, D.int IntKind.u8 (IntKind.wrap IntKind.u8 (IntKind.wrap IntKind.i64 (128 + IntKind.wrap IntKind.i64 cc))), D.int IntKind.u8 (imm % 256), D.int IntKind.u8 (imm / 256 % 256), D.int IntKind.u8 (imm / 65536 % 256), D.int IntKind.u8 (imm / 16777216 % 256)], D.int IntKind.i64 0]) (E1 ++ [tC (neOf h5), tT, .ret _ _ _ c6, .len 6 2147483648 (by decide)]) (by kernel_rfl)).to (by clear E1; ((try simp only [and7]); subst_vars; (try simp only [beq_dec] at *); (try simp only [beq_iff_eq] at h); (try simp only [decide_eq_true_eq, decide_eq_false_iff_not] at *); simp_all [wk, wkL, wkO, bytesM, show shapeM 29 = 10 from rfl, bD, rexM, memM, fourM, w_u8, w_i64, w_i8]; omega))
theorem rbytes_30_ok : SpXR2f0 30 := by
 intro w dst src base disp imm cc d0 d1 s0 s1 b0 b1 p0 p1 i0 i1 c0 c1 hm
 have c0 := @Proofs.YtcngafhpodeenaaGreat.rmayX_ok 30 w dst src base disp imm cc
 rw [show (mayX 30 w dst src base disp imm cc) = true from hm] at c0
 have c1 := @Proofs.YtcngafhpodeenaaGreat.class_ok 30
 have c2 := @Proofs.YtcngafhpodeenaaGreat.class_ok 30
 have c3 := @Proofs.YtcngafhpodeenaaGreat.class_ok 30
 have c4 := @Proofs.YtcngafhpodeenaaGreat.class_ok 30
 exact (o26 (d := D.tup [D.lst Own.tight 1 [D.int IntKind.u8 195], D.int IntKind.i64 0]) ([.ret _ _ _ c0, tF, .inl] ++ List.replicate 24 tF ++ [.ret _ _ _ c1, tF, tF, .ret _ _ _ c2, tF, .ret _ _ _ c3, tF, .ret _ _ _ c4, tF, tF, tF, tF, .inl] ++ List.replicate 12 tF ++ [tT]) (by kernel_rfl)).to (by ((try simp only [and7]); subst_vars; (try simp only [beq_dec] at *); (try simp only [beq_iff_eq] at h); (try simp only [decide_eq_true_eq, decide_eq_false_iff_not] at *); simp_all [wk, wkL, wkO, bytesM, show shapeM 30 = 11 from rfl, bD, rexM, memM, fourM, w_u8, w_i64, w_i8]; done))
theorem rbytes_31_ok : SpXR2f0 31 := by
 intro w dst src base disp imm cc d0 d1 s0 s1 b0 b1 p0 p1 i0 i1 c0 c1 hm
 have c0 := @Proofs.YtcngafhpodeenaaGreat.rmayX_ok 31 w dst src base disp imm cc
 rw [show (mayX 31 w dst src base disp imm cc) = true from hm] at c0
 have c1 := @Proofs.YtcngafhpodeenaaGreat.class_ok 31
 have c2 := @Proofs.YtcngafhpodeenaaGreat.class_ok 31
 have c3 := @Proofs.YtcngafhpodeenaaGreat.class_ok 31
 have c4 := @Proofs.YtcngafhpodeenaaGreat.class_ok 31
 exact (o26 (d := D.tup [D.lst Own.tight 1 [D.int IntKind.u8 15, D.int IntKind.u8 5], D.int IntKind.i64 0]) ([.ret _ _ _ c0, tF, .inl] ++ List.replicate 24 tF ++ [.ret _ _ _ c1, tF, tF, .ret _ _ _ c2, tF, .ret _ _ _ c3, tF, .ret _ _ _ c4, tF, tF, tF, tF, .inl] ++ List.replicate 13 tF) (by kernel_rfl)).to (by ((try simp only [and7]); subst_vars; (try simp only [beq_dec] at *); (try simp only [beq_iff_eq] at h); (try simp only [decide_eq_true_eq, decide_eq_false_iff_not] at *); simp_all [wk, wkL, wkO, bytesM, show shapeM 31 = 11 from rfl, bD, rexM, memM, fourM, w_u8, w_i64, w_i8]; done))
end Go.Proofs.YtcngafhpodeenaaGreat

namespace Go.Proofs.YtcngafhpodeenaaGreat
open Go Go.Ev
set_option maxRecDepth 100000
set_option maxHeartbeats 8000000
theorem rbytes_no_ok (op w dst src base disp imm cc : Int) (ho : op ≤ 127) (hm : mayX op w dst src base disp imm cc = false) : Ret Tryz.prog 26 ([xD op w dst src base disp imm cc]) (.tup [.lst .no 1 [], .int .i64 2]) := by
 have c0 := @Proofs.YtcngafhpodeenaaGreat.rmayX_ok op w dst src base disp imm cc
 rw [show (mayX op w dst src base disp imm cc) = false from hm] at c0
 exact (o26 (d := D.tup [D.lst Own.tight 0 [], D.int IntKind.i64 2]) [.ret _ _ _ c0, tT] (by kernel_rfl)).to (by simp [wk, wkL, wkO])
end Go.Proofs.YtcngafhpodeenaaGreat

namespace Go.Proofs.YtcngafhpodeenaaGreat
open Go Go.Ev
set_option maxRecDepth 100000
set_option maxHeartbeats 8000000
end Go.Proofs.YtcngafhpodeenaaGreat

namespace Go.Proofs.YtcngafhpodeenaaGreat
open Go Go.Ev
set_option maxRecDepth 100000
set_option maxHeartbeats 8000000
end Go.Proofs.YtcngafhpodeenaaGreat

namespace Go.Proofs.YtcngafhpodeenaaGreat
open Go Go.Ev
theorem mayX_sh {op w dst src base disp imm cc : Int} (h : mayX op w dst src base disp imm cc = true) : shapeM op ≠ 0 := by
 have hs := (mayX_parts h).2
 intro e
 rw [e] at hs
 simp [mayS] at hs
end Go.Proofs.YtcngafhpodeenaaGreat
