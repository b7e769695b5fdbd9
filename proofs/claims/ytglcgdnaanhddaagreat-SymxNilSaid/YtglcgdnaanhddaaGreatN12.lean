/- Contracts and plain laws that a statement's proof leans on (texts merged: SX6, SX7, SX8, SX9, SX4). -/
import Derived.WalkSpells
import Derived.Handy
import Derived.Test.YtglcgdnaanhddaaGreatN05
import Derived.Test.YtglcgdnaanhddaaGreatN08
import Derived.Test.YtglcgdnaanhddaaGreatN10
import Derived.Test.YtglcgdnaanhddaaGreatN11
set_option linter.unusedVariables false
set_option linter.unusedSimpArgs false
set_option maxRecDepth 100000
set_option maxHeartbeats 8000000
namespace Go.Proofs.YtglcgdnaanhddaaGreat
open Go Go.Ev
theorem tnew_ok  : CallRun Tryz.prog 11 ([]) ([]) (.ptr false 2 0) ([.dead, .dead, .dead]) := by
 exact (CallRun.of_eval (keep := []) (d := .ptr false 2 0) (s' := [.dead, .dead, .dead]) mixed [.mkey _ _ key_Term] (by kernel_rfl)).cast (by rfl) (by rfl)
theorem tnewr_ok : Ret Tryz.prog 11 [] (.eptr false (.agg []) 0) := Ret.of_ptr tnew_ok
theorem run_nil_ok (xs hl : List D) (sp block most : Int)  : Ret Tryz.prog 8 ([.nilp, .lst .no 1 xs, .agg [.int .i64 sp, .lst .no 23 hl], .int .i64 block, .bool false, .agg [.int .i64 0, .int .i64 0, .int .i64 0, .int .i64 0, .int .i64 0, .int .i64 0, .int .i64 0, .int .i64 0, .int .i64 0, .int .i64 0, .int .i64 0], .int .i64 most]) (.tup [.agg [.int .i64 0, .int .i64 0, .int .i64 0, .int .i64 0, .int .i64 0, .int .i64 0, .int .i64 0, .int .i64 0, .int .i64 0, .int .i64 0, .int .i64 0, .int .i64 0, .int .i64 0, .int .i64 0, .int .i64 0, .int .i64 0, .lst .tight 0 [], .lst .tight 0 [], .int .i8 0, .int .i64 0, .int .i64 0, .int .i64 0, .lst .tight 0 []], .int .i64 0, .int .i64 1]) := by
 exact (Ret.of_eval (d := .tup [.agg [.int .i64 0, .int .i64 0, .int .i64 0, .int .i64 0, .int .i64 0, .int .i64 0, .int .i64 0, .int .i64 0, .int .i64 0, .int .i64 0, .int .i64 0, .int .i64 0, .int .i64 0, .int .i64 0, .int .i64 0, .int .i64 0, .lst .tight 0 [], .lst .tight 0 [], .int .i8 0, .int .i64 0, .int .i64 0, .int .i64 0, .lst .tight 0 []], .int .i64 0, .int .i64 1]) mixed Tryz.func8 (by kernel_rfl) [tT] (by kernel_rfl)).to (by simp [wk, wkL, wkO])
theorem run_h0_ok (xs : List D) (block : Int)  : Ret Tryz.prog 8 ([.eptr false (.agg []) 0, .lst .no 1 xs, .agg [.int .i64 0, .lst .tight 0 []], .int .i64 block, .bool false, .agg [.int .i64 0, .int .i64 0, .int .i64 0, .int .i64 0, .int .i64 0, .int .i64 0, .int .i64 0, .int .i64 0, .int .i64 0, .int .i64 0, .int .i64 0], .int .i64 1]) (.tup [.agg [.int .i64 0, .int .i64 0, .int .i64 0, .int .i64 0, .int .i64 0, .int .i64 0, .int .i64 0, .int .i64 0, .int .i64 0, .int .i64 0, .int .i64 0, .int .i64 0, .int .i64 0, .int .i64 0, .int .i64 0, .int .i64 0, .lst .tight 0 [], .lst .tight 0 [], .int .i8 0, .int .i64 0, .int .i64 0, .int .i64 0, .lst .tight 0 []], .int .i64 0, .int .i64 2]) := by
 exact (Ret.of_eval (d := .tup [.agg [.int .i64 0, .int .i64 0, .int .i64 0, .int .i64 0, .int .i64 0, .int .i64 0, .int .i64 0, .int .i64 0, .int .i64 0, .int .i64 0, .int .i64 0, .int .i64 0, .int .i64 0, .int .i64 0, .int .i64 0, .int .i64 0, .lst .tight 0 [], .lst .tight 0 [], .int .i8 0, .int .i64 0, .int .i64 0, .int .i64 0, .lst .tight 0 []], .int .i64 0, .int .i64 2]) mixed Tryz.func8 (by kernel_rfl) ([tF, .inl, tT, tT, tT, tF, tT, tT, tT, tT, tF, tT, tT, tT, tT, tF] ++ [tF, tF, tF, tF, tT, tT, tT, tT]) (by kernel_rfl)).to (by simp [wk, wkL, wkO])
theorem run_big_ok (xs : List D) (h : 16384 < xs.length)  : Ret Tryz.prog 8 ([.eptr false (.agg []) 0, .lst .tight 1 xs, .agg [.int .i64 0, .lst .no 23 [.agg [.int .i64 0, .int .i8 0, .int .i8 0, .int .i8 0, .int .i8 0, .int .i8 0, .int .i8 0, .int .i8 0, .int .i8 0, .int .i8 0, .int .i8 0, .int .i8 0, .int .i8 0, .int .i8 0, .int .i8 0, .int .i8 0, .int .i8 0, .int .i8 0, .int .i8 0, .int .i8 0, .int .i8 0, .int .i8 0, .int .i8 0]]], .int .i64 0, .bool false, .agg [.int .i64 0, .int .i64 0, .int .i64 0, .int .i64 0, .int .i64 0, .int .i64 0, .int .i64 0, .int .i64 0, .int .i64 0, .int .i64 0, .int .i64 0], .int .i64 1]) (.tup [.agg [.int .i64 0, .int .i64 0, .int .i64 0, .int .i64 0, .int .i64 0, .int .i64 0, .int .i64 0, .int .i64 0, .int .i64 0, .int .i64 0, .int .i64 0, .int .i64 0, .int .i64 0, .int .i64 0, .int .i64 0, .int .i64 0, .lst .tight 0 [], .lst .tight 0 [], .int .i8 0, .int .i64 0, .int .i64 0, .int .i64 0, .lst .tight 0 []], .int .i64 0, .int .i64 2]) := by
 have c0 := @check29_ok
 exact (Ret.of_eval (d := .tup [.agg [.int .i64 0, .int .i64 0, .int .i64 0, .int .i64 0, .int .i64 0, .int .i64 0, .int .i64 0, .int .i64 0, .int .i64 0, .int .i64 0, .int .i64 0, .int .i64 0, .int .i64 0, .int .i64 0, .int .i64 0, .int .i64 0, .lst .tight 0 [], .lst .tight 0 [], .int .i8 0, .int .i64 0, .int .i64 0, .int .i64 0, .lst .tight 0 []], .int .i64 0, .int .i64 2]) mixed Tryz.func8 (by kernel_rfl) [tF, .ret _ _ _ c0, tF, tF, tF, tC (ltL 16384 (by ((try simp only [List.length_append, List.length_cons, List.length_nil, List.length_replicate, w_i64, decide_eq_true_eq, decide_eq_false_iff_not, beq_iff_eq, bne_iff_ne] at *); omega) : (decide ((↑(List.length xs) : Int) < (16385 : Int))) = false)), tC (ltL 16384 (by ((try simp only [List.length_append, List.length_cons, List.length_nil, List.length_replicate, w_i64, decide_eq_true_eq, decide_eq_false_iff_not, beq_iff_eq, bne_iff_ne] at *); omega) : (decide ((↑(List.length xs) : Int) < (16385 : Int))) = false))] (by kernel_rfl)).to (by simp [wk, wkL, wkO])
theorem run_66_ok (xs : List D) (h : xs.length ≤ 3000)  : Ret Tryz.prog 8 ([.eptr false (.agg []) 0, .lst .no 1 xs, .agg [.int .i64 0, .lst .no 23 [.agg [.int .i64 0, .int .i8 0, .int .i8 0, .int .i8 0, .int .i8 0, .int .i8 0, .int .i8 0, .int .i8 0, .int .i8 0, .int .i8 0, .int .i8 0, .int .i8 0, .int .i8 0, .int .i8 0, .int .i8 0, .int .i8 0, .int .i8 0, .int .i8 0, .int .i8 0, .int .i8 0, .int .i8 0, .int .i8 0, .int .i8 0]]], .int .i64 0, .bool false, .agg [.int .i64 0, .int .i64 0, .int .i64 0, .int .i64 0, .int .i64 0, .int .i64 0, .int .i64 0, .int .i64 0, .int .i64 0, .int .i64 0, .int .i64 0], .int .i64 66]) (.tup [.agg [.int .i64 0, .int .i64 0, .int .i64 0, .int .i64 0, .int .i64 0, .int .i64 0, .int .i64 0, .int .i64 0, .int .i64 0, .int .i64 0, .int .i64 0, .int .i64 0, .int .i64 0, .int .i64 0, .int .i64 0, .int .i64 0, .lst .tight 0 [], .lst .tight 0 [], .int .i8 0, .int .i64 0, .int .i64 0, .int .i64 0, .lst .tight 0 []], .int .i64 0, .int .i64 2]) := by
 have c0 := @check29_ok
 exact (Ret.of_eval (d := .tup [.agg [.int .i64 0, .int .i64 0, .int .i64 0, .int .i64 0, .int .i64 0, .int .i64 0, .int .i64 0, .int .i64 0, .int .i64 0, .int .i64 0, .int .i64 0, .int .i64 0, .int .i64 0, .int .i64 0, .int .i64 0, .int .i64 0, .lst .tight 0 [], .lst .tight 0 [], .int .i8 0, .int .i64 0, .int .i64 0, .int .i64 0, .lst .tight 0 []], .int .i64 0, .int .i64 2]) mixed Tryz.func8 (by kernel_rfl) [tF, .ret _ _ _ c0, tF, tF, tF, tC (ltL 16384 (by ((try simp only [List.length_append, List.length_cons, List.length_nil, List.length_replicate, w_i64, decide_eq_true_eq, decide_eq_false_iff_not, beq_iff_eq, bne_iff_ne] at *); omega) : (decide ((↑(List.length xs) : Int) < (16385 : Int))) = true)), tF, tT] (by kernel_rfl)).to (by simp [wk, wkL, wkO])
open Go Go.RowKit Go.Ev
set_option maxHeartbeats 4000000 in
theorem clone0_walk (w : World) : Calls Tryz.prog 28 #[.slice none 0 0] w fun e w' => e = .returned (.slice none 0 0) ∧ w' = w := by
 have hnil : ∀ w, (binOp .eql 33 (.slice none 0 0) (.slice none 0 0)).run Tryz.prog w = .ok (.bool true) w := fun w => Lib.run_eql_slice_nil w _ 3 none 0 0 0 0 rfl
 go_enter Tryz.func28, Tryz.ntmps28
 go_wp2
 go_returns
 exact ⟨rfl, rfl⟩
set_option maxHeartbeats 4000000 in
theorem clone1_walk (b o : Nat) (c : Option _) (w : World) : Calls Tryz.prog 28 #[.slice (some ⟨b, o, c⟩) 0 0] w fun e w' => ∃ a, e = .returned (.slice a 0 0) ∧ w' = w.alloc (.cells #[] 3) := by
 have hnil : ∀ w, (binOp .eql 33 (.slice (some ⟨b, o, c⟩) 0 0) (.slice none 0 0)).run Tryz.prog w = .ok (.bool false) w := fun w => Lib.run_eql_slice_nil w _ 3 (some ⟨b, o, c⟩) 0 0 0 0 rfl
 go_enter Tryz.func28, Tryz.ntmps28
 go_wp2
 go_returns
 exact ⟨_, rfl, rfl⟩
theorem clone_nil_ok : Ret Tryz.prog 28 [.lst .tight 0 []] (.lst .no 1 []) := by
 refine ⟨⟨_, _, Tryz.func28, rfl, by kernel_rfl⟩, fun w C vs hC ha => ?_⟩
 obtain ⟨hl, hr⟩ := ha
 obtain ⟨a, rfl⟩ : ∃ a, vs = #[a] := by
  rcases vs with ⟨l⟩
  match l, hl with
  | [a], _ => exact ⟨a, rfl⟩
 have ra := hr 0 _ a rfl rfl
 have nilRep : ∀ (M : MM) (a : Option Addr), Rep M (.lst .no 1 []) (.slice a 0 0) := fun M a => .lst 0 0 (fun _ _ => .nilFunc) rfl (Nat.le_refl _) (fun h => absurd rfl h) (fun i x h => by simp at h) (fun i x cs j c h => by simp at h) (fun i x cs j c h => by simp at h) (fun i x cs c h => by simp at h) trivial
 have fr : ∀ {w : World} {C : Nat → Nat → Option Value} {n : Nat} {v : Value}, FreshD n w C (.lst .no 1 []) v := fun {w C n v} => ⟨fun sz sz' xs h => (by cases h), fun ds vs h => (by cases h)⟩
 cases ra with
 | lst b off vs' hl' hcap' ha' hsz' hc' hr' hst' ho' =>
  rename_i ad len cap
  have h0 : len = 0 := by simpa using hl'.symm
  have h1 : cap = len := ho'
  subst h0
  subst h1
  cases ad with
  | none =>
   refine Calls.mono (clone0_walk w) ?_
   rintro e w' ⟨rfl, rfl⟩
   exact ⟨_, C, rfl, ⟨.refl _ _, fun _ _ _ h => h, fun b o v h _ => h, hC⟩, nilRep _ _, fr⟩
  | some ad =>
   obtain ⟨b1, o1, c1⟩ := ad
   refine Calls.mono (clone1_walk b1 o1 c1 w) ?_
   rintro e w' ⟨a, rfl, rfl⟩
   exact ⟨_, _, rfl, ext_alloc hC _ _, nilRep _ _, fr⟩
theorem nil29_ok (xs hl : List D) (sp block most : Int)  : Ret Tryz.prog 4 ([.lst .no 1 xs, .agg [.int .i64 sp, .lst .no 23 hl], .int .i64 block, .int .i64 most]) (.bool true) := by
 rcases Bool.eq_false_or_eq_true (decide ((↑(List.length xs) : Int) < (3001 : Int))) with h0 | h0
 ·skip
  rcases Bool.eq_false_or_eq_true (decide ((↑(List.length hl) : Int) < (101 : Int))) with h1 | h1
  ·skip
   have c2 := @run_nil_ok (xs) (hl) (sp) (block) (most)
   have c3 := @tnewr_ok
   have c4 := @run_h0_ok (xs) (block)
   have c5 := @tnewr_ok
   have c6 := @first29_ok
   have c7 := @run_big_ok (List.replicate (16385 : Nat) (valD (Value.int IntKind.u8 (0 : Int)))) (by first | rfl | decide)
   have c8 := @tnewr_ok
   have c9 := @first29_ok
   have c10 := @run_66_ok (xs) (by ((try simp only [List.length_append, List.length_cons, List.length_nil, List.length_replicate, w_i64, decide_eq_true_eq, decide_eq_false_iff_not, beq_iff_eq, bne_iff_ne] at *); omega))
   have c11 := @clone_nil_ok
   have c12 := @wakes29_ok
   exact (Ret.of_eval (d := .bool true) mixed Tryz.func4 (by kernel_rfl) ([tC (eF (ltL 3000 h0)), tC (eF (ltL 3000 h0)), .inl, tC (ltL 3000 h0), tC (ltL 100 h1), .ret _ _ _ c2, .ret _ _ _ c3, .ret _ _ _ c4, .ret _ _ _ c5, .go 5, tT, .ret _ _ _ c6, .ret _ _ _ c7, .ret _ _ _ c8, .ret _ _ _ c9, .ret _ _ _ c10] ++ [tT, tT, tT, tT, tT, tT, tT, tT, tT, tT, tT, tT, tT, tT, .inl, tT] ++ [tT, tF, tT, tT, tF, tT, tT, tT, tT, tT, .inl, tT, tT, tT, tT, tT] ++ [tF, tT, tT, tT, tT, tT, .inl, .ret _ _ _ c11, tT, tT, tT, tT, .ret _ _ _ c12, tT]) (by kernel_rfl)).to (by simp [wk])
  ·skip
   have c13 := @wakes29_ok
   exact (Ret.of_eval (d := .bool true) mixed Tryz.func4 (by kernel_rfl) [tC (eF (ltL 3000 h0)), tC (eF (ltL 3000 h0)), .inl, tC (ltL 3000 h0), tC (ltL 100 h1), .ret _ _ _ c13] (by kernel_rfl)).to (by simp [wk])
 ·skip
  have c14 := @wakes29_ok
  exact (Ret.of_eval (d := .bool true) mixed Tryz.func4 (by kernel_rfl) [tC (eF (ltL 3000 h0)), tC (eF (ltL 3000 h0)), tC (ltL 3000 h0), tT, .ret _ _ _ c14] (by kernel_rfl)).to (by simp [wk])
end Go.Proofs.YtglcgdnaanhddaaGreat
